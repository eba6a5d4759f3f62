/- Contracts: a fraction that two numbers make; the saw tooth; the law. -/
import Derived.Test.YtkhlgphmimddhaaC30
namespace Go.Proofs.Ytkhlgphmimddhaa
open Go.RowKit
def fracRes (p q : Int) : (Int × Int) × Int := if (entB (fx p q) && entB (fy p q)) = true then ((fx p q, fy p q), 0) else ((0, 0), 3)
set_option maxRecDepth 100000 in
set_option maxHeartbeats 1000000 in
theorem fraction_any (p q : Int) (w : World) (q0 : 0 < q) (q1 : q ≤ 4000000000000000000) (p0 : -4000000000000000000 ≤ p) (p1 : p ≤ 4000000000000000000) :
    Calls Try.prog 73 #[(.int .i64 p), (.int .i64 q)] w fun e w' => e = .returned (.tuple #[(.agg #[.int .i64 ((fracRes p q).1.1), .int .i64 ((fracRes p q).1.2)]), (.int .i64 ((fracRes p q).2))]) ∧ Below w.heap.size w w' := by
  obtain ⟨g0, x0, x1, y0, y1⟩ := fracBd q0 p0 p1 q1
  have HD := Lib.hid (fun W => divisor_any p q W (by omega) (by omega) (by omega) (by omega))
  unfold fracRes
  unfold fx fy at *
  generalize (Int.gcd p q : Int) = G at *
  have gn : G ≠ 0 := by omega
  have wr1 : IntKind.i64.wrap (p.tdiv G) = p.tdiv G := IntWalk.i64_in _ (by omega)
  have wr2 : IntKind.i64.wrap (q.tdiv G) = q.tdiv G := IntWalk.i64_in _ (by omega)
  cases he : (entB (p.tdiv G) && entB (q.tdiv G))
  · have HE := Lib.hid he
    simp only [Bool.false_eq_true, if_false]
    clear he
    go_enter Try.func73, Try.ntmps73
    go_wp2_with fail
    refine (HD.out _).mono ?_; rintro e w1 ⟨rfl, hb1⟩
    obtain ⟨hc1, hf1⟩ := bcell hb1
    have hz0 : w.heap.size < w1.heap.size := by have := hb1.size; (try simp at this); omega
    go_wp2_with fail
    have hB1 : Below w.heap.size w w1 := bfin (by go_grown) hb1
    refine wp_region_ord [(0, false), (1, false), (2, false), (3, false), (4, false), (5, false), (6, false), (7, true), (8, true)] (by kernel_rfl) (by kernel_rfl) ?_
    refine ord_q (o := ?o_1) (v := ?v_1) ?ho_1 ?hw_1 ?hq_1 ?_
    case ho_1 => simp only [List.getElem?_toArray, List.getElem?_cons_zero]; rfl
    case hw_1 => rfl
    case hq_1 =>
      intro W1 hW1
      obtain ⟨hcw, hfw⟩ := bcell hW1
      go_simp
      first | rfl
    simp only [Act.put, List.setIfInBounds_toArray, List.set_cons_zero, List.set_cons_succ]
    refine ord_q (o := ?o_2) (v := ?v_2) ?ho_2 ?hw_2 ?hq_2 ?_
    case ho_2 => simp only [List.getElem?_toArray, List.getElem?_cons_succ, List.getElem?_cons_zero]; rfl
    case hw_2 => rfl
    case hq_2 =>
      intro W1 hW1
      obtain ⟨hcw, hfw⟩ := bcell hW1
      go_simp
      first | rfl
    simp only [Act.put, List.setIfInBounds_toArray, List.set_cons_zero, List.set_cons_succ]
    refine ord_q (o := ?o_3) (v := ?v_3) ?ho_3 ?hw_3 ?hq_3 ?_
    case ho_3 => simp only [List.getElem?_toArray, List.getElem?_cons_succ, List.getElem?_cons_zero]; rfl
    case hw_3 => rfl
    case hq_3 =>
      intro W1 hW1
      obtain ⟨hcw, hfw⟩ := bcell hW1
      go_simp
      first | rfl
    simp only [Act.put, List.setIfInBounds_toArray, List.set_cons_zero, List.set_cons_succ]
    refine ord_q (o := ?o_4) (v := ?v_4) ?ho_4 ?hw_4 ?hq_4 ?_
    case ho_4 => simp only [List.getElem?_toArray, List.getElem?_cons_succ, List.getElem?_cons_zero]; rfl
    case hw_4 => rfl
    case hq_4 =>
      intro W1 hW1
      obtain ⟨hcw, hfw⟩ := bcell hW1
      go_simp
      first | rfl
    simp only [Act.put, List.setIfInBounds_toArray, List.set_cons_zero, List.set_cons_succ]
    refine ord_q (o := ?o_5) (v := ?v_5) ?ho_5 ?hw_5 ?hq_5 ?_
    case ho_5 => simp only [List.getElem?_toArray, List.getElem?_cons_succ, List.getElem?_cons_zero]; rfl
    case hw_5 => rfl
    case hq_5 =>
      intro W1 hW1
      obtain ⟨hcw, hfw⟩ := bcell hW1
      go_simp
      first | rfl
    simp only [Act.put, List.setIfInBounds_toArray, List.set_cons_zero, List.set_cons_succ]
    refine ord_q (o := ?o_6) (v := ?v_6) ?ho_6 ?hw_6 ?hq_6 ?_
    case ho_6 => simp only [List.getElem?_toArray, List.getElem?_cons_succ, List.getElem?_cons_zero]; rfl
    case hw_6 => rfl
    case hq_6 =>
      intro W1 hW1
      obtain ⟨hcw, hfw⟩ := bcell hW1
      go_simp
      first | rfl
    simp only [Act.put, List.setIfInBounds_toArray, List.set_cons_zero, List.set_cons_succ]
    refine ord_q (o := ?o_7) (v := ?v_7) ?ho_7 ?hw_7 ?hq_7 ?_
    case ho_7 => simp only [List.getElem?_toArray, List.getElem?_cons_succ, List.getElem?_cons_zero]; rfl
    case hw_7 => rfl
    case hq_7 =>
      intro W1 hW1
      obtain ⟨hcw, hfw⟩ := bcell hW1
      go_simp
      first | rfl
    simp only [Act.put, List.setIfInBounds_toArray, List.set_cons_zero, List.set_cons_succ]
    refine ord_alloc (o := ?o_8) (z := #[.int .i64 0, .int .i64 0]) (t := 23) (Nat.le_refl _) ?ho_8 ?hw_8 ?hr_8 (fun b2_0 hb2_0 hdb2_0 => ?_)
    case ho_8 => simp only [List.getElem?_toArray, List.getElem?_cons_succ, List.getElem?_cons_zero]; rfl
    case hw_8 => rfl
    case hr_8 => intro W1; go_simp
    simp only [Act.put, List.setIfInBounds_toArray, List.set_cons_zero, List.set_cons_succ]
    refine ord_store2 (o := ?o_9) (b := b2_0) (u0 := .int .i64 0) (u1 := .int .i64 0) (t := 23) (.int .i64 (p.tdiv G)) (.int .i64 (q.tdiv G)) ?ho_9 ?hw_9 hb2_0 (by simp) ?hr_9 ?_
    case ho_9 => simp only [List.getElem?_toArray, List.getElem?_cons_succ, List.getElem?_cons_zero]; rfl
    case hw_9 => rfl
    case hr_9 =>
      intro W1 hcs hfs
      obtain ⟨hs0, hs1⟩ := hcs
      have hg0 := hfs 0
      have hg1 := hfs 1
      go_simp
    simp only [Act.put]
    intro w2 hw2
    have hb2 := hw2.below
    obtain ⟨hBb2_0, hhb2_0⟩ := hw2.blk (b2_0, #[.int .i64 (p.tdiv G), .int .i64 (q.tdiv G)], 23) (by simp [putBlk])
    have hzb2_0 := lt_of_blk hhb2_0
    have qb2_0_0 : w2.cell? ⟨b2_0, 0, none⟩ = some (.int .i64 (p.tdiv G)) := cell_of_blk hhb2_0 0
    have rb2_0_0 : w2.frozen? ⟨b2_0, 0, none⟩ = false := frozen_of_blk hhb2_0 0
    have qb2_0_1 : w2.cell? ⟨b2_0, 1, none⟩ = some (.int .i64 (q.tdiv G)) := cell_of_blk hhb2_0 1
    have rb2_0_1 : w2.frozen? ⟨b2_0, 1, none⟩ = false := frozen_of_blk hhb2_0 1
    clear hhb2_0
    clear hw2
    obtain ⟨hc2, hf2⟩ := bcell hb2
    go_wp2_with (go_at_call 88; refine (areEntries_any _ _ _ 2 (fun i => if i = 0 then p.tdiv G else q.tdiv G) _ (by omega) (by intro i hi; rcases (show i = 0 ∨ i = 1 by omega) with rfl | rfl <;> simp [qb2_0_0, qb2_0_1])).mono ?_; rw [allB2, HE.out]; rintro e w' ⟨rfl, rfl⟩)
    have hB2 : Below w.heap.size w w2 := bfin (by go_grown) hb2
    go_wp2_with fail
    have hall := And.intro hc1 (And.intro hc2 (And.intro hz0 (hzb2_0)))
    refine bodyPost_ret (v := .tuple #[(.agg #[.int .i64 0, .int .i64 0]), (.int .i64 3)]) (by first | (simp [results, Try.results73, go_sem]; done) | (simp [results, Try.results73, go_sem, hall] <;> rfl)) rfl ⟨rfl, by go_grown⟩
  · have HE := Lib.hid he
    simp only [if_true]
    clear he
    go_enter Try.func73, Try.ntmps73
    go_wp2_with fail
    refine (HD.out _).mono ?_; rintro e w1 ⟨rfl, hb1⟩
    obtain ⟨hc1, hf1⟩ := bcell hb1
    have hz0 : w.heap.size < w1.heap.size := by have := hb1.size; (try simp at this); omega
    go_wp2_with fail
    have hB1 : Below w.heap.size w w1 := bfin (by go_grown) hb1
    refine wp_region_ord [(0, false), (1, false), (2, false), (3, false), (4, false), (5, false), (6, false), (7, true), (8, true)] (by kernel_rfl) (by kernel_rfl) ?_
    refine ord_q (o := ?o_10) (v := ?v_10) ?ho_10 ?hw_10 ?hq_10 ?_
    case ho_10 => simp only [List.getElem?_toArray, List.getElem?_cons_zero]; rfl
    case hw_10 => rfl
    case hq_10 =>
      intro W1 hW1
      obtain ⟨hcw, hfw⟩ := bcell hW1
      go_simp
      first | rfl
    simp only [Act.put, List.setIfInBounds_toArray, List.set_cons_zero, List.set_cons_succ]
    refine ord_q (o := ?o_11) (v := ?v_11) ?ho_11 ?hw_11 ?hq_11 ?_
    case ho_11 => simp only [List.getElem?_toArray, List.getElem?_cons_succ, List.getElem?_cons_zero]; rfl
    case hw_11 => rfl
    case hq_11 =>
      intro W1 hW1
      obtain ⟨hcw, hfw⟩ := bcell hW1
      go_simp
      first | rfl
    simp only [Act.put, List.setIfInBounds_toArray, List.set_cons_zero, List.set_cons_succ]
    refine ord_q (o := ?o_12) (v := ?v_12) ?ho_12 ?hw_12 ?hq_12 ?_
    case ho_12 => simp only [List.getElem?_toArray, List.getElem?_cons_succ, List.getElem?_cons_zero]; rfl
    case hw_12 => rfl
    case hq_12 =>
      intro W1 hW1
      obtain ⟨hcw, hfw⟩ := bcell hW1
      go_simp
      first | rfl
    simp only [Act.put, List.setIfInBounds_toArray, List.set_cons_zero, List.set_cons_succ]
    refine ord_q (o := ?o_13) (v := ?v_13) ?ho_13 ?hw_13 ?hq_13 ?_
    case ho_13 => simp only [List.getElem?_toArray, List.getElem?_cons_succ, List.getElem?_cons_zero]; rfl
    case hw_13 => rfl
    case hq_13 =>
      intro W1 hW1
      obtain ⟨hcw, hfw⟩ := bcell hW1
      go_simp
      first | rfl
    simp only [Act.put, List.setIfInBounds_toArray, List.set_cons_zero, List.set_cons_succ]
    refine ord_q (o := ?o_14) (v := ?v_14) ?ho_14 ?hw_14 ?hq_14 ?_
    case ho_14 => simp only [List.getElem?_toArray, List.getElem?_cons_succ, List.getElem?_cons_zero]; rfl
    case hw_14 => rfl
    case hq_14 =>
      intro W1 hW1
      obtain ⟨hcw, hfw⟩ := bcell hW1
      go_simp
      first | rfl
    simp only [Act.put, List.setIfInBounds_toArray, List.set_cons_zero, List.set_cons_succ]
    refine ord_q (o := ?o_15) (v := ?v_15) ?ho_15 ?hw_15 ?hq_15 ?_
    case ho_15 => simp only [List.getElem?_toArray, List.getElem?_cons_succ, List.getElem?_cons_zero]; rfl
    case hw_15 => rfl
    case hq_15 =>
      intro W1 hW1
      obtain ⟨hcw, hfw⟩ := bcell hW1
      go_simp
      first | rfl
    simp only [Act.put, List.setIfInBounds_toArray, List.set_cons_zero, List.set_cons_succ]
    refine ord_q (o := ?o_16) (v := ?v_16) ?ho_16 ?hw_16 ?hq_16 ?_
    case ho_16 => simp only [List.getElem?_toArray, List.getElem?_cons_succ, List.getElem?_cons_zero]; rfl
    case hw_16 => rfl
    case hq_16 =>
      intro W1 hW1
      obtain ⟨hcw, hfw⟩ := bcell hW1
      go_simp
      first | rfl
    simp only [Act.put, List.setIfInBounds_toArray, List.set_cons_zero, List.set_cons_succ]
    refine ord_alloc (o := ?o_17) (z := #[.int .i64 0, .int .i64 0]) (t := 23) (Nat.le_refl _) ?ho_17 ?hw_17 ?hr_17 (fun b2_0 hb2_0 hdb2_0 => ?_)
    case ho_17 => simp only [List.getElem?_toArray, List.getElem?_cons_succ, List.getElem?_cons_zero]; rfl
    case hw_17 => rfl
    case hr_17 => intro W1; go_simp
    simp only [Act.put, List.setIfInBounds_toArray, List.set_cons_zero, List.set_cons_succ]
    refine ord_store2 (o := ?o_18) (b := b2_0) (u0 := .int .i64 0) (u1 := .int .i64 0) (t := 23) (.int .i64 (p.tdiv G)) (.int .i64 (q.tdiv G)) ?ho_18 ?hw_18 hb2_0 (by simp) ?hr_18 ?_
    case ho_18 => simp only [List.getElem?_toArray, List.getElem?_cons_succ, List.getElem?_cons_zero]; rfl
    case hw_18 => rfl
    case hr_18 =>
      intro W1 hcs hfs
      obtain ⟨hs0, hs1⟩ := hcs
      have hg0 := hfs 0
      have hg1 := hfs 1
      go_simp
    simp only [Act.put]
    intro w2 hw2
    have hb2 := hw2.below
    obtain ⟨hBb2_0, hhb2_0⟩ := hw2.blk (b2_0, #[.int .i64 (p.tdiv G), .int .i64 (q.tdiv G)], 23) (by simp [putBlk])
    have hzb2_0 := lt_of_blk hhb2_0
    have qb2_0_0 : w2.cell? ⟨b2_0, 0, none⟩ = some (.int .i64 (p.tdiv G)) := cell_of_blk hhb2_0 0
    have rb2_0_0 : w2.frozen? ⟨b2_0, 0, none⟩ = false := frozen_of_blk hhb2_0 0
    have qb2_0_1 : w2.cell? ⟨b2_0, 1, none⟩ = some (.int .i64 (q.tdiv G)) := cell_of_blk hhb2_0 1
    have rb2_0_1 : w2.frozen? ⟨b2_0, 1, none⟩ = false := frozen_of_blk hhb2_0 1
    clear hhb2_0
    clear hw2
    obtain ⟨hc2, hf2⟩ := bcell hb2
    go_wp2_with (go_at_call 88; refine (areEntries_any _ _ _ 2 (fun i => if i = 0 then p.tdiv G else q.tdiv G) _ (by omega) (by intro i hi; rcases (show i = 0 ∨ i = 1 by omega) with rfl | rfl <;> simp [qb2_0_0, qb2_0_1])).mono ?_; rw [allB2, HE.out]; rintro e w' ⟨rfl, rfl⟩)
    have hB2 : Below w.heap.size w w2 := bfin (by go_grown) hb2
    go_wp2_with fail
    have hall := And.intro hc1 (And.intro hc2 (And.intro hz0 (hzb2_0)))
    refine bodyPost_ret (v := .tuple #[(.agg #[.int .i64 (p.tdiv G), .int .i64 (q.tdiv G)]), (.int .i64 0)]) (by first | (simp [results, Try.results73, go_sem]; done) | (simp [results, Try.results73, go_sem, hall] <;> rfl)) rfl ⟨rfl, by go_grown⟩
def sawRes (a b : Int) : (Int × Int) × Int := if isFrac a b = true then (if b = 0 then ((0, 0), 5) else if b = 1 then ((0, 1), 0) else fracRes (2 * (a % b) - b) (2 * b)) else ((0, 0), 1)
set_option maxRecDepth 100000 in
set_option maxHeartbeats 1000000 in
theorem SawTooth_any (a b : Int) (w : World) :
    Calls Try.prog 23 #[(.agg #[.int .i64 a, .int .i64 b])] w fun e w' => e = .returned (.tuple #[(.agg #[.int .i64 ((sawRes a b).1.1), .int .i64 ((sawRes a b).1.2)]), (.int .i64 ((sawRes a b).2))]) ∧ Below w.heap.size w w' := by
  have HF := Lib.hid (fun W => IsFraction_any a b W)
  cases hf : isFrac a b
  · rw [show sawRes a b = ((0, 0), 1) by simp [sawRes, hf]]
    rw [hf] at HF
    clear hf
    go_enter Try.func23, Try.ntmps23
    go_wp2_with fail
    refine (HF.out _).mono ?_; rintro e w1 ⟨rfl, hb1⟩
    obtain ⟨hc1, hf1⟩ := bcell hb1
    obtain ⟨hz0, hz1⟩ : w.heap.size < w1.heap.size ∧ w.heap.size + 1 < w1.heap.size := by have := hb1.size; (try simp at this); omega
    have hB1 : Below w.heap.size w w1 := bfin (by go_grown) hb1
    go_wp2_with fail
    have hall := And.intro hc1 (And.intro hz0 (hz1))
    refine bodyPost_ret (v := .tuple #[(.agg #[.int .i64 0, .int .i64 0]), (.int .i64 1)]) (by first | (simp [results, Try.results23, go_sem]; done) | (simp [results, Try.results23, go_sem, hall] <;> rfl)) rfl ⟨rfl, by go_grown⟩
  obtain ⟨⟨a0, a1⟩, ⟨b0, b1⟩, -, -⟩ := isFrac_iff.1 hf
  rw [hf] at HF
  by_cases hz : b = 0
  · rw [show sawRes a b = ((0, 0), 5) by unfold sawRes; rw [if_pos hf, if_pos hz]]
    subst hz
    clear hf
    go_enter Try.func23, Try.ntmps23
    go_wp2_with fail
    refine (HF.out _).mono ?_; rintro e w1 ⟨rfl, hb1⟩
    obtain ⟨hc1, hf1⟩ := bcell hb1
    obtain ⟨hz0, hz1⟩ : w.heap.size < w1.heap.size ∧ w.heap.size + 1 < w1.heap.size := by have := hb1.size; (try simp at this); omega
    have hB1 : Below w.heap.size w w1 := bfin (by go_grown) hb1
    go_wp2_with fail
    have hall := And.intro hc1 (And.intro hz0 (hz1))
    refine bodyPost_ret (v := .tuple #[(.agg #[.int .i64 0, .int .i64 0]), (.int .i64 5)]) (by first | (simp [results, Try.results23, go_sem]; done) | (simp [results, Try.results23, go_sem, hall] <;> rfl)) rfl ⟨rfl, by go_grown⟩
  by_cases ho : b = 1
  · rw [show sawRes a b = ((0, 1), 0) by unfold sawRes; rw [if_pos hf, if_neg hz, if_pos ho]]
    subst ho
    clear hf
    go_enter Try.func23, Try.ntmps23
    go_wp2_with fail
    refine (HF.out _).mono ?_; rintro e w1 ⟨rfl, hb1⟩
    obtain ⟨hc1, hf1⟩ := bcell hb1
    obtain ⟨hz0, hz1⟩ : w.heap.size < w1.heap.size ∧ w.heap.size + 1 < w1.heap.size := by have := hb1.size; (try simp at this); omega
    have hB1 : Below w.heap.size w w1 := bfin (by go_grown) hb1
    go_wp2_with fail
    have hall := And.intro hc1 (And.intro hz0 (hz1))
    refine bodyPost_ret (v := .tuple #[(.agg #[.int .i64 0, .int .i64 1]), (.int .i64 0)]) (by first | (simp [results, Try.results23, go_sem]; done) | (simp [results, Try.results23, go_sem, hall] <;> rfl)) rfl ⟨rfl, by go_grown⟩
  · rw [show sawRes a b = fracRes (2 * (a % b) - b) (2 * b) by simp [sawRes, hf, ho, hz]]
    clear hf
    have hb : 0 < b := by omega
    have h1 := Int.emod_nonneg a hz
    have h2 := Int.emod_lt_of_pos a hb
    have HR := Lib.hid (fun W => rest_any a b W hb (by omega))
    have HQ := Lib.hid (fun W => fraction_any (2 * (a % b) - b) (2 * b) W (by omega) (by omega) (by omega) (by omega))
    generalize fracRes (2 * (a % b) - b) (2 * b) = R at *
    generalize a % b = r at *
    obtain ⟨⟨x, y⟩, c⟩ := R
    go_enter Try.func23, Try.ntmps23
    go_wp2_with fail
    refine (HF.out _).mono ?_; rintro e w1 ⟨rfl, hb1⟩
    obtain ⟨hc1, hf1⟩ := bcell hb1
    obtain ⟨hz0, hz1⟩ : w.heap.size < w1.heap.size ∧ w.heap.size + 1 < w1.heap.size := by have := hb1.size; (try simp at this); omega
    go_wp2_with fail
    refine wp_region_ext_tail 15 (by kernel_rfl) (by kernel_rfl) ?_
    simp only [List.take_succ_cons, List.take_zero, List.drop_succ_cons, List.drop_zero]
    repeat (go_big_quiet_step (first | ((go_at_call 74; refine Calls.ext_same (HR.out _))) | ((go_at_call 73; refine Calls.ext_of (Nat.le_refl _) (HQ.out _)))))
    refine wpQuiet_nil ?_
    intro w2 hb2
    replace hb2 := bstep hb1 hb2
    clear hc1 hf1 hb1
    obtain ⟨hc2, hf2⟩ := bcell hb2
    obtain ⟨hz0, hz1⟩ : w.heap.size < w2.heap.size ∧ w.heap.size + 1 < w2.heap.size := by have := hb2.size; (try simp at this); omega
    have hB2 : Below w.heap.size w w2 := bfin (by go_grown) hb2
    go_wp2_with fail
    have hall := And.intro hc2 (And.intro hz0 (hz1))
    refine bodyPost_ret (v := .tuple #[(.agg #[.int .i64 x, .int .i64 y]), (.int .i64 c)]) (by first | (simp [results, Try.results23, go_sem]; done) | (simp [results, Try.results23, go_sem, hall] <;> rfl)) rfl ⟨rfl, by go_grown⟩
set_option maxRecDepth 100000 in
set_option maxHeartbeats 1000000 in
theorem sSawTooth_any (a b : Int) (w : World) :
    Calls Try.prog 21 #[(.agg #[.int .i64 a, .int .i64 b])] w fun e w' => e = .returned (.tuple #[(.agg #[.int .i64 ((sawRes a b).1.1), .int .i64 ((sawRes a b).1.2)]), (.int .i64 ((sawRes a b).2))]) ∧ Below w.heap.size w w' := by
  have HF := Lib.hid (fun W => l01Fraction_any a b W)
  cases hf : isFrac a b
  · rw [show sawRes a b = ((0, 0), 1) by simp [sawRes, hf]]
    rw [hf] at HF
    clear hf
    go_enter Try.func21, Try.ntmps21
    go_wp2_with fail
    refine (HF.out _).mono ?_; rintro e w1 ⟨rfl, hb1⟩
    obtain ⟨hc1, hf1⟩ := bcell hb1
    obtain ⟨hz0, hz1⟩ : w.heap.size < w1.heap.size ∧ w.heap.size + 1 < w1.heap.size := by have := hb1.size; (try simp at this); omega
    have hB1 : Below w.heap.size w w1 := bfin (by go_grown) hb1
    go_wp2_with fail
    have hall := And.intro hc1 (And.intro hz0 (hz1))
    refine bodyPost_ret (v := .tuple #[(.agg #[.int .i64 0, .int .i64 0]), (.int .i64 1)]) (by first | (simp [results, Try.results21, go_sem]; done) | (simp [results, Try.results21, go_sem, hall] <;> rfl)) rfl ⟨rfl, by go_grown⟩
  obtain ⟨⟨a0, a1⟩, ⟨b0, b1⟩, -, -⟩ := isFrac_iff.1 hf
  rw [hf] at HF
  by_cases hz : b = 0
  · rw [show sawRes a b = ((0, 0), 5) by unfold sawRes; rw [if_pos hf, if_pos hz]]
    subst hz
    clear hf
    go_enter Try.func21, Try.ntmps21
    go_wp2_with fail
    refine (HF.out _).mono ?_; rintro e w1 ⟨rfl, hb1⟩
    obtain ⟨hc1, hf1⟩ := bcell hb1
    obtain ⟨hz0, hz1⟩ : w.heap.size < w1.heap.size ∧ w.heap.size + 1 < w1.heap.size := by have := hb1.size; (try simp at this); omega
    have hB1 : Below w.heap.size w w1 := bfin (by go_grown) hb1
    go_wp2_with fail
    have hall := And.intro hc1 (And.intro hz0 (hz1))
    refine bodyPost_ret (v := .tuple #[(.agg #[.int .i64 0, .int .i64 0]), (.int .i64 5)]) (by first | (simp [results, Try.results21, go_sem]; done) | (simp [results, Try.results21, go_sem, hall] <;> rfl)) rfl ⟨rfl, by go_grown⟩
  by_cases ho : b = 1
  · rw [show sawRes a b = ((0, 1), 0) by unfold sawRes; rw [if_pos hf, if_neg hz, if_pos ho]]
    subst ho
    clear hf
    go_enter Try.func21, Try.ntmps21
    go_wp2_with fail
    refine (HF.out _).mono ?_; rintro e w1 ⟨rfl, hb1⟩
    obtain ⟨hc1, hf1⟩ := bcell hb1
    obtain ⟨hz0, hz1⟩ : w.heap.size < w1.heap.size ∧ w.heap.size + 1 < w1.heap.size := by have := hb1.size; (try simp at this); omega
    have hB1 : Below w.heap.size w w1 := bfin (by go_grown) hb1
    go_wp2_with fail
    have hall := And.intro hc1 (And.intro hz0 (hz1))
    refine bodyPost_ret (v := .tuple #[(.agg #[.int .i64 0, .int .i64 1]), (.int .i64 0)]) (by first | (simp [results, Try.results21, go_sem]; done) | (simp [results, Try.results21, go_sem, hall] <;> rfl)) rfl ⟨rfl, by go_grown⟩
  rw [show sawRes a b = fracRes (2 * (a % b) - b) (2 * b) by simp [sawRes, hf, ho, hz]]
  clear hf
  have hb : 0 < b := by omega
  have h1 := Int.emod_nonneg a hz
  have h2 := Int.emod_lt_of_pos a hb
  have HR : Hid (∀ W, Calls Try.prog 70 #[(.int .i64 a), (.int .i64 b)] W fun e w' => e = .returned (.int .i64 (a % b)) ∧ Below W.heap.size W w') := Lib.hid (fun W => (l01Mod_any a b W hb (by omega)).mono (by rintro e w' ⟨rfl, rfl⟩; exact ⟨rfl, Below.refl _ _⟩))
  have HQ := Lib.hid (fun W => l01Reduced_any (2 * (a % b) - b) (2 * b) W (by omega) (by omega) (by omega) (by omega))
  unfold fracRes
  generalize fx (2 * (a % b) - b) (2 * b) = x at *
  generalize fy (2 * (a % b) - b) (2 * b) = y at *
  generalize a % b = r at *
  have wr1 : IntKind.i64.wrap (2 * r) = 2 * r := IntWalk.i64_in _ (by omega)
  have wr2 : IntKind.i64.wrap (2 * r - b) = 2 * r - b := IntWalk.i64_in _ (by omega)
  have wr3 : IntKind.i64.wrap (2 * b) = 2 * b := IntWalk.i64_in _ (by omega)
  cases hx : entB x
  · simp only [Bool.false_and, Bool.false_eq_true, if_false]
    go_enter Try.func21, Try.ntmps21
    go_wp2_with fail
    refine (HF.out _).mono ?_; rintro e w1 ⟨rfl, hb1⟩
    obtain ⟨hc1, hf1⟩ := bcell hb1
    obtain ⟨hz0, hz1⟩ : w.heap.size < w1.heap.size ∧ w.heap.size + 1 < w1.heap.size := by have := hb1.size; (try simp at this); omega
    go_wp2_with fail
    have hB1 : Below w.heap.size w w1 := bfin (by go_grown) hb1
    refine wp_region_ord [(0, false), (1, false), (2, false), (3, false), (4, false), (5, false), (6, false), (7, false), (8, false), (9, false), (10, false), (11, false), (12, false), (13, true), (14, true)] (by kernel_rfl) (by kernel_rfl) ?_
    refine ord_q (o := ?o_19) (v := ?v_19) ?ho_19 ?hw_19 ?hq_19 ?_
    case ho_19 => simp only [List.getElem?_toArray, List.getElem?_cons_zero]; rfl
    case hw_19 => rfl
    case hq_19 =>
      intro W1 hW1
      obtain ⟨hcw, hfw⟩ := bcell hW1
      go_simp
      first | (go_at_call 70; exact HR.out _) | (go_at_call 60; exact HQ.out _) | rfl
    simp only [Act.put, List.setIfInBounds_toArray, List.set_cons_zero, List.set_cons_succ]
    refine ord_q (o := ?o_20) (v := ?v_20) ?ho_20 ?hw_20 ?hq_20 ?_
    case ho_20 => simp only [List.getElem?_toArray, List.getElem?_cons_succ, List.getElem?_cons_zero]; rfl
    case hw_20 => rfl
    case hq_20 =>
      intro W1 hW1
      obtain ⟨hcw, hfw⟩ := bcell hW1
      go_simp
      first | (go_at_call 70; exact HR.out _) | (go_at_call 60; exact HQ.out _) | rfl
    simp only [Act.put, List.setIfInBounds_toArray, List.set_cons_zero, List.set_cons_succ]
    refine ord_q (o := ?o_21) (v := ?v_21) ?ho_21 ?hw_21 ?hq_21 ?_
    case ho_21 => simp only [List.getElem?_toArray, List.getElem?_cons_succ, List.getElem?_cons_zero]; rfl
    case hw_21 => rfl
    case hq_21 =>
      intro W1 hW1
      obtain ⟨hcw, hfw⟩ := bcell hW1
      go_simp
      first | (go_at_call 70; exact HR.out _) | (go_at_call 60; exact HQ.out _) | rfl
    simp only [Act.put, List.setIfInBounds_toArray, List.set_cons_zero, List.set_cons_succ]
    refine ord_q (o := ?o_22) (v := ?v_22) ?ho_22 ?hw_22 ?hq_22 ?_
    case ho_22 => simp only [List.getElem?_toArray, List.getElem?_cons_succ, List.getElem?_cons_zero]; rfl
    case hw_22 => rfl
    case hq_22 =>
      intro W1 hW1
      obtain ⟨hcw, hfw⟩ := bcell hW1
      go_simp
      first | (go_at_call 70; exact HR.out _) | (go_at_call 60; exact HQ.out _) | rfl
    simp only [Act.put, List.setIfInBounds_toArray, List.set_cons_zero, List.set_cons_succ]
    refine ord_q (o := ?o_23) (v := ?v_23) ?ho_23 ?hw_23 ?hq_23 ?_
    case ho_23 => simp only [List.getElem?_toArray, List.getElem?_cons_succ, List.getElem?_cons_zero]; rfl
    case hw_23 => rfl
    case hq_23 =>
      intro W1 hW1
      obtain ⟨hcw, hfw⟩ := bcell hW1
      go_simp
      first | (go_at_call 70; exact HR.out _) | (go_at_call 60; exact HQ.out _) | rfl
    simp only [Act.put, List.setIfInBounds_toArray, List.set_cons_zero, List.set_cons_succ]
    refine ord_q (o := ?o_24) (v := ?v_24) ?ho_24 ?hw_24 ?hq_24 ?_
    case ho_24 => simp only [List.getElem?_toArray, List.getElem?_cons_succ, List.getElem?_cons_zero]; rfl
    case hw_24 => rfl
    case hq_24 =>
      intro W1 hW1
      obtain ⟨hcw, hfw⟩ := bcell hW1
      go_simp
      first | (go_at_call 70; exact HR.out _) | (go_at_call 60; exact HQ.out _) | rfl
    simp only [Act.put, List.setIfInBounds_toArray, List.set_cons_zero, List.set_cons_succ]
    refine ord_q (o := ?o_25) (v := ?v_25) ?ho_25 ?hw_25 ?hq_25 ?_
    case ho_25 => simp only [List.getElem?_toArray, List.getElem?_cons_succ, List.getElem?_cons_zero]; rfl
    case hw_25 => rfl
    case hq_25 =>
      intro W1 hW1
      obtain ⟨hcw, hfw⟩ := bcell hW1
      go_simp
      first | (go_at_call 70; exact HR.out _) | (go_at_call 60; exact HQ.out _) | rfl
    simp only [Act.put, List.setIfInBounds_toArray, List.set_cons_zero, List.set_cons_succ]
    refine ord_q (o := ?o_26) (v := ?v_26) ?ho_26 ?hw_26 ?hq_26 ?_
    case ho_26 => simp only [List.getElem?_toArray, List.getElem?_cons_succ, List.getElem?_cons_zero]; rfl
    case hw_26 => rfl
    case hq_26 =>
      intro W1 hW1
      obtain ⟨hcw, hfw⟩ := bcell hW1
      go_simp
      first | (go_at_call 70; exact HR.out _) | (go_at_call 60; exact HQ.out _) | rfl
    simp only [Act.put, List.setIfInBounds_toArray, List.set_cons_zero, List.set_cons_succ]
    refine ord_q (o := ?o_27) (v := ?v_27) ?ho_27 ?hw_27 ?hq_27 ?_
    case ho_27 => simp only [List.getElem?_toArray, List.getElem?_cons_succ, List.getElem?_cons_zero]; rfl
    case hw_27 => rfl
    case hq_27 =>
      intro W1 hW1
      obtain ⟨hcw, hfw⟩ := bcell hW1
      go_simp
      first | (go_at_call 70; exact HR.out _) | (go_at_call 60; exact HQ.out _) | rfl
    simp only [Act.put, List.setIfInBounds_toArray, List.set_cons_zero, List.set_cons_succ]
    refine ord_q (o := ?o_28) (v := ?v_28) ?ho_28 ?hw_28 ?hq_28 ?_
    case ho_28 => simp only [List.getElem?_toArray, List.getElem?_cons_succ, List.getElem?_cons_zero]; rfl
    case hw_28 => rfl
    case hq_28 =>
      intro W1 hW1
      obtain ⟨hcw, hfw⟩ := bcell hW1
      go_simp
      first | (go_at_call 70; exact HR.out _) | (go_at_call 60; exact HQ.out _) | rfl
    simp only [Act.put, List.setIfInBounds_toArray, List.set_cons_zero, List.set_cons_succ]
    refine ord_q (o := ?o_29) (v := ?v_29) ?ho_29 ?hw_29 ?hq_29 ?_
    case ho_29 => simp only [List.getElem?_toArray, List.getElem?_cons_succ, List.getElem?_cons_zero]; rfl
    case hw_29 => rfl
    case hq_29 =>
      intro W1 hW1
      obtain ⟨hcw, hfw⟩ := bcell hW1
      go_simp
      first | (go_at_call 70; exact HR.out _) | (go_at_call 60; exact HQ.out _) | rfl
    simp only [Act.put, List.setIfInBounds_toArray, List.set_cons_zero, List.set_cons_succ]
    refine ord_q (o := ?o_30) (v := ?v_30) ?ho_30 ?hw_30 ?hq_30 ?_
    case ho_30 => simp only [List.getElem?_toArray, List.getElem?_cons_succ, List.getElem?_cons_zero]; rfl
    case hw_30 => rfl
    case hq_30 =>
      intro W1 hW1
      obtain ⟨hcw, hfw⟩ := bcell hW1
      go_simp
      first | (go_at_call 70; exact HR.out _) | (go_at_call 60; exact HQ.out _) | rfl
    simp only [Act.put, List.setIfInBounds_toArray, List.set_cons_zero, List.set_cons_succ]
    refine ord_q (o := ?o_31) (v := ?v_31) ?ho_31 ?hw_31 ?hq_31 ?_
    case ho_31 => simp only [List.getElem?_toArray, List.getElem?_cons_succ, List.getElem?_cons_zero]; rfl
    case hw_31 => rfl
    case hq_31 =>
      intro W1 hW1
      obtain ⟨hcw, hfw⟩ := bcell hW1
      go_simp
      first | (go_at_call 70; exact HR.out _) | (go_at_call 60; exact HQ.out _) | rfl
    simp only [Act.put, List.setIfInBounds_toArray, List.set_cons_zero, List.set_cons_succ]
    refine ord_alloc (o := ?o_32) (z := #[.int .i64 0, .int .i64 0]) (t := 23) (Nat.le_refl _) ?ho_32 ?hw_32 ?hr_32 (fun b2_0 hb2_0 hdb2_0 => ?_)
    case ho_32 => simp only [List.getElem?_toArray, List.getElem?_cons_succ, List.getElem?_cons_zero]; rfl
    case hw_32 => rfl
    case hr_32 => intro W1; go_simp
    simp only [Act.put, List.setIfInBounds_toArray, List.set_cons_zero, List.set_cons_succ]
    refine ord_store2 (o := ?o_33) (b := b2_0) (u0 := .int .i64 0) (u1 := .int .i64 0) (t := 23) (.int .i64 (x)) (.int .i64 (y)) ?ho_33 ?hw_33 hb2_0 (by simp) ?hr_33 ?_
    case ho_33 => simp only [List.getElem?_toArray, List.getElem?_cons_succ, List.getElem?_cons_zero]; rfl
    case hw_33 => rfl
    case hr_33 =>
      intro W1 hcs hfs
      obtain ⟨hs0, hs1⟩ := hcs
      have hg0 := hfs 0
      have hg1 := hfs 1
      go_simp
    simp only [Act.put]
    intro w2 hw2
    have hb2 := hw2.below
    obtain ⟨hBb2_0, hhb2_0⟩ := hw2.blk (b2_0, #[.int .i64 (x), .int .i64 (y)], 23) (by simp [putBlk])
    have hzb2_0 := lt_of_blk hhb2_0
    have qb2_0_0 : w2.cell? ⟨b2_0, 0, none⟩ = some (.int .i64 (x)) := cell_of_blk hhb2_0 0
    have rb2_0_0 : w2.frozen? ⟨b2_0, 0, none⟩ = false := frozen_of_blk hhb2_0 0
    have qb2_0_1 : w2.cell? ⟨b2_0, 1, none⟩ = some (.int .i64 (y)) := cell_of_blk hhb2_0 1
    have rb2_0_1 : w2.frozen? ⟨b2_0, 1, none⟩ = false := frozen_of_blk hhb2_0 1
    clear hhb2_0
    clear hw2
    obtain ⟨hc2, hf2⟩ := bcell hb2
    obtain ⟨hz2_0, hz2_1⟩ : w.heap.size < w2.heap.size ∧ w.heap.size + 1 < w2.heap.size := by have := hb2.size; (try simp at this); omega
    go_wp2_with fail
    refine (l01Entry_any _ _).mono ?_; rintro e w' ⟨rfl, rfl⟩
    have hB2 : Below w.heap.size w w2 := bfin (by go_grown) hb2
    go_wp2_with fail
    have hall := And.intro hc1 (And.intro hc2 (And.intro hz0 (And.intro hz1 (And.intro hzb2_0 (And.intro hz2_0 (hz2_1))))))
    refine bodyPost_ret (v := .tuple #[(.agg #[.int .i64 0, .int .i64 0]), (.int .i64 3)]) (by first | (simp [results, Try.results21, go_sem]; done) | (simp [results, Try.results21, go_sem, hall] <;> rfl)) rfl ⟨rfl, by go_grown⟩
  cases hy : entB y
  · simp only [Bool.and_false, Bool.false_eq_true, if_false]
    go_enter Try.func21, Try.ntmps21
    go_wp2_with fail
    refine (HF.out _).mono ?_; rintro e w1 ⟨rfl, hb1⟩
    obtain ⟨hc1, hf1⟩ := bcell hb1
    obtain ⟨hz0, hz1⟩ : w.heap.size < w1.heap.size ∧ w.heap.size + 1 < w1.heap.size := by have := hb1.size; (try simp at this); omega
    go_wp2_with fail
    have hB1 : Below w.heap.size w w1 := bfin (by go_grown) hb1
    refine wp_region_ord [(0, false), (1, false), (2, false), (3, false), (4, false), (5, false), (6, false), (7, false), (8, false), (9, false), (10, false), (11, false), (12, false), (13, true), (14, true)] (by kernel_rfl) (by kernel_rfl) ?_
    refine ord_q (o := ?o_34) (v := ?v_34) ?ho_34 ?hw_34 ?hq_34 ?_
    case ho_34 => simp only [List.getElem?_toArray, List.getElem?_cons_zero]; rfl
    case hw_34 => rfl
    case hq_34 =>
      intro W1 hW1
      obtain ⟨hcw, hfw⟩ := bcell hW1
      go_simp
      first | (go_at_call 70; exact HR.out _) | (go_at_call 60; exact HQ.out _) | rfl
    simp only [Act.put, List.setIfInBounds_toArray, List.set_cons_zero, List.set_cons_succ]
    refine ord_q (o := ?o_35) (v := ?v_35) ?ho_35 ?hw_35 ?hq_35 ?_
    case ho_35 => simp only [List.getElem?_toArray, List.getElem?_cons_succ, List.getElem?_cons_zero]; rfl
    case hw_35 => rfl
    case hq_35 =>
      intro W1 hW1
      obtain ⟨hcw, hfw⟩ := bcell hW1
      go_simp
      first | (go_at_call 70; exact HR.out _) | (go_at_call 60; exact HQ.out _) | rfl
    simp only [Act.put, List.setIfInBounds_toArray, List.set_cons_zero, List.set_cons_succ]
    refine ord_q (o := ?o_36) (v := ?v_36) ?ho_36 ?hw_36 ?hq_36 ?_
    case ho_36 => simp only [List.getElem?_toArray, List.getElem?_cons_succ, List.getElem?_cons_zero]; rfl
    case hw_36 => rfl
    case hq_36 =>
      intro W1 hW1
      obtain ⟨hcw, hfw⟩ := bcell hW1
      go_simp
      first | (go_at_call 70; exact HR.out _) | (go_at_call 60; exact HQ.out _) | rfl
    simp only [Act.put, List.setIfInBounds_toArray, List.set_cons_zero, List.set_cons_succ]
    refine ord_q (o := ?o_37) (v := ?v_37) ?ho_37 ?hw_37 ?hq_37 ?_
    case ho_37 => simp only [List.getElem?_toArray, List.getElem?_cons_succ, List.getElem?_cons_zero]; rfl
    case hw_37 => rfl
    case hq_37 =>
      intro W1 hW1
      obtain ⟨hcw, hfw⟩ := bcell hW1
      go_simp
      first | (go_at_call 70; exact HR.out _) | (go_at_call 60; exact HQ.out _) | rfl
    simp only [Act.put, List.setIfInBounds_toArray, List.set_cons_zero, List.set_cons_succ]
    refine ord_q (o := ?o_38) (v := ?v_38) ?ho_38 ?hw_38 ?hq_38 ?_
    case ho_38 => simp only [List.getElem?_toArray, List.getElem?_cons_succ, List.getElem?_cons_zero]; rfl
    case hw_38 => rfl
    case hq_38 =>
      intro W1 hW1
      obtain ⟨hcw, hfw⟩ := bcell hW1
      go_simp
      first | (go_at_call 70; exact HR.out _) | (go_at_call 60; exact HQ.out _) | rfl
    simp only [Act.put, List.setIfInBounds_toArray, List.set_cons_zero, List.set_cons_succ]
    refine ord_q (o := ?o_39) (v := ?v_39) ?ho_39 ?hw_39 ?hq_39 ?_
    case ho_39 => simp only [List.getElem?_toArray, List.getElem?_cons_succ, List.getElem?_cons_zero]; rfl
    case hw_39 => rfl
    case hq_39 =>
      intro W1 hW1
      obtain ⟨hcw, hfw⟩ := bcell hW1
      go_simp
      first | (go_at_call 70; exact HR.out _) | (go_at_call 60; exact HQ.out _) | rfl
    simp only [Act.put, List.setIfInBounds_toArray, List.set_cons_zero, List.set_cons_succ]
    refine ord_q (o := ?o_40) (v := ?v_40) ?ho_40 ?hw_40 ?hq_40 ?_
    case ho_40 => simp only [List.getElem?_toArray, List.getElem?_cons_succ, List.getElem?_cons_zero]; rfl
    case hw_40 => rfl
    case hq_40 =>
      intro W1 hW1
      obtain ⟨hcw, hfw⟩ := bcell hW1
      go_simp
      first | (go_at_call 70; exact HR.out _) | (go_at_call 60; exact HQ.out _) | rfl
    simp only [Act.put, List.setIfInBounds_toArray, List.set_cons_zero, List.set_cons_succ]
    refine ord_q (o := ?o_41) (v := ?v_41) ?ho_41 ?hw_41 ?hq_41 ?_
    case ho_41 => simp only [List.getElem?_toArray, List.getElem?_cons_succ, List.getElem?_cons_zero]; rfl
    case hw_41 => rfl
    case hq_41 =>
      intro W1 hW1
      obtain ⟨hcw, hfw⟩ := bcell hW1
      go_simp
      first | (go_at_call 70; exact HR.out _) | (go_at_call 60; exact HQ.out _) | rfl
    simp only [Act.put, List.setIfInBounds_toArray, List.set_cons_zero, List.set_cons_succ]
    refine ord_q (o := ?o_42) (v := ?v_42) ?ho_42 ?hw_42 ?hq_42 ?_
    case ho_42 => simp only [List.getElem?_toArray, List.getElem?_cons_succ, List.getElem?_cons_zero]; rfl
    case hw_42 => rfl
    case hq_42 =>
      intro W1 hW1
      obtain ⟨hcw, hfw⟩ := bcell hW1
      go_simp
      first | (go_at_call 70; exact HR.out _) | (go_at_call 60; exact HQ.out _) | rfl
    simp only [Act.put, List.setIfInBounds_toArray, List.set_cons_zero, List.set_cons_succ]
    refine ord_q (o := ?o_43) (v := ?v_43) ?ho_43 ?hw_43 ?hq_43 ?_
    case ho_43 => simp only [List.getElem?_toArray, List.getElem?_cons_succ, List.getElem?_cons_zero]; rfl
    case hw_43 => rfl
    case hq_43 =>
      intro W1 hW1
      obtain ⟨hcw, hfw⟩ := bcell hW1
      go_simp
      first | (go_at_call 70; exact HR.out _) | (go_at_call 60; exact HQ.out _) | rfl
    simp only [Act.put, List.setIfInBounds_toArray, List.set_cons_zero, List.set_cons_succ]
    refine ord_q (o := ?o_44) (v := ?v_44) ?ho_44 ?hw_44 ?hq_44 ?_
    case ho_44 => simp only [List.getElem?_toArray, List.getElem?_cons_succ, List.getElem?_cons_zero]; rfl
    case hw_44 => rfl
    case hq_44 =>
      intro W1 hW1
      obtain ⟨hcw, hfw⟩ := bcell hW1
      go_simp
      first | (go_at_call 70; exact HR.out _) | (go_at_call 60; exact HQ.out _) | rfl
    simp only [Act.put, List.setIfInBounds_toArray, List.set_cons_zero, List.set_cons_succ]
    refine ord_q (o := ?o_45) (v := ?v_45) ?ho_45 ?hw_45 ?hq_45 ?_
    case ho_45 => simp only [List.getElem?_toArray, List.getElem?_cons_succ, List.getElem?_cons_zero]; rfl
    case hw_45 => rfl
    case hq_45 =>
      intro W1 hW1
      obtain ⟨hcw, hfw⟩ := bcell hW1
      go_simp
      first | (go_at_call 70; exact HR.out _) | (go_at_call 60; exact HQ.out _) | rfl
    simp only [Act.put, List.setIfInBounds_toArray, List.set_cons_zero, List.set_cons_succ]
    refine ord_q (o := ?o_46) (v := ?v_46) ?ho_46 ?hw_46 ?hq_46 ?_
    case ho_46 => simp only [List.getElem?_toArray, List.getElem?_cons_succ, List.getElem?_cons_zero]; rfl
    case hw_46 => rfl
    case hq_46 =>
      intro W1 hW1
      obtain ⟨hcw, hfw⟩ := bcell hW1
      go_simp
      first | (go_at_call 70; exact HR.out _) | (go_at_call 60; exact HQ.out _) | rfl
    simp only [Act.put, List.setIfInBounds_toArray, List.set_cons_zero, List.set_cons_succ]
    refine ord_alloc (o := ?o_47) (z := #[.int .i64 0, .int .i64 0]) (t := 23) (Nat.le_refl _) ?ho_47 ?hw_47 ?hr_47 (fun b2_0 hb2_0 hdb2_0 => ?_)
    case ho_47 => simp only [List.getElem?_toArray, List.getElem?_cons_succ, List.getElem?_cons_zero]; rfl
    case hw_47 => rfl
    case hr_47 => intro W1; go_simp
    simp only [Act.put, List.setIfInBounds_toArray, List.set_cons_zero, List.set_cons_succ]
    refine ord_store2 (o := ?o_48) (b := b2_0) (u0 := .int .i64 0) (u1 := .int .i64 0) (t := 23) (.int .i64 (x)) (.int .i64 (y)) ?ho_48 ?hw_48 hb2_0 (by simp) ?hr_48 ?_
    case ho_48 => simp only [List.getElem?_toArray, List.getElem?_cons_succ, List.getElem?_cons_zero]; rfl
    case hw_48 => rfl
    case hr_48 =>
      intro W1 hcs hfs
      obtain ⟨hs0, hs1⟩ := hcs
      have hg0 := hfs 0
      have hg1 := hfs 1
      go_simp
    simp only [Act.put]
    intro w2 hw2
    have hb2 := hw2.below
    obtain ⟨hBb2_0, hhb2_0⟩ := hw2.blk (b2_0, #[.int .i64 (x), .int .i64 (y)], 23) (by simp [putBlk])
    have hzb2_0 := lt_of_blk hhb2_0
    have qb2_0_0 : w2.cell? ⟨b2_0, 0, none⟩ = some (.int .i64 (x)) := cell_of_blk hhb2_0 0
    have rb2_0_0 : w2.frozen? ⟨b2_0, 0, none⟩ = false := frozen_of_blk hhb2_0 0
    have qb2_0_1 : w2.cell? ⟨b2_0, 1, none⟩ = some (.int .i64 (y)) := cell_of_blk hhb2_0 1
    have rb2_0_1 : w2.frozen? ⟨b2_0, 1, none⟩ = false := frozen_of_blk hhb2_0 1
    clear hhb2_0
    clear hw2
    obtain ⟨hc2, hf2⟩ := bcell hb2
    obtain ⟨hz2_0, hz2_1⟩ : w.heap.size < w2.heap.size ∧ w.heap.size + 1 < w2.heap.size := by have := hb2.size; (try simp at this); omega
    go_wp2_with fail
    refine (l01Entry_any _ _).mono ?_; rintro e w' ⟨rfl, rfl⟩
    go_wp2_with fail
    refine (l01Entry_any _ _).mono ?_; rintro e w' ⟨rfl, rfl⟩
    have hB2 : Below w.heap.size w w2 := bfin (by go_grown) hb2
    go_wp2_with fail
    have hall := And.intro hc1 (And.intro hc2 (And.intro hz0 (And.intro hz1 (And.intro hzb2_0 (And.intro hz2_0 (hz2_1))))))
    refine bodyPost_ret (v := .tuple #[(.agg #[.int .i64 0, .int .i64 0]), (.int .i64 3)]) (by first | (simp [results, Try.results21, go_sem]; done) | (simp [results, Try.results21, go_sem, hall] <;> rfl)) rfl ⟨rfl, by go_grown⟩
  · simp only [Bool.and_self, if_true]
    go_enter Try.func21, Try.ntmps21
    go_wp2_with fail
    refine (HF.out _).mono ?_; rintro e w1 ⟨rfl, hb1⟩
    obtain ⟨hc1, hf1⟩ := bcell hb1
    obtain ⟨hz0, hz1⟩ : w.heap.size < w1.heap.size ∧ w.heap.size + 1 < w1.heap.size := by have := hb1.size; (try simp at this); omega
    go_wp2_with fail
    have hB1 : Below w.heap.size w w1 := bfin (by go_grown) hb1
    refine wp_region_ord [(0, false), (1, false), (2, false), (3, false), (4, false), (5, false), (6, false), (7, false), (8, false), (9, false), (10, false), (11, false), (12, false), (13, true), (14, true)] (by kernel_rfl) (by kernel_rfl) ?_
    refine ord_q (o := ?o_49) (v := ?v_49) ?ho_49 ?hw_49 ?hq_49 ?_
    case ho_49 => simp only [List.getElem?_toArray, List.getElem?_cons_zero]; rfl
    case hw_49 => rfl
    case hq_49 =>
      intro W1 hW1
      obtain ⟨hcw, hfw⟩ := bcell hW1
      go_simp
      first | (go_at_call 70; exact HR.out _) | (go_at_call 60; exact HQ.out _) | rfl
    simp only [Act.put, List.setIfInBounds_toArray, List.set_cons_zero, List.set_cons_succ]
    refine ord_q (o := ?o_50) (v := ?v_50) ?ho_50 ?hw_50 ?hq_50 ?_
    case ho_50 => simp only [List.getElem?_toArray, List.getElem?_cons_succ, List.getElem?_cons_zero]; rfl
    case hw_50 => rfl
    case hq_50 =>
      intro W1 hW1
      obtain ⟨hcw, hfw⟩ := bcell hW1
      go_simp
      first | (go_at_call 70; exact HR.out _) | (go_at_call 60; exact HQ.out _) | rfl
    simp only [Act.put, List.setIfInBounds_toArray, List.set_cons_zero, List.set_cons_succ]
    refine ord_q (o := ?o_51) (v := ?v_51) ?ho_51 ?hw_51 ?hq_51 ?_
    case ho_51 => simp only [List.getElem?_toArray, List.getElem?_cons_succ, List.getElem?_cons_zero]; rfl
    case hw_51 => rfl
    case hq_51 =>
      intro W1 hW1
      obtain ⟨hcw, hfw⟩ := bcell hW1
      go_simp
      first | (go_at_call 70; exact HR.out _) | (go_at_call 60; exact HQ.out _) | rfl
    simp only [Act.put, List.setIfInBounds_toArray, List.set_cons_zero, List.set_cons_succ]
    refine ord_q (o := ?o_52) (v := ?v_52) ?ho_52 ?hw_52 ?hq_52 ?_
    case ho_52 => simp only [List.getElem?_toArray, List.getElem?_cons_succ, List.getElem?_cons_zero]; rfl
    case hw_52 => rfl
    case hq_52 =>
      intro W1 hW1
      obtain ⟨hcw, hfw⟩ := bcell hW1
      go_simp
      first | (go_at_call 70; exact HR.out _) | (go_at_call 60; exact HQ.out _) | rfl
    simp only [Act.put, List.setIfInBounds_toArray, List.set_cons_zero, List.set_cons_succ]
    refine ord_q (o := ?o_53) (v := ?v_53) ?ho_53 ?hw_53 ?hq_53 ?_
    case ho_53 => simp only [List.getElem?_toArray, List.getElem?_cons_succ, List.getElem?_cons_zero]; rfl
    case hw_53 => rfl
    case hq_53 =>
      intro W1 hW1
      obtain ⟨hcw, hfw⟩ := bcell hW1
      go_simp
      first | (go_at_call 70; exact HR.out _) | (go_at_call 60; exact HQ.out _) | rfl
    simp only [Act.put, List.setIfInBounds_toArray, List.set_cons_zero, List.set_cons_succ]
    refine ord_q (o := ?o_54) (v := ?v_54) ?ho_54 ?hw_54 ?hq_54 ?_
    case ho_54 => simp only [List.getElem?_toArray, List.getElem?_cons_succ, List.getElem?_cons_zero]; rfl
    case hw_54 => rfl
    case hq_54 =>
      intro W1 hW1
      obtain ⟨hcw, hfw⟩ := bcell hW1
      go_simp
      first | (go_at_call 70; exact HR.out _) | (go_at_call 60; exact HQ.out _) | rfl
    simp only [Act.put, List.setIfInBounds_toArray, List.set_cons_zero, List.set_cons_succ]
    refine ord_q (o := ?o_55) (v := ?v_55) ?ho_55 ?hw_55 ?hq_55 ?_
    case ho_55 => simp only [List.getElem?_toArray, List.getElem?_cons_succ, List.getElem?_cons_zero]; rfl
    case hw_55 => rfl
    case hq_55 =>
      intro W1 hW1
      obtain ⟨hcw, hfw⟩ := bcell hW1
      go_simp
      first | (go_at_call 70; exact HR.out _) | (go_at_call 60; exact HQ.out _) | rfl
    simp only [Act.put, List.setIfInBounds_toArray, List.set_cons_zero, List.set_cons_succ]
    refine ord_q (o := ?o_56) (v := ?v_56) ?ho_56 ?hw_56 ?hq_56 ?_
    case ho_56 => simp only [List.getElem?_toArray, List.getElem?_cons_succ, List.getElem?_cons_zero]; rfl
    case hw_56 => rfl
    case hq_56 =>
      intro W1 hW1
      obtain ⟨hcw, hfw⟩ := bcell hW1
      go_simp
      first | (go_at_call 70; exact HR.out _) | (go_at_call 60; exact HQ.out _) | rfl
    simp only [Act.put, List.setIfInBounds_toArray, List.set_cons_zero, List.set_cons_succ]
    refine ord_q (o := ?o_57) (v := ?v_57) ?ho_57 ?hw_57 ?hq_57 ?_
    case ho_57 => simp only [List.getElem?_toArray, List.getElem?_cons_succ, List.getElem?_cons_zero]; rfl
    case hw_57 => rfl
    case hq_57 =>
      intro W1 hW1
      obtain ⟨hcw, hfw⟩ := bcell hW1
      go_simp
      first | (go_at_call 70; exact HR.out _) | (go_at_call 60; exact HQ.out _) | rfl
    simp only [Act.put, List.setIfInBounds_toArray, List.set_cons_zero, List.set_cons_succ]
    refine ord_q (o := ?o_58) (v := ?v_58) ?ho_58 ?hw_58 ?hq_58 ?_
    case ho_58 => simp only [List.getElem?_toArray, List.getElem?_cons_succ, List.getElem?_cons_zero]; rfl
    case hw_58 => rfl
    case hq_58 =>
      intro W1 hW1
      obtain ⟨hcw, hfw⟩ := bcell hW1
      go_simp
      first | (go_at_call 70; exact HR.out _) | (go_at_call 60; exact HQ.out _) | rfl
    simp only [Act.put, List.setIfInBounds_toArray, List.set_cons_zero, List.set_cons_succ]
    refine ord_q (o := ?o_59) (v := ?v_59) ?ho_59 ?hw_59 ?hq_59 ?_
    case ho_59 => simp only [List.getElem?_toArray, List.getElem?_cons_succ, List.getElem?_cons_zero]; rfl
    case hw_59 => rfl
    case hq_59 =>
      intro W1 hW1
      obtain ⟨hcw, hfw⟩ := bcell hW1
      go_simp
      first | (go_at_call 70; exact HR.out _) | (go_at_call 60; exact HQ.out _) | rfl
    simp only [Act.put, List.setIfInBounds_toArray, List.set_cons_zero, List.set_cons_succ]
    refine ord_q (o := ?o_60) (v := ?v_60) ?ho_60 ?hw_60 ?hq_60 ?_
    case ho_60 => simp only [List.getElem?_toArray, List.getElem?_cons_succ, List.getElem?_cons_zero]; rfl
    case hw_60 => rfl
    case hq_60 =>
      intro W1 hW1
      obtain ⟨hcw, hfw⟩ := bcell hW1
      go_simp
      first | (go_at_call 70; exact HR.out _) | (go_at_call 60; exact HQ.out _) | rfl
    simp only [Act.put, List.setIfInBounds_toArray, List.set_cons_zero, List.set_cons_succ]
    refine ord_q (o := ?o_61) (v := ?v_61) ?ho_61 ?hw_61 ?hq_61 ?_
    case ho_61 => simp only [List.getElem?_toArray, List.getElem?_cons_succ, List.getElem?_cons_zero]; rfl
    case hw_61 => rfl
    case hq_61 =>
      intro W1 hW1
      obtain ⟨hcw, hfw⟩ := bcell hW1
      go_simp
      first | (go_at_call 70; exact HR.out _) | (go_at_call 60; exact HQ.out _) | rfl
    simp only [Act.put, List.setIfInBounds_toArray, List.set_cons_zero, List.set_cons_succ]
    refine ord_alloc (o := ?o_62) (z := #[.int .i64 0, .int .i64 0]) (t := 23) (Nat.le_refl _) ?ho_62 ?hw_62 ?hr_62 (fun b2_0 hb2_0 hdb2_0 => ?_)
    case ho_62 => simp only [List.getElem?_toArray, List.getElem?_cons_succ, List.getElem?_cons_zero]; rfl
    case hw_62 => rfl
    case hr_62 => intro W1; go_simp
    simp only [Act.put, List.setIfInBounds_toArray, List.set_cons_zero, List.set_cons_succ]
    refine ord_store2 (o := ?o_63) (b := b2_0) (u0 := .int .i64 0) (u1 := .int .i64 0) (t := 23) (.int .i64 (x)) (.int .i64 (y)) ?ho_63 ?hw_63 hb2_0 (by simp) ?hr_63 ?_
    case ho_63 => simp only [List.getElem?_toArray, List.getElem?_cons_succ, List.getElem?_cons_zero]; rfl
    case hw_63 => rfl
    case hr_63 =>
      intro W1 hcs hfs
      obtain ⟨hs0, hs1⟩ := hcs
      have hg0 := hfs 0
      have hg1 := hfs 1
      go_simp
    simp only [Act.put]
    intro w2 hw2
    have hb2 := hw2.below
    obtain ⟨hBb2_0, hhb2_0⟩ := hw2.blk (b2_0, #[.int .i64 (x), .int .i64 (y)], 23) (by simp [putBlk])
    have hzb2_0 := lt_of_blk hhb2_0
    have qb2_0_0 : w2.cell? ⟨b2_0, 0, none⟩ = some (.int .i64 (x)) := cell_of_blk hhb2_0 0
    have rb2_0_0 : w2.frozen? ⟨b2_0, 0, none⟩ = false := frozen_of_blk hhb2_0 0
    have qb2_0_1 : w2.cell? ⟨b2_0, 1, none⟩ = some (.int .i64 (y)) := cell_of_blk hhb2_0 1
    have rb2_0_1 : w2.frozen? ⟨b2_0, 1, none⟩ = false := frozen_of_blk hhb2_0 1
    clear hhb2_0
    clear hw2
    obtain ⟨hc2, hf2⟩ := bcell hb2
    obtain ⟨hz2_0, hz2_1⟩ : w.heap.size < w2.heap.size ∧ w.heap.size + 1 < w2.heap.size := by have := hb2.size; (try simp at this); omega
    go_wp2_with fail
    refine (l01Entry_any _ _).mono ?_; rintro e w' ⟨rfl, rfl⟩
    go_wp2_with fail
    refine (l01Entry_any _ _).mono ?_; rintro e w' ⟨rfl, rfl⟩
    have hB2 : Below w.heap.size w w2 := bfin (by go_grown) hb2
    go_wp2_with fail
    have hall := And.intro hc1 (And.intro hc2 (And.intro hz0 (And.intro hz1 (And.intro hzb2_0 (And.intro hz2_0 (hz2_1))))))
    refine bodyPost_ret (v := .tuple #[(.agg #[.int .i64 x, .int .i64 y]), (.int .i64 0)]) (by first | (simp [results, Try.results21, go_sem]; done) | (simp [results, Try.results21, go_sem, hall] <;> rfl)) rfl ⟨rfl, by go_grown⟩
set_option maxHeartbeats 1000000 in
theorem lawFnExactSawTooth (a b : Int) (_ : I64 a) (_ : I64 b) (w : World) :
    Calls Try.prog 6 #[(.agg #[.int .i64 a, .int .i64 b])] w fun e w' => e = .returned (.bool true) ∧ Below w.heap.size w w' := by
  have HS := Lib.hid (sSawTooth_any a b)
  have HI := Lib.hid (SawTooth_any a b)
  generalize sawRes a b = R at HS HI
  obtain ⟨⟨x, y⟩, R2⟩ := R
  have hn2 : (R2 != R2) = false := by simp
  go_enter Try.func6, Try.ntmps6
  go_wp2_with fail
  refine (toFraction_any _ _ _).mono ?_; rintro e w1 ⟨rfl, hb1⟩
  obtain ⟨hc1, hf1⟩ := bcell hb1
  go_wp2_with fail
  refine (HS.out _).mono ?_; rintro e w2 ⟨rfl, hb2⟩
  replace hb2 := bstep hb1 hb2
  clear hc1 hf1 hb1
  obtain ⟨hc2, hf2⟩ := bcell hb2
  have hz0 : w.heap.size < w2.heap.size := by have := hb2.size; (try simp at this); omega
  have hB2 : Below w.heap.size w w2 := bfin (by go_grown) hb2
  go_wp2_with fail
  refine (toFraction_any _ _ _).mono ?_; rintro e w3 ⟨rfl, hb3⟩
  obtain ⟨hc3, hf3⟩ := bcell hb3
  obtain ⟨hz3_0, hz3_1⟩ : w.heap.size < w3.heap.size ∧ w2.heap.size < w3.heap.size := by have := hb3.size; (try simp at this); omega
  go_wp2_with fail
  refine (HI.out _).mono ?_; rintro e w4 ⟨rfl, hb4⟩
  replace hb4 := bstep hb3 hb4
  clear hc3 hf3 hb3
  obtain ⟨hc4, hf4⟩ := bcell hb4
  obtain ⟨hz4_0, hz4_1⟩ : w.heap.size < w4.heap.size ∧ w2.heap.size < w4.heap.size := by have := hb4.size; (try simp at this); omega
  have hB4 : Below w.heap.size w w4 := bfin (by go_grown) hb4
  go_wp2_with fail
  refine (eqFraction_same _ _ _).mono ?_; rintro e w5 ⟨rfl, hb5⟩
  obtain ⟨hc5, hf5⟩ := bcell hb5
  have hB5 : Below w.heap.size w w5 := bfin (by go_grown) hb5
  go_wp2_with fail
  go_ret
  exact ⟨rfl, by go_grown⟩
end Go.Proofs.Ytkhlgphmimddhaa
