/- Contracts: a fraction that two numbers make; the saw tooth; the law. -/
import Derived.Test.YtjnkogkpdbgohaaGreatDoorC30
namespace Go.Proofs.YtjnkogkpdbgohaaGreatDoor
open Go.RowKit
def fracRes (p q : Int) : (Int × Int) × Int := if (entB (fx p q) && entB (fy p q)) = true then ((fx p q, fy p q), 0) else ((0, 0), 3)
set_option maxRecDepth 100000 in
set_option maxHeartbeats 1000000 in
theorem fraction_any (p q : Int) (w : World) (q0 : 0 < q) (q1 : q ≤ 4000000000000000000) (p0 : -4000000000000000000 ≤ p) (p1 : p ≤ 4000000000000000000) :
    Calls Tryz.prog 72 #[(.int .i64 p), (.int .i64 q)] w fun e w' => e = .returned (.tuple #[(.agg #[.int .i64 ((fracRes p q).1.1), .int .i64 ((fracRes p q).1.2)]), (.int .i64 ((fracRes p q).2))]) ∧ Below w.heap.size w w' := by
  obtain ⟨g0, x0, x1, y0, y1⟩ := fracBd q0 p0 p1 q1
  have HD := Lib.hid (fun W => divisor_any p q W (by omega) (by omega) (by omega) (by omega))
  unfold fracRes
  unfold fx fy at *
  generalize (Int.gcd p q : Int) = G at *
  have gn : G ≠ 0 := by omega
  have wr1 : IntKind.i64.wrap (p.tdiv G) = p.tdiv G := IntWalk.i64_in _ (by omega)
  have wr2 : IntKind.i64.wrap (q.tdiv G) = q.tdiv G := IntWalk.i64_in _ (by omega)
  cases he : (entB (p.tdiv G) && entB (q.tdiv G))
  · have HE := Lib.hid he
    simp only [Bool.false_eq_true, if_false]
    clear he
    go_enter Tryz.func72, Tryz.ntmps72
    go_wp2_with fail
    refine (HD.out _).mono ?_; rintro e w1 ⟨rfl, hb1⟩
    obtain ⟨hc1, hf1⟩ := bcell hb1
    have hz0 : w.heap.size < w1.heap.size := by have := hb1.size; (try simp at this); omega
    go_wp2_with fail
    have hB1 : Below w.heap.size w w1 := bfin (by go_grown) hb1
    refine wp_region_ord [(0, false), (1, false), (2, false), (3, false), (4, false), (5, false), (6, false), (7, true), (8, true)] (by kernel_rfl) (by kernel_rfl) ?_
    refine ord_q (o := ?o_1) (v := ?v_1) ?ho_1 ?hw_1 ?hq_1 ?_
    case ho_1 => simp only [List.getElem?_toArray, List.getElem?_cons_zero]; rfl
    case hw_1 => rfl
    case hq_1 =>
      intro W1 hW1
      obtain ⟨hcw, hfw⟩ := bcell hW1
      go_simp
      first | rfl
    simp only [Act.put, List.setIfInBounds_toArray, List.set_cons_zero, List.set_cons_succ]
    refine ord_q (o := ?o_2) (v := ?v_2) ?ho_2 ?hw_2 ?hq_2 ?_
    case ho_2 => simp only [List.getElem?_toArray, List.getElem?_cons_succ, List.getElem?_cons_zero]; rfl
    case hw_2 => rfl
    case hq_2 =>
      intro W1 hW1
      obtain ⟨hcw, hfw⟩ := bcell hW1
      go_simp
      first | rfl
    simp only [Act.put, List.setIfInBounds_toArray, List.set_cons_zero, List.set_cons_succ]
    refine ord_q (o := ?o_3) (v := ?v_3) ?ho_3 ?hw_3 ?hq_3 ?_
    case ho_3 => simp only [List.getElem?_toArray, List.getElem?_cons_succ, List.getElem?_cons_zero]; rfl
    case hw_3 => rfl
    case hq_3 =>
      intro W1 hW1
      obtain ⟨hcw, hfw⟩ := bcell hW1
      go_simp
      first | rfl
    simp only [Act.put, List.setIfInBounds_toArray, List.set_cons_zero, List.set_cons_succ]
    refine ord_q (o := ?o_4) (v := ?v_4) ?ho_4 ?hw_4 ?hq_4 ?_
    case ho_4 => simp only [List.getElem?_toArray, List.getElem?_cons_succ, List.getElem?_cons_zero]; rfl
    case hw_4 => rfl
    case hq_4 =>
      intro W1 hW1
      obtain ⟨hcw, hfw⟩ := bcell hW1
      go_simp
      first | rfl
    simp only [Act.put, List.setIfInBounds_toArray, List.set_cons_zero, List.set_cons_succ]
    refine ord_q (o := ?o_5) (v := ?v_5) ?ho_5 ?hw_5 ?hq_5 ?_
    case ho_5 => simp only [List.getElem?_toArray, List.getElem?_cons_succ, List.getElem?_cons_zero]; rfl
    case hw_5 => rfl
    case hq_5 =>
      intro W1 hW1
      obtain ⟨hcw, hfw⟩ := bcell hW1
      go_simp
      first | rfl
    simp only [Act.put, List.setIfInBounds_toArray, List.set_cons_zero, List.set_cons_succ]
    refine ord_q (o := ?o_6) (v := ?v_6) ?ho_6 ?hw_6 ?hq_6 ?_
    case ho_6 => simp only [List.getElem?_toArray, List.getElem?_cons_succ, List.getElem?_cons_zero]; rfl
    case hw_6 => rfl
    case hq_6 =>
      intro W1 hW1
      obtain ⟨hcw, hfw⟩ := bcell hW1
      go_simp
      first | rfl
    simp only [Act.put, List.setIfInBounds_toArray, List.set_cons_zero, List.set_cons_succ]
    refine ord_q (o := ?o_7) (v := ?v_7) ?ho_7 ?hw_7 ?hq_7 ?_
    case ho_7 => simp only [List.getElem?_toArray, List.getElem?_cons_succ, List.getElem?_cons_zero]; rfl
    case hw_7 => rfl
    case hq_7 =>
      intro W1 hW1
      obtain ⟨hcw, hfw⟩ := bcell hW1
      go_simp
      first | rfl
    simp only [Act.put, List.setIfInBounds_toArray, List.set_cons_zero, List.set_cons_succ]
    refine ord_alloc (o := ?o_8) (z := #[.int .i64 0, .int .i64 0]) (t := 34) (Nat.le_refl _) ?ho_8 ?hw_8 ?hr_8 (fun b2_0 hb2_0 hdb2_0 => ?_)
    case ho_8 => simp only [List.getElem?_toArray, List.getElem?_cons_succ, List.getElem?_cons_zero]; rfl
    case hw_8 => rfl
    case hr_8 => intro W1; go_simp
    simp only [Act.put, List.setIfInBounds_toArray, List.set_cons_zero, List.set_cons_succ]
    refine ord_store2 (o := ?o_9) (b := b2_0) (u0 := .int .i64 0) (u1 := .int .i64 0) (t := 34) (.int .i64 (p.tdiv G)) (.int .i64 (q.tdiv G)) ?ho_9 ?hw_9 hb2_0 (by simp) ?hr_9 ?_
    case ho_9 => simp only [List.getElem?_toArray, List.getElem?_cons_succ, List.getElem?_cons_zero]; rfl
    case hw_9 => rfl
    case hr_9 =>
      intro W1 hcs hfs
      obtain ⟨hs0, hs1⟩ := hcs
      have hg0 := hfs 0
      have hg1 := hfs 1
      go_simp
    simp only [Act.put]
    intro w2 hw2
    have hb2 := hw2.below
    obtain ⟨hBb2_0, hhb2_0⟩ := hw2.blk (b2_0, #[.int .i64 (p.tdiv G), .int .i64 (q.tdiv G)], 34) (by simp [putBlk])
    have hzb2_0 := lt_of_blk hhb2_0
    have qb2_0_0 : w2.cell? ⟨b2_0, 0, none⟩ = some (.int .i64 (p.tdiv G)) := cell_of_blk hhb2_0 0
    have rb2_0_0 : w2.frozen? ⟨b2_0, 0, none⟩ = false := frozen_of_blk hhb2_0 0
    have qb2_0_1 : w2.cell? ⟨b2_0, 1, none⟩ = some (.int .i64 (q.tdiv G)) := cell_of_blk hhb2_0 1
    have rb2_0_1 : w2.frozen? ⟨b2_0, 1, none⟩ = false := frozen_of_blk hhb2_0 1
    clear hhb2_0
    clear hw2
    obtain ⟨hc2, hf2⟩ := bcell hb2
    go_wp2_with (go_at_call 68; refine (areEntries_any _ _ _ 2 (fun i => if i = 0 then p.tdiv G else q.tdiv G) _ (by omega) (by intro i hi; rcases (show i = 0 ∨ i = 1 by omega) with rfl | rfl <;> simp [qb2_0_0, qb2_0_1])).mono ?_; rw [allB2, HE.out]; rintro e w' ⟨rfl, rfl⟩)
    have hB2 : Below w.heap.size w w2 := bfin (by go_grown) hb2
    go_wp2_with fail
    have hall := And.intro hc1 (And.intro hc2 (And.intro hz0 (hzb2_0)))
    refine bodyPost_ret (v := .tuple #[(.agg #[.int .i64 0, .int .i64 0]), (.int .i64 3)]) (by first | (simp [results, Tryz.results72, go_sem]; done) | (simp [results, Tryz.results72, go_sem, hall] <;> rfl)) rfl ⟨rfl, by go_grown⟩
  · have HE := Lib.hid he
    simp only [if_true]
    clear he
    go_enter Tryz.func72, Tryz.ntmps72
    go_wp2_with fail
    refine (HD.out _).mono ?_; rintro e w1 ⟨rfl, hb1⟩
    obtain ⟨hc1, hf1⟩ := bcell hb1
    have hz0 : w.heap.size < w1.heap.size := by have := hb1.size; (try simp at this); omega
    go_wp2_with fail
    have hB1 : Below w.heap.size w w1 := bfin (by go_grown) hb1
    refine wp_region_ord [(0, false), (1, false), (2, false), (3, false), (4, false), (5, false), (6, false), (7, true), (8, true)] (by kernel_rfl) (by kernel_rfl) ?_
    refine ord_q (o := ?o_10) (v := ?v_10) ?ho_10 ?hw_10 ?hq_10 ?_
    case ho_10 => simp only [List.getElem?_toArray, List.getElem?_cons_zero]; rfl
    case hw_10 => rfl
    case hq_10 =>
      intro W1 hW1
      obtain ⟨hcw, hfw⟩ := bcell hW1
      go_simp
      first | rfl
    simp only [Act.put, List.setIfInBounds_toArray, List.set_cons_zero, List.set_cons_succ]
    refine ord_q (o := ?o_11) (v := ?v_11) ?ho_11 ?hw_11 ?hq_11 ?_
    case ho_11 => simp only [List.getElem?_toArray, List.getElem?_cons_succ, List.getElem?_cons_zero]; rfl
    case hw_11 => rfl
    case hq_11 =>
      intro W1 hW1
      obtain ⟨hcw, hfw⟩ := bcell hW1
      go_simp
      first | rfl
    simp only [Act.put, List.setIfInBounds_toArray, List.set_cons_zero, List.set_cons_succ]
    refine ord_q (o := ?o_12) (v := ?v_12) ?ho_12 ?hw_12 ?hq_12 ?_
    case ho_12 => simp only [List.getElem?_toArray, List.getElem?_cons_succ, List.getElem?_cons_zero]; rfl
    case hw_12 => rfl
    case hq_12 =>
      intro W1 hW1
      obtain ⟨hcw, hfw⟩ := bcell hW1
      go_simp
      first | rfl
    simp only [Act.put, List.setIfInBounds_toArray, List.set_cons_zero, List.set_cons_succ]
    refine ord_q (o := ?o_13) (v := ?v_13) ?ho_13 ?hw_13 ?hq_13 ?_
    case ho_13 => simp only [List.getElem?_toArray, List.getElem?_cons_succ, List.getElem?_cons_zero]; rfl
    case hw_13 => rfl
    case hq_13 =>
      intro W1 hW1
      obtain ⟨hcw, hfw⟩ := bcell hW1
      go_simp
      first | rfl
    simp only [Act.put, List.setIfInBounds_toArray, List.set_cons_zero, List.set_cons_succ]
    refine ord_q (o := ?o_14) (v := ?v_14) ?ho_14 ?hw_14 ?hq_14 ?_
    case ho_14 => simp only [List.getElem?_toArray, List.getElem?_cons_succ, List.getElem?_cons_zero]; rfl
    case hw_14 => rfl
    case hq_14 =>
      intro W1 hW1
      obtain ⟨hcw, hfw⟩ := bcell hW1
      go_simp
      first | rfl
    simp only [Act.put, List.setIfInBounds_toArray, List.set_cons_zero, List.set_cons_succ]
    refine ord_q (o := ?o_15) (v := ?v_15) ?ho_15 ?hw_15 ?hq_15 ?_
    case ho_15 => simp only [List.getElem?_toArray, List.getElem?_cons_succ, List.getElem?_cons_zero]; rfl
    case hw_15 => rfl
    case hq_15 =>
      intro W1 hW1
      obtain ⟨hcw, hfw⟩ := bcell hW1
      go_simp
      first | rfl
    simp only [Act.put, List.setIfInBounds_toArray, List.set_cons_zero, List.set_cons_succ]
    refine ord_q (o := ?o_16) (v := ?v_16) ?ho_16 ?hw_16 ?hq_16 ?_
    case ho_16 => simp only [List.getElem?_toArray, List.getElem?_cons_succ, List.getElem?_cons_zero]; rfl
    case hw_16 => rfl
    case hq_16 =>
      intro W1 hW1
      obtain ⟨hcw, hfw⟩ := bcell hW1
      go_simp
      first | rfl
    simp only [Act.put, List.setIfInBounds_toArray, List.set_cons_zero, List.set_cons_succ]
    refine ord_alloc (o := ?o_17) (z := #[.int .i64 0, .int .i64 0]) (t := 34) (Nat.le_refl _) ?ho_17 ?hw_17 ?hr_17 (fun b2_0 hb2_0 hdb2_0 => ?_)
    case ho_17 => simp only [List.getElem?_toArray, List.getElem?_cons_succ, List.getElem?_cons_zero]; rfl
    case hw_17 => rfl
    case hr_17 => intro W1; go_simp
    simp only [Act.put, List.setIfInBounds_toArray, List.set_cons_zero, List.set_cons_succ]
    refine ord_store2 (o := ?o_18) (b := b2_0) (u0 := .int .i64 0) (u1 := .int .i64 0) (t := 34) (.int .i64 (p.tdiv G)) (.int .i64 (q.tdiv G)) ?ho_18 ?hw_18 hb2_0 (by simp) ?hr_18 ?_
    case ho_18 => simp only [List.getElem?_toArray, List.getElem?_cons_succ, List.getElem?_cons_zero]; rfl
    case hw_18 => rfl
    case hr_18 =>
      intro W1 hcs hfs
      obtain ⟨hs0, hs1⟩ := hcs
      have hg0 := hfs 0
      have hg1 := hfs 1
      go_simp
    simp only [Act.put]
    intro w2 hw2
    have hb2 := hw2.below
    obtain ⟨hBb2_0, hhb2_0⟩ := hw2.blk (b2_0, #[.int .i64 (p.tdiv G), .int .i64 (q.tdiv G)], 34) (by simp [putBlk])
    have hzb2_0 := lt_of_blk hhb2_0
    have qb2_0_0 : w2.cell? ⟨b2_0, 0, none⟩ = some (.int .i64 (p.tdiv G)) := cell_of_blk hhb2_0 0
    have rb2_0_0 : w2.frozen? ⟨b2_0, 0, none⟩ = false := frozen_of_blk hhb2_0 0
    have qb2_0_1 : w2.cell? ⟨b2_0, 1, none⟩ = some (.int .i64 (q.tdiv G)) := cell_of_blk hhb2_0 1
    have rb2_0_1 : w2.frozen? ⟨b2_0, 1, none⟩ = false := frozen_of_blk hhb2_0 1
    clear hhb2_0
    clear hw2
    obtain ⟨hc2, hf2⟩ := bcell hb2
    go_wp2_with (go_at_call 68; refine (areEntries_any _ _ _ 2 (fun i => if i = 0 then p.tdiv G else q.tdiv G) _ (by omega) (by intro i hi; rcases (show i = 0 ∨ i = 1 by omega) with rfl | rfl <;> simp [qb2_0_0, qb2_0_1])).mono ?_; rw [allB2, HE.out]; rintro e w' ⟨rfl, rfl⟩)
    have hB2 : Below w.heap.size w w2 := bfin (by go_grown) hb2
    go_wp2_with fail
    have hall := And.intro hc1 (And.intro hc2 (And.intro hz0 (hzb2_0)))
    refine bodyPost_ret (v := .tuple #[(.agg #[.int .i64 (p.tdiv G), .int .i64 (q.tdiv G)]), (.int .i64 0)]) (by first | (simp [results, Tryz.results72, go_sem]; done) | (simp [results, Tryz.results72, go_sem, hall] <;> rfl)) rfl ⟨rfl, by go_grown⟩
def sawRes (a b : Int) : (Int × Int) × Int := if isFrac a b = true then (if b = 0 then ((0, 0), 5) else if b = 1 then ((0, 1), 0) else fracRes (2 * (a % b) - b) (2 * b)) else ((0, 0), 1)
end Go.Proofs.YtjnkogkpdbgohaaGreatDoor
