/- Contracts: a fraction of two numbers without a common divisor; where a matrix leads a fraction; draws of a level and a fraction. -/
import Derived.Test.YtjnkogkpdbgohaaGreatDoorC30
import Derived.Test.YtjnkogkpdbgohaaGreatDoorDa
import Derived.Test.YtjnkogkpdbgohaaGreatDoorE1A
namespace Go.Proofs.YtjnkogkpdbgohaaGreatDoor
open Go.RowKit
def coSign (p q : Int) : Int := if q < 0 ∨ (q = 0 ∧ p < 0) then -1 else 1
def coRes (p q : Int) : (Int × Int) × Int := if (entB (coSign p q * p) && entB (coSign p q * q)) = true then ((coSign p q * p, coSign p q * q), 0) else ((0, 0), 3)
set_option maxRecDepth 100000 in
set_option maxHeartbeats 2000000 in
theorem fraction_cop (p q : Int) (w : World) (hg : (Int.gcd p q : Int) = 1) (q0 : -4000000000000000000 ≤ q) (q1 : q ≤ 4000000000000000000) (p0 : -4000000000000000000 ≤ p) (p1 : p ≤ 4000000000000000000) :
    Calls Tryz.prog 72 #[(.int .i64 p), (.int .i64 q)] w fun e w' => e = .returned (.tuple #[(.agg #[.int .i64 ((coRes p q).1.1), .int .i64 ((coRes p q).1.2)]), (.int .i64 ((coRes p q).2))]) ∧ Below w.heap.size w w' := by
  have HD := Lib.hid (fun W => divisor_any p q W (by omega) (by omega) (by omega) (by omega))
  rw [hg] at HD
  by_cases hq : q = 0
  · subst hq
    have hp : p = 1 ∨ p = -1 := by
      have : (p.natAbs : Int) = 1 := by simpa using hg
      omega
    clear hg
    rcases hp with rfl | rfl
    · rw [show coRes 1 0 = ((1, 0), 0) by decide]
      have HE := Lib.hid (show (entB 1 && entB 0) = true by decide)
      have wr1 : IntKind.i64.wrap 1 = 1 := by decide
      have wr2 : IntKind.i64.wrap 0 = 0 := by decide
      go_enter Tryz.func72, Tryz.ntmps72
      go_wp2_with fail
      refine (HD.out _).mono ?_; rintro e w1 ⟨rfl, hb1⟩
      obtain ⟨hc1, hf1⟩ := bcell hb1
      have hz0 : w.heap.size < w1.heap.size := by have := hb1.size; (try simp at this); omega
      go_wp2_with fail
      have hB1 : Below w.heap.size w w1 := bfin (by go_grown) hb1
      refine wp_region_ord [(0, false), (1, false), (2, false), (3, false), (4, false), (5, false), (6, false), (7, true), (8, true)] (by kernel_rfl) (by kernel_rfl) ?_
      refine ord_q (o := ?o_1) (v := ?v_1) ?ho_1 ?hw_1 ?hq_1 ?_
      case ho_1 => simp only [List.getElem?_toArray, List.getElem?_cons_zero]; rfl
      case hw_1 => rfl
      case hq_1 =>
        intro W1 hW1
        obtain ⟨hcw, hfw⟩ := bcell hW1
        go_simp
        first | rfl
      simp only [Act.put, List.setIfInBounds_toArray, List.set_cons_zero, List.set_cons_succ]
      refine ord_q (o := ?o_2) (v := ?v_2) ?ho_2 ?hw_2 ?hq_2 ?_
      case ho_2 => simp only [List.getElem?_toArray, List.getElem?_cons_succ, List.getElem?_cons_zero]; rfl
      case hw_2 => rfl
      case hq_2 =>
        intro W1 hW1
        obtain ⟨hcw, hfw⟩ := bcell hW1
        go_simp
        first | rfl
      simp only [Act.put, List.setIfInBounds_toArray, List.set_cons_zero, List.set_cons_succ]
      refine ord_q (o := ?o_3) (v := ?v_3) ?ho_3 ?hw_3 ?hq_3 ?_
      case ho_3 => simp only [List.getElem?_toArray, List.getElem?_cons_succ, List.getElem?_cons_zero]; rfl
      case hw_3 => rfl
      case hq_3 =>
        intro W1 hW1
        obtain ⟨hcw, hfw⟩ := bcell hW1
        go_simp
        first | rfl
      simp only [Act.put, List.setIfInBounds_toArray, List.set_cons_zero, List.set_cons_succ]
      refine ord_q (o := ?o_4) (v := ?v_4) ?ho_4 ?hw_4 ?hq_4 ?_
      case ho_4 => simp only [List.getElem?_toArray, List.getElem?_cons_succ, List.getElem?_cons_zero]; rfl
      case hw_4 => rfl
      case hq_4 =>
        intro W1 hW1
        obtain ⟨hcw, hfw⟩ := bcell hW1
        go_simp
        first | rfl
      simp only [Act.put, List.setIfInBounds_toArray, List.set_cons_zero, List.set_cons_succ]
      refine ord_q (o := ?o_5) (v := ?v_5) ?ho_5 ?hw_5 ?hq_5 ?_
      case ho_5 => simp only [List.getElem?_toArray, List.getElem?_cons_succ, List.getElem?_cons_zero]; rfl
      case hw_5 => rfl
      case hq_5 =>
        intro W1 hW1
        obtain ⟨hcw, hfw⟩ := bcell hW1
        go_simp
        first | rfl
      simp only [Act.put, List.setIfInBounds_toArray, List.set_cons_zero, List.set_cons_succ]
      refine ord_q (o := ?o_6) (v := ?v_6) ?ho_6 ?hw_6 ?hq_6 ?_
      case ho_6 => simp only [List.getElem?_toArray, List.getElem?_cons_succ, List.getElem?_cons_zero]; rfl
      case hw_6 => rfl
      case hq_6 =>
        intro W1 hW1
        obtain ⟨hcw, hfw⟩ := bcell hW1
        go_simp
        first | rfl
      simp only [Act.put, List.setIfInBounds_toArray, List.set_cons_zero, List.set_cons_succ]
      refine ord_q (o := ?o_7) (v := ?v_7) ?ho_7 ?hw_7 ?hq_7 ?_
      case ho_7 => simp only [List.getElem?_toArray, List.getElem?_cons_succ, List.getElem?_cons_zero]; rfl
      case hw_7 => rfl
      case hq_7 =>
        intro W1 hW1
        obtain ⟨hcw, hfw⟩ := bcell hW1
        go_simp
        first | rfl
      simp only [Act.put, List.setIfInBounds_toArray, List.set_cons_zero, List.set_cons_succ]
      refine ord_alloc (o := ?o_8) (z := #[.int .i64 0, .int .i64 0]) (t := 34) (Nat.le_refl _) ?ho_8 ?hw_8 ?hr_8 (fun b2_0 hb2_0 hdb2_0 => ?_)
      case ho_8 => simp only [List.getElem?_toArray, List.getElem?_cons_succ, List.getElem?_cons_zero]; rfl
      case hw_8 => rfl
      case hr_8 => intro W1; go_simp
      simp only [Act.put, List.setIfInBounds_toArray, List.set_cons_zero, List.set_cons_succ]
      refine ord_store2 (o := ?o_9) (b := b2_0) (u0 := .int .i64 0) (u1 := .int .i64 0) (t := 34) (.int .i64 (1)) (.int .i64 (0)) ?ho_9 ?hw_9 hb2_0 (by simp) ?hr_9 ?_
      case ho_9 => simp only [List.getElem?_toArray, List.getElem?_cons_succ, List.getElem?_cons_zero]; rfl
      case hw_9 => rfl
      case hr_9 =>
        intro W1 hcs hfs
        obtain ⟨hs0, hs1⟩ := hcs
        have hg0 := hfs 0
        have hg1 := hfs 1
        go_simp
      simp only [Act.put]
      intro w2 hw2
      have hb2 := hw2.below
      obtain ⟨hBb2_0, hhb2_0⟩ := hw2.blk (b2_0, #[.int .i64 (1), .int .i64 (0)], 34) (by simp [putBlk])
      have hzb2_0 := lt_of_blk hhb2_0
      have qb2_0_0 : w2.cell? ⟨b2_0, 0, none⟩ = some (.int .i64 (1)) := cell_of_blk hhb2_0 0
      have rb2_0_0 : w2.frozen? ⟨b2_0, 0, none⟩ = false := frozen_of_blk hhb2_0 0
      have qb2_0_1 : w2.cell? ⟨b2_0, 1, none⟩ = some (.int .i64 (0)) := cell_of_blk hhb2_0 1
      have rb2_0_1 : w2.frozen? ⟨b2_0, 1, none⟩ = false := frozen_of_blk hhb2_0 1
      clear hhb2_0
      clear hw2
      obtain ⟨hc2, hf2⟩ := bcell hb2
      go_wp2_with (go_at_call 68; refine (areEntries_any _ _ _ 2 (fun i => if i = 0 then 1 else 0) _ (by omega) (by intro i hi; rcases (show i = 0 ∨ i = 1 by omega) with rfl | rfl <;> simp [qb2_0_0, qb2_0_1])).mono ?_; rw [allB2, HE.out]; rintro e w' ⟨rfl, rfl⟩)
      have hB2 : Below w.heap.size w w2 := bfin (by go_grown) hb2
      go_wp2_with fail
      have hall := And.intro hc1 (And.intro hc2 (And.intro hz0 (hzb2_0)))
      refine bodyPost_ret (v := .tuple #[(.agg #[.int .i64 1, .int .i64 0]), (.int .i64 0)]) (by first | (simp [results, Tryz.results72, go_sem]; done) | (simp [results, Tryz.results72, go_sem, hall] <;> rfl)) rfl ⟨rfl, by go_grown⟩
    · rw [show coRes (-1) 0 = ((1, 0), 0) by decide]
      have HE := Lib.hid (show (entB 1 && entB 0) = true by decide)
      have wr1 : IntKind.i64.wrap 1 = 1 := by decide
      have wr2 : IntKind.i64.wrap 0 = 0 := by decide
      go_enter Tryz.func72, Tryz.ntmps72
      go_wp2_with fail
      refine (HD.out _).mono ?_; rintro e w1 ⟨rfl, hb1⟩
      obtain ⟨hc1, hf1⟩ := bcell hb1
      have hz0 : w.heap.size < w1.heap.size := by have := hb1.size; (try simp at this); omega
      go_wp2_with fail
      have hB1 : Below w.heap.size w w1 := bfin (by go_grown) hb1
      refine wp_region_ord [(0, false), (1, false), (2, false), (3, false), (4, false), (5, false), (6, false), (7, true), (8, true)] (by kernel_rfl) (by kernel_rfl) ?_
      refine ord_q (o := ?o_10) (v := ?v_10) ?ho_10 ?hw_10 ?hq_10 ?_
      case ho_10 => simp only [List.getElem?_toArray, List.getElem?_cons_zero]; rfl
      case hw_10 => rfl
      case hq_10 =>
        intro W1 hW1
        obtain ⟨hcw, hfw⟩ := bcell hW1
        go_simp
        first | rfl
      simp only [Act.put, List.setIfInBounds_toArray, List.set_cons_zero, List.set_cons_succ]
      refine ord_q (o := ?o_11) (v := ?v_11) ?ho_11 ?hw_11 ?hq_11 ?_
      case ho_11 => simp only [List.getElem?_toArray, List.getElem?_cons_succ, List.getElem?_cons_zero]; rfl
      case hw_11 => rfl
      case hq_11 =>
        intro W1 hW1
        obtain ⟨hcw, hfw⟩ := bcell hW1
        go_simp
        first | rfl
      simp only [Act.put, List.setIfInBounds_toArray, List.set_cons_zero, List.set_cons_succ]
      refine ord_q (o := ?o_12) (v := ?v_12) ?ho_12 ?hw_12 ?hq_12 ?_
      case ho_12 => simp only [List.getElem?_toArray, List.getElem?_cons_succ, List.getElem?_cons_zero]; rfl
      case hw_12 => rfl
      case hq_12 =>
        intro W1 hW1
        obtain ⟨hcw, hfw⟩ := bcell hW1
        go_simp
        first | rfl
      simp only [Act.put, List.setIfInBounds_toArray, List.set_cons_zero, List.set_cons_succ]
      refine ord_q (o := ?o_13) (v := ?v_13) ?ho_13 ?hw_13 ?hq_13 ?_
      case ho_13 => simp only [List.getElem?_toArray, List.getElem?_cons_succ, List.getElem?_cons_zero]; rfl
      case hw_13 => rfl
      case hq_13 =>
        intro W1 hW1
        obtain ⟨hcw, hfw⟩ := bcell hW1
        go_simp
        first | rfl
      simp only [Act.put, List.setIfInBounds_toArray, List.set_cons_zero, List.set_cons_succ]
      refine ord_q (o := ?o_14) (v := ?v_14) ?ho_14 ?hw_14 ?hq_14 ?_
      case ho_14 => simp only [List.getElem?_toArray, List.getElem?_cons_succ, List.getElem?_cons_zero]; rfl
      case hw_14 => rfl
      case hq_14 =>
        intro W1 hW1
        obtain ⟨hcw, hfw⟩ := bcell hW1
        go_simp
        first | rfl
      simp only [Act.put, List.setIfInBounds_toArray, List.set_cons_zero, List.set_cons_succ]
      refine ord_q (o := ?o_15) (v := ?v_15) ?ho_15 ?hw_15 ?hq_15 ?_
      case ho_15 => simp only [List.getElem?_toArray, List.getElem?_cons_succ, List.getElem?_cons_zero]; rfl
      case hw_15 => rfl
      case hq_15 =>
        intro W1 hW1
        obtain ⟨hcw, hfw⟩ := bcell hW1
        go_simp
        first | rfl
      simp only [Act.put, List.setIfInBounds_toArray, List.set_cons_zero, List.set_cons_succ]
      refine ord_q (o := ?o_16) (v := ?v_16) ?ho_16 ?hw_16 ?hq_16 ?_
      case ho_16 => simp only [List.getElem?_toArray, List.getElem?_cons_succ, List.getElem?_cons_zero]; rfl
      case hw_16 => rfl
      case hq_16 =>
        intro W1 hW1
        obtain ⟨hcw, hfw⟩ := bcell hW1
        go_simp
        first | rfl
      simp only [Act.put, List.setIfInBounds_toArray, List.set_cons_zero, List.set_cons_succ]
      refine ord_alloc (o := ?o_17) (z := #[.int .i64 0, .int .i64 0]) (t := 34) (Nat.le_refl _) ?ho_17 ?hw_17 ?hr_17 (fun b2_0 hb2_0 hdb2_0 => ?_)
      case ho_17 => simp only [List.getElem?_toArray, List.getElem?_cons_succ, List.getElem?_cons_zero]; rfl
      case hw_17 => rfl
      case hr_17 => intro W1; go_simp
      simp only [Act.put, List.setIfInBounds_toArray, List.set_cons_zero, List.set_cons_succ]
      refine ord_store2 (o := ?o_18) (b := b2_0) (u0 := .int .i64 0) (u1 := .int .i64 0) (t := 34) (.int .i64 (1)) (.int .i64 (0)) ?ho_18 ?hw_18 hb2_0 (by simp) ?hr_18 ?_
      case ho_18 => simp only [List.getElem?_toArray, List.getElem?_cons_succ, List.getElem?_cons_zero]; rfl
      case hw_18 => rfl
      case hr_18 =>
        intro W1 hcs hfs
        obtain ⟨hs0, hs1⟩ := hcs
        have hg0 := hfs 0
        have hg1 := hfs 1
        go_simp
      simp only [Act.put]
      intro w2 hw2
      have hb2 := hw2.below
      obtain ⟨hBb2_0, hhb2_0⟩ := hw2.blk (b2_0, #[.int .i64 (1), .int .i64 (0)], 34) (by simp [putBlk])
      have hzb2_0 := lt_of_blk hhb2_0
      have qb2_0_0 : w2.cell? ⟨b2_0, 0, none⟩ = some (.int .i64 (1)) := cell_of_blk hhb2_0 0
      have rb2_0_0 : w2.frozen? ⟨b2_0, 0, none⟩ = false := frozen_of_blk hhb2_0 0
      have qb2_0_1 : w2.cell? ⟨b2_0, 1, none⟩ = some (.int .i64 (0)) := cell_of_blk hhb2_0 1
      have rb2_0_1 : w2.frozen? ⟨b2_0, 1, none⟩ = false := frozen_of_blk hhb2_0 1
      clear hhb2_0
      clear hw2
      obtain ⟨hc2, hf2⟩ := bcell hb2
      go_wp2_with (go_at_call 68; refine (areEntries_any _ _ _ 2 (fun i => if i = 0 then 1 else 0) _ (by omega) (by intro i hi; rcases (show i = 0 ∨ i = 1 by omega) with rfl | rfl <;> simp [qb2_0_0, qb2_0_1])).mono ?_; rw [allB2, HE.out]; rintro e w' ⟨rfl, rfl⟩)
      have hB2 : Below w.heap.size w w2 := bfin (by go_grown) hb2
      go_wp2_with fail
      have hall := And.intro hc1 (And.intro hc2 (And.intro hz0 (hzb2_0)))
      refine bodyPost_ret (v := .tuple #[(.agg #[.int .i64 1, .int .i64 0]), (.int .i64 0)]) (by first | (simp [results, Tryz.results72, go_sem]; done) | (simp [results, Tryz.results72, go_sem, hall] <;> rfl)) rfl ⟨rfl, by go_grown⟩
  clear hg
  unfold coRes
  by_cases hs : q < 0
  · rw [show coSign p q = -1 by simp [coSign, hs]]
    rw [show -1 * p = p.tdiv (-1) by rw [Int.tdiv_neg, Int.tdiv_one]; omega, show -1 * q = q.tdiv (-1) by rw [Int.tdiv_neg, Int.tdiv_one]; omega]
    have b1 : -4000000000000000000 ≤ p.tdiv (-1) ∧ p.tdiv (-1) ≤ 4000000000000000000 := by rw [Int.tdiv_neg, Int.tdiv_one]; omega
    have b2 : -4000000000000000000 ≤ q.tdiv (-1) ∧ q.tdiv (-1) ≤ 4000000000000000000 := by rw [Int.tdiv_neg, Int.tdiv_one]; omega
    have wr1 : IntKind.i64.wrap (p.tdiv (-1)) = p.tdiv (-1) := IntWalk.i64_in _ (by omega)
    have wr2 : IntKind.i64.wrap (q.tdiv (-1)) = q.tdiv (-1) := IntWalk.i64_in _ (by omega)
    generalize hX : p.tdiv (-1) = X at *
    generalize hY : q.tdiv (-1) = Y at *
    cases he : (entB X && entB Y)
    · have HE := Lib.hid he
      simp only [Bool.false_eq_true, if_false]
      clear he
      go_enter Tryz.func72, Tryz.ntmps72
      go_wp2_with fail
      refine (HD.out _).mono ?_; rintro e w1 ⟨rfl, hb1⟩
      obtain ⟨hc1, hf1⟩ := bcell hb1
      have hz0 : w.heap.size < w1.heap.size := by have := hb1.size; (try simp at this); omega
      go_wp2_with fail
      have hB1 : Below w.heap.size w w1 := bfin (by go_grown) hb1
      refine wp_region_ord [(0, false), (1, false), (2, false), (3, false), (4, false), (5, false), (6, false), (7, true), (8, true)] (by kernel_rfl) (by kernel_rfl) ?_
      refine ord_q (o := ?o_19) (v := ?v_19) ?ho_19 ?hw_19 ?hq_19 ?_
      case ho_19 => simp only [List.getElem?_toArray, List.getElem?_cons_zero]; rfl
      case hw_19 => rfl
      case hq_19 =>
        intro W1 hW1
        obtain ⟨hcw, hfw⟩ := bcell hW1
        go_simp
        first | rfl
      simp only [Act.put, List.setIfInBounds_toArray, List.set_cons_zero, List.set_cons_succ]
      refine ord_q (o := ?o_20) (v := ?v_20) ?ho_20 ?hw_20 ?hq_20 ?_
      case ho_20 => simp only [List.getElem?_toArray, List.getElem?_cons_succ, List.getElem?_cons_zero]; rfl
      case hw_20 => rfl
      case hq_20 =>
        intro W1 hW1
        obtain ⟨hcw, hfw⟩ := bcell hW1
        go_simp
        first | rfl
      simp only [Act.put, List.setIfInBounds_toArray, List.set_cons_zero, List.set_cons_succ]
      refine ord_q (o := ?o_21) (v := ?v_21) ?ho_21 ?hw_21 ?hq_21 ?_
      case ho_21 => simp only [List.getElem?_toArray, List.getElem?_cons_succ, List.getElem?_cons_zero]; rfl
      case hw_21 => rfl
      case hq_21 =>
        intro W1 hW1
        obtain ⟨hcw, hfw⟩ := bcell hW1
        go_simp
        first | rfl
      simp only [Act.put, List.setIfInBounds_toArray, List.set_cons_zero, List.set_cons_succ]
      refine ord_q (o := ?o_22) (v := ?v_22) ?ho_22 ?hw_22 ?hq_22 ?_
      case ho_22 => simp only [List.getElem?_toArray, List.getElem?_cons_succ, List.getElem?_cons_zero]; rfl
      case hw_22 => rfl
      case hq_22 =>
        intro W1 hW1
        obtain ⟨hcw, hfw⟩ := bcell hW1
        go_simp
        first | rfl
      simp only [Act.put, List.setIfInBounds_toArray, List.set_cons_zero, List.set_cons_succ]
      refine ord_q (o := ?o_23) (v := ?v_23) ?ho_23 ?hw_23 ?hq_23 ?_
      case ho_23 => simp only [List.getElem?_toArray, List.getElem?_cons_succ, List.getElem?_cons_zero]; rfl
      case hw_23 => rfl
      case hq_23 =>
        intro W1 hW1
        obtain ⟨hcw, hfw⟩ := bcell hW1
        go_simp
        first | rfl
      simp only [Act.put, List.setIfInBounds_toArray, List.set_cons_zero, List.set_cons_succ]
      refine ord_q (o := ?o_24) (v := ?v_24) ?ho_24 ?hw_24 ?hq_24 ?_
      case ho_24 => simp only [List.getElem?_toArray, List.getElem?_cons_succ, List.getElem?_cons_zero]; rfl
      case hw_24 => rfl
      case hq_24 =>
        intro W1 hW1
        obtain ⟨hcw, hfw⟩ := bcell hW1
        go_simp
        first | rfl
      simp only [Act.put, List.setIfInBounds_toArray, List.set_cons_zero, List.set_cons_succ]
      refine ord_q (o := ?o_25) (v := ?v_25) ?ho_25 ?hw_25 ?hq_25 ?_
      case ho_25 => simp only [List.getElem?_toArray, List.getElem?_cons_succ, List.getElem?_cons_zero]; rfl
      case hw_25 => rfl
      case hq_25 =>
        intro W1 hW1
        obtain ⟨hcw, hfw⟩ := bcell hW1
        go_simp
        first | rfl
      simp only [Act.put, List.setIfInBounds_toArray, List.set_cons_zero, List.set_cons_succ]
      refine ord_alloc (o := ?o_26) (z := #[.int .i64 0, .int .i64 0]) (t := 34) (Nat.le_refl _) ?ho_26 ?hw_26 ?hr_26 (fun b2_0 hb2_0 hdb2_0 => ?_)
      case ho_26 => simp only [List.getElem?_toArray, List.getElem?_cons_succ, List.getElem?_cons_zero]; rfl
      case hw_26 => rfl
      case hr_26 => intro W1; go_simp
      simp only [Act.put, List.setIfInBounds_toArray, List.set_cons_zero, List.set_cons_succ]
      refine ord_store2 (o := ?o_27) (b := b2_0) (u0 := .int .i64 0) (u1 := .int .i64 0) (t := 34) (.int .i64 (X)) (.int .i64 (Y)) ?ho_27 ?hw_27 hb2_0 (by simp) ?hr_27 ?_
      case ho_27 => simp only [List.getElem?_toArray, List.getElem?_cons_succ, List.getElem?_cons_zero]; rfl
      case hw_27 => rfl
      case hr_27 =>
        intro W1 hcs hfs
        obtain ⟨hs0, hs1⟩ := hcs
        have hg0 := hfs 0
        have hg1 := hfs 1
        go_simp
      simp only [Act.put]
      intro w2 hw2
      have hb2 := hw2.below
      obtain ⟨hBb2_0, hhb2_0⟩ := hw2.blk (b2_0, #[.int .i64 (X), .int .i64 (Y)], 34) (by simp [putBlk])
      have hzb2_0 := lt_of_blk hhb2_0
      have qb2_0_0 : w2.cell? ⟨b2_0, 0, none⟩ = some (.int .i64 (X)) := cell_of_blk hhb2_0 0
      have rb2_0_0 : w2.frozen? ⟨b2_0, 0, none⟩ = false := frozen_of_blk hhb2_0 0
      have qb2_0_1 : w2.cell? ⟨b2_0, 1, none⟩ = some (.int .i64 (Y)) := cell_of_blk hhb2_0 1
      have rb2_0_1 : w2.frozen? ⟨b2_0, 1, none⟩ = false := frozen_of_blk hhb2_0 1
      clear hhb2_0
      clear hw2
      obtain ⟨hc2, hf2⟩ := bcell hb2
      go_wp2_with (go_at_call 68; refine (areEntries_any _ _ _ 2 (fun i => if i = 0 then X else Y) _ (by omega) (by intro i hi; rcases (show i = 0 ∨ i = 1 by omega) with rfl | rfl <;> simp [qb2_0_0, qb2_0_1])).mono ?_; rw [allB2, HE.out]; rintro e w' ⟨rfl, rfl⟩)
      have hB2 : Below w.heap.size w w2 := bfin (by go_grown) hb2
      go_wp2_with fail
      have hall := And.intro hc1 (And.intro hc2 (And.intro hz0 (hzb2_0)))
      refine bodyPost_ret (v := .tuple #[(.agg #[.int .i64 0, .int .i64 0]), (.int .i64 3)]) (by first | (simp [results, Tryz.results72, go_sem]; done) | (simp [results, Tryz.results72, go_sem, hall] <;> rfl)) rfl ⟨rfl, by go_grown⟩
    · have HE := Lib.hid he
      simp only [if_true]
      clear he
      go_enter Tryz.func72, Tryz.ntmps72
      go_wp2_with fail
      refine (HD.out _).mono ?_; rintro e w1 ⟨rfl, hb1⟩
      obtain ⟨hc1, hf1⟩ := bcell hb1
      have hz0 : w.heap.size < w1.heap.size := by have := hb1.size; (try simp at this); omega
      go_wp2_with fail
      have hB1 : Below w.heap.size w w1 := bfin (by go_grown) hb1
      refine wp_region_ord [(0, false), (1, false), (2, false), (3, false), (4, false), (5, false), (6, false), (7, true), (8, true)] (by kernel_rfl) (by kernel_rfl) ?_
      refine ord_q (o := ?o_28) (v := ?v_28) ?ho_28 ?hw_28 ?hq_28 ?_
      case ho_28 => simp only [List.getElem?_toArray, List.getElem?_cons_zero]; rfl
      case hw_28 => rfl
      case hq_28 =>
        intro W1 hW1
        obtain ⟨hcw, hfw⟩ := bcell hW1
        go_simp
        first | rfl
      simp only [Act.put, List.setIfInBounds_toArray, List.set_cons_zero, List.set_cons_succ]
      refine ord_q (o := ?o_29) (v := ?v_29) ?ho_29 ?hw_29 ?hq_29 ?_
      case ho_29 => simp only [List.getElem?_toArray, List.getElem?_cons_succ, List.getElem?_cons_zero]; rfl
      case hw_29 => rfl
      case hq_29 =>
        intro W1 hW1
        obtain ⟨hcw, hfw⟩ := bcell hW1
        go_simp
        first | rfl
      simp only [Act.put, List.setIfInBounds_toArray, List.set_cons_zero, List.set_cons_succ]
      refine ord_q (o := ?o_30) (v := ?v_30) ?ho_30 ?hw_30 ?hq_30 ?_
      case ho_30 => simp only [List.getElem?_toArray, List.getElem?_cons_succ, List.getElem?_cons_zero]; rfl
      case hw_30 => rfl
      case hq_30 =>
        intro W1 hW1
        obtain ⟨hcw, hfw⟩ := bcell hW1
        go_simp
        first | rfl
      simp only [Act.put, List.setIfInBounds_toArray, List.set_cons_zero, List.set_cons_succ]
      refine ord_q (o := ?o_31) (v := ?v_31) ?ho_31 ?hw_31 ?hq_31 ?_
      case ho_31 => simp only [List.getElem?_toArray, List.getElem?_cons_succ, List.getElem?_cons_zero]; rfl
      case hw_31 => rfl
      case hq_31 =>
        intro W1 hW1
        obtain ⟨hcw, hfw⟩ := bcell hW1
        go_simp
        first | rfl
      simp only [Act.put, List.setIfInBounds_toArray, List.set_cons_zero, List.set_cons_succ]
      refine ord_q (o := ?o_32) (v := ?v_32) ?ho_32 ?hw_32 ?hq_32 ?_
      case ho_32 => simp only [List.getElem?_toArray, List.getElem?_cons_succ, List.getElem?_cons_zero]; rfl
      case hw_32 => rfl
      case hq_32 =>
        intro W1 hW1
        obtain ⟨hcw, hfw⟩ := bcell hW1
        go_simp
        first | rfl
      simp only [Act.put, List.setIfInBounds_toArray, List.set_cons_zero, List.set_cons_succ]
      refine ord_q (o := ?o_33) (v := ?v_33) ?ho_33 ?hw_33 ?hq_33 ?_
      case ho_33 => simp only [List.getElem?_toArray, List.getElem?_cons_succ, List.getElem?_cons_zero]; rfl
      case hw_33 => rfl
      case hq_33 =>
        intro W1 hW1
        obtain ⟨hcw, hfw⟩ := bcell hW1
        go_simp
        first | rfl
      simp only [Act.put, List.setIfInBounds_toArray, List.set_cons_zero, List.set_cons_succ]
      refine ord_q (o := ?o_34) (v := ?v_34) ?ho_34 ?hw_34 ?hq_34 ?_
      case ho_34 => simp only [List.getElem?_toArray, List.getElem?_cons_succ, List.getElem?_cons_zero]; rfl
      case hw_34 => rfl
      case hq_34 =>
        intro W1 hW1
        obtain ⟨hcw, hfw⟩ := bcell hW1
        go_simp
        first | rfl
      simp only [Act.put, List.setIfInBounds_toArray, List.set_cons_zero, List.set_cons_succ]
      refine ord_alloc (o := ?o_35) (z := #[.int .i64 0, .int .i64 0]) (t := 34) (Nat.le_refl _) ?ho_35 ?hw_35 ?hr_35 (fun b2_0 hb2_0 hdb2_0 => ?_)
      case ho_35 => simp only [List.getElem?_toArray, List.getElem?_cons_succ, List.getElem?_cons_zero]; rfl
      case hw_35 => rfl
      case hr_35 => intro W1; go_simp
      simp only [Act.put, List.setIfInBounds_toArray, List.set_cons_zero, List.set_cons_succ]
      refine ord_store2 (o := ?o_36) (b := b2_0) (u0 := .int .i64 0) (u1 := .int .i64 0) (t := 34) (.int .i64 (X)) (.int .i64 (Y)) ?ho_36 ?hw_36 hb2_0 (by simp) ?hr_36 ?_
      case ho_36 => simp only [List.getElem?_toArray, List.getElem?_cons_succ, List.getElem?_cons_zero]; rfl
      case hw_36 => rfl
      case hr_36 =>
        intro W1 hcs hfs
        obtain ⟨hs0, hs1⟩ := hcs
        have hg0 := hfs 0
        have hg1 := hfs 1
        go_simp
      simp only [Act.put]
      intro w2 hw2
      have hb2 := hw2.below
      obtain ⟨hBb2_0, hhb2_0⟩ := hw2.blk (b2_0, #[.int .i64 (X), .int .i64 (Y)], 34) (by simp [putBlk])
      have hzb2_0 := lt_of_blk hhb2_0
      have qb2_0_0 : w2.cell? ⟨b2_0, 0, none⟩ = some (.int .i64 (X)) := cell_of_blk hhb2_0 0
      have rb2_0_0 : w2.frozen? ⟨b2_0, 0, none⟩ = false := frozen_of_blk hhb2_0 0
      have qb2_0_1 : w2.cell? ⟨b2_0, 1, none⟩ = some (.int .i64 (Y)) := cell_of_blk hhb2_0 1
      have rb2_0_1 : w2.frozen? ⟨b2_0, 1, none⟩ = false := frozen_of_blk hhb2_0 1
      clear hhb2_0
      clear hw2
      obtain ⟨hc2, hf2⟩ := bcell hb2
      go_wp2_with (go_at_call 68; refine (areEntries_any _ _ _ 2 (fun i => if i = 0 then X else Y) _ (by omega) (by intro i hi; rcases (show i = 0 ∨ i = 1 by omega) with rfl | rfl <;> simp [qb2_0_0, qb2_0_1])).mono ?_; rw [allB2, HE.out]; rintro e w' ⟨rfl, rfl⟩)
      have hB2 : Below w.heap.size w w2 := bfin (by go_grown) hb2
      go_wp2_with fail
      have hall := And.intro hc1 (And.intro hc2 (And.intro hz0 (hzb2_0)))
      refine bodyPost_ret (v := .tuple #[(.agg #[.int .i64 X, .int .i64 Y]), (.int .i64 0)]) (by first | (simp [results, Tryz.results72, go_sem]; done) | (simp [results, Tryz.results72, go_sem, hall] <;> rfl)) rfl ⟨rfl, by go_grown⟩
  · have hs1 : 0 < q := by omega
    have hz : (q == 0) = false := by simpa using hq
    rw [show coSign p q = 1 by unfold coSign; rw [if_neg (by omega)]]
    rw [show 1 * p = p.tdiv 1 by rw [Int.tdiv_one]; omega, show 1 * q = q.tdiv 1 by rw [Int.tdiv_one]; omega]
    have b1 : -4000000000000000000 ≤ p.tdiv 1 ∧ p.tdiv 1 ≤ 4000000000000000000 := by rw [Int.tdiv_one]; omega
    have b2 : -4000000000000000000 ≤ q.tdiv 1 ∧ q.tdiv 1 ≤ 4000000000000000000 := by rw [Int.tdiv_one]; omega
    have wr1 : IntKind.i64.wrap (p.tdiv 1) = p.tdiv 1 := IntWalk.i64_in _ (by omega)
    have wr2 : IntKind.i64.wrap (q.tdiv 1) = q.tdiv 1 := IntWalk.i64_in _ (by omega)
    generalize hX : p.tdiv 1 = X at *
    generalize hY : q.tdiv 1 = Y at *
    cases he : (entB X && entB Y)
    · have HE := Lib.hid he
      simp only [Bool.false_eq_true, if_false]
      clear he
      go_enter Tryz.func72, Tryz.ntmps72
      go_wp2_with fail
      refine (HD.out _).mono ?_; rintro e w1 ⟨rfl, hb1⟩
      obtain ⟨hc1, hf1⟩ := bcell hb1
      have hz0 : w.heap.size < w1.heap.size := by have := hb1.size; (try simp at this); omega
      go_wp2_with fail
      have hB1 : Below w.heap.size w w1 := bfin (by go_grown) hb1
      refine wp_region_ord [(0, false), (1, false), (2, false), (3, false), (4, false), (5, false), (6, false), (7, true), (8, true)] (by kernel_rfl) (by kernel_rfl) ?_
      refine ord_q (o := ?o_37) (v := ?v_37) ?ho_37 ?hw_37 ?hq_37 ?_
      case ho_37 => simp only [List.getElem?_toArray, List.getElem?_cons_zero]; rfl
      case hw_37 => rfl
      case hq_37 =>
        intro W1 hW1
        obtain ⟨hcw, hfw⟩ := bcell hW1
        go_simp
        first | rfl
      simp only [Act.put, List.setIfInBounds_toArray, List.set_cons_zero, List.set_cons_succ]
      refine ord_q (o := ?o_38) (v := ?v_38) ?ho_38 ?hw_38 ?hq_38 ?_
      case ho_38 => simp only [List.getElem?_toArray, List.getElem?_cons_succ, List.getElem?_cons_zero]; rfl
      case hw_38 => rfl
      case hq_38 =>
        intro W1 hW1
        obtain ⟨hcw, hfw⟩ := bcell hW1
        go_simp
        first | rfl
      simp only [Act.put, List.setIfInBounds_toArray, List.set_cons_zero, List.set_cons_succ]
      refine ord_q (o := ?o_39) (v := ?v_39) ?ho_39 ?hw_39 ?hq_39 ?_
      case ho_39 => simp only [List.getElem?_toArray, List.getElem?_cons_succ, List.getElem?_cons_zero]; rfl
      case hw_39 => rfl
      case hq_39 =>
        intro W1 hW1
        obtain ⟨hcw, hfw⟩ := bcell hW1
        go_simp
        first | rfl
      simp only [Act.put, List.setIfInBounds_toArray, List.set_cons_zero, List.set_cons_succ]
      refine ord_q (o := ?o_40) (v := ?v_40) ?ho_40 ?hw_40 ?hq_40 ?_
      case ho_40 => simp only [List.getElem?_toArray, List.getElem?_cons_succ, List.getElem?_cons_zero]; rfl
      case hw_40 => rfl
      case hq_40 =>
        intro W1 hW1
        obtain ⟨hcw, hfw⟩ := bcell hW1
        go_simp
        first | rfl
      simp only [Act.put, List.setIfInBounds_toArray, List.set_cons_zero, List.set_cons_succ]
      refine ord_q (o := ?o_41) (v := ?v_41) ?ho_41 ?hw_41 ?hq_41 ?_
      case ho_41 => simp only [List.getElem?_toArray, List.getElem?_cons_succ, List.getElem?_cons_zero]; rfl
      case hw_41 => rfl
      case hq_41 =>
        intro W1 hW1
        obtain ⟨hcw, hfw⟩ := bcell hW1
        go_simp
        first | rfl
      simp only [Act.put, List.setIfInBounds_toArray, List.set_cons_zero, List.set_cons_succ]
      refine ord_q (o := ?o_42) (v := ?v_42) ?ho_42 ?hw_42 ?hq_42 ?_
      case ho_42 => simp only [List.getElem?_toArray, List.getElem?_cons_succ, List.getElem?_cons_zero]; rfl
      case hw_42 => rfl
      case hq_42 =>
        intro W1 hW1
        obtain ⟨hcw, hfw⟩ := bcell hW1
        go_simp
        first | rfl
      simp only [Act.put, List.setIfInBounds_toArray, List.set_cons_zero, List.set_cons_succ]
      refine ord_q (o := ?o_43) (v := ?v_43) ?ho_43 ?hw_43 ?hq_43 ?_
      case ho_43 => simp only [List.getElem?_toArray, List.getElem?_cons_succ, List.getElem?_cons_zero]; rfl
      case hw_43 => rfl
      case hq_43 =>
        intro W1 hW1
        obtain ⟨hcw, hfw⟩ := bcell hW1
        go_simp
        first | rfl
      simp only [Act.put, List.setIfInBounds_toArray, List.set_cons_zero, List.set_cons_succ]
      refine ord_alloc (o := ?o_44) (z := #[.int .i64 0, .int .i64 0]) (t := 34) (Nat.le_refl _) ?ho_44 ?hw_44 ?hr_44 (fun b2_0 hb2_0 hdb2_0 => ?_)
      case ho_44 => simp only [List.getElem?_toArray, List.getElem?_cons_succ, List.getElem?_cons_zero]; rfl
      case hw_44 => rfl
      case hr_44 => intro W1; go_simp
      simp only [Act.put, List.setIfInBounds_toArray, List.set_cons_zero, List.set_cons_succ]
      refine ord_store2 (o := ?o_45) (b := b2_0) (u0 := .int .i64 0) (u1 := .int .i64 0) (t := 34) (.int .i64 (X)) (.int .i64 (Y)) ?ho_45 ?hw_45 hb2_0 (by simp) ?hr_45 ?_
      case ho_45 => simp only [List.getElem?_toArray, List.getElem?_cons_succ, List.getElem?_cons_zero]; rfl
      case hw_45 => rfl
      case hr_45 =>
        intro W1 hcs hfs
        obtain ⟨hs0, hs1⟩ := hcs
        have hg0 := hfs 0
        have hg1 := hfs 1
        go_simp
      simp only [Act.put]
      intro w2 hw2
      have hb2 := hw2.below
      obtain ⟨hBb2_0, hhb2_0⟩ := hw2.blk (b2_0, #[.int .i64 (X), .int .i64 (Y)], 34) (by simp [putBlk])
      have hzb2_0 := lt_of_blk hhb2_0
      have qb2_0_0 : w2.cell? ⟨b2_0, 0, none⟩ = some (.int .i64 (X)) := cell_of_blk hhb2_0 0
      have rb2_0_0 : w2.frozen? ⟨b2_0, 0, none⟩ = false := frozen_of_blk hhb2_0 0
      have qb2_0_1 : w2.cell? ⟨b2_0, 1, none⟩ = some (.int .i64 (Y)) := cell_of_blk hhb2_0 1
      have rb2_0_1 : w2.frozen? ⟨b2_0, 1, none⟩ = false := frozen_of_blk hhb2_0 1
      clear hhb2_0
      clear hw2
      obtain ⟨hc2, hf2⟩ := bcell hb2
      go_wp2_with (go_at_call 68; refine (areEntries_any _ _ _ 2 (fun i => if i = 0 then X else Y) _ (by omega) (by intro i hi; rcases (show i = 0 ∨ i = 1 by omega) with rfl | rfl <;> simp [qb2_0_0, qb2_0_1])).mono ?_; rw [allB2, HE.out]; rintro e w' ⟨rfl, rfl⟩)
      have hB2 : Below w.heap.size w w2 := bfin (by go_grown) hb2
      go_wp2_with fail
      have hall := And.intro hc1 (And.intro hc2 (And.intro hz0 (hzb2_0)))
      refine bodyPost_ret (v := .tuple #[(.agg #[.int .i64 0, .int .i64 0]), (.int .i64 3)]) (by first | (simp [results, Tryz.results72, go_sem]; done) | (simp [results, Tryz.results72, go_sem, hall] <;> rfl)) rfl ⟨rfl, by go_grown⟩
    · have HE := Lib.hid he
      simp only [if_true]
      clear he
      go_enter Tryz.func72, Tryz.ntmps72
      go_wp2_with fail
      refine (HD.out _).mono ?_; rintro e w1 ⟨rfl, hb1⟩
      obtain ⟨hc1, hf1⟩ := bcell hb1
      have hz0 : w.heap.size < w1.heap.size := by have := hb1.size; (try simp at this); omega
      go_wp2_with fail
      have hB1 : Below w.heap.size w w1 := bfin (by go_grown) hb1
      refine wp_region_ord [(0, false), (1, false), (2, false), (3, false), (4, false), (5, false), (6, false), (7, true), (8, true)] (by kernel_rfl) (by kernel_rfl) ?_
      refine ord_q (o := ?o_46) (v := ?v_46) ?ho_46 ?hw_46 ?hq_46 ?_
      case ho_46 => simp only [List.getElem?_toArray, List.getElem?_cons_zero]; rfl
      case hw_46 => rfl
      case hq_46 =>
        intro W1 hW1
        obtain ⟨hcw, hfw⟩ := bcell hW1
        go_simp
        first | rfl
      simp only [Act.put, List.setIfInBounds_toArray, List.set_cons_zero, List.set_cons_succ]
      refine ord_q (o := ?o_47) (v := ?v_47) ?ho_47 ?hw_47 ?hq_47 ?_
      case ho_47 => simp only [List.getElem?_toArray, List.getElem?_cons_succ, List.getElem?_cons_zero]; rfl
      case hw_47 => rfl
      case hq_47 =>
        intro W1 hW1
        obtain ⟨hcw, hfw⟩ := bcell hW1
        go_simp
        first | rfl
      simp only [Act.put, List.setIfInBounds_toArray, List.set_cons_zero, List.set_cons_succ]
      refine ord_q (o := ?o_48) (v := ?v_48) ?ho_48 ?hw_48 ?hq_48 ?_
      case ho_48 => simp only [List.getElem?_toArray, List.getElem?_cons_succ, List.getElem?_cons_zero]; rfl
      case hw_48 => rfl
      case hq_48 =>
        intro W1 hW1
        obtain ⟨hcw, hfw⟩ := bcell hW1
        go_simp
        first | rfl
      simp only [Act.put, List.setIfInBounds_toArray, List.set_cons_zero, List.set_cons_succ]
      refine ord_q (o := ?o_49) (v := ?v_49) ?ho_49 ?hw_49 ?hq_49 ?_
      case ho_49 => simp only [List.getElem?_toArray, List.getElem?_cons_succ, List.getElem?_cons_zero]; rfl
      case hw_49 => rfl
      case hq_49 =>
        intro W1 hW1
        obtain ⟨hcw, hfw⟩ := bcell hW1
        go_simp
        first | rfl
      simp only [Act.put, List.setIfInBounds_toArray, List.set_cons_zero, List.set_cons_succ]
      refine ord_q (o := ?o_50) (v := ?v_50) ?ho_50 ?hw_50 ?hq_50 ?_
      case ho_50 => simp only [List.getElem?_toArray, List.getElem?_cons_succ, List.getElem?_cons_zero]; rfl
      case hw_50 => rfl
      case hq_50 =>
        intro W1 hW1
        obtain ⟨hcw, hfw⟩ := bcell hW1
        go_simp
        first | rfl
      simp only [Act.put, List.setIfInBounds_toArray, List.set_cons_zero, List.set_cons_succ]
      refine ord_q (o := ?o_51) (v := ?v_51) ?ho_51 ?hw_51 ?hq_51 ?_
      case ho_51 => simp only [List.getElem?_toArray, List.getElem?_cons_succ, List.getElem?_cons_zero]; rfl
      case hw_51 => rfl
      case hq_51 =>
        intro W1 hW1
        obtain ⟨hcw, hfw⟩ := bcell hW1
        go_simp
        first | rfl
      simp only [Act.put, List.setIfInBounds_toArray, List.set_cons_zero, List.set_cons_succ]
      refine ord_q (o := ?o_52) (v := ?v_52) ?ho_52 ?hw_52 ?hq_52 ?_
      case ho_52 => simp only [List.getElem?_toArray, List.getElem?_cons_succ, List.getElem?_cons_zero]; rfl
      case hw_52 => rfl
      case hq_52 =>
        intro W1 hW1
        obtain ⟨hcw, hfw⟩ := bcell hW1
        go_simp
        first | rfl
      simp only [Act.put, List.setIfInBounds_toArray, List.set_cons_zero, List.set_cons_succ]
      refine ord_alloc (o := ?o_53) (z := #[.int .i64 0, .int .i64 0]) (t := 34) (Nat.le_refl _) ?ho_53 ?hw_53 ?hr_53 (fun b2_0 hb2_0 hdb2_0 => ?_)
      case ho_53 => simp only [List.getElem?_toArray, List.getElem?_cons_succ, List.getElem?_cons_zero]; rfl
      case hw_53 => rfl
      case hr_53 => intro W1; go_simp
      simp only [Act.put, List.setIfInBounds_toArray, List.set_cons_zero, List.set_cons_succ]
      refine ord_store2 (o := ?o_54) (b := b2_0) (u0 := .int .i64 0) (u1 := .int .i64 0) (t := 34) (.int .i64 (X)) (.int .i64 (Y)) ?ho_54 ?hw_54 hb2_0 (by simp) ?hr_54 ?_
      case ho_54 => simp only [List.getElem?_toArray, List.getElem?_cons_succ, List.getElem?_cons_zero]; rfl
      case hw_54 => rfl
      case hr_54 =>
        intro W1 hcs hfs
        obtain ⟨hs0, hs1⟩ := hcs
        have hg0 := hfs 0
        have hg1 := hfs 1
        go_simp
      simp only [Act.put]
      intro w2 hw2
      have hb2 := hw2.below
      obtain ⟨hBb2_0, hhb2_0⟩ := hw2.blk (b2_0, #[.int .i64 (X), .int .i64 (Y)], 34) (by simp [putBlk])
      have hzb2_0 := lt_of_blk hhb2_0
      have qb2_0_0 : w2.cell? ⟨b2_0, 0, none⟩ = some (.int .i64 (X)) := cell_of_blk hhb2_0 0
      have rb2_0_0 : w2.frozen? ⟨b2_0, 0, none⟩ = false := frozen_of_blk hhb2_0 0
      have qb2_0_1 : w2.cell? ⟨b2_0, 1, none⟩ = some (.int .i64 (Y)) := cell_of_blk hhb2_0 1
      have rb2_0_1 : w2.frozen? ⟨b2_0, 1, none⟩ = false := frozen_of_blk hhb2_0 1
      clear hhb2_0
      clear hw2
      obtain ⟨hc2, hf2⟩ := bcell hb2
      go_wp2_with (go_at_call 68; refine (areEntries_any _ _ _ 2 (fun i => if i = 0 then X else Y) _ (by omega) (by intro i hi; rcases (show i = 0 ∨ i = 1 by omega) with rfl | rfl <;> simp [qb2_0_0, qb2_0_1])).mono ?_; rw [allB2, HE.out]; rintro e w' ⟨rfl, rfl⟩)
      have hB2 : Below w.heap.size w w2 := bfin (by go_grown) hb2
      go_wp2_with fail
      have hall := And.intro hc1 (And.intro hc2 (And.intro hz0 (hzb2_0)))
      refine bodyPost_ret (v := .tuple #[(.agg #[.int .i64 X, .int .i64 Y]), (.int .i64 0)]) (by first | (simp [results, Tryz.results72, go_sem]; done) | (simp [results, Tryz.results72, go_sem, hall] <;> rfl)) rfl ⟨rfl, by go_grown⟩
end Go.Proofs.YtjnkogkpdbgohaaGreatDoor
