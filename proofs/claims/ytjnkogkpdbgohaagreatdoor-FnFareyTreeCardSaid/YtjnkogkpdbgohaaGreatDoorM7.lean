/- Contracts: mediants, comparison, neighbours by the model. -/
import Derived.Test.YtjnkogkpdbgohaaGreatDoorM3
import Derived.Test.YtjnkogkpdbgohaaGreatDoorC32
namespace Go.Proofs.YtjnkogkpdbgohaaGreatDoor
open Go.RowKit
theorem fracRes_20 : fracRes 2 0 = ((1, 0), 0) := by decide +kernel
set_option maxRecDepth 100000 in
set_option maxHeartbeats 1000000 in
theorem fraction_20 (w : World) :
    Calls Tryz.prog 72 #[(.int .i64 2), (.int .i64 0)] w fun e w' => e = .returned (.tuple #[(.agg #[.int .i64 1, .int .i64 0]), (.int .i64 0)]) ∧ Below w.heap.size w w' := by
  have HD := Lib.hid (fun W => divisor_any 2 0 W (by omega) (by omega) (by omega) (by omega))
  rw [show (Int.gcd 2 0 : Int) = 2 by decide +kernel] at HD
  have HE := Lib.hid (show (entB 1 && entB 0) = true by decide +kernel)
  have wr1 : IntKind.i64.wrap 1 = 1 := IntWalk.i64_in _ (by omega)
  have wr0 : IntKind.i64.wrap 0 = 0 := IntWalk.i64_in _ (by omega)
  go_enter Tryz.func72, Tryz.ntmps72
  go_wp2_with fail
  refine (HD.out _).mono ?_; rintro e w1 ⟨rfl, hb1⟩
  obtain ⟨hc1, hf1⟩ := bcell hb1
  have hz0 : w.heap.size < w1.heap.size := by have := hb1.size; (try simp at this); omega
  go_wp2_with fail
  have hB1 : Below w.heap.size w w1 := bfin (by go_grown) hb1
  refine wp_region_ord [(0, false), (1, false), (2, false), (3, false), (4, false), (5, false), (6, false), (7, true), (8, true)] (by kernel_rfl) (by kernel_rfl) ?_
  refine ord_q (o := ?o_1) (v := ?v_1) ?ho_1 ?hw_1 ?hq_1 ?_
  case ho_1 => simp only [List.getElem?_toArray, List.getElem?_cons_zero]; rfl
  case hw_1 => rfl
  case hq_1 =>
    intro W1 hW1
    obtain ⟨hcw, hfw⟩ := bcell hW1
    go_simp
    first | rfl
  simp only [Act.put, List.setIfInBounds_toArray, List.set_cons_zero, List.set_cons_succ]
  refine ord_q (o := ?o_2) (v := ?v_2) ?ho_2 ?hw_2 ?hq_2 ?_
  case ho_2 => simp only [List.getElem?_toArray, List.getElem?_cons_succ, List.getElem?_cons_zero]; rfl
  case hw_2 => rfl
  case hq_2 =>
    intro W1 hW1
    obtain ⟨hcw, hfw⟩ := bcell hW1
    go_simp
    first | rfl
  simp only [Act.put, List.setIfInBounds_toArray, List.set_cons_zero, List.set_cons_succ]
  refine ord_q (o := ?o_3) (v := ?v_3) ?ho_3 ?hw_3 ?hq_3 ?_
  case ho_3 => simp only [List.getElem?_toArray, List.getElem?_cons_succ, List.getElem?_cons_zero]; rfl
  case hw_3 => rfl
  case hq_3 =>
    intro W1 hW1
    obtain ⟨hcw, hfw⟩ := bcell hW1
    go_simp
    first | rfl
  simp only [Act.put, List.setIfInBounds_toArray, List.set_cons_zero, List.set_cons_succ]
  refine ord_q (o := ?o_4) (v := ?v_4) ?ho_4 ?hw_4 ?hq_4 ?_
  case ho_4 => simp only [List.getElem?_toArray, List.getElem?_cons_succ, List.getElem?_cons_zero]; rfl
  case hw_4 => rfl
  case hq_4 =>
    intro W1 hW1
    obtain ⟨hcw, hfw⟩ := bcell hW1
    go_simp
    first | rfl
  simp only [Act.put, List.setIfInBounds_toArray, List.set_cons_zero, List.set_cons_succ]
  refine ord_q (o := ?o_5) (v := ?v_5) ?ho_5 ?hw_5 ?hq_5 ?_
  case ho_5 => simp only [List.getElem?_toArray, List.getElem?_cons_succ, List.getElem?_cons_zero]; rfl
  case hw_5 => rfl
  case hq_5 =>
    intro W1 hW1
    obtain ⟨hcw, hfw⟩ := bcell hW1
    go_simp
    first | rfl
  simp only [Act.put, List.setIfInBounds_toArray, List.set_cons_zero, List.set_cons_succ]
  refine ord_q (o := ?o_6) (v := ?v_6) ?ho_6 ?hw_6 ?hq_6 ?_
  case ho_6 => simp only [List.getElem?_toArray, List.getElem?_cons_succ, List.getElem?_cons_zero]; rfl
  case hw_6 => rfl
  case hq_6 =>
    intro W1 hW1
    obtain ⟨hcw, hfw⟩ := bcell hW1
    go_simp
    first | rfl
  simp only [Act.put, List.setIfInBounds_toArray, List.set_cons_zero, List.set_cons_succ]
  refine ord_q (o := ?o_7) (v := ?v_7) ?ho_7 ?hw_7 ?hq_7 ?_
  case ho_7 => simp only [List.getElem?_toArray, List.getElem?_cons_succ, List.getElem?_cons_zero]; rfl
  case hw_7 => rfl
  case hq_7 =>
    intro W1 hW1
    obtain ⟨hcw, hfw⟩ := bcell hW1
    go_simp
    first | rfl
  simp only [Act.put, List.setIfInBounds_toArray, List.set_cons_zero, List.set_cons_succ]
  refine ord_alloc (o := ?o_8) (z := #[.int .i64 0, .int .i64 0]) (t := 34) (Nat.le_refl _) ?ho_8 ?hw_8 ?hr_8 (fun b2_0 hb2_0 hdb2_0 => ?_)
  case ho_8 => simp only [List.getElem?_toArray, List.getElem?_cons_succ, List.getElem?_cons_zero]; rfl
  case hw_8 => rfl
  case hr_8 => intro W1; go_simp
  simp only [Act.put, List.setIfInBounds_toArray, List.set_cons_zero, List.set_cons_succ]
  refine ord_store2 (o := ?o_9) (b := b2_0) (u0 := .int .i64 0) (u1 := .int .i64 0) (t := 34) (.int .i64 (1)) (.int .i64 (0)) ?ho_9 ?hw_9 hb2_0 (by simp) ?hr_9 ?_
  case ho_9 => simp only [List.getElem?_toArray, List.getElem?_cons_succ, List.getElem?_cons_zero]; rfl
  case hw_9 => rfl
  case hr_9 =>
    intro W1 hcs hfs
    obtain ⟨hs0, hs1⟩ := hcs
    have hg0 := hfs 0
    have hg1 := hfs 1
    go_simp
  simp only [Act.put]
  intro w2 hw2
  have hb2 := hw2.below
  obtain ⟨hBb2_0, hhb2_0⟩ := hw2.blk (b2_0, #[.int .i64 (1), .int .i64 (0)], 34) (by simp [putBlk])
  have hzb2_0 := lt_of_blk hhb2_0
  have qb2_0_0 : w2.cell? ⟨b2_0, 0, none⟩ = some (.int .i64 (1)) := cell_of_blk hhb2_0 0
  have rb2_0_0 : w2.frozen? ⟨b2_0, 0, none⟩ = false := frozen_of_blk hhb2_0 0
  have qb2_0_1 : w2.cell? ⟨b2_0, 1, none⟩ = some (.int .i64 (0)) := cell_of_blk hhb2_0 1
  have rb2_0_1 : w2.frozen? ⟨b2_0, 1, none⟩ = false := frozen_of_blk hhb2_0 1
  clear hhb2_0
  clear hw2
  obtain ⟨hc2, hf2⟩ := bcell hb2
  go_wp2_with (go_at_call 68; refine (areEntries_any _ _ _ 2 (fun i => if i = 0 then 1 else 0) _ (by omega) (by intro i hi; rcases (show i = 0 ∨ i = 1 by omega) with rfl | rfl <;> simp [qb2_0_0, qb2_0_1])).mono ?_; rw [allB2, HE.out]; rintro e w' ⟨rfl, rfl⟩)
  have hB2 : Below w.heap.size w w2 := bfin (by go_grown) hb2
  go_wp2_with fail
  have hall := And.intro hc1 (And.intro hc2 (And.intro hz0 (hzb2_0)))
  refine bodyPost_ret (v := .tuple #[(.agg #[.int .i64 1, .int .i64 0]), (.int .i64 0)]) (by first | (simp [results, Tryz.results72, go_sem]; done) | (simp [results, Tryz.results72, go_sem, hall] <;> rfl)) rfl ⟨rfl, by go_grown⟩
/-- What is asked of two numbers that make a fraction. -/
def Mk2 (p q : Int) : Prop := (0 < q ∧ q ≤ 4000000000000000000 ∧ -4000000000000000000 ≤ p ∧ p ≤ 4000000000000000000) ∨ (p = 2 ∧ q = 0)
theorem fraction_mk (p q : Int) (w : World) (h : Mk2 p q) :
    Calls Tryz.prog 72 #[(.int .i64 p), (.int .i64 q)] w fun e w' => e = .returned (.tuple #[(.agg #[.int .i64 ((fracRes p q).1.1), .int .i64 ((fracRes p q).1.2)]), (.int .i64 ((fracRes p q).2))]) ∧ Below w.heap.size w w' := by
  rcases h with ⟨h1, h2, h3, h4⟩ | ⟨rfl, rfl⟩
  · exact fraction_any p q w h1 h2 h3 h4
  · rw [fracRes_20]; exact fraction_20 w
theorem l01Reduced_20 (w : World) :
    Calls Tryz.prog 64 #[(.int .i64 2), (.int .i64 0)] w fun e w' => e = .returned (.agg #[.int .i64 1, .int .i64 0]) ∧ Below w.heap.size w w' := by
  have HD := Lib.hid (fun W => l01Gcd_any 2 0 W (by omega) (by omega) (by omega) (by omega))
  rw [show (Int.gcd 2 0 : Int) = 2 by decide +kernel] at HD
  go_enter Tryz.func64, Tryz.ntmps64
  go_wp2_with fail
  refine (HD.out _).mono ?_; rintro e w1 ⟨rfl, hb1⟩
  obtain ⟨hc1, hf1⟩ := bcell hb1
  have hz0 : w.heap.size < w1.heap.size := by have := hb1.size; (try simp at this); omega
  go_wp2_with fail
  refine wp_region_ext_tail 7 (by kernel_rfl) (by kernel_rfl) ?_
  simp only [List.take_succ_cons, List.take_zero, List.drop_succ_cons, List.drop_zero]
  repeat (go_big_quiet_step (fail))
  refine wpQuiet_nil ?_
  intro w2 hb2
  replace hb2 := bstep hb1 hb2
  clear hc1 hf1 hb1
  obtain ⟨hc2, hf2⟩ := bcell hb2
  have hz0 : w.heap.size < w2.heap.size := by have := hb2.size; (try simp at this); omega
  have hB2 : Below w.heap.size w w2 := bfin (by go_grown) hb2
  go_wp2_with fail
  have hall := And.intro hc2 (hz0)
  refine bodyPost_ret (v := (.agg #[.int .i64 1, .int .i64 0])) (by first | (simp [results, Tryz.results64, go_sem]; done) | (simp [results, Tryz.results64, go_sem, hall] <;> rfl)) rfl ⟨rfl, by go_grown⟩
theorem l01Reduced_mk (p q : Int) (w : World) (h : Mk2 p q) :
    Calls Tryz.prog 64 #[(.int .i64 p), (.int .i64 q)] w fun e w' => e = .returned (.agg #[.int .i64 (fx p q), .int .i64 (fy p q)]) ∧ Below w.heap.size w w' := by
  rcases h with ⟨h1, h2, h3, h4⟩ | ⟨rfl, rfl⟩
  · exact l01Reduced_any p q w h1 h2 h3 h4
  · rw [show fx 2 0 = 1 by decide +kernel, show fy 2 0 = 0 by decide +kernel]; exact l01Reduced_20 w
structure MedIn (a b c d : Int) : Prop where
  two : Mk2 (a + c) (b + d)
  a : -2000000000000000000 ≤ a ∧ a ≤ 2000000000000000000
  b : 0 ≤ b ∧ b ≤ 2000000000000000000
  c : -2000000000000000000 ≤ c ∧ c ≤ 2000000000000000000
  d : 0 ≤ d ∧ d ≤ 2000000000000000000
theorem medIn {a b c d : Int} (h : isFrac a b = true) (h' : isFrac c d = true) : MedIn a b c d := by
  obtain ⟨⟨a0, a1⟩, ⟨b0, b1⟩, -, h3⟩ := isFrac_iff.1 h
  obtain ⟨⟨c0, c1⟩, ⟨d0, d1⟩, -, h4⟩ := isFrac_iff.1 h'
  refine ⟨?_, by omega, by omega, by omega, by omega⟩
  unfold Mk2
  omega
set_option maxRecDepth 100000 in
theorem mediant_any (a b c d : Int) (w : World) (h : MedIn a b c d) :
    Calls Tryz.prog 48 #[(.agg #[.int .i64 a, .int .i64 b]), (.agg #[.int .i64 c, .int .i64 d])] w fun e w' => e = .returned (.tuple #[(.agg #[.int .i64 ((fracRes (a + c) (b + d)).1.1), .int .i64 ((fracRes (a + c) (b + d)).1.2)]), (.int .i64 ((fracRes (a + c) (b + d)).2))]) ∧ Below w.heap.size w w' := by
  obtain ⟨hm, ⟨a0, a1⟩, ⟨b0, b1⟩, ⟨c0, c1⟩, ⟨d0, d1⟩⟩ := h
  have HQ := Lib.hid (fun W => fraction_mk (a + c) (b + d) W hm)
  generalize fracRes (a + c) (b + d) = R at *
  obtain ⟨⟨x, y⟩, k⟩ := R
  simp only at HQ
  go_enter Tryz.func48, Tryz.ntmps48
  go_wp2_with fail
  refine (HQ.out _).mono ?_; rintro e w1 ⟨rfl, hb1⟩
  obtain ⟨hc1, hf1⟩ := bcell hb1
  obtain ⟨hz0, hz1, hz2⟩ : w.heap.size < w1.heap.size ∧ w.heap.size + 1 < w1.heap.size ∧ w.heap.size + 1 + 1 < w1.heap.size := by have := hb1.size; (try simp at this); omega
  have hB1 : Below w.heap.size w w1 := bfin (by go_grown) hb1
  go_wp2_with fail
  have hall := And.intro hc1 (And.intro hz0 (And.intro hz1 (hz2)))
  refine bodyPost_ret (v := .tuple #[(.agg #[.int .i64 x, .int .i64 y]), (.int .i64 k)]) (by first | (simp [results, Tryz.results48, go_sem]; done) | (simp [results, Tryz.results48, go_sem, hall] <;> rfl)) rfl ⟨rfl, by go_grown⟩
set_option maxRecDepth 100000 in
theorem l03Mediant_any (a b c d : Int) (w : World) (h : MedIn a b c d) :
    Calls Tryz.prog 54 #[(.agg #[.int .i64 a, .int .i64 b]), (.agg #[.int .i64 c, .int .i64 d])] w fun e w' => e = .returned (.agg #[.int .i64 (fx (a + c) (b + d)), .int .i64 (fy (a + c) (b + d))]) ∧ Below w.heap.size w w' := by
  obtain ⟨hm, ⟨a0, a1⟩, ⟨b0, b1⟩, ⟨c0, c1⟩, ⟨d0, d1⟩⟩ := h
  have HQ := Lib.hid (fun W => l01Reduced_mk (a + c) (b + d) W hm)
  generalize fx (a + c) (b + d) = x at *
  generalize fy (a + c) (b + d) = y at *
  go_enter Tryz.func54, Tryz.ntmps54
  go_wp2_with fail
  refine (HQ.out _).mono ?_; rintro e w1 ⟨rfl, hb1⟩
  obtain ⟨hc1, hf1⟩ := bcell hb1
  obtain ⟨hz0, hz1, hz2⟩ : w.heap.size < w1.heap.size ∧ w.heap.size + 1 < w1.heap.size ∧ w.heap.size + 1 + 1 < w1.heap.size := by have := hb1.size; (try simp at this); omega
  have hB1 : Below w.heap.size w w1 := bfin (by go_grown) hb1
  go_wp2_with fail
  have hall := And.intro hc1 (And.intro hz0 (And.intro hz1 (hz2)))
  refine bodyPost_ret (v := (.agg #[.int .i64 x, .int .i64 y])) (by first | (simp [results, Tryz.results54, go_sem]; done) | (simp [results, Tryz.results54, go_sem, hall] <;> rfl)) rfl ⟨rfl, by go_grown⟩
def mdRes (a b c d : Int) : (Int × Int) × Int := if (isFrac a b && isFrac c d) = true then fracRes (a + c) (b + d) else ((0, 0), 1)
set_option maxRecDepth 100000 in
set_option maxHeartbeats 1000000 in
theorem MediantOf_any (a b c d : Int) (w : World) :
    Calls Tryz.prog 17 #[(.agg #[.int .i64 a, .int .i64 b]), (.agg #[.int .i64 c, .int .i64 d])] w fun e w' => e = .returned (.tuple #[(.agg #[.int .i64 ((mdRes a b c d).1.1), .int .i64 ((mdRes a b c d).1.2)]), (.int .i64 ((mdRes a b c d).2))]) ∧ Below w.heap.size w w' := by
  have HF := Lib.hid (fun bk W h => areFractions_2 bk a b c d W h)
  cases hf : (isFrac a b && isFrac c d)
  · rw [show mdRes a b c d = ((0, 0), 1) by simp [mdRes, hf]]
    rw [hf] at HF
    go_enter Tryz.func17, Tryz.ntmps17
    go_wp2_with fail
    refine (HF.out _ _ ⟨by go_simp, by go_simp, by go_simp, by go_simp, by simp⟩).mono ?_; rintro e w1 ⟨rfl, hb1⟩
    obtain ⟨hc1, hf1⟩ := bcell hb1
    obtain ⟨hz0, hz1, hz2⟩ : w.heap.size < w1.heap.size ∧ w.heap.size + 1 < w1.heap.size ∧ w.heap.size + 1 + 1 < w1.heap.size := by have := hb1.size; (try simp at this); omega
    have hB1 : Below w.heap.size w w1 := bfin (by go_grown) hb1
    go_wp2_with fail
    have hall := And.intro hc1 (And.intro hz0 (And.intro hz1 (hz2)))
    refine bodyPost_ret (v := .tuple #[(.agg #[.int .i64 0, .int .i64 0]), (.int .i64 1)]) (by first | (simp [results, Tryz.results17, go_sem]; done) | (simp [results, Tryz.results17, go_sem, hall] <;> rfl)) rfl ⟨rfl, by go_grown⟩
  · rw [show mdRes a b c d = fracRes (a + c) (b + d) by unfold mdRes; rw [if_pos hf]]
    rw [hf] at HF
    rw [Bool.and_eq_true] at hf
    have hc := medIn hf.1 hf.2
    have HQ := Lib.hid (fun W => mediant_any a b c d W hc)
    generalize fracRes (a + c) (b + d) = R at *
    obtain ⟨⟨x, y⟩, k⟩ := R
    simp only at HQ
    clear hc hf
    go_enter Tryz.func17, Tryz.ntmps17
    go_wp2_with fail
    refine (HF.out _ _ ⟨by go_simp, by go_simp, by go_simp, by go_simp, by simp⟩).mono ?_; rintro e w1 ⟨rfl, hb1⟩
    obtain ⟨hc1, hf1⟩ := bcell hb1
    obtain ⟨hz0, hz1, hz2⟩ : w.heap.size < w1.heap.size ∧ w.heap.size + 1 < w1.heap.size ∧ w.heap.size + 1 + 1 < w1.heap.size := by have := hb1.size; (try simp at this); omega
    have hB1 : Below w.heap.size w w1 := bfin (by go_grown) hb1
    go_wp2_with fail
    refine (HQ.out _).mono ?_; rintro e w2 ⟨rfl, hb2⟩
    obtain ⟨hc2, hf2⟩ := bcell hb2
    obtain ⟨hz2_0, hz2_1, hz2_2⟩ : w.heap.size < w2.heap.size ∧ w.heap.size + 1 < w2.heap.size ∧ w.heap.size + 1 + 1 < w2.heap.size := by have := hb2.size; (try simp at this); omega
    have hB2 : Below w.heap.size w w2 := bfin (by go_grown) hb2
    go_wp2_with fail
    have hall := And.intro hc1 (And.intro hc2 (And.intro hz0 (And.intro hz1 (And.intro hz2 (And.intro hz2_0 (And.intro hz2_1 (hz2_2)))))))
    refine bodyPost_ret (v := .tuple #[(.agg #[.int .i64 x, .int .i64 y]), (.int .i64 k)]) (by first | (simp [results, Tryz.results17, go_sem]; done) | (simp [results, Tryz.results17, go_sem, hall] <;> rfl)) rfl ⟨rfl, by go_grown⟩
set_option maxRecDepth 100000 in
set_option maxHeartbeats 1000000 in
theorem sMediantOf_any (a b c d : Int) (w : World) :
    Calls Tryz.prog 21 #[(.agg #[.int .i64 a, .int .i64 b]), (.agg #[.int .i64 c, .int .i64 d])] w fun e w' => e = .returned (.tuple #[(.agg #[.int .i64 ((mdRes a b c d).1.1), .int .i64 ((mdRes a b c d).1.2)]), (.int .i64 ((mdRes a b c d).2))]) ∧ Below w.heap.size w w' := by
  have HF := Lib.hid (fun W => l03Both_any a b c d W)
  cases hf : (isFrac a b && isFrac c d)
  · rw [show mdRes a b c d = ((0, 0), 1) by simp [mdRes, hf]]
    rw [show bothC a b c d = 1 by simp [bothC, hf]] at HF
    go_enter Tryz.func21, Tryz.ntmps21
    go_wp2_with fail
    refine (HF.out _).mono ?_; rintro e w1 ⟨rfl, hb1⟩
    obtain ⟨hc1, hf1⟩ := bcell hb1
    obtain ⟨hz0, hz1, hz2⟩ : w.heap.size < w1.heap.size ∧ w.heap.size + 1 < w1.heap.size ∧ w.heap.size + 1 + 1 < w1.heap.size := by have := hb1.size; (try simp at this); omega
    have hB1 : Below w.heap.size w w1 := bfin (by go_grown) hb1
    go_wp2_with fail
    have hall := And.intro hc1 (And.intro hz0 (And.intro hz1 (hz2)))
    refine bodyPost_ret (v := .tuple #[(.agg #[.int .i64 0, .int .i64 0]), (.int .i64 1)]) (by first | (simp [results, Tryz.results21, go_sem]; done) | (simp [results, Tryz.results21, go_sem, hall] <;> rfl)) rfl ⟨rfl, by go_grown⟩
  · rw [show mdRes a b c d = fracRes (a + c) (b + d) by unfold mdRes; rw [if_pos hf]]
    rw [show bothC a b c d = 0 by simp [bothC, hf]] at HF
    rw [Bool.and_eq_true] at hf
    have hc := medIn hf.1 hf.2
    have HQ := Lib.hid (fun W => l03Mediant_any a b c d W hc)
    unfold fracRes
    generalize fx (a + c) (b + d) = x at *
    generalize fy (a + c) (b + d) = y at *
    have H1 := Lib.hid (fun W => l01Entry_any x W)
    have H2 := Lib.hid (fun W => l01Entry_any y W)
    clear hc hf
    cases hx : entB x
    · rw [hx] at H1
      simp only [Bool.false_and, Bool.false_eq_true, if_false]
      clear hx
      go_enter Tryz.func21, Tryz.ntmps21
      go_wp2_with fail
      refine (HF.out _).mono ?_; rintro e w1 ⟨rfl, hb1⟩
      obtain ⟨hc1, hf1⟩ := bcell hb1
      obtain ⟨hz0, hz1, hz2⟩ : w.heap.size < w1.heap.size ∧ w.heap.size + 1 < w1.heap.size ∧ w.heap.size + 1 + 1 < w1.heap.size := by have := hb1.size; (try simp at this); omega
      have hB1 : Below w.heap.size w w1 := bfin (by go_grown) hb1
      go_wp2_with fail
      refine (HQ.out _).mono ?_; rintro e w2 ⟨rfl, hb2⟩
      obtain ⟨hc2, hf2⟩ := bcell hb2
      obtain ⟨hz2_0, hz2_1, hz2_2⟩ : w.heap.size < w2.heap.size ∧ w.heap.size + 1 < w2.heap.size ∧ w.heap.size + 1 + 1 < w2.heap.size := by have := hb2.size; (try simp at this); omega
      go_wp2_with fail
      refine (H1.out _).mono ?_; rintro e w' ⟨rfl, rfl⟩
      have hB2 : Below w.heap.size w w2 := bfin (by go_grown) hb2
      go_wp2_with fail
      have hall := And.intro hc1 (And.intro hc2 (And.intro hz0 (And.intro hz1 (And.intro hz2 (And.intro hz2_0 (And.intro hz2_1 (hz2_2)))))))
      refine bodyPost_ret (v := .tuple #[(.agg #[.int .i64 0, .int .i64 0]), (.int .i64 3)]) (by first | (simp [results, Tryz.results21, go_sem]; done) | (simp [results, Tryz.results21, go_sem, hall] <;> rfl)) rfl ⟨rfl, by go_grown⟩
    · rw [hx] at H1
      cases hy : entB y
      · rw [hy] at H2
        simp only [Bool.and_false, Bool.false_eq_true, if_false]
        clear hx hy
        go_enter Tryz.func21, Tryz.ntmps21
        go_wp2_with fail
        refine (HF.out _).mono ?_; rintro e w1 ⟨rfl, hb1⟩
        obtain ⟨hc1, hf1⟩ := bcell hb1
        obtain ⟨hz0, hz1, hz2⟩ : w.heap.size < w1.heap.size ∧ w.heap.size + 1 < w1.heap.size ∧ w.heap.size + 1 + 1 < w1.heap.size := by have := hb1.size; (try simp at this); omega
        have hB1 : Below w.heap.size w w1 := bfin (by go_grown) hb1
        go_wp2_with fail
        refine (HQ.out _).mono ?_; rintro e w2 ⟨rfl, hb2⟩
        obtain ⟨hc2, hf2⟩ := bcell hb2
        obtain ⟨hz2_0, hz2_1, hz2_2⟩ : w.heap.size < w2.heap.size ∧ w.heap.size + 1 < w2.heap.size ∧ w.heap.size + 1 + 1 < w2.heap.size := by have := hb2.size; (try simp at this); omega
        go_wp2_with fail
        refine (H1.out _).mono ?_; rintro e w' ⟨rfl, rfl⟩
        go_wp2_with fail
        refine (H2.out _).mono ?_; rintro e w' ⟨rfl, rfl⟩
        have hB2 : Below w.heap.size w w2 := bfin (by go_grown) hb2
        go_wp2_with fail
        have hall := And.intro hc1 (And.intro hc2 (And.intro hz0 (And.intro hz1 (And.intro hz2 (And.intro hz2_0 (And.intro hz2_1 (hz2_2)))))))
        refine bodyPost_ret (v := .tuple #[(.agg #[.int .i64 0, .int .i64 0]), (.int .i64 3)]) (by first | (simp [results, Tryz.results21, go_sem]; done) | (simp [results, Tryz.results21, go_sem, hall] <;> rfl)) rfl ⟨rfl, by go_grown⟩
      · rw [hy] at H2
        simp only [Bool.and_self, if_true]
        clear hx hy
        go_enter Tryz.func21, Tryz.ntmps21
        go_wp2_with fail
        refine (HF.out _).mono ?_; rintro e w1 ⟨rfl, hb1⟩
        obtain ⟨hc1, hf1⟩ := bcell hb1
        obtain ⟨hz0, hz1, hz2⟩ : w.heap.size < w1.heap.size ∧ w.heap.size + 1 < w1.heap.size ∧ w.heap.size + 1 + 1 < w1.heap.size := by have := hb1.size; (try simp at this); omega
        have hB1 : Below w.heap.size w w1 := bfin (by go_grown) hb1
        go_wp2_with fail
        refine (HQ.out _).mono ?_; rintro e w2 ⟨rfl, hb2⟩
        obtain ⟨hc2, hf2⟩ := bcell hb2
        obtain ⟨hz2_0, hz2_1, hz2_2⟩ : w.heap.size < w2.heap.size ∧ w.heap.size + 1 < w2.heap.size ∧ w.heap.size + 1 + 1 < w2.heap.size := by have := hb2.size; (try simp at this); omega
        go_wp2_with fail
        refine (H1.out _).mono ?_; rintro e w' ⟨rfl, rfl⟩
        go_wp2_with fail
        refine (H2.out _).mono ?_; rintro e w' ⟨rfl, rfl⟩
        have hB2 : Below w.heap.size w w2 := bfin (by go_grown) hb2
        go_wp2_with fail
        have hall := And.intro hc1 (And.intro hc2 (And.intro hz0 (And.intro hz1 (And.intro hz2 (And.intro hz2_0 (And.intro hz2_1 (hz2_2)))))))
        refine bodyPost_ret (v := .tuple #[(.agg #[.int .i64 x, .int .i64 y]), (.int .i64 0)]) (by first | (simp [results, Tryz.results21, go_sem]; done) | (simp [results, Tryz.results21, go_sem, hall] <;> rfl)) rfl ⟨rfl, by go_grown⟩
set_option maxRecDepth 100000 in
theorem sAreNeighbours_any (a b c d : Int) (w : World) :
    Calls Tryz.prog 22 #[(.agg #[.int .i64 a, .int .i64 b]), (.agg #[.int .i64 c, .int .i64 d])] w fun e w' => e = .returned (.tuple #[.bool (nearRes a b c d).1, (.int .i64 ((nearRes a b c d).2))]) ∧ Below w.heap.size w w' := by
  have HF := Lib.hid (fun W => l03Both_any a b c d W)
  cases hf : (isFrac a b && isFrac c d)
  · rw [show nearRes a b c d = (false, 1) by simp [nearRes, hf]]
    rw [show bothC a b c d = 1 by simp [bothC, hf]] at HF
    go_enter Tryz.func22, Tryz.ntmps22
    go_wp2_with fail
    refine (HF.out _).mono ?_; rintro e w1 ⟨rfl, hb1⟩
    obtain ⟨hc1, hf1⟩ := bcell hb1
    have hB1 : Below w.heap.size w w1 := bfin (by go_grown) hb1
    go_wp2_with fail
    go_ret2
    exact ⟨rfl, by go_grown⟩
  · rw [show nearRes a b c d = (nearB a b c d, 0) by simp [nearRes, hf]]
    rw [show bothC a b c d = 0 by simp [bothC, hf]] at HF
    rw [Bool.and_eq_true] at hf
    have hc := crBd hf.1 hf.2
    have HC := Lib.hid (fun W => l03Near_any a b c d W hc)
    generalize nearB a b c d = B at *
    clear hc hf
    go_enter Tryz.func22, Tryz.ntmps22
    go_wp2_with fail
    refine (HF.out _).mono ?_; rintro e w1 ⟨rfl, hb1⟩
    obtain ⟨hc1, hf1⟩ := bcell hb1
    obtain ⟨hz1_0, hz1_1⟩ : w.heap.size < w1.heap.size ∧ w.heap.size + 1 < w1.heap.size := by have := hb1.size; (try simp at this); omega
    have hB1 : Below w.heap.size w w1 := bfin (by go_grown) hb1
    go_wp2_with fail
    refine (HC.out _).mono ?_; rintro e w2 ⟨rfl, hb2⟩
    obtain ⟨hc2, hf2⟩ := bcell hb2
    have hB2 : Below w.heap.size w w2 := bfin (by go_grown) hb2
    go_wp2_with fail
    go_ret2
    exact ⟨rfl, by go_grown⟩
def cmpRes (a b c d : Int) : Int × Int := if (isFrac a b && isFrac c d) = true then (sg (a * d - c * b), 0) else (0, 1)
set_option maxRecDepth 100000 in
theorem CompareFractions_any (a b c d : Int) (w : World) :
    Calls Tryz.prog 18 #[(.agg #[.int .i64 a, .int .i64 b]), (.agg #[.int .i64 c, .int .i64 d])] w fun e w' => e = .returned (.tuple #[(.int .i64 ((cmpRes a b c d).1)), (.int .i64 ((cmpRes a b c d).2))]) ∧ Below w.heap.size w w' := by
  have HF := Lib.hid (fun bk W h => areFractions_2 bk a b c d W h)
  cases hf : (isFrac a b && isFrac c d)
  · rw [show cmpRes a b c d = (0, 1) by simp [cmpRes, hf]]
    rw [hf] at HF
    go_enter Tryz.func18, Tryz.ntmps18
    go_wp2_with fail
    refine (HF.out _ _ ⟨by go_simp, by go_simp, by go_simp, by go_simp, by simp⟩).mono ?_; rintro e w1 ⟨rfl, hb1⟩
    obtain ⟨hc1, hf1⟩ := bcell hb1
    have hB1 : Below w.heap.size w w1 := bfin (by go_grown) hb1
    go_wp2_with fail
    go_ret2
    exact ⟨rfl, by go_grown⟩
  · rw [show cmpRes a b c d = (sg (a * d - c * b), 0) by simp [cmpRes, hf]]
    rw [hf] at HF
    rw [Bool.and_eq_true] at hf
    have hc := crBd hf.1 hf.2
    have HC := Lib.hid (fun W => compare_any a b c d W hc.x (by rw [Int.mul_comm]; exact hc.y))
    generalize sg (a * d - c * b) = X at *
    clear hc hf
    go_enter Tryz.func18, Tryz.ntmps18
    go_wp2_with fail
    refine (HF.out _ _ ⟨by go_simp, by go_simp, by go_simp, by go_simp, by simp⟩).mono ?_; rintro e w1 ⟨rfl, hb1⟩
    obtain ⟨hc1, hf1⟩ := bcell hb1
    obtain ⟨hz1_0, hz1_1⟩ : w.heap.size < w1.heap.size ∧ w.heap.size + 1 < w1.heap.size := by have := hb1.size; (try simp at this); omega
    have hB1 : Below w.heap.size w w1 := bfin (by go_grown) hb1
    go_wp2_with fail
    refine (HC.out _).mono ?_; rintro e w2 ⟨rfl, hb2⟩
    obtain ⟨hc2, hf2⟩ := bcell hb2
    have hB2 : Below w.heap.size w w2 := bfin (by go_grown) hb2
    go_wp2_with fail
    go_ret2
    exact ⟨rfl, by go_grown⟩
def tcRes (P Q : Int) : Int := if isFrac P Q = true then (if P ≤ 0 ∨ Q = 0 then 5 else if 10000 < P ∨ 10000 < Q then 3 else 0) else 1
set_option maxRecDepth 100000 in
theorem treeCode_any (P Q : Int) (w : World) :
    Calls Tryz.prog 44 #[(.agg #[.int .i64 P, .int .i64 Q])] w fun e w' => e = .returned (.int .i64 (tcRes P Q)) ∧ Below w.heap.size w w' := by
  have HF := Lib.hid (fun W => IsFraction_any P Q W)
  cases hf : isFrac P Q
  · rw [show tcRes P Q = 1 by simp [tcRes, hf]]
    rw [hf] at HF
    go_enter Tryz.func44, Tryz.ntmps44
    go_wp2_with fail
    refine (HF.out _).mono ?_; rintro e w1 ⟨rfl, hb1⟩
    obtain ⟨hc1, hf1⟩ := bcell hb1
    have hB1 : Below w.heap.size w w1 := bfin (by go_grown) hb1
    go_wp2_with fail
    go_ret
    exact ⟨rfl, by go_grown⟩
  rw [hf] at HF
  rw [show tcRes P Q = if P ≤ 0 ∨ Q = 0 then 5 else if 10000 < P ∨ 10000 < Q then 3 else 0 by simp [tcRes, hf]]
  obtain ⟨⟨a0, a1⟩, ⟨b0, b1⟩, -, -⟩ := isFrac_iff.1 hf
  clear hf
  by_cases h1 : P ≤ 0
  · rw [if_pos (.inl h1)]
    go_enter Tryz.func44, Tryz.ntmps44
    go_wp2_with fail
    refine (HF.out _).mono ?_; rintro e w1 ⟨rfl, hb1⟩
    obtain ⟨hc1, hf1⟩ := bcell hb1
    have hz1_0 : w.heap.size < w1.heap.size := by have := hb1.size; (try simp at this); omega
    have hB1 : Below w.heap.size w w1 := bfin (by go_grown) hb1
    go_wp2_with fail
    go_ret
    exact ⟨rfl, by go_grown⟩
  by_cases h2 : Q = 0
  · rw [if_pos (.inr h2)]
    subst h2
    go_enter Tryz.func44, Tryz.ntmps44
    go_wp2_with fail
    refine (HF.out _).mono ?_; rintro e w1 ⟨rfl, hb1⟩
    obtain ⟨hc1, hf1⟩ := bcell hb1
    have hz1_0 : w.heap.size < w1.heap.size := by have := hb1.size; (try simp at this); omega
    have hB1 : Below w.heap.size w w1 := bfin (by go_grown) hb1
    go_wp2_with fail
    go_ret
    exact ⟨rfl, by go_grown⟩
  have h2' : (Q == 0) = false := by simpa using h2
  rw [if_neg (by omega)]
  by_cases h3 : 10000 < P ∨ 10000 < Q
  · rw [if_pos h3]
    rcases Int.lt_or_le P Q with hPQ | hPQ
    · have h5 : ¬ Q ≤ P := by omega
      have h6 : 10000 < Q := by omega
      clear h3
      go_enter Tryz.func44, Tryz.ntmps44
      go_wp2_with fail
      refine (HF.out _).mono ?_; rintro e w1 ⟨rfl, hb1⟩
      obtain ⟨hc1, hf1⟩ := bcell hb1
      have hz1_0 : w.heap.size < w1.heap.size := by have := hb1.size; (try simp at this); omega
      have hB1 : Below w.heap.size w w1 := bfin (by go_grown) hb1
      go_wp2_with fail
      go_ret
      exact ⟨rfl, by go_grown⟩
    · have h6 : 10000 < P := by omega
      clear h3
      go_enter Tryz.func44, Tryz.ntmps44
      go_wp2_with fail
      refine (HF.out _).mono ?_; rintro e w1 ⟨rfl, hb1⟩
      obtain ⟨hc1, hf1⟩ := bcell hb1
      have hz1_0 : w.heap.size < w1.heap.size := by have := hb1.size; (try simp at this); omega
      have hB1 : Below w.heap.size w w1 := bfin (by go_grown) hb1
      go_wp2_with fail
      go_ret
      exact ⟨rfl, by go_grown⟩
  · rw [if_neg h3]
    have h6 : ¬ 10000 < Q := by omega
    have h7 : ¬ 10000 < P := by omega
    clear h3
    rcases Int.lt_or_le P Q with hPQ | hPQ
    · have h5 : ¬ Q ≤ P := by omega
      go_enter Tryz.func44, Tryz.ntmps44
      go_wp2_with fail
      refine (HF.out _).mono ?_; rintro e w1 ⟨rfl, hb1⟩
      obtain ⟨hc1, hf1⟩ := bcell hb1
      have hz1_0 : w.heap.size < w1.heap.size := by have := hb1.size; (try simp at this); omega
      have hB1 : Below w.heap.size w w1 := bfin (by go_grown) hb1
      go_wp2_with fail
      go_ret
      exact ⟨rfl, by go_grown⟩
    · skip
      go_enter Tryz.func44, Tryz.ntmps44
      go_wp2_with fail
      refine (HF.out _).mono ?_; rintro e w1 ⟨rfl, hb1⟩
      obtain ⟨hc1, hf1⟩ := bcell hb1
      have hz1_0 : w.heap.size < w1.heap.size := by have := hb1.size; (try simp at this); omega
      have hB1 : Below w.heap.size w w1 := bfin (by go_grown) hb1
      go_wp2_with fail
      go_ret
      exact ⟨rfl, by go_grown⟩
set_option maxRecDepth 100000 in
theorem l03Given_any (P Q : Int) (w : World) :
    Calls Tryz.prog 46 #[(.agg #[.int .i64 P, .int .i64 Q])] w fun e w' => e = .returned (.int .i64 (tcRes P Q)) ∧ Below w.heap.size w w' := by
  have HF := Lib.hid (fun W => l01Fraction_any P Q W)
  cases hf : isFrac P Q
  · rw [show tcRes P Q = 1 by simp [tcRes, hf]]
    rw [hf] at HF
    go_enter Tryz.func46, Tryz.ntmps46
    go_wp2_with fail
    refine (HF.out _).mono ?_; rintro e w1 ⟨rfl, hb1⟩
    obtain ⟨hc1, hf1⟩ := bcell hb1
    have hB1 : Below w.heap.size w w1 := bfin (by go_grown) hb1
    go_wp2_with fail
    go_ret
    exact ⟨rfl, by go_grown⟩
  rw [hf] at HF
  rw [show tcRes P Q = if P ≤ 0 ∨ Q = 0 then 5 else if 10000 < P ∨ 10000 < Q then 3 else 0 by simp [tcRes, hf]]
  obtain ⟨⟨a0, a1⟩, ⟨b0, b1⟩, -, -⟩ := isFrac_iff.1 hf
  clear hf
  by_cases h1 : P ≤ 0
  · rw [if_pos (.inl h1)]
    go_enter Tryz.func46, Tryz.ntmps46
    go_wp2_with fail
    refine (HF.out _).mono ?_; rintro e w1 ⟨rfl, hb1⟩
    obtain ⟨hc1, hf1⟩ := bcell hb1
    have hz1_0 : w.heap.size < w1.heap.size := by have := hb1.size; (try simp at this); omega
    have hB1 : Below w.heap.size w w1 := bfin (by go_grown) hb1
    go_wp2_with fail
    go_ret
    exact ⟨rfl, by go_grown⟩
  by_cases h2 : Q = 0
  · rw [if_pos (.inr h2)]
    subst h2
    go_enter Tryz.func46, Tryz.ntmps46
    go_wp2_with fail
    refine (HF.out _).mono ?_; rintro e w1 ⟨rfl, hb1⟩
    obtain ⟨hc1, hf1⟩ := bcell hb1
    have hz1_0 : w.heap.size < w1.heap.size := by have := hb1.size; (try simp at this); omega
    have hB1 : Below w.heap.size w w1 := bfin (by go_grown) hb1
    go_wp2_with fail
    go_ret
    exact ⟨rfl, by go_grown⟩
  have h2' : (Q == 0) = false := by simpa using h2
  rw [if_neg (by omega)]
  by_cases h3 : 10000 < P
  · rw [if_pos (.inl h3)]
    go_enter Tryz.func46, Tryz.ntmps46
    go_wp2_with fail
    refine (HF.out _).mono ?_; rintro e w1 ⟨rfl, hb1⟩
    obtain ⟨hc1, hf1⟩ := bcell hb1
    have hz1_0 : w.heap.size < w1.heap.size := by have := hb1.size; (try simp at this); omega
    have hB1 : Below w.heap.size w w1 := bfin (by go_grown) hb1
    go_wp2_with fail
    go_ret
    exact ⟨rfl, by go_grown⟩
  by_cases h4 : 10000 < Q
  · rw [if_pos (.inr h4)]
    go_enter Tryz.func46, Tryz.ntmps46
    go_wp2_with fail
    refine (HF.out _).mono ?_; rintro e w1 ⟨rfl, hb1⟩
    obtain ⟨hc1, hf1⟩ := bcell hb1
    have hz1_0 : w.heap.size < w1.heap.size := by have := hb1.size; (try simp at this); omega
    have hB1 : Below w.heap.size w w1 := bfin (by go_grown) hb1
    go_wp2_with fail
    go_ret
    exact ⟨rfl, by go_grown⟩
  · rw [if_neg (by omega)]
    go_enter Tryz.func46, Tryz.ntmps46
    go_wp2_with fail
    refine (HF.out _).mono ?_; rintro e w1 ⟨rfl, hb1⟩
    obtain ⟨hc1, hf1⟩ := bcell hb1
    have hz1_0 : w.heap.size < w1.heap.size := by have := hb1.size; (try simp at this); omega
    have hB1 : Below w.heap.size w w1 := bfin (by go_grown) hb1
    go_wp2_with fail
    go_ret
    exact ⟨rfl, by go_grown⟩
end Go.Proofs.YtjnkogkpdbgohaaGreatDoor
