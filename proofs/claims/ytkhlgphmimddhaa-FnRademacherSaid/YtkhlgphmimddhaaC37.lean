/- Contracts: the second number of a matrix; the law. -/
import Derived.Test.YtkhlgphmimddhaaC36
namespace Go.Proofs.Ytkhlgphmimddhaa
open Go.RowKit
theorem sg_bd (n : Int) : -1 ≤ sg n ∧ sg n ≤ 1 := by unfold sg; split <;> (try split) <;> omega
theorem firstV_bd {a b c d : Int} (h : IsMat a b c d) (hl : (c.natAbs : Int) ≤ 20000) : -1000000000000000000 ≤ firstV a b c d ∧ firstV a b c d ≤ 1000000000000000000 := by
  by_cases hc : c = 0
  · obtain ⟨_, _, b0, b1, _, _, d0, d1, _⟩ := h
    have := mul_bd (a := b) (b := d) (A := 1000000000) (B := 1000000000) b0 b1 d0 d1
    unfold firstV; rw [if_pos hc]; omega
  · have f := first_ok h hc hl
    have := sg_bd c
    have m := mul_bd (a := sg c) (b := (a + d - lZ d (c.natAbs : Int)).tdiv (c.natAbs : Int)) (A := 1) (B := 28000000000000) (by omega) (by omega) f.q0 f.q1
    unfold firstV; rw [if_neg hc]; omega
def secondRes (a b c d : Int) : Int × Int := if isMat a b c d = true then (if 20000 < (c.natAbs : Int) then (0, 3) else (firstV a b c d - 3 * sg c * sg (a + d), 0)) else (0, 1)
structure SgBd (s t : Int) : Prop where
  a0 : -1 ≤ s
  a1 : s ≤ 1
  b0 : -3 ≤ 3 * s * t
  b1 : 3 * s * t ≤ 3
theorem sgBd (m n : Int) : SgBd (sg m) (sg n) := by
  have h1 := sg_bd m
  have h2 := sg_bd n
  have := mul_bd (a := 3 * sg m) (b := sg n) (A := 3) (B := 1) (by omega) (by omega) (by omega) (by omega)
  exact ⟨h1.1, h1.2, by omega, by omega⟩
set_option maxRecDepth 100000 in
set_option maxHeartbeats 1000000 in
theorem SecondNumber_any (a b c d : Int) (w : World) :
    Calls Try.prog 28 #[(.agg #[.int .i64 a, .int .i64 b, .int .i64 c, .int .i64 d])] w fun e w' => e = .returned (.tuple #[(.int .i64 ((secondRes a b c d).1)), (.int .i64 ((secondRes a b c d).2))]) ∧ Below w.heap.size w w' := by
  cases hM : isMat a b c d
  · rw [show secondRes a b c d = (0, 1) by simp [secondRes, hM]]
    go_enter Try.func28, Try.ntmps28
    go_wp2_with fail
    refine (IsMatrix_any _ _ _ _ _).mono ?_; rintro e w1 ⟨rfl, hb1⟩
    obtain ⟨hc1, hf1⟩ := bcell hb1
    have hB1 : Below w.heap.size w w1 := bfin (by go_grown) hb1
    go_wp2_with fail
    refine bodyPost_ret (v := .tuple #[(.int .i64 0), (.int .i64 1)]) (by first | (simp [results, Try.results28, go_sem]; done) | (simp [results, Try.results28, go_sem, hc1] <;> rfl)) rfl ⟨rfl, by go_grown⟩
  have hm := isMat_iff.1 hM
  have HF := Lib.hid (fun W => firstNumber_any a b c d W hm)
  by_cases hl : 20000 < (c.natAbs : Int)
  · rw [show secondRes a b c d = (0, 3) by unfold secondRes; rw [if_pos hM, if_pos hl]]
    rw [show firstRes a b c d = (0, 3) by unfold firstRes; rw [if_pos hl]] at HF
    clear hl
    go_enter Try.func28, Try.ntmps28
    go_wp2_with fail
    refine (IsMatrix_any _ _ _ _ _).mono ?_; rintro e w1 ⟨rfl, hb1⟩
    obtain ⟨hc1, hf1⟩ := bcell hb1
    have hz0 : w.heap.size < w1.heap.size := by have := hb1.size; (try simp at this); omega
    go_wp2_with fail
    refine (HF.out _).mono ?_; rintro e w2 ⟨rfl, hb2⟩
    replace hb2 := bstep hb1 hb2
    clear hc1 hf1 hb1
    obtain ⟨hc2, hf2⟩ := bcell hb2
    have hz0 : w.heap.size < w2.heap.size := by have := hb2.size; (try simp at this); omega
    have hB2 : Below w.heap.size w w2 := bfin (by go_grown) hb2
    go_wp2_with fail
    have hall := And.intro hc2 (hz0)
    refine bodyPost_ret (v := .tuple #[(.int .i64 0), (.int .i64 3)]) (by first | (simp [results, Try.results28, go_sem]; done) | (simp [results, Try.results28, go_sem, hall] <;> rfl)) rfl ⟨rfl, by go_grown⟩
  · rw [show secondRes a b c d = (firstV a b c d - 3 * sg c * sg (a + d), 0) by unfold secondRes; rw [if_pos hM, if_neg hl]]
    rw [show firstRes a b c d = (firstV a b c d, 0) by unfold firstRes; rw [if_neg hl]] at HF
    obtain ⟨v0, v1⟩ := firstV_bd hm (by omega)
    have HT := Lib.hid (fun W => trace_any a b c d W hm)
    have HS1 := Lib.hid (fun W => sign_any c W)
    have HS2 := Lib.hid (fun W => sign_any (a + d) W)
    obtain ⟨g0, g1, g2, g3⟩ := sgBd c (a + d)
    generalize firstV a b c d = V at *
    generalize sg c = s at *
    generalize sg (a + d) = t at *
    clear hl
    go_enter Try.func28, Try.ntmps28
    go_wp2_with fail
    refine (IsMatrix_any _ _ _ _ _).mono ?_; rintro e w1 ⟨rfl, hb1⟩
    obtain ⟨hc1, hf1⟩ := bcell hb1
    have hz0 : w.heap.size < w1.heap.size := by have := hb1.size; (try simp at this); omega
    go_wp2_with fail
    refine (HF.out _).mono ?_; rintro e w2 ⟨rfl, hb2⟩
    replace hb2 := bstep hb1 hb2
    clear hc1 hf1 hb1
    obtain ⟨hc2, hf2⟩ := bcell hb2
    have hz0 : w.heap.size < w2.heap.size := by have := hb2.size; (try simp at this); omega
    go_wp2_with fail
    refine wp_region_ext (by kernel_rfl) (by kernel_rfl) ?_
    repeat (go_big_quiet_step (first | ((go_at_call 81; first | refine Calls.ext_same (HS1.out _) | refine Calls.ext_same (HS2.out _))) | ((go_at_call 82; refine Calls.ext_of (Nat.le_refl _) (HT.out _)))))
    refine wpQuiet_nil ?_
    intro w3 hb3
    replace hb3 := bstep hb2 hb3
    clear hc2 hf2 hb2
    obtain ⟨hc3, hf3⟩ := bcell hb3
    have hz0 : w.heap.size < w3.heap.size := by have := hb3.size; (try simp at this); omega
    have hB3 : Below w.heap.size w w3 := bfin (by go_grown) hb3
    go_wp2_with fail
    have hall := And.intro hc3 (hz0)
    refine bodyPost_ret (v := .tuple #[(.int .i64 (V - 3 * s * t)), (.int .i64 0)]) (by first | (simp [results, Try.results28, go_sem]; done) | (simp [results, Try.results28, go_sem, hall] <;> rfl)) rfl ⟨rfl, by go_grown⟩
set_option maxRecDepth 100000 in
set_option maxHeartbeats 1000000 in
theorem sSecondNumber_any (a b c d : Int) (w : World) :
    Calls Try.prog 27 #[(.agg #[.int .i64 a, .int .i64 b, .int .i64 c, .int .i64 d])] w fun e w' => e = .returned (.tuple #[(.int .i64 ((secondRes a b c d).1)), (.int .i64 ((secondRes a b c d).2))]) ∧ Below w.heap.size w w' := by
  have HG := Lib.hid (fun W => l07Given_any a b c d W)
  by_cases hg : isMat a b c d = true ∧ (c.natAbs : Int) ≤ 20000
  · rw [show secondRes a b c d = (firstV a b c d - 3 * sg c * sg (a + d), 0) by unfold secondRes; rw [if_pos hg.1, if_neg (by omega)]]
    rw [show givenF a b c d = 0 by unfold givenF; rw [if_pos hg.1, if_neg (by omega)]] at HG
    have hm := isMat_iff.1 hg.1
    have HF := Lib.hid (fun W => l07First_any a b c d W hm hg.2)
    obtain ⟨v0, v1⟩ := firstV_bd hm hg.2
    have HT := Lib.hid (fun W => l01Trace_any a b c d W hm)
    have HS1 := Lib.hid (fun W => l07Sign_any c W)
    have HS2 := Lib.hid (fun W => l07Sign_any (a + d) W)
    obtain ⟨a0, a1, b0, b1, c0, c1, d0, d1, _⟩ := id hm
    obtain ⟨g0, g1, g2, g3⟩ := sgBd c (a + d)
    generalize firstV a b c d = V at *
    generalize sg c = s at *
    generalize sg (a + d) = t at *
    clear hg
    go_enter Try.func27, Try.ntmps27
    go_wp2_with fail
    refine (HG.out _).mono ?_; rintro e w1 ⟨rfl, hb1⟩
    obtain ⟨hc1, hf1⟩ := bcell hb1
    have hz0 : w.heap.size < w1.heap.size := by have := hb1.size; (try simp at this); omega
    go_wp2_with fail
    refine wp_region_ext (by kernel_rfl) (by kernel_rfl) ?_
    repeat (go_big_quiet_step (first | ((go_at_call 76; refine Calls.ext_of (Nat.le_refl _) (HF.out _))) | ((go_at_call 79; first | refine Calls.ext_same (HS1.out _) | refine Calls.ext_same (HS2.out _))) | ((go_at_call 80; refine Calls.ext_of (Nat.le_refl _) (HT.out _)))))
    refine wpQuiet_nil ?_
    intro w2 hb2
    replace hb2 := bstep hb1 hb2
    clear hc1 hf1 hb1
    obtain ⟨hc2, hf2⟩ := bcell hb2
    have hz0 : w.heap.size < w2.heap.size := by have := hb2.size; (try simp at this); omega
    have hB2 : Below w.heap.size w w2 := bfin (by go_grown) hb2
    go_wp2_with fail
    have hall := And.intro hc2 (hz0)
    refine bodyPost_ret (v := .tuple #[(.int .i64 (V - 3 * s * t)), (.int .i64 0)]) (by first | (simp [results, Try.results27, go_sem]; done) | (simp [results, Try.results27, go_sem, hall] <;> rfl)) rfl ⟨rfl, by go_grown⟩
  · have e : secondRes a b c d = (0, givenF a b c d) ∧ givenF a b c d ≠ 0 := by
      unfold secondRes givenF
      by_cases hM : isMat a b c d = true
      · have hn : ¬ (c.natAbs : Int) ≤ 20000 := fun hh => hg ⟨hM, hh⟩
        rw [if_pos hM, if_pos hM, if_pos (by omega), if_pos (by omega)]; simp
      · rw [if_neg hM, if_neg hM]; simp
    obtain ⟨e, hn⟩ := e
    rw [e]
    clear e hg
    generalize givenF a b c d = G at *
    go_enter Try.func27, Try.ntmps27
    go_wp2_with fail
    refine (HG.out _).mono ?_; rintro e w1 ⟨rfl, hb1⟩
    obtain ⟨hc1, hf1⟩ := bcell hb1
    have hz0 : w.heap.size < w1.heap.size := by have := hb1.size; (try simp at this); omega
    have hB1 : Below w.heap.size w w1 := bfin (by go_grown) hb1
    go_wp2_with fail
    have hall := And.intro hc1 (hz0)
    refine bodyPost_ret (v := .tuple #[(.int .i64 0), (.int .i64 G)]) (by first | (simp [results, Try.results27, go_sem]; done) | (simp [results, Try.results27, go_sem, hall] <;> rfl)) rfl ⟨rfl, by go_grown⟩
theorem lawFnExactSecondNumber (a b c d : Int) (_ : I64 a) (_ : I64 b) (_ : I64 c) (_ : I64 d) (w : World) :
    Calls Try.prog 8 #[(.agg #[.int .i64 a, .int .i64 b, .int .i64 c, .int .i64 d])] w fun e w' => e = .returned (.bool true) ∧ Below w.heap.size w w' := by
  have HS := Lib.hid (sSecondNumber_any a b c d)
  have HI := Lib.hid (SecondNumber_any a b c d)
  generalize secondRes a b c d = R at HS HI
  obtain ⟨x, y⟩ := R
  have hn1 : (x != x) = false := by simp
  have hn2 : (y != y) = false := by simp
  go_enter Try.func8, Try.ntmps8
  go_wp2_with fail
  refine (toMatrix_any _ _ _ _ _).mono ?_; rintro e w1 ⟨rfl, hb1⟩
  obtain ⟨hc1, hf1⟩ := bcell hb1
  go_wp2_with fail
  refine (HS.out _).mono ?_; rintro e w2 ⟨rfl, hb2⟩
  replace hb2 := bstep hb1 hb2
  clear hc1 hf1 hb1
  obtain ⟨hc2, hf2⟩ := bcell hb2
  go_wp2_with fail
  refine (toMatrix_any _ _ _ _ _).mono ?_; rintro e w3 ⟨rfl, hb3⟩
  replace hb3 := bstep hb2 hb3
  clear hc2 hf2 hb2
  obtain ⟨hc3, hf3⟩ := bcell hb3
  go_wp2_with fail
  refine (HI.out _).mono ?_; rintro e w4 ⟨rfl, hb4⟩
  replace hb4 := bstep hb3 hb4
  clear hc3 hf3 hb3
  obtain ⟨hc4, hf4⟩ := bcell hb4
  have hB4 : Below w.heap.size w w4 := bfin (by go_grown) hb4
  go_wp2_with fail
  go_ret
  exact ⟨rfl, by go_grown⟩
end Go.Proofs.Ytkhlgphmimddhaa
