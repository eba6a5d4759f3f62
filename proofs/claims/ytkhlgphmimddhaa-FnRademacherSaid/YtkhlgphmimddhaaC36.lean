/- Contracts: the first number, as the specification counts it; the law. -/
import Derived.Test.YtkhlgphmimddhaaC35
namespace Go.Proofs.Ytkhlgphmimddhaa
open Go.RowKit
def givenF (a b c d : Int) : Int := if isMat a b c d = true then (if 20000 < (c.natAbs : Int) then 3 else 0) else 1
set_option maxHeartbeats 1000000 in
theorem l07Given_any (a b c d : Int) (w : World) :
    Calls Try.prog 75 #[(.agg #[.int .i64 a, .int .i64 b, .int .i64 c, .int .i64 d])] w fun e w' => e = .returned (.int .i64 (givenF a b c d)) ∧ Below w.heap.size w w' := by
  cases hM : isMat a b c d
  · rw [show givenF a b c d = 1 by simp [givenF, hM]]
    go_enter Try.func75, Try.ntmps75
    go_wp2_with fail
    refine (l01Is_any _ _ _ _ _).mono ?_; rintro e w1 ⟨rfl, hb1⟩
    obtain ⟨hc1, hf1⟩ := bcell hb1
    have hB1 : Below w.heap.size w w1 := bfin (by go_grown) hb1
    go_wp2_with fail
    go_ret
    exact ⟨rfl, by go_grown⟩
  have hm := isMat_iff.1 hM
  obtain ⟨a0, a1, b0, b1, c0, c1, d0, d1, _⟩ := id hm
  have e : givenF a b c d = if 20000 < (c.natAbs : Int) then 3 else 0 := by simp [givenF, hM]
  rw [e]
  clear e
  have hq : (c < 0 ∧ 20000 < -c ∧ 20000 < (c.natAbs : Int)) ∨ (c < 0 ∧ -c ≤ 20000 ∧ ¬ 20000 < (c.natAbs : Int)) ∨ (0 ≤ c ∧ 20000 < c ∧ 20000 < (c.natAbs : Int)) ∨ (0 ≤ c ∧ c ≤ 20000 ∧ ¬ 20000 < (c.natAbs : Int)) := by omega
  rcases hq with ⟨h1, h2, h3⟩ | ⟨h1, h2, h3⟩ | ⟨h1, h2, h3⟩ | ⟨h1, h2, h3⟩
  · rw [if_pos h3]
    clear h3
    go_enter Try.func75, Try.ntmps75
    go_wp2_with fail
    refine (l01Is_any _ _ _ _ _).mono ?_; rintro e w1 ⟨rfl, hb1⟩
    obtain ⟨hc1, hf1⟩ := bcell hb1
    have hz0 : w.heap.size < w1.heap.size := by have := hb1.size; (try simp at this); omega
    have hB1 : Below w.heap.size w w1 := bfin (by go_grown) hb1
    go_wp2_with fail
    go_ret
    exact ⟨rfl, by go_grown⟩
  · rw [if_neg h3]
    clear h3
    go_enter Try.func75, Try.ntmps75
    go_wp2_with fail
    refine (l01Is_any _ _ _ _ _).mono ?_; rintro e w1 ⟨rfl, hb1⟩
    obtain ⟨hc1, hf1⟩ := bcell hb1
    have hz0 : w.heap.size < w1.heap.size := by have := hb1.size; (try simp at this); omega
    have hB1 : Below w.heap.size w w1 := bfin (by go_grown) hb1
    go_wp2_with fail
    go_ret
    exact ⟨rfl, by go_grown⟩
  · rw [if_pos h3]
    clear h3
    go_enter Try.func75, Try.ntmps75
    go_wp2_with fail
    refine (l01Is_any _ _ _ _ _).mono ?_; rintro e w1 ⟨rfl, hb1⟩
    obtain ⟨hc1, hf1⟩ := bcell hb1
    have hz0 : w.heap.size < w1.heap.size := by have := hb1.size; (try simp at this); omega
    have hB1 : Below w.heap.size w w1 := bfin (by go_grown) hb1
    go_wp2_with fail
    go_ret
    exact ⟨rfl, by go_grown⟩
  · rw [if_neg h3]
    clear h3
    go_enter Try.func75, Try.ntmps75
    go_wp2_with fail
    refine (l01Is_any _ _ _ _ _).mono ?_; rintro e w1 ⟨rfl, hb1⟩
    obtain ⟨hc1, hf1⟩ := bcell hb1
    have hz0 : w.heap.size < w1.heap.size := by have := hb1.size; (try simp at this); omega
    have hB1 : Below w.heap.size w w1 := bfin (by go_grown) hb1
    go_wp2_with fail
    go_ret
    exact ⟨rfl, by go_grown⟩
set_option maxRecDepth 100000 in
set_option maxHeartbeats 1000000 in
theorem l07First_any (a b c d : Int) (w : World) (h : IsMat a b c d) (hl : (c.natAbs : Int) ≤ 20000) :
    Calls Try.prog 76 #[(.agg #[.int .i64 a, .int .i64 b, .int .i64 c, .int .i64 d])] w fun e w' => e = .returned (.int .i64 (firstV a b c d)) ∧ Below w.heap.size w w' := by
  have ⟨a0, a1, b0, b1, c0, c1, d0, d1, hdet⟩ := h
  have HT := Lib.hid (fun W => l01Trace_any a b c d W h)
  by_cases hc : c = 0
  · subst hc
    have hm := mul_bd (a := b) (b := d) (A := 1000000000) (B := 1000000000) b0 b1 d0 d1
    rw [show firstV a b 0 d = b * d by simp [firstV]]
    obtain ⟨hm0, hm1⟩ := hm
    clear hl hdet
    go_enter Try.func76, Try.ntmps76
    go_wp2_with fail
    go_ret
    exact ⟨rfl, by go_grown⟩
  · obtain ⟨f0, f1, l0, l1, -, -, -, -, -, q0, q1, e2⟩ := first_ok h hc hl
    have HF := Lib.hid (fun W => l07Sum_all _ d (c.natAbs : Int) W (Nat.le_refl _) (by omega) hl (det_gcd hdet))
    have HS := Lib.hid (fun W => l07Sign_any c W)
    have hsg : sg c = 1 ∨ sg c = -1 := by unfold sg; split <;> (try split) <;> omega
    rw [show firstV a b c d = sg c * (a + d - lZ d (c.natAbs : Int)).tdiv (c.natAbs : Int) by simp [firstV, hc], ← e2]
    have hke : (c < 0 ∧ (c.natAbs : Int) = -c) ∨ (0 < c ∧ (c.natAbs : Int) = c) := by omega
    have hk0 : 0 < (c.natAbs : Int) := by omega
    clear e2 q0 q1 f0 f1 hdet
    generalize lZ d (c.natAbs : Int) = L at *
    generalize sg c = s at *
    generalize (c.natAbs : Int) = k at *
    have hq : -28000000000000 ≤ s * (a + d - L) ∧ s * (a + d - L) ≤ 28000000000000 := by rcases hsg with rfl | rfl <;> omega
    have hq2 := tdiv_bd (b := k) hq.1 hq.2
    obtain ⟨sq0, sq1⟩ := hq
    obtain ⟨sq2, sq3⟩ := hq2
    clear hsg
    rcases hke with ⟨hc1, rfl⟩ | ⟨hc1, rfl⟩
    · have kn : c ≠ 0 := by omega
      rw [Int.tdiv_neg] at sq2 sq3 ⊢
      go_enter Try.func76, Try.ntmps76
      go_wp2_with fail
      refine wp_region_ext (by kernel_rfl) (by kernel_rfl) ?_
      repeat (go_big_quiet_step (first | ((go_at_call 79; refine Calls.ext_same (HS.out _))) | ((go_at_call 80; refine Calls.ext_of (Nat.le_refl _) (HT.out _))) | ((go_at_call 65; refine Calls.ext_same (HF.out _)))))
      refine wpQuiet_nil ?_
      intro w1 hb1
      obtain ⟨hc1, hf1⟩ := bcell hb1
      have hB1 : Below w.heap.size w w1 := bfin (by go_grown) hb1
      go_wp2_with fail
      go_ret
      exact ⟨rfl, by go_grown⟩
    · have kn : k ≠ 0 := by omega
      go_enter Try.func76, Try.ntmps76
      go_wp2_with fail
      refine wp_region_ext (by kernel_rfl) (by kernel_rfl) ?_
      repeat (go_big_quiet_step (first | ((go_at_call 79; refine Calls.ext_same (HS.out _))) | ((go_at_call 80; refine Calls.ext_of (Nat.le_refl _) (HT.out _))) | ((go_at_call 65; refine Calls.ext_same (HF.out _)))))
      refine wpQuiet_nil ?_
      intro w1 hb1
      obtain ⟨hc1, hf1⟩ := bcell hb1
      have hB1 : Below w.heap.size w w1 := bfin (by go_grown) hb1
      go_wp2_with fail
      go_ret
      exact ⟨rfl, by go_grown⟩
def firstAll (a b c d : Int) : Int × Int := if isMat a b c d = true then firstRes a b c d else (0, 1)
theorem FirstNumber_any (a b c d : Int) (w : World) :
    Calls Try.prog 26 #[(.agg #[.int .i64 a, .int .i64 b, .int .i64 c, .int .i64 d])] w fun e w' => e = .returned (.tuple #[(.int .i64 ((firstAll a b c d).1)), (.int .i64 ((firstAll a b c d).2))]) ∧ Below w.heap.size w w' := by
  cases hM : isMat a b c d
  · rw [show firstAll a b c d = (0, 1) by simp [firstAll, hM]]
    go_enter Try.func26, Try.ntmps26
    go_wp2_with fail
    refine (IsMatrix_any _ _ _ _ _).mono ?_; rintro e w1 ⟨rfl, hb1⟩
    obtain ⟨hc1, hf1⟩ := bcell hb1
    have hB1 : Below w.heap.size w w1 := bfin (by go_grown) hb1
    go_wp2_with fail
    refine bodyPost_ret (v := .tuple #[(.int .i64 0), (.int .i64 1)]) (by first | (simp [results, Try.results26, go_sem]; done) | (simp [results, Try.results26, go_sem, hc1] <;> rfl)) rfl ⟨rfl, by go_grown⟩
  · rw [show firstAll a b c d = firstRes a b c d by simp [firstAll, hM]]
    have HF := Lib.hid (fun W => firstNumber_any a b c d W (isMat_iff.1 hM))
    generalize firstRes a b c d = R at *
    obtain ⟨x, y⟩ := R
    go_enter Try.func26, Try.ntmps26
    go_wp2_with fail
    refine (IsMatrix_any _ _ _ _ _).mono ?_; rintro e w1 ⟨rfl, hb1⟩
    obtain ⟨hc1, hf1⟩ := bcell hb1
    have hz0 : w.heap.size < w1.heap.size := by have := hb1.size; (try simp at this); omega
    go_wp2_with fail
    refine (HF.out _).mono ?_; rintro e w2 ⟨rfl, hb2⟩
    replace hb2 := bstep hb1 hb2
    clear hc1 hf1 hb1
    obtain ⟨hc2, hf2⟩ := bcell hb2
    have hz0 : w.heap.size < w2.heap.size := by have := hb2.size; (try simp at this); omega
    have hB2 : Below w.heap.size w w2 := bfin (by go_grown) hb2
    go_wp2_with fail
    have hall := And.intro hc2 (hz0)
    refine bodyPost_ret (v := .tuple #[(.int .i64 x), (.int .i64 y)]) (by first | (simp [results, Try.results26, go_sem]; done) | (simp [results, Try.results26, go_sem, hall] <;> rfl)) rfl ⟨rfl, by go_grown⟩
theorem sFirstNumber_any (a b c d : Int) (w : World) :
    Calls Try.prog 24 #[(.agg #[.int .i64 a, .int .i64 b, .int .i64 c, .int .i64 d])] w fun e w' => e = .returned (.tuple #[(.int .i64 ((firstAll a b c d).1)), (.int .i64 ((firstAll a b c d).2))]) ∧ Below w.heap.size w w' := by
  have HG := Lib.hid (fun W => l07Given_any a b c d W)
  by_cases hg : isMat a b c d = true ∧ (c.natAbs : Int) ≤ 20000
  · rw [show firstAll a b c d = (firstV a b c d, 0) by unfold firstAll firstRes; rw [if_pos hg.1, if_neg (by omega)]]
    rw [show givenF a b c d = 0 by unfold givenF; rw [if_pos hg.1, if_neg (by omega)]] at HG
    have HF := Lib.hid (fun W => l07First_any a b c d W (isMat_iff.1 hg.1) hg.2)
    clear hg
    generalize firstV a b c d = V at *
    go_enter Try.func24, Try.ntmps24
    go_wp2_with fail
    refine (HG.out _).mono ?_; rintro e w1 ⟨rfl, hb1⟩
    obtain ⟨hc1, hf1⟩ := bcell hb1
    have hz0 : w.heap.size < w1.heap.size := by have := hb1.size; (try simp at this); omega
    go_wp2_with fail
    refine (HF.out _).mono ?_; rintro e w2 ⟨rfl, hb2⟩
    replace hb2 := bstep hb1 hb2
    clear hc1 hf1 hb1
    obtain ⟨hc2, hf2⟩ := bcell hb2
    have hz0 : w.heap.size < w2.heap.size := by have := hb2.size; (try simp at this); omega
    have hB2 : Below w.heap.size w w2 := bfin (by go_grown) hb2
    go_wp2_with fail
    have hall := And.intro hc2 (hz0)
    refine bodyPost_ret (v := .tuple #[(.int .i64 V), (.int .i64 0)]) (by first | (simp [results, Try.results24, go_sem]; done) | (simp [results, Try.results24, go_sem, hall] <;> rfl)) rfl ⟨rfl, by go_grown⟩
  · have e : firstAll a b c d = (0, givenF a b c d) ∧ givenF a b c d ≠ 0 := by
      unfold firstAll firstRes givenF
      by_cases hM : isMat a b c d = true
      · have hn : ¬ (c.natAbs : Int) ≤ 20000 := fun hh => hg ⟨hM, hh⟩
        rw [if_pos hM, if_pos hM, if_pos (by omega), if_pos (by omega)]; simp
      · rw [if_neg hM, if_neg hM]; simp
    obtain ⟨e, hn⟩ := e
    rw [e]
    clear e hg
    generalize givenF a b c d = G at *
    go_enter Try.func24, Try.ntmps24
    go_wp2_with fail
    refine (HG.out _).mono ?_; rintro e w1 ⟨rfl, hb1⟩
    obtain ⟨hc1, hf1⟩ := bcell hb1
    have hz0 : w.heap.size < w1.heap.size := by have := hb1.size; (try simp at this); omega
    have hB1 : Below w.heap.size w w1 := bfin (by go_grown) hb1
    go_wp2_with fail
    have hall := And.intro hc1 (hz0)
    refine bodyPost_ret (v := .tuple #[(.int .i64 0), (.int .i64 G)]) (by first | (simp [results, Try.results24, go_sem]; done) | (simp [results, Try.results24, go_sem, hall] <;> rfl)) rfl ⟨rfl, by go_grown⟩
theorem lawFnExactFirstNumber (a b c d : Int) (_ : I64 a) (_ : I64 b) (_ : I64 c) (_ : I64 d) (w : World) :
    Calls Try.prog 7 #[(.agg #[.int .i64 a, .int .i64 b, .int .i64 c, .int .i64 d])] w fun e w' => e = .returned (.bool true) ∧ Below w.heap.size w w' := by
  have HS := Lib.hid (sFirstNumber_any a b c d)
  have HI := Lib.hid (FirstNumber_any a b c d)
  generalize firstAll a b c d = R at HS HI
  obtain ⟨x, y⟩ := R
  have hn1 : (x != x) = false := by simp
  have hn2 : (y != y) = false := by simp
  go_enter Try.func7, Try.ntmps7
  go_wp2_with fail
  refine (toMatrix_any _ _ _ _ _).mono ?_; rintro e w1 ⟨rfl, hb1⟩
  obtain ⟨hc1, hf1⟩ := bcell hb1
  go_wp2_with fail
  refine (HS.out _).mono ?_; rintro e w2 ⟨rfl, hb2⟩
  replace hb2 := bstep hb1 hb2
  clear hc1 hf1 hb1
  obtain ⟨hc2, hf2⟩ := bcell hb2
  go_wp2_with fail
  refine (toMatrix_any _ _ _ _ _).mono ?_; rintro e w3 ⟨rfl, hb3⟩
  replace hb3 := bstep hb2 hb3
  clear hc2 hf2 hb2
  obtain ⟨hc3, hf3⟩ := bcell hb3
  go_wp2_with fail
  refine (HI.out _).mono ?_; rintro e w4 ⟨rfl, hb4⟩
  replace hb4 := bstep hb3 hb4
  clear hc3 hf3 hb3
  obtain ⟨hc4, hf4⟩ := bcell hb4
  have hB4 : Below w.heap.size w w4 := bfin (by go_grown) hb4
  go_wp2_with fail
  go_ret
  exact ⟨rfl, by go_grown⟩
end Go.Proofs.Ytkhlgphmimddhaa
