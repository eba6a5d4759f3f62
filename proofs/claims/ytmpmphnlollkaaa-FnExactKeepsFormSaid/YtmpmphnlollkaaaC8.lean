/- Contracts: made forms, forms that are kept; the laws on them. -/
import Derived.Test.YtmpmphnlollkaaaC7
import Derived.Test.YtmpmphnlollkaaaN2
namespace Go.Proofs.Ytmpmphnlollkaaa
open Go.RowKit
attribute [local go_sem] eqForm3
/-- 'applied', whatever comes in. -/
theorem applied_bad (a b c p q r s : Int) (w : World) (k : Int) (hk : appliedCode a b c p q r s = k) (h0 : k ≠ 0) :
    Calls Try.prog 55 #[(.agg #[.int .i64 a, .int .i64 b, .int .i64 c]), (.agg #[.int .i64 p, .int .i64 q, .int .i64 r, .int .i64 s])] w fun e w' => e = .returned (.tuple #[(.agg #[.int .i64 0, .int .i64 0, .int .i64 0]), (.int .i64 k)]) ∧ Below w.heap.size w w' := by
  cases hF : isForm a b c
  · rw [← hk, show appliedCode a b c p q r s = 1 by simp [appliedCode, hF]]
    exact applied_noForm _ _ _ _ _ _ _ _ hF
  cases hM : isMat p q r s
  · rw [← hk, show appliedCode a b c p q r s = 1 by simp [appliedCode, hF, hM]]
    exact applied_noMat _ _ _ _ _ _ _ _ hF hM
  cases hS : smallM p q r s
  · rw [← hk, show appliedCode a b c p q r s = 2 by simp [appliedCode, hF, hM, hS]]
    exact applied_far _ _ _ _ _ _ _ _ hF hM hS
  · exact absurd (appliedCode_yes hF hM hS) (by rw [hk]; exact h0)
theorem ApplyMatrix_any (a b c p q r s : Int) (w : World) :
    Calls Try.prog 26 #[(.agg #[.int .i64 a, .int .i64 b, .int .i64 c]), (.agg #[.int .i64 p, .int .i64 q, .int .i64 r, .int .i64 s])] w fun e w' => e = .returned (.tuple #[(.agg #[.int .i64 ((applyM a b c p q r s).1.x), .int .i64 ((applyM a b c p q r s).1.y), .int .i64 ((applyM a b c p q r s).1.z)]), (.int .i64 ((applyM a b c p q r s).2))]) ∧ Below w.heap.size w w' := by
  by_cases h0 : appliedCode a b c p q r s = 0
  · obtain ⟨hF, hM, hS⟩ := appliedCode_0 h0
    obtain ⟨x0, y0, z0⟩ := made_bd (small_of hF) hS
    cases hb : smallB (formAt a b c p r) (formMid a b c p q r s) (formAt a b c q s)
    · rw [show applyM a b c p q r s = (⟨0, 0, 0⟩, 3) by simp [applyM, h0, madeForm, hb]]
      go_enter Try.func26, Try.ntmps26
      go_wp2_with fail
      refine (applied_ok _ _ _ _ _ _ _ _ hF hM hS).mono ?_; rintro e w1 ⟨rfl, hb1⟩
      obtain ⟨hc1, hf1⟩ := bcell hb1
      obtain ⟨hz0, hz1, hz2⟩ : w.heap.size < w1.heap.size ∧ w.heap.size + 1 < w1.heap.size ∧ w.heap.size + 1 + 1 < w1.heap.size := by have := hb1.size; simp at this; omega
      have hB1 : Below w.heap.size w w1 := bfin (by go_grown) hb1
      go_wp2_with fail
      refine (areSmall_any _ _ _ _ x0 y0 z0).mono ?_; rintro e w2 ⟨rfl, hb2⟩
      obtain ⟨hc2, hf2⟩ := bcell hb2
      obtain ⟨hz2_0, hz2_1, hz2_2, hz2_3⟩ : w.heap.size < w2.heap.size ∧ w.heap.size + 1 < w2.heap.size ∧ w.heap.size + 1 + 1 < w2.heap.size ∧ w1.heap.size < w2.heap.size := by have := hb2.size; simp at this; omega
      have hB2 : Below w.heap.size w w2 := bfin (by go_grown) hb2
      go_wp2_with fail
      have hall := And.intro hc1 (And.intro hc2 (And.intro hz0 (And.intro hz1 (And.intro hz2 (And.intro hz2_0 (And.intro hz2_1 (And.intro hz2_2 (hz2_3))))))))
      refine bodyPost_ret (v := .tuple #[(.agg #[.int .i64 0, .int .i64 0, .int .i64 0]), (.int .i64 3)]) (by first | (simp [results, Try.results26, go_sem]; done) | (simp [results, Try.results26, go_sem, hall] <;> rfl)) rfl ⟨rfl, by go_grown⟩
    · rw [show applyM a b c p q r s = (madeForm a b c p q r s, 0) by simp [applyM, h0, madeForm, hb]]
      go_enter Try.func26, Try.ntmps26
      go_wp2_with fail
      refine (applied_ok _ _ _ _ _ _ _ _ hF hM hS).mono ?_; rintro e w1 ⟨rfl, hb1⟩
      obtain ⟨hc1, hf1⟩ := bcell hb1
      obtain ⟨hz0, hz1, hz2⟩ : w.heap.size < w1.heap.size ∧ w.heap.size + 1 < w1.heap.size ∧ w.heap.size + 1 + 1 < w1.heap.size := by have := hb1.size; simp at this; omega
      have hB1 : Below w.heap.size w w1 := bfin (by go_grown) hb1
      go_wp2_with fail
      refine (areSmall_any _ _ _ _ x0 y0 z0).mono ?_; rintro e w2 ⟨rfl, hb2⟩
      obtain ⟨hc2, hf2⟩ := bcell hb2
      obtain ⟨hz2_0, hz2_1, hz2_2, hz2_3⟩ : w.heap.size < w2.heap.size ∧ w.heap.size + 1 < w2.heap.size ∧ w.heap.size + 1 + 1 < w2.heap.size ∧ w1.heap.size < w2.heap.size := by have := hb2.size; simp at this; omega
      have hB2 : Below w.heap.size w w2 := bfin (by go_grown) hb2
      go_wp2_with fail
      have hall := And.intro hc1 (And.intro hc2 (And.intro hz0 (And.intro hz1 (And.intro hz2 (And.intro hz2_0 (And.intro hz2_1 (And.intro hz2_2 (hz2_3))))))))
      refine bodyPost_ret (v := .tuple #[(.agg #[.int .i64 (formAt a b c p r), .int .i64 (formMid a b c p q r s), .int .i64 (formAt a b c q s)]), (.int .i64 0)]) (by first | (simp [results, Try.results26, go_sem]; done) | (simp [results, Try.results26, go_sem, hall] <;> rfl)) rfl ⟨rfl, by go_grown⟩
  · generalize hk : appliedCode a b c p q r s = k at h0
    rw [show applyM a b c p q r s = (⟨0, 0, 0⟩, k) by simp [applyM, hk, h0]]
    have hne : (k != 0) = true := by simp [h0]
    have HK := Lib.hid hk
    clear hk
    go_enter Try.func26, Try.ntmps26
    go_wp2_with fail
    refine (applied_bad _ _ _ _ _ _ _ _ k HK.out h0).mono ?_; rintro e w1 ⟨rfl, hb1⟩
    obtain ⟨hc1, hf1⟩ := bcell hb1
    obtain ⟨hz0, hz1, hz2⟩ : w.heap.size < w1.heap.size ∧ w.heap.size + 1 < w1.heap.size ∧ w.heap.size + 1 + 1 < w1.heap.size := by have := hb1.size; simp at this; omega
    have hB1 : Below w.heap.size w w1 := bfin (by go_grown) hb1
    go_wp2_with fail
    have hall := And.intro hc1 (And.intro hz0 (And.intro hz1 (hz2)))
    refine bodyPost_ret (v := .tuple #[(.agg #[.int .i64 0, .int .i64 0, .int .i64 0]), (.int .i64 k)]) (by first | (simp [results, Try.results26, go_sem]; done) | (simp [results, Try.results26, go_sem, hall] <;> rfl)) rfl ⟨rfl, by go_grown⟩
theorem sApplyMatrix_any (a b c p q r s : Int) (w : World) :
    Calls Try.prog 25 #[(.agg #[.int .i64 a, .int .i64 b, .int .i64 c]), (.agg #[.int .i64 p, .int .i64 q, .int .i64 r, .int .i64 s])] w fun e w' => e = .returned (.tuple #[(.agg #[.int .i64 ((applyM a b c p q r s).1.x), .int .i64 ((applyM a b c p q r s).1.y), .int .i64 ((applyM a b c p q r s).1.z)]), (.int .i64 ((applyM a b c p q r s).2))]) ∧ Below w.heap.size w w' := by
  by_cases h0 : appliedCode a b c p q r s = 0
  · obtain ⟨hF, hM, hS⟩ := appliedCode_0 h0
    have hne := made_ne hF (isMat_iff.1 hM).det
    obtain ⟨⟨p0, p1⟩, ⟨q0, q1⟩, ⟨r0, r1⟩, s0, s1⟩ := smallM_iff.1 hS
    have H0 := Lib.hid h0
    cases hb : smallB (formAt a b c p r) (formMid a b c p q r s) (formAt a b c q s)
    · rw [show applyM a b c p q r s = (⟨0, 0, 0⟩, 3) by simp [applyM, h0, madeForm, hb]]
      rw [← small_form hne] at hb
      clear h0 hne
      have HC := Lib.hid (l05Code_any a b c p q r s)
      rw [H0.out] at HC
      go_enter Try.func25, Try.ntmps25
      go_wp2_with fail
      refine (HC.out _).mono ?_; rintro e w1 ⟨rfl, hb1⟩
      obtain ⟨hc1, hf1⟩ := bcell hb1
      obtain ⟨hz0, hz1, hz2⟩ : w.heap.size < w1.heap.size ∧ w.heap.size + 1 < w1.heap.size ∧ w.heap.size + 1 + 1 < w1.heap.size := by have := hb1.size; simp at this; omega
      go_wp2_with fail
      refine (l05Apply_any _ _ _ _ _ _ _ _ (small_of hF) (by omega) (by omega) (by omega) (by omega) (by omega) (by omega) (by omega) (by omega)).mono ?_; rintro e w2 ⟨rfl, hb2⟩
      replace hb2 := bstep hb1 hb2
      clear hc1 hf1 hb1
      obtain ⟨hc2, hf2⟩ := bcell hb2
      obtain ⟨hz0, hz1, hz2⟩ : w.heap.size < w2.heap.size ∧ w.heap.size + 1 < w2.heap.size ∧ w.heap.size + 1 + 1 < w2.heap.size := by have := hb2.size; simp at this; omega
      have hB2 : Below w.heap.size w w2 := bfin (by go_grown) hb2
      go_wp2_with fail
      refine (l05Is_any _ _ _ _).mono ?_; rintro e w3 ⟨rfl, hb3⟩
      obtain ⟨hc3, hf3⟩ := bcell hb3
      obtain ⟨hz3_0, hz3_1, hz3_2, hz3_3⟩ : w.heap.size < w3.heap.size ∧ w.heap.size + 1 < w3.heap.size ∧ w.heap.size + 1 + 1 < w3.heap.size ∧ w2.heap.size < w3.heap.size := by have := hb3.size; simp at this; omega
      have hB3 : Below w.heap.size w w3 := bfin (by go_grown) hb3
      go_wp2_with fail
      have hall := And.intro hc2 (And.intro hc3 (And.intro hz0 (And.intro hz1 (And.intro hz2 (And.intro hz3_0 (And.intro hz3_1 (And.intro hz3_2 (hz3_3))))))))
      refine bodyPost_ret (v := .tuple #[(.agg #[.int .i64 0, .int .i64 0, .int .i64 0]), (.int .i64 3)]) (by first | (simp [results, Try.results25, go_sem]; done) | (simp [results, Try.results25, go_sem, hall] <;> rfl)) rfl ⟨rfl, by go_grown⟩
    · rw [show applyM a b c p q r s = (madeForm a b c p q r s, 0) by simp [applyM, h0, madeForm, hb]]
      rw [← small_form hne] at hb
      clear h0 hne
      have HC := Lib.hid (l05Code_any a b c p q r s)
      rw [H0.out] at HC
      go_enter Try.func25, Try.ntmps25
      go_wp2_with fail
      refine (HC.out _).mono ?_; rintro e w1 ⟨rfl, hb1⟩
      obtain ⟨hc1, hf1⟩ := bcell hb1
      obtain ⟨hz0, hz1, hz2⟩ : w.heap.size < w1.heap.size ∧ w.heap.size + 1 < w1.heap.size ∧ w.heap.size + 1 + 1 < w1.heap.size := by have := hb1.size; simp at this; omega
      go_wp2_with fail
      refine (l05Apply_any _ _ _ _ _ _ _ _ (small_of hF) (by omega) (by omega) (by omega) (by omega) (by omega) (by omega) (by omega) (by omega)).mono ?_; rintro e w2 ⟨rfl, hb2⟩
      replace hb2 := bstep hb1 hb2
      clear hc1 hf1 hb1
      obtain ⟨hc2, hf2⟩ := bcell hb2
      obtain ⟨hz0, hz1, hz2⟩ : w.heap.size < w2.heap.size ∧ w.heap.size + 1 < w2.heap.size ∧ w.heap.size + 1 + 1 < w2.heap.size := by have := hb2.size; simp at this; omega
      have hB2 : Below w.heap.size w w2 := bfin (by go_grown) hb2
      go_wp2_with fail
      refine (l05Is_any _ _ _ _).mono ?_; rintro e w3 ⟨rfl, hb3⟩
      obtain ⟨hc3, hf3⟩ := bcell hb3
      obtain ⟨hz3_0, hz3_1, hz3_2, hz3_3⟩ : w.heap.size < w3.heap.size ∧ w.heap.size + 1 < w3.heap.size ∧ w.heap.size + 1 + 1 < w3.heap.size ∧ w2.heap.size < w3.heap.size := by have := hb3.size; simp at this; omega
      have hB3 : Below w.heap.size w w3 := bfin (by go_grown) hb3
      go_wp2_with fail
      have hall := And.intro hc2 (And.intro hc3 (And.intro hz0 (And.intro hz1 (And.intro hz2 (And.intro hz3_0 (And.intro hz3_1 (And.intro hz3_2 (hz3_3))))))))
      refine bodyPost_ret (v := .tuple #[(.agg #[.int .i64 (formAt a b c p r), .int .i64 (formMid a b c p q r s), .int .i64 (formAt a b c q s)]), (.int .i64 0)]) (by first | (simp [results, Try.results25, go_sem]; done) | (simp [results, Try.results25, go_sem, hall] <;> rfl)) rfl ⟨rfl, by go_grown⟩
  · have HC := Lib.hid (l05Code_any a b c p q r s)
    generalize hk : appliedCode a b c p q r s = k at h0 HC
    rw [show applyM a b c p q r s = (⟨0, 0, 0⟩, k) by simp [applyM, hk, h0]]
    have hne : (k != 0) = true := by simp [h0]
    clear hk
    go_enter Try.func25, Try.ntmps25
    go_wp2_with fail
    refine (HC.out _).mono ?_; rintro e w1 ⟨rfl, hb1⟩
    obtain ⟨hc1, hf1⟩ := bcell hb1
    obtain ⟨hz0, hz1, hz2⟩ : w.heap.size < w1.heap.size ∧ w.heap.size + 1 < w1.heap.size ∧ w.heap.size + 1 + 1 < w1.heap.size := by have := hb1.size; simp at this; omega
    have hB1 : Below w.heap.size w w1 := bfin (by go_grown) hb1
    go_wp2_with fail
    have hall := And.intro hc1 (And.intro hz0 (And.intro hz1 (hz2)))
    refine bodyPost_ret (v := .tuple #[(.agg #[.int .i64 0, .int .i64 0, .int .i64 0]), (.int .i64 k)]) (by first | (simp [results, Try.results25, go_sem]; done) | (simp [results, Try.results25, go_sem, hall] <;> rfl)) rfl ⟨rfl, by go_grown⟩
theorem KeepsForm_any (a b c p q r s : Int) (w : World) :
    Calls Try.prog 24 #[(.agg #[.int .i64 a, .int .i64 b, .int .i64 c]), (.agg #[.int .i64 p, .int .i64 q, .int .i64 r, .int .i64 s])] w fun e w' => e = .returned (.tuple #[.bool (keepsF a b c p q r s).1, (.int .i64 ((keepsF a b c p q r s).2))]) ∧ Below w.heap.size w w' := by
  by_cases h0 : appliedCode a b c p q r s = 0
  · obtain ⟨hF, hM, hS⟩ := appliedCode_0 h0
    rw [show keepsF a b c p q r s = ((formAt a b c p r == a && (formMid a b c p q r s == b && formAt a b c q s == c)), 0) by simp [keepsF, h0]]
    have H0 := Lib.hid h0
    clear h0
    go_enter Try.func24, Try.ntmps24
    go_wp2_with fail
    refine (applied_ok _ _ _ _ _ _ _ _ hF hM hS).mono ?_; rintro e w1 ⟨rfl, hb1⟩
    obtain ⟨hc1, hf1⟩ := bcell hb1
    obtain ⟨hz0, hz1⟩ : w.heap.size < w1.heap.size ∧ w.heap.size + 1 < w1.heap.size := by have := hb1.size; simp at this; omega
    have hB1 : Below w.heap.size w w1 := bfin (by go_grown) hb1
    go_wp2_with fail
    have hall := And.intro hc1 (And.intro hz0 (hz1))
    refine bodyPost_ret (v := .tuple #[.bool (formAt a b c p r == a && (formMid a b c p q r s == b && formAt a b c q s == c)), (.int .i64 0)]) (by first | (simp [results, Try.results24, go_sem]; done) | (simp [results, Try.results24, go_sem, hall] <;> rfl)) rfl ⟨rfl, by go_grown⟩
  · generalize hk : appliedCode a b c p q r s = k at h0
    rw [show keepsF a b c p q r s = (false, k) by simp [keepsF, hk, h0]]
    have hne : (k != 0) = true := by simp [h0]
    have HK := Lib.hid hk
    clear hk
    go_enter Try.func24, Try.ntmps24
    go_wp2_with fail
    refine (applied_bad _ _ _ _ _ _ _ _ k HK.out h0).mono ?_; rintro e w1 ⟨rfl, hb1⟩
    obtain ⟨hc1, hf1⟩ := bcell hb1
    obtain ⟨hz0, hz1⟩ : w.heap.size < w1.heap.size ∧ w.heap.size + 1 < w1.heap.size := by have := hb1.size; simp at this; omega
    have hB1 : Below w.heap.size w w1 := bfin (by go_grown) hb1
    go_wp2_with fail
    have hall := And.intro hc1 (And.intro hz0 (hz1))
    refine bodyPost_ret (v := .tuple #[.bool false, (.int .i64 k)]) (by first | (simp [results, Try.results24, go_sem]; done) | (simp [results, Try.results24, go_sem, hall] <;> rfl)) rfl ⟨rfl, by go_grown⟩
theorem sKeepsForm_any (a b c p q r s : Int) (w : World) :
    Calls Try.prog 22 #[(.agg #[.int .i64 a, .int .i64 b, .int .i64 c]), (.agg #[.int .i64 p, .int .i64 q, .int .i64 r, .int .i64 s])] w fun e w' => e = .returned (.tuple #[.bool (keepsF a b c p q r s).1, (.int .i64 ((keepsF a b c p q r s).2))]) ∧ Below w.heap.size w w' := by
  by_cases h0 : appliedCode a b c p q r s = 0
  · obtain ⟨hF, hM, hS⟩ := appliedCode_0 h0
    obtain ⟨⟨p0, p1⟩, ⟨q0, q1⟩, ⟨r0, r1⟩, s0, s1⟩ := smallM_iff.1 hS
    rw [show keepsF a b c p q r s = ((formAt a b c p r == a && (formMid a b c p q r s == b && formAt a b c q s == c)), 0) by simp [keepsF, h0]]
    have H0 := Lib.hid h0
    clear h0
    have HC := Lib.hid (l05Code_any a b c p q r s)
    rw [H0.out] at HC
    go_enter Try.func22, Try.ntmps22
    go_wp2_with fail
    refine (HC.out _).mono ?_; rintro e w1 ⟨rfl, hb1⟩
    obtain ⟨hc1, hf1⟩ := bcell hb1
    obtain ⟨hz0, hz1⟩ : w.heap.size < w1.heap.size ∧ w.heap.size + 1 < w1.heap.size := by have := hb1.size; simp at this; omega
    go_wp2_with fail
    refine wp_region_ext (by kernel_rfl) (by kernel_rfl) ?_
    repeat (go_big_quiet_step (((go_at_call 54; refine Calls.ext_of (Nat.le_refl _) (l05Apply_any _ _ _ _ _ _ _ _ (small_of hF) (by omega) (by omega) (by omega) (by omega) (by omega) (by omega) (by omega) (by omega))))))
    refine wpQuiet_nil ?_
    intro w2 hb2
    replace hb2 := bstep hb1 hb2
    clear hc1 hf1 hb1
    obtain ⟨hc2, hf2⟩ := bcell hb2
    have hB2 : Below w.heap.size w w2 := bfin (by go_grown) hb2
    go_wp2_with fail
    have hall := And.intro hc2 (And.intro hz0 (hz1))
    refine bodyPost_ret (v := .tuple #[.bool (formAt a b c p r == a && (formMid a b c p q r s == b && formAt a b c q s == c)), (.int .i64 0)]) (by first | (simp [results, Try.results22, go_sem]; done) | (simp [results, Try.results22, go_sem, hall] <;> rfl)) rfl ⟨rfl, by go_grown⟩
  · have HC := Lib.hid (l05Code_any a b c p q r s)
    generalize hk : appliedCode a b c p q r s = k at h0 HC
    rw [show keepsF a b c p q r s = (false, k) by simp [keepsF, hk, h0]]
    have hne : (k != 0) = true := by simp [h0]
    clear hk
    go_enter Try.func22, Try.ntmps22
    go_wp2_with fail
    refine (HC.out _).mono ?_; rintro e w1 ⟨rfl, hb1⟩
    obtain ⟨hc1, hf1⟩ := bcell hb1
    obtain ⟨hz0, hz1⟩ : w.heap.size < w1.heap.size ∧ w.heap.size + 1 < w1.heap.size := by have := hb1.size; simp at this; omega
    have hB1 : Below w.heap.size w w1 := bfin (by go_grown) hb1
    go_wp2_with fail
    have hall := And.intro hc1 (And.intro hz0 (hz1))
    refine bodyPost_ret (v := .tuple #[.bool false, (.int .i64 k)]) (by first | (simp [results, Try.results22, go_sem]; done) | (simp [results, Try.results22, go_sem, hall] <;> rfl)) rfl ⟨rfl, by go_grown⟩
end Go.Proofs.Ytmpmphnlollkaaa
