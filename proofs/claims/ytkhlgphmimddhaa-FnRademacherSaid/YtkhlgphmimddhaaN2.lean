/- Plain facts on made forms. -/
import Derived.Test.YtkhlgphmimddhaaNum
namespace Go.Proofs.Ytkhlgphmimddhaa
theorem made_bd {a b c p q r s : Int} (h : Small a b c) (hs : smallM p q r s = true) :
    (-9000000000000000000 ≤ formAt a b c p r ∧ formAt a b c p r ≤ 9000000000000000000) ∧ (-9000000000000000000 ≤ formMid a b c p q r s ∧ formMid a b c p q r s ≤ 9000000000000000000) ∧ (-9000000000000000000 ≤ formAt a b c q s ∧ formAt a b c q s ≤ 9000000000000000000) := by
  obtain ⟨a0, a1, b0, b1, c0, c1⟩ := h
  obtain ⟨⟨p0, p1⟩, ⟨q0, q1⟩, ⟨r0, r1⟩, s0, s1⟩ := smallM_iff.1 hs
  have at_ : ∀ x y : Int, -1000 ≤ x → x ≤ 1000 → -1000 ≤ y → y ≤ 1000 → -9000000000000000000 ≤ formAt a b c x y ∧ formAt a b c x y ≤ 9000000000000000000 := by
    intro x y x0 x1 y0 y1
    have e1 := mul_bd a0 a1 x0 x1
    have e2 := mul_bd e1.1 e1.2 x0 x1
    have e3 := mul_bd b0 b1 x0 x1
    have e4 := mul_bd e3.1 e3.2 y0 y1
    have e5 := mul_bd c0 c1 y0 y1
    have e6 := mul_bd e5.1 e5.2 y0 y1
    unfold formAt
    omega
  refine ⟨at_ p r p0 p1 r0 r1, ?_, at_ q s q0 q1 s0 s1⟩
  have e1 := mul_bd (a := 2 * a) (b := p) (A := 2000000) (B := 1000) (by omega) (by omega) p0 p1
  have e2 := mul_bd e1.1 e1.2 q0 q1
  have e3 := mul_bd p0 p1 s0 s1
  have e4 := mul_bd q0 q1 r0 r1
  have e5 := mul_bd (a := b) (b := p * s + q * r) (A := 1000000) (B := 2000000) b0 b1 (by omega) (by omega)
  have e6 := mul_bd (a := 2 * c) (b := r) (A := 2000000) (B := 1000) (by omega) (by omega) r0 r1
  have e7 := mul_bd e6.1 e6.2 s0 s1
  unfold formMid
  omega
/-- A matrix with the determinant 1 makes no form 0. -/
theorem made_ne {a b c p q r s : Int} (h : isForm a b c = true) (hd : p * s - q * r = 1) : ¬ (formAt a b c p r = 0 ∧ formMid a b c p q r s = 0 ∧ formAt a b c q s = 0) := by
  rintro ⟨h1, h2, h3⟩
  have ha : a = formAt a b c p r * s * s - formMid a b c p q r s * s * r + formAt a b c q s * r * r := by
    have : a = a * ((p * s - q * r) * (p * s - q * r)) := by rw [hd]; simp
    unfold formAt formMid
    grind
  have hc : c = formAt a b c p r * q * q - formMid a b c p q r s * p * q + formAt a b c q s * p * p := by
    have : c = c * ((p * s - q * r) * (p * s - q * r)) := by rw [hd]; simp
    unfold formAt formMid
    grind
  have hb : b = -2 * formAt a b c p r * q * s + formMid a b c p q r s * (p * s + q * r) - 2 * formAt a b c q s * p * r := by
    have : b = b * ((p * s - q * r) * (p * s - q * r)) := by rw [hd]; simp
    unfold formAt formMid
    grind
  rw [h1, h2, h3] at ha hb hc
  simp at ha hb hc
  subst ha; subst hb; subst hc
  simp [isForm] at h
theorem small_form {a b c : Int} (h : ¬ (a = 0 ∧ b = 0 ∧ c = 0)) : isForm a b c = smallB a b c := by
  rw [Bool.eq_iff_iff]
  simp [isForm, smallB, inB]
  omega
theorem appliedCode_0 {a b c p q r s : Int} (h : appliedCode a b c p q r s = 0) : isForm a b c = true ∧ isMat p q r s = true ∧ smallM p q r s = true := by
  unfold appliedCode at h
  split at h
  · split at h
    · split at h
      · exact ⟨‹_›, ‹_›, ‹_›⟩
      · omega
    · omega
  · omega
theorem appliedCode_yes {a b c p q r s : Int} (h1 : isForm a b c = true) (h2 : isMat p q r s = true) (h3 : smallM p q r s = true) : appliedCode a b c p q r s = 0 := by simp [appliedCode, h1, h2, h3]
end Go.Proofs.Ytkhlgphmimddhaa
namespace Go.Proofs.Ytkhlgphmimddhaa
/-- What an int64 holds. -/
def I64 (x : Int) : Prop := -9223372036854775808 ≤ x ∧ x ≤ 9223372036854775807
end Go.Proofs.Ytkhlgphmimddhaa
