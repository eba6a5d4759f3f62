/- Plain: what the laws of forms tell: reduced forms, made forms. -/
import Derived.Test.YtcaiofhdcffogaaC94
import Derived.Test.YtcaiofhdcffogaaCc
import Derived.Test.YtcaiofhdcffogaaC20
import Derived.Test.YtcaiofhdcffogaaCb
namespace Go.Proofs.Ytcaiofhdcffogaa
theorem reduceN_red {a b c : Int} : ∀ (k : Nat) {t : RS}, DefInv a b c t → meas t.f ≤ k → redB (reduceN k t).f.x (reduceN k t).f.y (reduceN k t).f.z = true
  | 0, t, hI, hm => by
    cases hr : redB t.f.x t.f.y t.f.z
    · have h1 := meas_step hI hr
      have h2 := meas_pos (inv_step hI)
      omega
    · exact hr
  | k + 1, t, hI, hm => by
    cases hr : redB t.f.x t.f.y t.f.z
    · rw [reduceN_step hr]
      have h1 := meas_step hI hr
      exact reduceN_red k (inv_step hI) (by omega)
    · rw [reduceN_done hr]; exact hr
theorem reduceOf_red {a b c : Int} (h : Small a b c) (hd : disc a b c < 0) (ha : 0 < a) : redB (reduceOf a b c).f.x (reduceOf a b c).f.y (reduceOf a b c).f.z = true := by
  have hI := inv_start h hd ha
  exact reduceN_red _ hI (by have := meas_pos hI; simp only at this ⊢; omega)
theorem reduceOf_done {f : F3} (h : redB f.x f.y f.z = true) : (reduceOf f.x f.y f.z).f = f := by
  unfold reduceOf
  rw [reduceN_done h]
theorem isForm_of {a b c : Int} (h : Small a b c) (h0 : ¬ (a = 0 ∧ b = 0 ∧ c = 0)) : isForm a b c = true := by
  obtain ⟨a0, a1, b0, b1, c0, c1⟩ := h
  simp only [isForm, Bool.and_eq_true, inB_iff, Bool.not_eq_true', Bool.and_eq_false_iff, beq_eq_false_iff_ne]
  refine ⟨⟨a0, a1⟩, ⟨b0, b1⟩, ⟨c0, c1⟩, ?_⟩
  by_cases h1 : a = 0
  · by_cases h2 : b = 0
    · right; right; intro h3; exact h0 ⟨h1, h2, h3⟩
    · right; left; exact h2
  · left; exact h1
theorem defB_iff {a b c : Int} : defB a b c = true ↔ disc a b c < 0 ∧ 0 < a := by simp [defB]
structure RedUse (a b c : Int) (t : RS) : Prop where
  red : isRed t.f.x t.f.y t.f.z = (true, 0)
  d1 : (discOf a b c).2 = 0
  d2 : discOf t.f.x t.f.y t.f.z = discOf a b c
  made : (applyM a b c t.m.p t.m.q t.m.r t.m.s).2 = 0 → (applyM a b c t.m.p t.m.q t.m.r t.m.s).1 = t.f
  equ : equRes ⟨a, b, c⟩ t.f = (true, 0)
theorem applyM_yes {a b c p q r s : Int} (h : (applyM a b c p q r s).2 = 0) : (applyM a b c p q r s).1 = madeForm a b c p q r s ∧ appliedCode a b c p q r s = 0 ∧ smallB (madeForm a b c p q r s).x (madeForm a b c p q r s).y (madeForm a b c p q r s).z = true := by
  unfold applyM at h ⊢
  split at h
  · rename_i h1
    rw [if_pos h1]
    split at h
    · rename_i h2; rw [if_pos h2]; exact ⟨rfl, h1, h2⟩
    · simp at h
  · rename_i h1; exact absurd h h1
theorem red_use {a b c : Int} (h : (reduceRes a b c).2 = 0) : reduceRes a b c = (reduceOf a b c, 0) ∧ RedUse a b c (reduceOf a b c) := by
  unfold reduceRes at h ⊢
  split at h
  · rename_i hF
    rw [if_pos hF]
    split at h
    · rename_i hD
      rw [if_pos hD]
      refine ⟨rfl, ?_⟩
      have hs := small_of hF
      obtain ⟨hd, ha⟩ := defB_iff.1 hD
      have hI := inv_reduceOf hs hd ha
      have hr := reduceOf_red hs hd ha
      have hF2 : isForm (reduceOf a b c).f.x (reduceOf a b c).f.y (reduceOf a b c).f.z = true := isForm_of hI.sm (fun h0 => by have := hI.x0; omega)
      have hD2 : defB (reduceOf a b c).f.x (reduceOf a b c).f.y (reduceOf a b c).f.z = true := defB_iff.2 ⟨hI.d, hI.x0⟩
      refine ⟨?_, ?_, ?_, ?_, ?_⟩
      · unfold isRed; rw [if_pos hF2, if_pos (.inl hD2), hr]
      · rw [discOf_yes hF]
      · rw [discOf_yes hF, discOf_yes hF2]
        have := hI.dd
        unfold disc at this
        rw [this]
      · intro h0
        rw [(applyM_yes h0).1]
        unfold madeForm
        rw [hI.f1, hI.f2, hI.f3]
      · rw [equ_def (f := ⟨a, b, c⟩) hF hF2 hD hD2, reduceOf_done hr]
        simp
    · simp at h
  · simp at h
theorem mat_det {p q r s : Int} (h : isMat p q r s = true) : p * s - q * r = 1 := by
  unfold isMat at h
  simp only [Bool.and_eq_true] at h
  obtain ⟨-, h⟩ := h
  simp at h
  omega
structure ApplyUse (a b c p q r s : Int) (f : F3) : Prop where
  d1 : (discOf a b c).2 = 0
  d2 : discOf f.x f.y f.z = discOf a b c
  v1 : valAt a b c p r = (f.x, 0)
  v2 : valAt a b c q s = (f.z, 0)
theorem apply_use {a b c p q r s : Int} (h : (applyM a b c p q r s).2 = 0) : ApplyUse a b c p q r s (applyM a b c p q r s).1 := by
  obtain ⟨e, hc, hsm⟩ := applyM_yes h
  rw [e]
  unfold appliedCode at hc
  split at hc
  · rename_i hF
    split at hc
    · rename_i hM
      split at hc
      · rename_i hS
        obtain ⟨⟨p0, p1⟩, ⟨q0, q1⟩, ⟨r0, r1⟩, s0, s1⟩ := smallM_iff.1 hS
        have hdet := mat_det hM
        simp only [smallB, Bool.and_eq_true, inB_iff] at hsm
        have hF2 : isForm (madeForm a b c p q r s).x (madeForm a b c p q r s).y (madeForm a b c p q r s).z = true := by
          refine isForm_of ⟨hsm.1.1, hsm.1.2, hsm.2.1.1, hsm.2.1.2, hsm.2.2.1, hsm.2.2.2⟩ fun h0 => ?_
          obtain ⟨h1, h2, h3⟩ := h0
          have hm := made_mul a b c ⟨p, q, r, s⟩ ⟨s, -q, -r, p⟩
          have hi : mulM ⟨p, q, r, s⟩ ⟨s, -q, -r, p⟩ = ⟨1, 0, 0, 1⟩ := by
            simp only [mulM, M4.mk.injEq]
            refine ⟨?_, ?_, ?_, ?_⟩
            · have : p * s + q * -r = p * s - q * r := by grind
              omega
            · grind
            · grind
            · have : r * -q + s * p = p * s - q * r := by grind
              omega
          rw [hi] at hm
          simp only at hm
          rw [h1, h2, h3] at hm
          have e1 : madeForm a b c 1 0 0 1 = ⟨a, b, c⟩ := by simp [madeForm, formAt, formMid]
          have e2 : madeForm 0 0 0 s (-q) (-r) p = ⟨0, 0, 0⟩ := by simp [madeForm, formAt, formMid]
          rw [e1, e2] at hm
          injection hm with m1 m2 m3
          subst m1; subst m2; subst m3
          simp [isForm] at hF
        refine ⟨by rw [discOf_yes hF], ?_, ?_, ?_⟩
        · rw [discOf_yes hF, discOf_yes hF2]
          have := disc_made a b c p q r s
          rw [hdet] at this
          unfold disc at this
          rw [this]; simp
        · unfold valAt
          rw [if_pos hF, if_pos (inB_iff.2 ⟨p0, p1⟩), if_pos (inB_iff.2 ⟨r0, r1⟩)]
          rfl
        · unfold valAt
          rw [if_pos hF, if_pos (inB_iff.2 ⟨q0, q1⟩), if_pos (inB_iff.2 ⟨s0, s1⟩)]
          rfl
      · simp at hc
    · simp at hc
  · simp at hc
end Go.Proofs.Ytcaiofhdcffogaa
