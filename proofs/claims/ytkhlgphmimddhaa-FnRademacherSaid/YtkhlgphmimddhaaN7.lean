/- Plain facts: definite forms are reduced by steps. -/
import Derived.Test.YtkhlgphmimddhaaN6
namespace Go.Proofs.Ytkhlgphmimddhaa
structure M4 where
  p : Int
  q : Int
  r : Int
  s : Int
  deriving DecidableEq
structure RS where
  f : F3
  m : M4
def stepM (f : F3) : M4 := if inB f.y (-f.x + 1) f.x = true then ⟨0, -1, 1, 0⟩ else ⟨1, (-f.x - f.y) / (2 * f.x) + 1, 0, 1⟩
def mulM (m n : M4) : M4 := ⟨m.p * n.p + m.q * n.r, m.p * n.q + m.q * n.s, m.r * n.p + m.s * n.r, m.r * n.q + m.s * n.s⟩
def stepR (c : RS) : RS := ⟨madeForm c.f.x c.f.y c.f.z (stepM c.f).p (stepM c.f).q (stepM c.f).r (stepM c.f).s, mulM c.m (stepM c.f)⟩
def reduceN : Nat → RS → RS
  | 0, c => c
  | k + 1, c => if redB c.f.x c.f.y c.f.z = true then c else reduceN k (stepR c)
theorem reduceN_done {k : Nat} {c : RS} (h : redB c.f.x c.f.y c.f.z = true) : reduceN k c = c := by
  cases k with
  | zero => rfl
  | succ k => unfold reduceN; rw [if_pos h]
theorem reduceN_step {k : Nat} {c : RS} (h : redB c.f.x c.f.y c.f.z = false) : reduceN (k + 1) c = reduceN k (stepR c) := by
  show (if redB c.f.x c.f.y c.f.z = true then c else reduceN k (stepR c)) = _
  rw [h]; simp
def meas (f : F3) : Int := 4 * f.x + (if inB f.y (-f.x + 1) f.x = true then (if f.y < 0 then 2 else 1) else 3)
/-- What holds of a definite form on its way, and of its matrix; a, b, c: the form at the start. -/
structure DefInv (a b c : Int) (t : RS) : Prop where
  sm : Small t.f.x t.f.y t.f.z
  x0 : 0 < t.f.x
  z0 : 0 < t.f.z
  d : disc t.f.x t.f.y t.f.z < 0
  dd : disc t.f.x t.f.y t.f.z = disc a b c
  f1 : formAt a b c t.m.p t.m.r = t.f.x
  f2 : formMid a b c t.m.p t.m.q t.m.r t.m.s = t.f.y
  f3 : formAt a b c t.m.q t.m.s = t.f.z
  det : t.m.p * t.m.s - t.m.q * t.m.r = 1
theorem pos_c {a b c : Int} (h : disc a b c < 0) (ha : 0 < a) : 0 < c := by
  refine Int.not_le.1 fun hc => ?_
  have h1 : 4 * a * c ≤ 0 := by
    have := Int.mul_nonpos_of_nonneg_of_nonpos (show 0 ≤ 4 * a by omega) hc
    exact this
  have h2 := sq_nn b
  unfold disc at h
  omega
theorem inv_start {a b c : Int} (h : Small a b c) (hd : disc a b c < 0) (ha : 0 < a) : DefInv a b c ⟨⟨a, b, c⟩, ⟨1, 0, 0, 1⟩⟩ := by
  refine ⟨h, ha, pos_c hd ha, hd, rfl, ?_, ?_, ?_, ?_⟩ <;> simp [formAt, formMid]
/-- A value of a definite form bounds what it is taken at. -/
theorem at_sq {a b c x y v K : Int} (hd : disc a b c ≤ -3) (hv : formAt a b c x y = v) (ha : 0 < a) (ha1 : a ≤ 1000000) (hv1 : v ≤ 1000000) (hK : K = 1154701) : -K ≤ y ∧ y ≤ K := by
  have e : 4 * a * v = (2 * a * x + b * y) * (2 * a * x + b * y) - disc a b c * (y * y) := by
    rw [← hv]; unfold formAt disc; grind
  have h1 := sq_nn (2 * a * x + b * y)
  have h2 := sq_nn y
  have hv0 : 0 ≤ v ∨ v < 0 := by omega
  have h3 : 3 * (y * y) ≤ 4 * a * v := by
    have := Int.mul_le_mul_of_nonneg_right (show 3 ≤ -disc a b c by omega) h2
    rw [Int.neg_mul] at this
    omega
  have h4 : 4 * a * v ≤ 4000000000000 := by
    rcases hv0 with h | h
    · have := Int.mul_le_mul (show 4 * a ≤ 4000000 by omega) hv1 h (by omega)
      omega
    · have := Int.mul_nonpos_of_nonneg_of_nonpos (show 0 ≤ 4 * a by omega) (show v ≤ 0 by omega)
      omega
  subst hK
  constructor
  · refine Int.not_lt.1 fun hh => ?_
    have := mul_le_self (show (0 : Int) ≤ 1154702 by omega) (show (1154702 : Int) ≤ -y by omega)
    rw [Int.neg_mul_neg] at this
    omega
  · refine Int.not_lt.1 fun hh => ?_
    have := mul_le_self (show (0 : Int) ≤ 1154702 by omega) (show (1154702 : Int) ≤ y by omega)
    omega
theorem at_flip (a b c x y : Int) : formAt a b c x y = formAt c b a y x := by unfold formAt; grind
theorem disc_flip (a b c : Int) : disc a b c = disc c b a := by unfold disc; grind
theorem disc_mod {a b c : Int} (h : disc a b c < 0) : disc a b c ≤ -3 := by
  have h1 : disc a b c = b * b - 4 * (a * c) := by unfold disc; grind
  have h2 : b * b % 4 = 0 ∨ b * b % 4 = 1 := by
    rcases Int.emod_two_eq b with hb | hb
    · left
      have : b = 2 * (b / 2) := by omega
      rw [this, show 2 * (b / 2) * (2 * (b / 2)) = 4 * ((b / 2) * (b / 2)) by grind]; omega
    · right
      have : b = 2 * (b / 2) + 1 := by omega
      rw [this, show (2 * (b / 2) + 1) * (2 * (b / 2) + 1) = 4 * ((b / 2) * (b / 2) + b / 2) + 1 by grind]; omega
  omega
/-- The matrix's numbers stay small. -/
theorem inv_bd {a b c : Int} {t : RS} (h : DefInv a b c t) (hs : Small a b c) (ha : 0 < a) :
    (-1154701 ≤ t.m.p ∧ t.m.p ≤ 1154701) ∧ (-1154701 ≤ t.m.q ∧ t.m.q ≤ 1154701) ∧ (-1154701 ≤ t.m.r ∧ t.m.r ≤ 1154701) ∧ (-1154701 ≤ t.m.s ∧ t.m.s ≤ 1154701) := by
  have hd : disc a b c ≤ -3 := by rw [← h.dd]; exact disc_mod h.d
  have hc : 0 < c := pos_c (show disc a b c < 0 by omega) ha
  have hd' : disc c b a ≤ -3 := by rw [← disc_flip]; exact hd
  obtain ⟨_, a1, _, _, _, c1⟩ := hs
  obtain ⟨_, x1, _, _, _, z1⟩ := h.sm
  exact ⟨at_sq hd' (by rw [← at_flip]; exact h.f1) hc c1 x1 rfl, at_sq hd' (by rw [← at_flip]; exact h.f3) hc c1 z1 rfl, at_sq hd h.f1 ha a1 x1 rfl, at_sq hd h.f3 ha a1 z1 rfl⟩
theorem disc_made (a b c p q r s : Int) : disc (madeForm a b c p q r s).x (madeForm a b c p q r s).y (madeForm a b c p q r s).z = disc a b c * ((p * s - q * r) * (p * s - q * r)) := by
  unfold madeForm disc formAt formMid; grind
theorem made_mul (a b c : Int) (m n : M4) : madeForm (madeForm a b c m.p m.q m.r m.s).x (madeForm a b c m.p m.q m.r m.s).y (madeForm a b c m.p m.q m.r m.s).z n.p n.q n.r n.s = madeForm a b c (mulM m n).p (mulM m n).q (mulM m n).r (mulM m n).s := by
  unfold madeForm mulM formAt formMid
  simp only [F3.mk.injEq]
  refine ⟨by grind, by grind, by grind⟩
theorem det_mul (m n : M4) : (mulM m n).p * (mulM m n).s - (mulM m n).q * (mulM m n).r = (m.p * m.s - m.q * m.r) * (n.p * n.s - n.q * n.r) := by
  unfold mulM; grind
theorem det_step (f : F3) : (stepM f).p * (stepM f).s - (stepM f).q * (stepM f).r = 1 := by
  unfold stepM; split <;> simp
/-- A definite form that isn't reduced: swapped, or moved by k. -/
theorem step_S {f : F3} (h : inB f.y (-f.x + 1) f.x = true) (m : M4) : stepR ⟨f, m⟩ = ⟨⟨f.z, -f.y, f.x⟩, mulM m ⟨0, -1, 1, 0⟩⟩ := by
  unfold stepR stepM
  rw [if_pos h]
  simp [madeForm, formAt, formMid]
def stepK (f : F3) : Int := (-f.x - f.y) / (2 * f.x) + 1
theorem step_T {f : F3} (h : inB f.y (-f.x + 1) f.x = false) (m : M4) : stepR ⟨f, m⟩ = ⟨⟨f.x, f.y + 2 * f.x * stepK f, formAt f.x f.y f.z (stepK f) 1⟩, mulM m ⟨1, stepK f, 0, 1⟩⟩ := by
  unfold stepR stepM
  rw [if_neg (by rw [h]; simp)]
  simp only [madeForm, RS.mk.injEq, F3.mk.injEq]
  refine ⟨⟨?_, ?_, rfl⟩, rfl⟩
  · unfold formAt; grind
  · unfold formMid stepK; grind
/-- The moved middle number lies in -x + 1 .. x. -/
theorem stepK_in {f : F3} (hx : 0 < f.x) : -f.x < f.y + 2 * f.x * stepK f ∧ f.y + 2 * f.x * stepK f ≤ f.x := by
  have h1 := Int.emod_add_mul_ediv (-f.x - f.y) (2 * f.x)
  have h2 := Int.emod_nonneg (-f.x - f.y) (show 2 * f.x ≠ 0 by omega)
  have h3 := Int.emod_lt_of_pos (-f.x - f.y) (show 0 < 2 * f.x by omega)
  unfold stepK
  have h4 : 2 * f.x * ((-f.x - f.y) / (2 * f.x) + 1) = 2 * f.x * ((-f.x - f.y) / (2 * f.x)) + 2 * f.x := by grind
  omega
theorem stepK_bd {f : F3} (hx : 0 < f.x) (hs : Small f.x f.y f.z) : -1700000 ≤ stepK f ∧ stepK f ≤ 1700000 := by
  obtain ⟨_, a1, b0, b1, _, _⟩ := hs
  have h1 := stepK_in hx
  have h2 : -1000001 ≤ stepK f := by
    refine Int.not_lt.1 fun hh => ?_
    have := Int.mul_le_mul_of_nonneg_left (show stepK f ≤ -1000002 by omega) (show 0 ≤ 2 * f.x by omega)
    omega
  have h3 : stepK f ≤ 1000001 := by
    refine Int.not_lt.1 fun hh => ?_
    have := Int.mul_le_mul_of_nonneg_left (show 1000002 ≤ stepK f by omega) (show 0 ≤ 2 * f.x by omega)
    omega
  omega
theorem inv_step {a b c : Int} {t : RS} (h : DefInv a b c t) : DefInv a b c (stepR t) := by
  obtain ⟨f, m⟩ := t
  obtain ⟨sm, x0, z0, d, dd, f1, f2, f3, det⟩ := h
  simp only at *
  have hmade : madeForm a b c m.p m.q m.r m.s = f := by
    unfold madeForm; rw [f1, f2, f3]
  have hm2 : madeForm a b c (stepR ⟨f, m⟩).m.p (stepR ⟨f, m⟩).m.q (stepR ⟨f, m⟩).m.r (stepR ⟨f, m⟩).m.s = (stepR ⟨f, m⟩).f := by
    have := made_mul a b c m (stepM f)
    rw [hmade] at this
    exact this.symm
  have hdet : (stepR ⟨f, m⟩).m.p * (stepR ⟨f, m⟩).m.s - (stepR ⟨f, m⟩).m.q * (stepR ⟨f, m⟩).m.r = 1 := by
    have := det_mul m (stepM f)
    rw [det, det_step] at this
    simpa [stepR] using this
  have hdisc : disc (stepR ⟨f, m⟩).f.x (stepR ⟨f, m⟩).f.y (stepR ⟨f, m⟩).f.z = disc f.x f.y f.z := by
    have := disc_made f.x f.y f.z (stepM f).p (stepM f).q (stepM f).r (stepM f).s
    rw [det_step] at this
    simpa [stepR] using this
  have hfin : Small (stepR ⟨f, m⟩).f.x (stepR ⟨f, m⟩).f.y (stepR ⟨f, m⟩).f.z ∧ 0 < (stepR ⟨f, m⟩).f.x := by
    cases hi : inB f.y (-f.x + 1) f.x
    · have hk := @stepK_in f x0
      have hno := inB_no.1 hi
      have hT := step_T hi m
      rw [hT] at hdisc ⊢
      simp only at hdisc ⊢
      have hz : 0 < formAt f.x f.y f.z (stepK f) 1 := pos_c (b := f.y + 2 * f.x * stepK f) (a := f.x) (by rw [hdisc]; exact d) x0
      have hle : formAt f.x f.y f.z (stepK f) 1 ≤ f.z := by
        generalize formAt f.x f.y f.z (stepK f) 1 = z' at hdisc hz
        generalize f.y + 2 * f.x * stepK f = y' at hdisc hk
        have h1 : y' * y' ≤ f.y * f.y := by
          rcases Int.le_total 0 y' with h | h <;> rcases Int.le_total 0 f.y with h' | h'
          · exact mul_le_self h (by omega)
          · have := mul_le_self h (show y' ≤ -f.y by omega); rwa [Int.neg_mul_neg] at this
          · have := mul_le_self (show 0 ≤ -y' by omega) (show -y' ≤ f.y by omega); rwa [Int.neg_mul_neg] at this
          · have := mul_le_self (show 0 ≤ -y' by omega) (show -y' ≤ -f.y by omega); rwa [Int.neg_mul_neg, Int.neg_mul_neg] at this
        unfold disc at hdisc
        have h2 : 4 * f.x * z' ≤ 4 * f.x * f.z := by omega
        exact Int.le_of_mul_le_mul_left h2 (by omega)
      obtain ⟨a0, a1, b0, b1, c0, c1⟩ := sm
      exact ⟨⟨by omega, a1, by omega, by omega, by omega, by omega⟩, x0⟩
    · rw [step_S hi m]
      obtain ⟨a0, a1, b0, b1, c0, c1⟩ := sm
      exact ⟨⟨c0, c1, by simp only; omega, by simp only; omega, a0, a1⟩, z0⟩
  refine ⟨hfin.1, hfin.2, pos_c (by rw [hdisc]; exact d) hfin.2, by rw [hdisc]; exact d, by rw [hdisc]; exact dd, ?_, ?_, ?_, hdet⟩
  · exact congrArg F3.x hm2
  · exact congrArg F3.y hm2
  · exact congrArg F3.z hm2
theorem meas_step {a b c : Int} {t : RS} (h : DefInv a b c t) (hr : redB t.f.x t.f.y t.f.z = false) : meas (stepR t).f < meas t.f := by
  obtain ⟨f, m⟩ := t
  obtain ⟨sm, x0, z0, d, -, -, -, -, -⟩ := h
  simp only at *
  cases hi : inB f.y (-f.x + 1) f.x
  · have hk := @stepK_in f x0
    rw [step_T hi m]
    have hi2 : inB (f.y + 2 * f.x * stepK f) (-f.x + 1) f.x = true := inB_iff.2 (by omega)
    unfold meas
    simp only [hi, hi2]
    simp only [if_true, Bool.false_eq_true, if_false]
    split <;> omega
  · have hy := inB_iff.1 hi
    rw [step_S hi m]
    unfold redB at hr
    rw [if_pos ⟨d, x0⟩] at hr
    simp [redDef] at hr
    unfold meas
    simp only [hi, if_true]
    by_cases hxz : f.z < f.x
    · have : ∀ u : Int, u ≤ 3 → 4 * f.z + u < 4 * f.x + 1 := by intro u hu; omega
      have h1 := this (if inB (-f.y) (-f.z + 1) f.z = true then if -f.y < 0 then 2 else 1 else 3) (by split <;> (try split) <;> omega)
      split <;> omega
    · have hr2 := hr (by omega) (by omega) (by omega)
      have hyn : f.y < 0 := by omega
      have hxe : f.x = f.z := by
        have := hr2.2
        by_cases e : -f.y = f.x
        · omega
        · exact this e
      have hi2 : inB (-f.y) (-f.z + 1) f.z = true := inB_iff.2 (by omega)
      simp only [hi2, if_true]
      rw [if_neg (by omega), if_pos hyn]
      omega
theorem meas_pos {a b c : Int} {t : RS} (h : DefInv a b c t) : 0 ≤ meas t.f := by
  have := h.x0
  unfold meas
  split <;> (try split) <;> omega
/-- The reduced form and its matrix. -/
def reduceOf (a b c : Int) : RS := reduceN (meas ⟨a, b, c⟩).toNat ⟨⟨a, b, c⟩, ⟨1, 0, 0, 1⟩⟩
end Go.Proofs.Ytkhlgphmimddhaa
