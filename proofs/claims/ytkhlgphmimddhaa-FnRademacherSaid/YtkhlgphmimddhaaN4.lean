/- Plain facts: the form of a matrix. -/
import Derived.Test.YtkhlgphmimddhaaN3
namespace Go.Proofs.Ytkhlgphmimddhaa
theorem tdiv_bd {a b K : Int} (h1 : -K ≤ a) (h2 : a ≤ K) : -K ≤ a.tdiv b ∧ a.tdiv b ≤ K := by
  have h3 : (a.tdiv b).natAbs = a.natAbs / b.natAbs := by rw [Int.natAbs_tdiv]; rfl
  have h4 : a.natAbs / b.natAbs ≤ a.natAbs := Nat.div_le_self _ _
  omega
def formGcd (a b c d : Int) : Int := (Int.gcd (Int.gcd c (d - a)) (-b) : Int)
/-- What FormOfMatrix says of a matrix that is one. -/
def formOfM (a b c d : Int) : F3 × Int :=
  if kindOf a b c d = 0 then (⟨0, 0, 0⟩, 5) else
  if smallB (c.tdiv (formGcd a b c d)) ((d - a).tdiv (formGcd a b c d)) (-(b.tdiv (formGcd a b c d))) = true then (⟨c.tdiv (formGcd a b c d), (d - a).tdiv (formGcd a b c d), -(b.tdiv (formGcd a b c d))⟩, 0) else (⟨0, 0, 0⟩, 3)
theorem kind_ne {a b c d : Int} (h : kindOf a b c d ≠ 0) : ¬ (b = 0 ∧ c = 0) := fun hh => h (by unfold kindOf; rw [if_pos hh])
theorem kind_0 {a b c d : Int} (h : kindOf a b c d = 0) : b = 0 ∧ c = 0 := by
  unfold kindOf at h
  split at h
  · assumption
  · split at h
    · omega
    · split at h <;> omega
theorem formGcd_dvd (a b c d : Int) : formGcd a b c d ∣ c ∧ formGcd a b c d ∣ d - a ∧ formGcd a b c d ∣ -b := by
  unfold formGcd
  refine ⟨Int.dvd_trans (Int.gcd_dvd_left _ _) (Int.gcd_dvd_left _ _), Int.dvd_trans (Int.gcd_dvd_left _ _) (Int.gcd_dvd_right _ _), Int.gcd_dvd_right _ _⟩
theorem formGcd_pos {a b c d : Int} (h : ¬ (b = 0 ∧ c = 0)) : 1 ≤ formGcd a b c d := by
  have h0 : 0 ≤ formGcd a b c d := by unfold formGcd; omega
  have h1 : formGcd a b c d ≠ 0 := by
    intro e
    obtain ⟨d1, _, d3⟩ := formGcd_dvd a b c d
    rw [e] at d1 d3
    have := Int.zero_dvd.1 d1
    have := Int.zero_dvd.1 d3
    exact h ⟨by omega, by omega⟩
  omega
theorem formGcd_le {a b c d : Int} (h : IsMat a b c d) (hn : ¬ (b = 0 ∧ c = 0)) : formGcd a b c d ≤ 1000000000 := by
  obtain ⟨d1, _, d3⟩ := formGcd_dvd a b c d
  obtain ⟨_, _, b0, b1, c0, c1, _⟩ := h
  by_cases hb : b = 0
  · have hc : c ≠ 0 := fun e => hn ⟨hb, e⟩
    rcases Int.lt_or_gt_of_ne hc with h1 | h1
    · have := Int.le_of_dvd (show 0 < -c by omega) (Int.dvd_neg.2 d1); omega
    · have := Int.le_of_dvd h1 d1; omega
  · rcases Int.lt_or_gt_of_ne hb with h1 | h1
    · have := Int.le_of_dvd (show 0 < -b by omega) d3; omega
    · have := Int.le_of_dvd h1 (Int.dvd_neg.1 d3); omega
theorem formOf_ne {a b c d : Int} (h : ¬ (b = 0 ∧ c = 0)) : ¬ (c.tdiv (formGcd a b c d) = 0 ∧ (d - a).tdiv (formGcd a b c d) = 0 ∧ -(b.tdiv (formGcd a b c d)) = 0) := by
  rintro ⟨h1, _, h3⟩
  rw [← Int.neg_tdiv] at h3
  obtain ⟨d1, _, d3⟩ := formGcd_dvd a b c d
  have e1 := Int.mul_tdiv_cancel' d1
  have e3 := Int.mul_tdiv_cancel' d3
  rw [h1] at e1
  rw [h3] at e3
  exact h ⟨by omega, by omega⟩
end Go.Proofs.Ytkhlgphmimddhaa
namespace Go.Proofs.Ytkhlgphmimddhaa
def formOfMat (a b c d : Int) : F3 × Int := if isMat a b c d = true then formOfM a b c d else (⟨0, 0, 0⟩, 1)
end Go.Proofs.Ytkhlgphmimddhaa
