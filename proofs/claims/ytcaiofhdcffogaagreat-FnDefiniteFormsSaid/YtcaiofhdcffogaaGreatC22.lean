/- Contracts: NextForm; the law. -/
import Derived.Test.YtcaiofhdcffogaaGreatC21
namespace Go.Proofs.YtcaiofhdcffogaaGreat
open Go.RowKit
theorem sqB_sq (b : Int) : sqB (b * b) = true := by
  have h : IsRoot (b.natAbs : Int) (b * b) := by
    have e : (b.natAbs : Int) * b.natAbs = b * b := Int.natAbs_mul_self' b
    refine ⟨by omega, by omega, ?_⟩
    rw [show ((b.natAbs : Int) + 1) * (b.natAbs + 1) = b.natAbs * b.natAbs + 2 * b.natAbs + 1 by grind, e]; omega
  have := root_unique (isqrt_root (sq_nn b)) h
  unfold sqB
  rw [this, Int.natAbs_mul_self' b]; simp
theorem ind_c {a b c : Int} (h : indB a b c = true) : 0 < disc a b c ∧ c ≠ 0 := by
  simp [indB] at h
  refine ⟨h.1, fun hc => ?_⟩
  have h2 := h.2
  rw [hc, show disc a b 0 = b * b by unfold disc; grind, sqB_sq] at h2
  simp at h2
theorem isForm_c {a b c : Int} (h : a ≠ 0) : isForm a b c = smallB a b c := by
  rw [Bool.eq_iff_iff]; simp [isForm, smallB, h]
def nextRes (a b c : Int) : F3 × Int := if isForm a b c = true then (if indB a b c = true ∧ redB a b c = true then (if smallB (nextF a b c).x (nextF a b c).y (nextF a b c).z = true then (nextF a b c, 0) else (⟨0, 0, 0⟩, 3)) else (⟨0, 0, 0⟩, 5)) else (⟨0, 0, 0⟩, 1)
def givenC (a b c : Int) : Int := if isForm a b c = true then (if indB a b c = true ∧ redB a b c = true then 0 else 5) else 1
end Go.Proofs.YtcaiofhdcffogaaGreat
