/- Plain: the numbers without a common divisor, up to some number. -/
import Derived.Test.YtkhlgphmimddhaaN14
namespace Go.Proofs.Ytkhlgphmimddhaa
/-- Those of 1..m that have no common divisor with k. -/
def unitsL (k : Int) : Nat → List Int
  | 0 => []
  | m + 1 => unitsL k m ++ (if (Int.gcd ((m : Int) + 1) k : Int) = 1 then [(m : Int) + 1] else [])
theorem unitsL_yes {k : Int} {m : Nat} (h : (Int.gcd ((m : Int) + 1) k : Int) = 1) : unitsL k (m + 1) = unitsL k m ++ [(m : Int) + 1] := by simp [unitsL, h]
theorem unitsL_no {k : Int} {m : Nat} (h : (Int.gcd ((m : Int) + 1) k : Int) ≠ 1) : unitsL k (m + 1) = unitsL k m := by simp [unitsL, h]
theorem unitsL_len (k : Int) (m : Nat) : (unitsL k m).length ≤ m := by
  induction m with
  | zero => simp [unitsL]
  | succ m ih => unfold unitsL; split <;> simp <;> omega
theorem unitsL_mem {k x : Int} {m : Nat} (h : x ∈ unitsL k m) : 1 ≤ x ∧ x ≤ m ∧ (Int.gcd x k : Int) = 1 := by
  induction m with
  | zero => simp [unitsL] at h
  | succ m ih =>
    unfold unitsL at h
    rcases List.mem_append.1 h with h | h
    · have := ih h; omega
    · split at h
      · simp at h; subst h; rename_i hg; exact ⟨by omega, by omega, hg⟩
      · simp at h
end Go.Proofs.Ytkhlgphmimddhaa
