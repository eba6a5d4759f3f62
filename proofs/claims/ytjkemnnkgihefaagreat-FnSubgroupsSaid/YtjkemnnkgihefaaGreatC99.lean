/- Contracts: the numbers of cusps, the model's own. -/
import Derived.Test.YtjkemnnkgihefaaGreatC98
namespace Go.Proofs.YtjkemnnkgihefaaGreat
open Go.RowKit
/-- The coset behind each coset, for T. -/
def cosP (n : Int) : List Int := movedL n (lineL n) 1 1 0 1
theorem cosP_len (n : Int) : (cosP n).length = (lineL n).length := movedL_len _ _ _ _ _ _
theorem cosP_at {n : Int} {k : Nat} (h : k < (lineL n).length) : (cosP n).getD k 0 = cosetI n (lineL n) (lineL n)[k].x ((lineL n)[k].x + (lineL n)[k].y) := by
  unfold cosP
  rw [movedL_at h, Int.mul_one, Int.mul_zero, Int.mul_one, Int.add_zero]
theorem cosP_in {N : Nat} (n0 : 0 < N) : PIn (cosP N) := by
  have key : ∀ k, k < (cosP N).length → 0 ≤ (cosP N).getD k 0 ∧ (cosP N).getD k 0 < (cosP N).length := fun k hk => by
    rw [cosP_len] at hk ⊢
    rw [cosP_at hk]
    have h := line_bd n0 hk
    exact coset_in (by omega) (pair_T h.pair)
  exact ⟨fun k hk => (key k hk).1, fun k hk => (key k hk).2⟩
theorem rep_snoc (k : Nat) : List.replicate (k + 1) (-1 : Int) = List.replicate k (-1) ++ [-1] := by rw [List.replicate_succ']
end Go.Proofs.YtjkemnnkgihefaaGreat
