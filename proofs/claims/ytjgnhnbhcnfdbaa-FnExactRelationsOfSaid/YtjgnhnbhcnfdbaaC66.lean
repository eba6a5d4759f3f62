/- Contracts: LineOf; its law. -/
import Derived.Test.YtjgnhnbhcnfdbaaC65
namespace Go.Proofs.Ytjgnhnbhcnfdbaa
open Go.RowKit
structure SSRes where
  xss : List (List Int)
  n : Nat
  c : Int
def lineRes (n : Int) : SSRes := if inB n 1 60 = true then ⟨lineXs (lineL n), (lineL n).length, 0⟩ else ⟨[], 0, 2⟩
theorem offs_line (l : List P2) : ∀ k, k ≤ l.length → offs (lineXs l) k = 2 * k
  | 0, _ => rfl
  | k + 1, h => by
    show offs (lineXs l) k + ((lineXs l).getD k []).length = _
    rw [offs_line l k (by omega), lineXs_at (show k < l.length by omega)]
    simp; omega
theorem lineRes_n (n : Int) : (lineRes n).n ≤ 1000000 ∧ offs (lineRes n).xss (lineRes n).n ≤ 1000000000 := by
  unfold lineRes
  split
  · rename_i h
    have := (inB_iff.1 h).2
    have hl := lineL_len this
    simp only
    rw [offs_line _ _ (Nat.le_refl _)]
    omega
  · simp [offs]
end Go.Proofs.Ytjgnhnbhcnfdbaa
