/- Contracts: a great law's own helpers: a code's length, lists of integers compared, a number found. -/
import Derived.Test.YtjnkogkpdbgohaaGreatDoorDa
namespace Go.Proofs.YtjnkogkpdbgohaaGreatDoor
open Go.RowKit
theorem big_any (a : Option Addr) (len cap : Nat) (w : World) (hl : len ≤ maxLen) :
    Calls Tryz.prog 4 #[.slice a len cap] w fun e w' => e = .returned (.bool (decide (4096 < len))) ∧ w = w' := by
  unfold maxLen at hl
  by_cases h : 4096 < len
  all_goals
    go_enter Tryz.func4, Tryz.ntmps4
    go_wp2
    go_ret
    exact ⟨ret_bool (by simp; omega), rfl⟩
end Go.Proofs.YtjnkogkpdbgohaaGreatDoor
