/- Contracts: the law's own helpers over rows of rows. -/
import Derived.Test.YtjkemnnkgihefaaGreatR1
import Derived.Test.YtjkemnnkgihefaaGreatRow2
namespace Go.Proofs.YtjkemnnkgihefaaGreat
open Go.RowKit
abbrev SS (w : World) (B : Nat) (v : Value) (n : Nat) (inn : List Value) (len : Nat → Nat) (f : Nat → List Value) : Prop := OwnsSS w B 46 2 v n inn len f
theorem ss_ne : (46 : TypeId) ≠ 2 := by decide
end Go.Proofs.YtjkemnnkgihefaaGreat
