/- Contracts: the law's own helpers over rows of rows. -/
import Derived.Test.YtjkemnnkgihefaaR1
import Derived.Test.YtjkemnnkgihefaaRa
namespace Go.Proofs.Ytjkemnnkgihefaa
open Go.RowKit
abbrev SS (w : World) (B : Nat) (v : Value) (n : Nat) (inn : List Value) (len : Nat → Nat) (f : Nat → List Value) : Prop := OwnsSS w B 54 2 v n inn len f
theorem ss_ne : (54 : TypeId) ≠ 2 := by decide
end Go.Proofs.Ytjkemnnkgihefaa
