/- Contracts: fractions. -/
import Derived.Test.YtcaiofhdcffogaaCa
import Derived.Test.YtcaiofhdcffogaaNa
namespace Go.Proofs.Ytcaiofhdcffogaa
open Go.RowKit
theorem allB2 (a b : Int) : (allB 2 fun i => entB (if i = 0 then a else b)) = (entB a && entB b) := by
  simp [allB, List.range_succ]
end Go.Proofs.Ytcaiofhdcffogaa
