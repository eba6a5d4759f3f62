/- Contracts: the law's own helpers over rows of integers. -/
import Derived.Test.YtcaiofhdcffogaaRows
import Derived.Test.YtcaiofhdcffogaaRow
namespace Go.Proofs.Ytcaiofhdcffogaa
open Go.RowKit
end Go.Proofs.Ytcaiofhdcffogaa
