/- Contracts: the law's own helpers over rows of integers. -/
import Derived.Test.YtcaiofhdcffogaaGreatRows
import Derived.Test.YtcaiofhdcffogaaGreatRow
namespace Go.Proofs.YtcaiofhdcffogaaGreat
open Go.RowKit
end Go.Proofs.YtcaiofhdcffogaaGreat
