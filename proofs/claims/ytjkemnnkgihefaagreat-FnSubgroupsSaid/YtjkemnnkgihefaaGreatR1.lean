/- Contracts: the law's own helpers over rows of integers. -/
import Derived.Test.YtjkemnnkgihefaaGreatRows
import Derived.Test.YtjkemnnkgihefaaGreatRow
namespace Go.Proofs.YtjkemnnkgihefaaGreat
open Go.RowKit
end Go.Proofs.YtjkemnnkgihefaaGreat
