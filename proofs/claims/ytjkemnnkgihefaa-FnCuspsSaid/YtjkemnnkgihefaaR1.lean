/- Contracts: the law's own helpers over rows of integers. -/
import Derived.Test.YtjkemnnkgihefaaRows
import Derived.Test.YtjkemnnkgihefaaRa
namespace Go.Proofs.Ytjkemnnkgihefaa
open Go.RowKit
end Go.Proofs.Ytjkemnnkgihefaa
