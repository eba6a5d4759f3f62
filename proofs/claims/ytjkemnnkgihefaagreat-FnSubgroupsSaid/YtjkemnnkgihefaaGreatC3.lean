/- Contracts: arrays copied and compared by the laws; forms. -/
import Derived.Test.YtjkemnnkgihefaaGreatC2
namespace Go.Proofs.YtjkemnnkgihefaaGreat
open Go.RowKit

end Go.Proofs.YtjkemnnkgihefaaGreat
