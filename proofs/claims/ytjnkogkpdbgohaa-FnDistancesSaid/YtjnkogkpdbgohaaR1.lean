/- Contracts: the law's own helpers over rows of integers. -/
import Derived.Test.YtjnkogkpdbgohaaRows
import Derived.Test.YtjnkogkpdbgohaaRow
namespace Go.Proofs.Ytjnkogkpdbgohaa
open Go.RowKit
end Go.Proofs.Ytjnkogkpdbgohaa
