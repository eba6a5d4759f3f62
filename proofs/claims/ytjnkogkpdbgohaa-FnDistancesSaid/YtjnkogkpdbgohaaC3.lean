/- Contracts: arrays copied and compared by the laws; forms. -/
import Derived.Test.YtjnkogkpdbgohaaC2
namespace Go.Proofs.Ytjnkogkpdbgohaa
open Go.RowKit

end Go.Proofs.Ytjnkogkpdbgohaa
