/- Draws of levels. -/
import Derived.Test.YtjnkogkpdbgohaaD2A
namespace Go.Proofs.Ytjnkogkpdbgohaa
open Go.RowKit
end Go.Proofs.Ytjnkogkpdbgohaa
