/- Contracts: the law's own helpers over rows of integers. -/
import Derived.Test.YtjnkogkpdbgohaaGreatDoorRows
import Derived.Test.YtjnkogkpdbgohaaGreatDoorRow
namespace Go.Proofs.YtjnkogkpdbgohaaGreatDoor
open Go.RowKit
end Go.Proofs.YtjnkogkpdbgohaaGreatDoor
