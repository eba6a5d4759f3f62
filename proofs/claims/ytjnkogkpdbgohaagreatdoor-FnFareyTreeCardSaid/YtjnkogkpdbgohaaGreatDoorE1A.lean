/- Draws of levels. -/
import Derived.Test.YtjnkogkpdbgohaaGreatDoorDa
namespace Go.Proofs.YtjnkogkpdbgohaaGreatDoor
open Go.RowKit
end Go.Proofs.YtjnkogkpdbgohaaGreatDoor
