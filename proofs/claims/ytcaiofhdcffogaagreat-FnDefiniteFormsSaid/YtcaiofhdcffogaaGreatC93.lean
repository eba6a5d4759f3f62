/- The law CycleOf. -/
import Derived.Test.YtcaiofhdcffogaaGreatC92
import Derived.Test.YtcaiofhdcffogaaGreatR2
namespace Go.Proofs.YtcaiofhdcffogaaGreat
open Go.RowKit
end Go.Proofs.YtcaiofhdcffogaaGreat
