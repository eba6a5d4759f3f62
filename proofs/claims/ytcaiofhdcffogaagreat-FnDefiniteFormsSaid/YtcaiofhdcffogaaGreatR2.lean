/- Contracts: the law's own helpers over rows of arrays (written by gen_rows.py). -/
import Derived.Test.YtcaiofhdcffogaaGreatR1
import Derived.Test.YtcaiofhdcffogaaGreatCa
import Derived.Test.YtcaiofhdcffogaaGreatC30
namespace Go.Proofs.YtcaiofhdcffogaaGreat
open Go.RowKit
end Go.Proofs.YtcaiofhdcffogaaGreat
