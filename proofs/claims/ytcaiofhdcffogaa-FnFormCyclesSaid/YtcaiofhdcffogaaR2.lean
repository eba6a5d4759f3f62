/- Contracts: the law's own helpers over rows of arrays (written by gen_rows.py). -/
import Derived.Test.YtcaiofhdcffogaaR1
import Derived.Test.YtcaiofhdcffogaaCa
import Derived.Test.YtcaiofhdcffogaaC30
namespace Go.Proofs.Ytcaiofhdcffogaa
open Go.RowKit
end Go.Proofs.Ytcaiofhdcffogaa
