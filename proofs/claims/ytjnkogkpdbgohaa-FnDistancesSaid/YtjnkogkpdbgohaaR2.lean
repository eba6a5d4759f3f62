/- Contracts: the law's own helpers over rows of arrays (written by gen_rows.py). -/
import Derived.Test.YtjnkogkpdbgohaaR1
import Derived.Test.YtjnkogkpdbgohaaC3
import Derived.Test.YtjnkogkpdbgohaaC30
namespace Go.Proofs.Ytjnkogkpdbgohaa
open Go.RowKit
end Go.Proofs.Ytjnkogkpdbgohaa
