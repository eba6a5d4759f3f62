/- Plain: genera of the levels 56 to 60, by the kernel. -/
import Derived.Test.YtjkemnnkgihefaaE5A
namespace Go.Proofs.Ytjkemnnkgihefaa
set_option maxRecDepth 100000 in
theorem genOk_56 : genOk 56 = true := by decide +kernel
set_option maxRecDepth 100000 in
theorem genOk_57 : genOk 57 = true := by decide +kernel
set_option maxRecDepth 100000 in
theorem genOk_58 : genOk 58 = true := by decide +kernel
set_option maxRecDepth 100000 in
theorem genOk_59 : genOk 59 = true := by decide +kernel
set_option maxRecDepth 100000 in
theorem genOk_60 : genOk 60 = true := by decide +kernel
end Go.Proofs.Ytjkemnnkgihefaa
