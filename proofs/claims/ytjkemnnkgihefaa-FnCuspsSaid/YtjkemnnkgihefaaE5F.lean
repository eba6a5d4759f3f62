/- Plain: genera of the levels 51 to 55, by the kernel. -/
import Derived.Test.YtjkemnnkgihefaaE5A
namespace Go.Proofs.Ytjkemnnkgihefaa
set_option maxRecDepth 100000 in
theorem genOk_51 : genOk 51 = true := by decide +kernel
set_option maxRecDepth 100000 in
theorem genOk_52 : genOk 52 = true := by decide +kernel
set_option maxRecDepth 100000 in
theorem genOk_53 : genOk 53 = true := by decide +kernel
set_option maxRecDepth 100000 in
theorem genOk_54 : genOk 54 = true := by decide +kernel
set_option maxRecDepth 100000 in
theorem genOk_55 : genOk 55 = true := by decide +kernel
end Go.Proofs.Ytjkemnnkgihefaa
