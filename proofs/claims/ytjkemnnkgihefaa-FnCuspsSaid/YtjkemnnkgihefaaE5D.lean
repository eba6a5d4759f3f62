/- Plain: genera of the levels 43 to 50, by the kernel. -/
import Derived.Test.YtjkemnnkgihefaaE5A
namespace Go.Proofs.Ytjkemnnkgihefaa
set_option maxRecDepth 100000 in
theorem genOk_43 : genOk 43 = true := by decide +kernel
set_option maxRecDepth 100000 in
theorem genOk_44 : genOk 44 = true := by decide +kernel
set_option maxRecDepth 100000 in
theorem genOk_45 : genOk 45 = true := by decide +kernel
set_option maxRecDepth 100000 in
theorem genOk_46 : genOk 46 = true := by decide +kernel
set_option maxRecDepth 100000 in
theorem genOk_47 : genOk 47 = true := by decide +kernel
set_option maxRecDepth 100000 in
theorem genOk_48 : genOk 48 = true := by decide +kernel
set_option maxRecDepth 100000 in
theorem genOk_49 : genOk 49 = true := by decide +kernel
set_option maxRecDepth 100000 in
theorem genOk_50 : genOk 50 = true := by decide +kernel
end Go.Proofs.Ytjkemnnkgihefaa
