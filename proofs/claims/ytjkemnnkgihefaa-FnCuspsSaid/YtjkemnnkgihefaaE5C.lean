/- Plain: genera of the levels 31 to 42, by the kernel. -/
import Derived.Test.YtjkemnnkgihefaaE5A
namespace Go.Proofs.Ytjkemnnkgihefaa
set_option maxRecDepth 100000 in
theorem genOk_31 : genOk 31 = true := by decide +kernel
set_option maxRecDepth 100000 in
theorem genOk_32 : genOk 32 = true := by decide +kernel
set_option maxRecDepth 100000 in
theorem genOk_33 : genOk 33 = true := by decide +kernel
set_option maxRecDepth 100000 in
theorem genOk_34 : genOk 34 = true := by decide +kernel
set_option maxRecDepth 100000 in
theorem genOk_35 : genOk 35 = true := by decide +kernel
set_option maxRecDepth 100000 in
theorem genOk_36 : genOk 36 = true := by decide +kernel
set_option maxRecDepth 100000 in
theorem genOk_37 : genOk 37 = true := by decide +kernel
set_option maxRecDepth 100000 in
theorem genOk_38 : genOk 38 = true := by decide +kernel
set_option maxRecDepth 100000 in
theorem genOk_39 : genOk 39 = true := by decide +kernel
set_option maxRecDepth 100000 in
theorem genOk_40 : genOk 40 = true := by decide +kernel
set_option maxRecDepth 100000 in
theorem genOk_41 : genOk 41 = true := by decide +kernel
set_option maxRecDepth 100000 in
theorem genOk_42 : genOk 42 = true := by decide +kernel
end Go.Proofs.Ytjkemnnkgihefaa
