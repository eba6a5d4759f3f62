/- Plain: genera of the levels 1 to 30, by the kernel. -/
import Derived.Test.YtjkemnnkgihefaaE5A
namespace Go.Proofs.Ytjkemnnkgihefaa
set_option maxRecDepth 100000 in
theorem genOk_1 : genOk 1 = true := by decide +kernel
set_option maxRecDepth 100000 in
theorem genOk_2 : genOk 2 = true := by decide +kernel
set_option maxRecDepth 100000 in
theorem genOk_3 : genOk 3 = true := by decide +kernel
set_option maxRecDepth 100000 in
theorem genOk_4 : genOk 4 = true := by decide +kernel
set_option maxRecDepth 100000 in
theorem genOk_5 : genOk 5 = true := by decide +kernel
set_option maxRecDepth 100000 in
theorem genOk_6 : genOk 6 = true := by decide +kernel
set_option maxRecDepth 100000 in
theorem genOk_7 : genOk 7 = true := by decide +kernel
set_option maxRecDepth 100000 in
theorem genOk_8 : genOk 8 = true := by decide +kernel
set_option maxRecDepth 100000 in
theorem genOk_9 : genOk 9 = true := by decide +kernel
set_option maxRecDepth 100000 in
theorem genOk_10 : genOk 10 = true := by decide +kernel
set_option maxRecDepth 100000 in
theorem genOk_11 : genOk 11 = true := by decide +kernel
set_option maxRecDepth 100000 in
theorem genOk_12 : genOk 12 = true := by decide +kernel
set_option maxRecDepth 100000 in
theorem genOk_13 : genOk 13 = true := by decide +kernel
set_option maxRecDepth 100000 in
theorem genOk_14 : genOk 14 = true := by decide +kernel
set_option maxRecDepth 100000 in
theorem genOk_15 : genOk 15 = true := by decide +kernel
set_option maxRecDepth 100000 in
theorem genOk_16 : genOk 16 = true := by decide +kernel
set_option maxRecDepth 100000 in
theorem genOk_17 : genOk 17 = true := by decide +kernel
set_option maxRecDepth 100000 in
theorem genOk_18 : genOk 18 = true := by decide +kernel
set_option maxRecDepth 100000 in
theorem genOk_19 : genOk 19 = true := by decide +kernel
set_option maxRecDepth 100000 in
theorem genOk_20 : genOk 20 = true := by decide +kernel
set_option maxRecDepth 100000 in
theorem genOk_21 : genOk 21 = true := by decide +kernel
set_option maxRecDepth 100000 in
theorem genOk_22 : genOk 22 = true := by decide +kernel
set_option maxRecDepth 100000 in
theorem genOk_23 : genOk 23 = true := by decide +kernel
set_option maxRecDepth 100000 in
theorem genOk_24 : genOk 24 = true := by decide +kernel
set_option maxRecDepth 100000 in
theorem genOk_25 : genOk 25 = true := by decide +kernel
set_option maxRecDepth 100000 in
theorem genOk_26 : genOk 26 = true := by decide +kernel
set_option maxRecDepth 100000 in
theorem genOk_27 : genOk 27 = true := by decide +kernel
set_option maxRecDepth 100000 in
theorem genOk_28 : genOk 28 = true := by decide +kernel
set_option maxRecDepth 100000 in
theorem genOk_29 : genOk 29 = true := by decide +kernel
set_option maxRecDepth 100000 in
theorem genOk_30 : genOk 30 = true := by decide +kernel
end Go.Proofs.Ytjkemnnkgihefaa
