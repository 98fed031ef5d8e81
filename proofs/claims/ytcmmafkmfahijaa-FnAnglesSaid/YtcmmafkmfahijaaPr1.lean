/- Points in sixteenths, rows 17 to 33: reckoned by the kernel. Conditions: none. -/
import Derived.Test.YtcmmafkmfahijaaPt
namespace Go.Proofs.Ytcmmafkmfahijaa
set_option maxRecDepth 100000
theorem row_17 : rowN 129 0 17 = true := by decide +kernel
theorem row_18 : rowN 129 0 18 = true := by decide +kernel
theorem row_19 : rowN 129 0 19 = true := by decide +kernel
theorem row_20 : rowN 129 0 20 = true := by decide +kernel
theorem row_21 : rowN 129 0 21 = true := by decide +kernel
theorem row_22 : rowN 129 0 22 = true := by decide +kernel
theorem row_23 : rowN 129 0 23 = true := by decide +kernel
theorem row_24 : rowN 129 0 24 = true := by decide +kernel
theorem row_25 : rowN 129 0 25 = true := by decide +kernel
theorem row_26 : rowN 129 0 26 = true := by decide +kernel
theorem row_27 : rowN 129 0 27 = true := by decide +kernel
theorem row_28 : rowN 129 0 28 = true := by decide +kernel
theorem row_29 : rowN 129 0 29 = true := by decide +kernel
theorem row_30 : rowN 129 0 30 = true := by decide +kernel
theorem row_31 : rowN 129 0 31 = true := by decide +kernel
theorem row_32 : rowN 129 0 32 = true := by decide +kernel
theorem row_33 : rowN 129 0 33 = true := by decide +kernel
end Go.Proofs.Ytcmmafkmfahijaa
