/- Points in sixteenths, rows 0 to 16: reckoned by the kernel. Conditions: none. -/
import Derived.Test.YtcmmafkmfahijaaPt
namespace Go.Proofs.Ytcmmafkmfahijaa
set_option maxRecDepth 100000
theorem row_0 : rowN 129 0 0 = true := by decide +kernel
theorem row_1 : rowN 129 0 1 = true := by decide +kernel
theorem row_2 : rowN 129 0 2 = true := by decide +kernel
theorem row_3 : rowN 129 0 3 = true := by decide +kernel
theorem row_4 : rowN 129 0 4 = true := by decide +kernel
theorem row_5 : rowN 129 0 5 = true := by decide +kernel
theorem row_6 : rowN 129 0 6 = true := by decide +kernel
theorem row_7 : rowN 129 0 7 = true := by decide +kernel
theorem row_8 : rowN 129 0 8 = true := by decide +kernel
theorem row_9 : rowN 129 0 9 = true := by decide +kernel
theorem row_10 : rowN 129 0 10 = true := by decide +kernel
theorem row_11 : rowN 129 0 11 = true := by decide +kernel
theorem row_12 : rowN 129 0 12 = true := by decide +kernel
theorem row_13 : rowN 129 0 13 = true := by decide +kernel
theorem row_14 : rowN 129 0 14 = true := by decide +kernel
theorem row_15 : rowN 129 0 15 = true := by decide +kernel
theorem row_16 : rowN 129 0 16 = true := by decide +kernel
end Go.Proofs.Ytcmmafkmfahijaa
