/- Points in sixteenths, rows 119 to 128: reckoned by the kernel. Conditions: none. -/
import Derived.Test.YtcmmafkmfahijaaPt
namespace Go.Proofs.Ytcmmafkmfahijaa
set_option maxRecDepth 100000
theorem row_119 : rowN 129 0 119 = true := by decide +kernel
theorem row_120 : rowN 129 0 120 = true := by decide +kernel
theorem row_121 : rowN 129 0 121 = true := by decide +kernel
theorem row_122 : rowN 129 0 122 = true := by decide +kernel
theorem row_123 : rowN 129 0 123 = true := by decide +kernel
theorem row_124 : rowN 129 0 124 = true := by decide +kernel
theorem row_125 : rowN 129 0 125 = true := by decide +kernel
theorem row_126 : rowN 129 0 126 = true := by decide +kernel
theorem row_127 : rowN 129 0 127 = true := by decide +kernel
theorem row_128 : rowN 129 0 128 = true := by decide +kernel
end Go.Proofs.Ytcmmafkmfahijaa
