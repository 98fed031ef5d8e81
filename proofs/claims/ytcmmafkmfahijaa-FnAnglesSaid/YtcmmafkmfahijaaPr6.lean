/- Points in sixteenths, rows 102 to 118: reckoned by the kernel. Conditions: none. -/
import Derived.Test.YtcmmafkmfahijaaPt
namespace Go.Proofs.Ytcmmafkmfahijaa
set_option maxRecDepth 100000
theorem row_102 : rowN 129 0 102 = true := by decide +kernel
theorem row_103 : rowN 129 0 103 = true := by decide +kernel
theorem row_104 : rowN 129 0 104 = true := by decide +kernel
theorem row_105 : rowN 129 0 105 = true := by decide +kernel
theorem row_106 : rowN 129 0 106 = true := by decide +kernel
theorem row_107 : rowN 129 0 107 = true := by decide +kernel
theorem row_108 : rowN 129 0 108 = true := by decide +kernel
theorem row_109 : rowN 129 0 109 = true := by decide +kernel
theorem row_110 : rowN 129 0 110 = true := by decide +kernel
theorem row_111 : rowN 129 0 111 = true := by decide +kernel
theorem row_112 : rowN 129 0 112 = true := by decide +kernel
theorem row_113 : rowN 129 0 113 = true := by decide +kernel
theorem row_114 : rowN 129 0 114 = true := by decide +kernel
theorem row_115 : rowN 129 0 115 = true := by decide +kernel
theorem row_116 : rowN 129 0 116 = true := by decide +kernel
theorem row_117 : rowN 129 0 117 = true := by decide +kernel
theorem row_118 : rowN 129 0 118 = true := by decide +kernel
end Go.Proofs.Ytcmmafkmfahijaa
