/- Points in sixteenths, rows 85 to 101: reckoned by the kernel. Conditions: none. -/
import Derived.Test.YtcmmafkmfahijaaPt
namespace Go.Proofs.Ytcmmafkmfahijaa
set_option maxRecDepth 100000
theorem row_85 : rowN 129 0 85 = true := by decide +kernel
theorem row_86 : rowN 129 0 86 = true := by decide +kernel
theorem row_87 : rowN 129 0 87 = true := by decide +kernel
theorem row_88 : rowN 129 0 88 = true := by decide +kernel
theorem row_89 : rowN 129 0 89 = true := by decide +kernel
theorem row_90 : rowN 129 0 90 = true := by decide +kernel
theorem row_91 : rowN 129 0 91 = true := by decide +kernel
theorem row_92 : rowN 129 0 92 = true := by decide +kernel
theorem row_93 : rowN 129 0 93 = true := by decide +kernel
theorem row_94 : rowN 129 0 94 = true := by decide +kernel
theorem row_95 : rowN 129 0 95 = true := by decide +kernel
theorem row_96 : rowN 129 0 96 = true := by decide +kernel
theorem row_97 : rowN 129 0 97 = true := by decide +kernel
theorem row_98 : rowN 129 0 98 = true := by decide +kernel
theorem row_99 : rowN 129 0 99 = true := by decide +kernel
theorem row_100 : rowN 129 0 100 = true := by decide +kernel
theorem row_101 : rowN 129 0 101 = true := by decide +kernel
end Go.Proofs.Ytcmmafkmfahijaa
