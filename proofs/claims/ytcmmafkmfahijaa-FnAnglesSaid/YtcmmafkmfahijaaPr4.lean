/- Points in sixteenths, rows 68 to 84: reckoned by the kernel. Conditions: none. -/
import Derived.Test.YtcmmafkmfahijaaPt
namespace Go.Proofs.Ytcmmafkmfahijaa
set_option maxRecDepth 100000
theorem row_68 : rowN 129 0 68 = true := by decide +kernel
theorem row_69 : rowN 129 0 69 = true := by decide +kernel
theorem row_70 : rowN 129 0 70 = true := by decide +kernel
theorem row_71 : rowN 129 0 71 = true := by decide +kernel
theorem row_72 : rowN 129 0 72 = true := by decide +kernel
theorem row_73 : rowN 129 0 73 = true := by decide +kernel
theorem row_74 : rowN 129 0 74 = true := by decide +kernel
theorem row_75 : rowN 129 0 75 = true := by decide +kernel
theorem row_76 : rowN 129 0 76 = true := by decide +kernel
theorem row_77 : rowN 129 0 77 = true := by decide +kernel
theorem row_78 : rowN 129 0 78 = true := by decide +kernel
theorem row_79 : rowN 129 0 79 = true := by decide +kernel
theorem row_80 : rowN 129 0 80 = true := by decide +kernel
theorem row_81 : rowN 129 0 81 = true := by decide +kernel
theorem row_82 : rowN 129 0 82 = true := by decide +kernel
theorem row_83 : rowN 129 0 83 = true := by decide +kernel
theorem row_84 : rowN 129 0 84 = true := by decide +kernel
end Go.Proofs.Ytcmmafkmfahijaa
