/- Points in sixteenths, rows 51 to 67: reckoned by the kernel. Conditions: none. -/
import Derived.Test.YtcmmafkmfahijaaPt
namespace Go.Proofs.Ytcmmafkmfahijaa
set_option maxRecDepth 100000
theorem row_51 : rowN 129 0 51 = true := by decide +kernel
theorem row_52 : rowN 129 0 52 = true := by decide +kernel
theorem row_53 : rowN 129 0 53 = true := by decide +kernel
theorem row_54 : rowN 129 0 54 = true := by decide +kernel
theorem row_55 : rowN 129 0 55 = true := by decide +kernel
theorem row_56 : rowN 129 0 56 = true := by decide +kernel
theorem row_57 : rowN 129 0 57 = true := by decide +kernel
theorem row_58 : rowN 129 0 58 = true := by decide +kernel
theorem row_59 : rowN 129 0 59 = true := by decide +kernel
theorem row_60 : rowN 129 0 60 = true := by decide +kernel
theorem row_61 : rowN 129 0 61 = true := by decide +kernel
theorem row_62 : rowN 129 0 62 = true := by decide +kernel
theorem row_63 : rowN 129 0 63 = true := by decide +kernel
theorem row_64 : rowN 129 0 64 = true := by decide +kernel
theorem row_65 : rowN 129 0 65 = true := by decide +kernel
theorem row_66 : rowN 129 0 66 = true := by decide +kernel
theorem row_67 : rowN 129 0 67 = true := by decide +kernel
end Go.Proofs.Ytcmmafkmfahijaa
