/- Points in sixteenths, rows 34 to 50: reckoned by the kernel. Conditions: none. -/
import Derived.Test.YtcmmafkmfahijaaPt
namespace Go.Proofs.Ytcmmafkmfahijaa
set_option maxRecDepth 100000
theorem row_34 : rowN 129 0 34 = true := by decide +kernel
theorem row_35 : rowN 129 0 35 = true := by decide +kernel
theorem row_36 : rowN 129 0 36 = true := by decide +kernel
theorem row_37 : rowN 129 0 37 = true := by decide +kernel
theorem row_38 : rowN 129 0 38 = true := by decide +kernel
theorem row_39 : rowN 129 0 39 = true := by decide +kernel
theorem row_40 : rowN 129 0 40 = true := by decide +kernel
theorem row_41 : rowN 129 0 41 = true := by decide +kernel
theorem row_42 : rowN 129 0 42 = true := by decide +kernel
theorem row_43 : rowN 129 0 43 = true := by decide +kernel
theorem row_44 : rowN 129 0 44 = true := by decide +kernel
theorem row_45 : rowN 129 0 45 = true := by decide +kernel
theorem row_46 : rowN 129 0 46 = true := by decide +kernel
theorem row_47 : rowN 129 0 47 = true := by decide +kernel
theorem row_48 : rowN 129 0 48 = true := by decide +kernel
theorem row_49 : rowN 129 0 49 = true := by decide +kernel
theorem row_50 : rowN 129 0 50 = true := by decide +kernel
end Go.Proofs.Ytcmmafkmfahijaa
