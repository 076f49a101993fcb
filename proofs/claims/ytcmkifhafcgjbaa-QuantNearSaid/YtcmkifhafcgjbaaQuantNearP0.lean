/- QuantNear: the runs of some qps. -/
import Derived.Test.YtcmkifhafcgjbaaQuantNearR
import Derived.KernelRfl
import Derived.Test.YtcmkifhafcgjbaaRxAwake
import Derived.Test.YtcmkifhafcgjbaaRxL
namespace Go.Proofs.Ytcmkifhafcgjbaa.quantNear
open Go.RX Go.RowKit Go.Proofs.Ytcmkifhafcgjbaa
set_option linter.unusedVariables false
theorem run0 : run 0 = true := by kernel_rfl
theorem run1 : run 1 = true := by kernel_rfl
theorem run2 : run 2 = true := by kernel_rfl
end Go.Proofs.Ytcmkifhafcgjbaa.quantNear
