/- QuantNear: the runs of some qps. -/
import Derived.Test.YtcmkifhafcgjbaaQuantNearR
import Derived.KernelRfl
import Derived.Test.YtcmkifhafcgjbaaRxAwake
import Derived.Test.YtcmkifhafcgjbaaRxL
namespace Go.Proofs.Ytcmkifhafcgjbaa.quantNear
open Go.RX Go.RowKit Go.Proofs.Ytcmkifhafcgjbaa
set_option linter.unusedVariables false
theorem run24 : run 24 = true := by kernel_rfl
theorem run25 : run 25 = true := by kernel_rfl
theorem run26 : run 26 = true := by kernel_rfl
end Go.Proofs.Ytcmkifhafcgjbaa.quantNear
