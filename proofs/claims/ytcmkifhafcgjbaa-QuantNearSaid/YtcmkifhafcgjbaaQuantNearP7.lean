/- QuantNear: the runs of some qps. -/
import Derived.Test.YtcmkifhafcgjbaaQuantNearR
import Derived.KernelRfl
import Derived.Test.YtcmkifhafcgjbaaRxAwake
import Derived.Test.YtcmkifhafcgjbaaRxL
namespace Go.Proofs.Ytcmkifhafcgjbaa.quantNear
open Go.RX Go.RowKit Go.Proofs.Ytcmkifhafcgjbaa
set_option linter.unusedVariables false
theorem run21 : run 21 = true := by kernel_rfl
theorem run22 : run 22 = true := by kernel_rfl
theorem run23 : run 23 = true := by kernel_rfl
end Go.Proofs.Ytcmkifhafcgjbaa.quantNear
