/- QuantNear: the runs of some qps. -/
import Derived.Test.YtcmkifhafcgjbaaQuantNearR
import Derived.KernelRfl
import Derived.Test.YtcmkifhafcgjbaaRxAwake
import Derived.Test.YtcmkifhafcgjbaaRxL
namespace Go.Proofs.Ytcmkifhafcgjbaa.quantNear
open Go.RX Go.RowKit Go.Proofs.Ytcmkifhafcgjbaa
set_option linter.unusedVariables false
theorem run27 : run 27 = true := by kernel_rfl
theorem run28 : run 28 = true := by kernel_rfl
theorem run29 : run 29 = true := by kernel_rfl
end Go.Proofs.Ytcmkifhafcgjbaa.quantNear
