/- QuantNear: the runs of some qps. -/
import Derived.Test.YtcmkifhafcgjbaaQuantNearR
import Derived.KernelRfl
import Derived.Test.YtcmkifhafcgjbaaRxAwake
import Derived.Test.YtcmkifhafcgjbaaRxL
namespace Go.Proofs.Ytcmkifhafcgjbaa.quantNear
open Go.RX Go.RowKit Go.Proofs.Ytcmkifhafcgjbaa
set_option linter.unusedVariables false
theorem run3 : run 3 = true := by kernel_rfl
theorem run4 : run 4 = true := by kernel_rfl
theorem run5 : run 5 = true := by kernel_rfl
end Go.Proofs.Ytcmkifhafcgjbaa.quantNear
