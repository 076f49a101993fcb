/- QuantNear: the runs of some qps. -/
import Derived.Test.YtcmkifhafcgjbaaQuantNearR
import Derived.KernelRfl
import Derived.Test.YtcmkifhafcgjbaaRxAwake
import Derived.Test.YtcmkifhafcgjbaaRxL
namespace Go.Proofs.Ytcmkifhafcgjbaa.quantNear
open Go.RX Go.RowKit Go.Proofs.Ytcmkifhafcgjbaa
set_option linter.unusedVariables false
theorem run18 : run 18 = true := by kernel_rfl
theorem run19 : run 19 = true := by kernel_rfl
theorem run20 : run 20 = true := by kernel_rfl
end Go.Proofs.Ytcmkifhafcgjbaa.quantNear
