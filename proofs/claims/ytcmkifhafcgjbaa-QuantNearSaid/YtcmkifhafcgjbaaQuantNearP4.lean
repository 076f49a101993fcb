/- QuantNear: the runs of some qps. -/
import Derived.Test.YtcmkifhafcgjbaaQuantNearR
import Derived.KernelRfl
import Derived.Test.YtcmkifhafcgjbaaRxAwake
import Derived.Test.YtcmkifhafcgjbaaRxL
namespace Go.Proofs.Ytcmkifhafcgjbaa.quantNear
open Go.RX Go.RowKit Go.Proofs.Ytcmkifhafcgjbaa
set_option linter.unusedVariables false
theorem run12 : run 12 = true := by kernel_rfl
theorem run13 : run 13 = true := by kernel_rfl
theorem run14 : run 14 = true := by kernel_rfl
end Go.Proofs.Ytcmkifhafcgjbaa.quantNear
