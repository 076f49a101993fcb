/- QuantNear: the runs of some qps. -/
import Derived.Test.YtcmkifhafcgjbaaQuantNearR
import Derived.KernelRfl
import Derived.Test.YtcmkifhafcgjbaaRxAwake
import Derived.Test.YtcmkifhafcgjbaaRxL
namespace Go.Proofs.Ytcmkifhafcgjbaa.quantNear
open Go.RX Go.RowKit Go.Proofs.Ytcmkifhafcgjbaa
set_option linter.unusedVariables false
theorem run9 : run 9 = true := by kernel_rfl
theorem run10 : run 10 = true := by kernel_rfl
theorem run11 : run 11 = true := by kernel_rfl
end Go.Proofs.Ytcmkifhafcgjbaa.quantNear
