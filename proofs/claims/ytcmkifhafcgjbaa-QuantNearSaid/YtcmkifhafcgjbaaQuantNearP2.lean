/- QuantNear: the runs of some qps. -/
import Derived.Test.YtcmkifhafcgjbaaQuantNearR
import Derived.KernelRfl
import Derived.Test.YtcmkifhafcgjbaaRxAwake
import Derived.Test.YtcmkifhafcgjbaaRxL
namespace Go.Proofs.Ytcmkifhafcgjbaa.quantNear
open Go.RX Go.RowKit Go.Proofs.Ytcmkifhafcgjbaa
set_option linter.unusedVariables false
theorem run6 : run 6 = true := by kernel_rfl
theorem run7 : run 7 = true := by kernel_rfl
theorem run8 : run 8 = true := by kernel_rfl
end Go.Proofs.Ytcmkifhafcgjbaa.quantNear
