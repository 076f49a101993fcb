/- QuantNear: the runs of some qps. -/
import Derived.Test.YtcmkifhafcgjbaaQuantNearR
import Derived.KernelRfl
import Derived.Test.YtcmkifhafcgjbaaRxAwake
import Derived.Test.YtcmkifhafcgjbaaRxL
namespace Go.Proofs.Ytcmkifhafcgjbaa.quantNear
open Go.RX Go.RowKit Go.Proofs.Ytcmkifhafcgjbaa
set_option linter.unusedVariables false
theorem run15 : run 15 = true := by kernel_rfl
theorem run16 : run 16 = true := by kernel_rfl
theorem run17 : run 17 = true := by kernel_rfl
end Go.Proofs.Ytcmkifhafcgjbaa.quantNear
