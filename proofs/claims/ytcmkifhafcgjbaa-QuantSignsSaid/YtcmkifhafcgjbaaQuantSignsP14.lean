/- QuantSigns: the runs of some qps. -/
import Derived.Test.YtcmkifhafcgjbaaQuantSignsR
import Derived.KernelRfl
import Derived.Test.YtcmkifhafcgjbaaRxAwake
import Derived.Test.YtcmkifhafcgjbaaRxL
namespace Go.Proofs.Ytcmkifhafcgjbaa.quantSigns
open Go.RX Go.RowKit Go.Proofs.Ytcmkifhafcgjbaa
set_option linter.unusedVariables false
theorem run42 : run 42 = true := by kernel_rfl
theorem run43 : run 43 = true := by kernel_rfl
theorem run44 : run 44 = true := by kernel_rfl
end Go.Proofs.Ytcmkifhafcgjbaa.quantSigns
