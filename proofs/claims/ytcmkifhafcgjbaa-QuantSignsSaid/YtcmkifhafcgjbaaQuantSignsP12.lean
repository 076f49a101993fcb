/- QuantSigns: the runs of some qps. -/
import Derived.Test.YtcmkifhafcgjbaaQuantSignsR
import Derived.KernelRfl
import Derived.Test.YtcmkifhafcgjbaaRxAwake
import Derived.Test.YtcmkifhafcgjbaaRxL
namespace Go.Proofs.Ytcmkifhafcgjbaa.quantSigns
open Go.RX Go.RowKit Go.Proofs.Ytcmkifhafcgjbaa
set_option linter.unusedVariables false
theorem run36 : run 36 = true := by kernel_rfl
theorem run37 : run 37 = true := by kernel_rfl
theorem run38 : run 38 = true := by kernel_rfl
end Go.Proofs.Ytcmkifhafcgjbaa.quantSigns
