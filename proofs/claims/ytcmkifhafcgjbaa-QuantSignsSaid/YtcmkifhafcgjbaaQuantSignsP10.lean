/- QuantSigns: the runs of some qps. -/
import Derived.Test.YtcmkifhafcgjbaaQuantSignsR
import Derived.KernelRfl
import Derived.Test.YtcmkifhafcgjbaaRxAwake
import Derived.Test.YtcmkifhafcgjbaaRxL
namespace Go.Proofs.Ytcmkifhafcgjbaa.quantSigns
open Go.RX Go.RowKit Go.Proofs.Ytcmkifhafcgjbaa
set_option linter.unusedVariables false
theorem run30 : run 30 = true := by kernel_rfl
theorem run31 : run 31 = true := by kernel_rfl
theorem run32 : run 32 = true := by kernel_rfl
end Go.Proofs.Ytcmkifhafcgjbaa.quantSigns
