/- QuantSigns: the runs of some qps. -/
import Derived.Test.YtcmkifhafcgjbaaQuantSignsR
import Derived.KernelRfl
import Derived.Test.YtcmkifhafcgjbaaRxAwake
import Derived.Test.YtcmkifhafcgjbaaRxL
namespace Go.Proofs.Ytcmkifhafcgjbaa.quantSigns
open Go.RX Go.RowKit Go.Proofs.Ytcmkifhafcgjbaa
set_option linter.unusedVariables false
theorem run33 : run 33 = true := by kernel_rfl
theorem run34 : run 34 = true := by kernel_rfl
theorem run35 : run 35 = true := by kernel_rfl
end Go.Proofs.Ytcmkifhafcgjbaa.quantSigns
