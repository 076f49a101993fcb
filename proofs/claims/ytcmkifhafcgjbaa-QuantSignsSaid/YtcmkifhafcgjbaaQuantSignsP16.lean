/- QuantSigns: the runs of some qps. -/
import Derived.Test.YtcmkifhafcgjbaaQuantSignsR
import Derived.KernelRfl
import Derived.Test.YtcmkifhafcgjbaaRxAwake
import Derived.Test.YtcmkifhafcgjbaaRxL
namespace Go.Proofs.Ytcmkifhafcgjbaa.quantSigns
open Go.RX Go.RowKit Go.Proofs.Ytcmkifhafcgjbaa
set_option linter.unusedVariables false
theorem run48 : run 48 = true := by kernel_rfl
theorem run49 : run 49 = true := by kernel_rfl
theorem run50 : run 50 = true := by kernel_rfl
end Go.Proofs.Ytcmkifhafcgjbaa.quantSigns
