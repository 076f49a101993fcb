/- QuantSigns: the runs of some qps. -/
import Derived.Test.YtcmkifhafcgjbaaQuantSignsR
import Derived.KernelRfl
import Derived.Test.YtcmkifhafcgjbaaRxAwake
import Derived.Test.YtcmkifhafcgjbaaRxL
namespace Go.Proofs.Ytcmkifhafcgjbaa.quantSigns
open Go.RX Go.RowKit Go.Proofs.Ytcmkifhafcgjbaa
set_option linter.unusedVariables false
theorem run45 : run 45 = true := by kernel_rfl
theorem run46 : run 46 = true := by kernel_rfl
theorem run47 : run 47 = true := by kernel_rfl
end Go.Proofs.Ytcmkifhafcgjbaa.quantSigns
