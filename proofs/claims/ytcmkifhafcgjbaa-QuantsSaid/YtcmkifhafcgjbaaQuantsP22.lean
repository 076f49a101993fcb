/- Quants: some of its runs. -/
import Derived.Test.YtcmkifhafcgjbaaQuantsR
import Derived.KernelRfl
import Derived.Test.YtcmkifhafcgjbaaRxAwake
import Derived.Test.YtcmkifhafcgjbaaRxL
namespace Go.Proofs.Ytcmkifhafcgjbaa.quants
open Go.RX Go.RowKit Go.Proofs.Ytcmkifhafcgjbaa
set_option linter.unusedVariables false
theorem runC50 : runC 50 = true := by kernel_rfl
theorem runA51 : runA 51 = true := by kernel_rfl
theorem runB51 : runB 51 = true := by kernel_rfl
theorem runC51 : runC 51 = true := by kernel_rfl
end Go.Proofs.Ytcmkifhafcgjbaa.quants
