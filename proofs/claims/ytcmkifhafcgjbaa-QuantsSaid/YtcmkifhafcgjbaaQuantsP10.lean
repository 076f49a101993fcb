/- Quants: some of its runs. -/
import Derived.Test.YtcmkifhafcgjbaaQuantsR
import Derived.KernelRfl
import Derived.Test.YtcmkifhafcgjbaaRxAwake
import Derived.Test.YtcmkifhafcgjbaaRxL
namespace Go.Proofs.Ytcmkifhafcgjbaa.quants
open Go.RX Go.RowKit Go.Proofs.Ytcmkifhafcgjbaa
set_option linter.unusedVariables false
theorem runC22 : runC 22 = true := by kernel_rfl
theorem runA23 : runA 23 = true := by kernel_rfl
theorem runB23 : runB 23 = true := by kernel_rfl
theorem runC23 : runC 23 = true := by kernel_rfl
theorem runA24 : runA 24 = true := by kernel_rfl
theorem runB24 : runB 24 = true := by kernel_rfl
theorem runC24 : runC 24 = true := by kernel_rfl
end Go.Proofs.Ytcmkifhafcgjbaa.quants
