/- Quants: some of its runs. -/
import Derived.Test.YtcmkifhafcgjbaaQuantsR
import Derived.KernelRfl
import Derived.Test.YtcmkifhafcgjbaaRxAwake
import Derived.Test.YtcmkifhafcgjbaaRxL
namespace Go.Proofs.Ytcmkifhafcgjbaa.quants
open Go.RX Go.RowKit Go.Proofs.Ytcmkifhafcgjbaa
set_option linter.unusedVariables false
theorem runA39 : runA 39 = true := by kernel_rfl
theorem runB39 : runB 39 = true := by kernel_rfl
theorem runC39 : runC 39 = true := by kernel_rfl
theorem runA40 : runA 40 = true := by kernel_rfl
theorem runB40 : runB 40 = true := by kernel_rfl
theorem runC40 : runC 40 = true := by kernel_rfl
theorem runA41 : runA 41 = true := by kernel_rfl
end Go.Proofs.Ytcmkifhafcgjbaa.quants
