/- Quants: some of its runs. -/
import Derived.Test.YtcmkifhafcgjbaaQuantsR
import Derived.KernelRfl
import Derived.Test.YtcmkifhafcgjbaaRxAwake
import Derived.Test.YtcmkifhafcgjbaaRxL
namespace Go.Proofs.Ytcmkifhafcgjbaa.quants
open Go.RX Go.RowKit Go.Proofs.Ytcmkifhafcgjbaa
set_option linter.unusedVariables false
theorem runC43 : runC 43 = true := by kernel_rfl
theorem runA44 : runA 44 = true := by kernel_rfl
theorem runB44 : runB 44 = true := by kernel_rfl
theorem runC44 : runC 44 = true := by kernel_rfl
theorem runA45 : runA 45 = true := by kernel_rfl
theorem runB45 : runB 45 = true := by kernel_rfl
theorem runC45 : runC 45 = true := by kernel_rfl
end Go.Proofs.Ytcmkifhafcgjbaa.quants
