/- Quants: some of its runs. -/
import Derived.Test.YtcmkifhafcgjbaaQuantsR
import Derived.KernelRfl
import Derived.Test.YtcmkifhafcgjbaaRxAwake
import Derived.Test.YtcmkifhafcgjbaaRxL
namespace Go.Proofs.Ytcmkifhafcgjbaa.quants
open Go.RX Go.RowKit Go.Proofs.Ytcmkifhafcgjbaa
set_option linter.unusedVariables false
theorem runB34 : runB 34 = true := by kernel_rfl
theorem runC34 : runC 34 = true := by kernel_rfl
theorem runA35 : runA 35 = true := by kernel_rfl
theorem runB35 : runB 35 = true := by kernel_rfl
theorem runC35 : runC 35 = true := by kernel_rfl
theorem runA36 : runA 36 = true := by kernel_rfl
theorem runB36 : runB 36 = true := by kernel_rfl
end Go.Proofs.Ytcmkifhafcgjbaa.quants
