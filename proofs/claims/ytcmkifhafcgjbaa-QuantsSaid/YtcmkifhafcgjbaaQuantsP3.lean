/- Quants: some of its runs. -/
import Derived.Test.YtcmkifhafcgjbaaQuantsR
import Derived.KernelRfl
import Derived.Test.YtcmkifhafcgjbaaRxAwake
import Derived.Test.YtcmkifhafcgjbaaRxL
namespace Go.Proofs.Ytcmkifhafcgjbaa.quants
open Go.RX Go.RowKit Go.Proofs.Ytcmkifhafcgjbaa
set_option linter.unusedVariables false
theorem runB6 : runB 6 = true := by kernel_rfl
theorem runC6 : runC 6 = true := by kernel_rfl
theorem runA7 : runA 7 = true := by kernel_rfl
theorem runB7 : runB 7 = true := by kernel_rfl
theorem runC7 : runC 7 = true := by kernel_rfl
theorem runA8 : runA 8 = true := by kernel_rfl
theorem runB8 : runB 8 = true := by kernel_rfl
end Go.Proofs.Ytcmkifhafcgjbaa.quants
