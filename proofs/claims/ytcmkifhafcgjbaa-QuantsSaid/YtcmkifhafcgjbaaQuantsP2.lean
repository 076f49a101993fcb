/- Quants: some of its runs. -/
import Derived.Test.YtcmkifhafcgjbaaQuantsR
import Derived.KernelRfl
import Derived.Test.YtcmkifhafcgjbaaRxAwake
import Derived.Test.YtcmkifhafcgjbaaRxL
namespace Go.Proofs.Ytcmkifhafcgjbaa.quants
open Go.RX Go.RowKit Go.Proofs.Ytcmkifhafcgjbaa
set_option linter.unusedVariables false
theorem runA4 : runA 4 = true := by kernel_rfl
theorem runB4 : runB 4 = true := by kernel_rfl
theorem runC4 : runC 4 = true := by kernel_rfl
theorem runA5 : runA 5 = true := by kernel_rfl
theorem runB5 : runB 5 = true := by kernel_rfl
theorem runC5 : runC 5 = true := by kernel_rfl
theorem runA6 : runA 6 = true := by kernel_rfl
end Go.Proofs.Ytcmkifhafcgjbaa.quants
