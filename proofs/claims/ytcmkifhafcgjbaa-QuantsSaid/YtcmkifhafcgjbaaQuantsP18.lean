/- Quants: some of its runs. -/
import Derived.Test.YtcmkifhafcgjbaaQuantsR
import Derived.KernelRfl
import Derived.Test.YtcmkifhafcgjbaaRxAwake
import Derived.Test.YtcmkifhafcgjbaaRxL
namespace Go.Proofs.Ytcmkifhafcgjbaa.quants
open Go.RX Go.RowKit Go.Proofs.Ytcmkifhafcgjbaa
set_option linter.unusedVariables false
theorem runB41 : runB 41 = true := by kernel_rfl
theorem runC41 : runC 41 = true := by kernel_rfl
theorem runA42 : runA 42 = true := by kernel_rfl
theorem runB42 : runB 42 = true := by kernel_rfl
theorem runC42 : runC 42 = true := by kernel_rfl
theorem runA43 : runA 43 = true := by kernel_rfl
theorem runB43 : runB 43 = true := by kernel_rfl
end Go.Proofs.Ytcmkifhafcgjbaa.quants
