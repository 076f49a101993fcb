/- Quants: some of its runs. -/
import Derived.Test.YtcmkifhafcgjbaaQuantsR
import Derived.KernelRfl
import Derived.Test.YtcmkifhafcgjbaaRxAwake
import Derived.Test.YtcmkifhafcgjbaaRxL
namespace Go.Proofs.Ytcmkifhafcgjbaa.quants
open Go.RX Go.RowKit Go.Proofs.Ytcmkifhafcgjbaa
set_option linter.unusedVariables false
theorem runC1 : runC 1 = true := by kernel_rfl
theorem runA2 : runA 2 = true := by kernel_rfl
theorem runB2 : runB 2 = true := by kernel_rfl
theorem runC2 : runC 2 = true := by kernel_rfl
theorem runA3 : runA 3 = true := by kernel_rfl
theorem runB3 : runB 3 = true := by kernel_rfl
theorem runC3 : runC 3 = true := by kernel_rfl
end Go.Proofs.Ytcmkifhafcgjbaa.quants
