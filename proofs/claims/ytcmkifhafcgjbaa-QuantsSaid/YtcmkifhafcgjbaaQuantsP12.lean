/- Quants: some of its runs. -/
import Derived.Test.YtcmkifhafcgjbaaQuantsR
import Derived.KernelRfl
import Derived.Test.YtcmkifhafcgjbaaRxAwake
import Derived.Test.YtcmkifhafcgjbaaRxL
namespace Go.Proofs.Ytcmkifhafcgjbaa.quants
open Go.RX Go.RowKit Go.Proofs.Ytcmkifhafcgjbaa
set_option linter.unusedVariables false
theorem runB27 : runB 27 = true := by kernel_rfl
theorem runC27 : runC 27 = true := by kernel_rfl
theorem runA28 : runA 28 = true := by kernel_rfl
theorem runB28 : runB 28 = true := by kernel_rfl
theorem runC28 : runC 28 = true := by kernel_rfl
theorem runA29 : runA 29 = true := by kernel_rfl
theorem runB29 : runB 29 = true := by kernel_rfl
end Go.Proofs.Ytcmkifhafcgjbaa.quants
