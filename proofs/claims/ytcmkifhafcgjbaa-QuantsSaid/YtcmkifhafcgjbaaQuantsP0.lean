/- Quants: some of its runs. -/
import Derived.Test.YtcmkifhafcgjbaaQuantsR
import Derived.KernelRfl
import Derived.Test.YtcmkifhafcgjbaaRxAwake
import Derived.Test.YtcmkifhafcgjbaaRxL
namespace Go.Proofs.Ytcmkifhafcgjbaa.quants
open Go.RX Go.RowKit Go.Proofs.Ytcmkifhafcgjbaa
set_option linter.unusedVariables false
theorem runlow : runX lowF = true := by kernel_rfl
theorem runhigh : runX highF = true := by kernel_rfl
theorem runA0 : runA 0 = true := by kernel_rfl
theorem runB0 : runB 0 = true := by kernel_rfl
theorem runC0 : runC 0 = true := by kernel_rfl
theorem runA1 : runA 1 = true := by kernel_rfl
theorem runB1 : runB 1 = true := by kernel_rfl
end Go.Proofs.Ytcmkifhafcgjbaa.quants
