/- Quants: some of its runs. -/
import Derived.Test.YtcmkifhafcgjbaaQuantsR
import Derived.KernelRfl
import Derived.Test.YtcmkifhafcgjbaaRxAwake
import Derived.Test.YtcmkifhafcgjbaaRxL
namespace Go.Proofs.Ytcmkifhafcgjbaa.quants
open Go.RX Go.RowKit Go.Proofs.Ytcmkifhafcgjbaa
set_option linter.unusedVariables false
theorem runA25 : runA 25 = true := by kernel_rfl
theorem runB25 : runB 25 = true := by kernel_rfl
theorem runC25 : runC 25 = true := by kernel_rfl
theorem runA26 : runA 26 = true := by kernel_rfl
theorem runB26 : runB 26 = true := by kernel_rfl
theorem runC26 : runC 26 = true := by kernel_rfl
theorem runA27 : runA 27 = true := by kernel_rfl
end Go.Proofs.Ytcmkifhafcgjbaa.quants
