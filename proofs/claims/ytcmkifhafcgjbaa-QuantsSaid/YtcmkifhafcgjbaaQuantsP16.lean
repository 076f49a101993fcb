/- Quants: some of its runs. -/
import Derived.Test.YtcmkifhafcgjbaaQuantsR
import Derived.KernelRfl
import Derived.Test.YtcmkifhafcgjbaaRxAwake
import Derived.Test.YtcmkifhafcgjbaaRxL
namespace Go.Proofs.Ytcmkifhafcgjbaa.quants
open Go.RX Go.RowKit Go.Proofs.Ytcmkifhafcgjbaa
set_option linter.unusedVariables false
theorem runC36 : runC 36 = true := by kernel_rfl
theorem runA37 : runA 37 = true := by kernel_rfl
theorem runB37 : runB 37 = true := by kernel_rfl
theorem runC37 : runC 37 = true := by kernel_rfl
theorem runA38 : runA 38 = true := by kernel_rfl
theorem runB38 : runB 38 = true := by kernel_rfl
theorem runC38 : runC 38 = true := by kernel_rfl
end Go.Proofs.Ytcmkifhafcgjbaa.quants
