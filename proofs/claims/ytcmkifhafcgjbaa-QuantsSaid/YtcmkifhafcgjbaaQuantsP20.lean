/- Quants: some of its runs. -/
import Derived.Test.YtcmkifhafcgjbaaQuantsR
import Derived.KernelRfl
import Derived.Test.YtcmkifhafcgjbaaRxAwake
import Derived.Test.YtcmkifhafcgjbaaRxL
namespace Go.Proofs.Ytcmkifhafcgjbaa.quants
open Go.RX Go.RowKit Go.Proofs.Ytcmkifhafcgjbaa
set_option linter.unusedVariables false
theorem runA46 : runA 46 = true := by kernel_rfl
theorem runB46 : runB 46 = true := by kernel_rfl
theorem runC46 : runC 46 = true := by kernel_rfl
theorem runA47 : runA 47 = true := by kernel_rfl
theorem runB47 : runB 47 = true := by kernel_rfl
theorem runC47 : runC 47 = true := by kernel_rfl
theorem runA48 : runA 48 = true := by kernel_rfl
end Go.Proofs.Ytcmkifhafcgjbaa.quants
