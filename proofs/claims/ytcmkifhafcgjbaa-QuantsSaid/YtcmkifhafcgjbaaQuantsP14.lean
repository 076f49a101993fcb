/- Quants: some of its runs. -/
import Derived.Test.YtcmkifhafcgjbaaQuantsR
import Derived.KernelRfl
import Derived.Test.YtcmkifhafcgjbaaRxAwake
import Derived.Test.YtcmkifhafcgjbaaRxL
namespace Go.Proofs.Ytcmkifhafcgjbaa.quants
open Go.RX Go.RowKit Go.Proofs.Ytcmkifhafcgjbaa
set_option linter.unusedVariables false
theorem runA32 : runA 32 = true := by kernel_rfl
theorem runB32 : runB 32 = true := by kernel_rfl
theorem runC32 : runC 32 = true := by kernel_rfl
theorem runA33 : runA 33 = true := by kernel_rfl
theorem runB33 : runB 33 = true := by kernel_rfl
theorem runC33 : runC 33 = true := by kernel_rfl
theorem runA34 : runA 34 = true := by kernel_rfl
end Go.Proofs.Ytcmkifhafcgjbaa.quants
