/- Quants: some of its runs. -/
import Derived.Test.YtcmkifhafcgjbaaQuantsR
import Derived.KernelRfl
import Derived.Test.YtcmkifhafcgjbaaRxAwake
import Derived.Test.YtcmkifhafcgjbaaRxL
namespace Go.Proofs.Ytcmkifhafcgjbaa.quants
open Go.RX Go.RowKit Go.Proofs.Ytcmkifhafcgjbaa
set_option linter.unusedVariables false
theorem runC8 : runC 8 = true := by kernel_rfl
theorem runA9 : runA 9 = true := by kernel_rfl
theorem runB9 : runB 9 = true := by kernel_rfl
theorem runC9 : runC 9 = true := by kernel_rfl
theorem runA10 : runA 10 = true := by kernel_rfl
theorem runB10 : runB 10 = true := by kernel_rfl
theorem runC10 : runC 10 = true := by kernel_rfl
end Go.Proofs.Ytcmkifhafcgjbaa.quants
