/- Quants: some of its runs. -/
import Derived.Test.YtcmkifhafcgjbaaQuantsR
import Derived.KernelRfl
import Derived.Test.YtcmkifhafcgjbaaRxAwake
import Derived.Test.YtcmkifhafcgjbaaRxL
namespace Go.Proofs.Ytcmkifhafcgjbaa.quants
open Go.RX Go.RowKit Go.Proofs.Ytcmkifhafcgjbaa
set_option linter.unusedVariables false
theorem runB20 : runB 20 = true := by kernel_rfl
theorem runC20 : runC 20 = true := by kernel_rfl
theorem runA21 : runA 21 = true := by kernel_rfl
theorem runB21 : runB 21 = true := by kernel_rfl
theorem runC21 : runC 21 = true := by kernel_rfl
theorem runA22 : runA 22 = true := by kernel_rfl
theorem runB22 : runB 22 = true := by kernel_rfl
end Go.Proofs.Ytcmkifhafcgjbaa.quants
