/- Quants: some of its runs. -/
import Derived.Test.YtcmkifhafcgjbaaQuantsR
import Derived.KernelRfl
import Derived.Test.YtcmkifhafcgjbaaRxAwake
import Derived.Test.YtcmkifhafcgjbaaRxL
namespace Go.Proofs.Ytcmkifhafcgjbaa.quants
open Go.RX Go.RowKit Go.Proofs.Ytcmkifhafcgjbaa
set_option linter.unusedVariables false
theorem runA18 : runA 18 = true := by kernel_rfl
theorem runB18 : runB 18 = true := by kernel_rfl
theorem runC18 : runC 18 = true := by kernel_rfl
theorem runA19 : runA 19 = true := by kernel_rfl
theorem runB19 : runB 19 = true := by kernel_rfl
theorem runC19 : runC 19 = true := by kernel_rfl
theorem runA20 : runA 20 = true := by kernel_rfl
end Go.Proofs.Ytcmkifhafcgjbaa.quants
