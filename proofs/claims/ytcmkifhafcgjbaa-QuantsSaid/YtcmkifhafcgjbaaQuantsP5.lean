/- Quants: some of its runs. -/
import Derived.Test.YtcmkifhafcgjbaaQuantsR
import Derived.KernelRfl
import Derived.Test.YtcmkifhafcgjbaaRxAwake
import Derived.Test.YtcmkifhafcgjbaaRxL
namespace Go.Proofs.Ytcmkifhafcgjbaa.quants
open Go.RX Go.RowKit Go.Proofs.Ytcmkifhafcgjbaa
set_option linter.unusedVariables false
theorem runA11 : runA 11 = true := by kernel_rfl
theorem runB11 : runB 11 = true := by kernel_rfl
theorem runC11 : runC 11 = true := by kernel_rfl
theorem runA12 : runA 12 = true := by kernel_rfl
theorem runB12 : runB 12 = true := by kernel_rfl
theorem runC12 : runC 12 = true := by kernel_rfl
theorem runA13 : runA 13 = true := by kernel_rfl
end Go.Proofs.Ytcmkifhafcgjbaa.quants
