/- Quants: some of its runs. -/
import Derived.Test.YtcmkifhafcgjbaaQuantsR
import Derived.KernelRfl
import Derived.Test.YtcmkifhafcgjbaaRxAwake
import Derived.Test.YtcmkifhafcgjbaaRxL
namespace Go.Proofs.Ytcmkifhafcgjbaa.quants
open Go.RX Go.RowKit Go.Proofs.Ytcmkifhafcgjbaa
set_option linter.unusedVariables false
theorem runC15 : runC 15 = true := by kernel_rfl
theorem runA16 : runA 16 = true := by kernel_rfl
theorem runB16 : runB 16 = true := by kernel_rfl
theorem runC16 : runC 16 = true := by kernel_rfl
theorem runA17 : runA 17 = true := by kernel_rfl
theorem runB17 : runB 17 = true := by kernel_rfl
theorem runC17 : runC 17 = true := by kernel_rfl
end Go.Proofs.Ytcmkifhafcgjbaa.quants
