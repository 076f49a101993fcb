/- Quants: some of its runs. -/
import Derived.Test.YtcmkifhafcgjbaaQuantsR
import Derived.KernelRfl
import Derived.Test.YtcmkifhafcgjbaaRxAwake
import Derived.Test.YtcmkifhafcgjbaaRxL
namespace Go.Proofs.Ytcmkifhafcgjbaa.quants
open Go.RX Go.RowKit Go.Proofs.Ytcmkifhafcgjbaa
set_option linter.unusedVariables false
theorem runB13 : runB 13 = true := by kernel_rfl
theorem runC13 : runC 13 = true := by kernel_rfl
theorem runA14 : runA 14 = true := by kernel_rfl
theorem runB14 : runB 14 = true := by kernel_rfl
theorem runC14 : runC 14 = true := by kernel_rfl
theorem runA15 : runA 15 = true := by kernel_rfl
theorem runB15 : runB 15 = true := by kernel_rfl
end Go.Proofs.Ytcmkifhafcgjbaa.quants
