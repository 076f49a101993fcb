/- Quants: some of its runs. -/
import Derived.Test.YtcmkifhafcgjbaaQuantsR
import Derived.KernelRfl
import Derived.Test.YtcmkifhafcgjbaaRxAwake
import Derived.Test.YtcmkifhafcgjbaaRxL
namespace Go.Proofs.Ytcmkifhafcgjbaa.quants
open Go.RX Go.RowKit Go.Proofs.Ytcmkifhafcgjbaa
set_option linter.unusedVariables false
theorem runB48 : runB 48 = true := by kernel_rfl
theorem runC48 : runC 48 = true := by kernel_rfl
theorem runA49 : runA 49 = true := by kernel_rfl
theorem runB49 : runB 49 = true := by kernel_rfl
theorem runC49 : runC 49 = true := by kernel_rfl
theorem runA50 : runA 50 = true := by kernel_rfl
theorem runB50 : runB 50 = true := by kernel_rfl
end Go.Proofs.Ytcmkifhafcgjbaa.quants
