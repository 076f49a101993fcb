/- Quants: some of its runs. -/
import Derived.Test.YtcmkifhafcgjbaaQuantsR
import Derived.KernelRfl
import Derived.Test.YtcmkifhafcgjbaaRxAwake
import Derived.Test.YtcmkifhafcgjbaaRxL
namespace Go.Proofs.Ytcmkifhafcgjbaa.quants
open Go.RX Go.RowKit Go.Proofs.Ytcmkifhafcgjbaa
set_option linter.unusedVariables false
theorem runC29 : runC 29 = true := by kernel_rfl
theorem runA30 : runA 30 = true := by kernel_rfl
theorem runB30 : runB 30 = true := by kernel_rfl
theorem runC30 : runC 30 = true := by kernel_rfl
theorem runA31 : runA 31 = true := by kernel_rfl
theorem runB31 : runB 31 = true := by kernel_rfl
theorem runC31 : runC 31 = true := by kernel_rfl
end Go.Proofs.Ytcmkifhafcgjbaa.quants
