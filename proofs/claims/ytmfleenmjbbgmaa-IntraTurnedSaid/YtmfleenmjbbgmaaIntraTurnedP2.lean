/- IntraTurned: the run of one pair of modes. -/
import Derived.Test.YtmfleenmjbbgmaaIntraTurnedR
import Derived.KernelRfl
import Derived.Test.YtmfleenmjbbgmaaRxAwake
import Derived.Test.YtmfleenmjbbgmaaRxL
namespace Go.Proofs.Ytmfleenmjbbgmaa.intraTurned
open Go.RX Go.RowKit Go.Proofs.Ytmfleenmjbbgmaa
set_option linter.unusedVariables false
theorem run2 : (lawRunL Try.prog R cxJ 25 lp 6 [sv 0, sv 1, iv 2, iv 3] (isE (umdE 3 4) 2)).good = true := by kernel_rfl
end Go.Proofs.Ytmfleenmjbbgmaa.intraTurned
