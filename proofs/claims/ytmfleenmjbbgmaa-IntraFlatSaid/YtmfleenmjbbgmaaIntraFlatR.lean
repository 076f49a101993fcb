/- The ranges of IntraFlat's numbers. -/
import Derived.Test.YtmfleenmjbbgmaaRxAwake
namespace Go.Proofs.Ytmfleenmjbbgmaa.intraFlat
open Go.RX Go.Proofs.Ytmfleenmjbbgmaa
noncomputable def R : Rg := rg [] [] false false
end Go.Proofs.Ytmfleenmjbbgmaa.intraFlat
