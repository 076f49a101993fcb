/- The ranges of IntraMeans's numbers. -/
import Derived.Test.YtmfleenmjbbgmaaRxAwake
namespace Go.Proofs.Ytmfleenmjbbgmaa.intraMeans
open Go.RX Go.Proofs.Ytmfleenmjbbgmaa
noncomputable def R : Rg := rg [0, 1] [] false false
end Go.Proofs.Ytmfleenmjbbgmaa.intraMeans
