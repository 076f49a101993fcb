/- The ranges of QuantZero's numbers. -/
import Derived.Test.YtcmkifhafcgjbaaRxAwake
namespace Go.Proofs.Ytcmkifhafcgjbaa.quantZero
open Go.RX Go.Proofs.Ytcmkifhafcgjbaa
noncomputable def R : Rg := rg [] [1] false false
end Go.Proofs.Ytcmkifhafcgjbaa.quantZero
