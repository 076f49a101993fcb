/- The ranges of EdgeTurned's numbers. -/
import Derived.Test.YtgmpkcdlffifoaaRxAwake
namespace Go.Proofs.Ytgmpkcdlffifoaa.edgeTurned
open Go.RX Go.Proofs.Ytgmpkcdlffifoaa
noncomputable def R : Rg := rg [] [10] true false 0
end Go.Proofs.Ytgmpkcdlffifoaa.edgeTurned
