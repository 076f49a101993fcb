/- The ranges of EdgeNear's numbers. -/
import Derived.Test.YtgmpkcdlffifoaaRxAwake
namespace Go.Proofs.Ytgmpkcdlffifoaa.edgeNear
open Go.RX Go.Proofs.Ytgmpkcdlffifoaa
noncomputable def R : Rg := rg [] [10] true false 60
end Go.Proofs.Ytgmpkcdlffifoaa.edgeNear
