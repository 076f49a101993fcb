/- The ranges of EdgeKeeps's numbers. -/
import Derived.Test.YtgmpkcdlffifoaaRxAwake
namespace Go.Proofs.Ytgmpkcdlffifoaa.edgeKeeps
open Go.RX Go.Proofs.Ytgmpkcdlffifoaa
noncomputable def R : Rg := rg [] [] true false
end Go.Proofs.Ytgmpkcdlffifoaa.edgeKeeps
