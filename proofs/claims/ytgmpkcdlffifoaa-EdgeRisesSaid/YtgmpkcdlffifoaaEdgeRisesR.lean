/- The ranges of EdgeRises's numbers. -/
import Derived.Test.YtgmpkcdlffifoaaRxAwake
namespace Go.Proofs.Ytgmpkcdlffifoaa.edgeRises
open Go.RX Go.Proofs.Ytgmpkcdlffifoaa
noncomputable def R : Rg := rg [] [] true false 0
end Go.Proofs.Ytgmpkcdlffifoaa.edgeRises
