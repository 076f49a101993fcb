/- The ranges of ListsTops's numbers. -/
import Derived.Test.YtmecljahobechaaRxAwake
namespace Go.Proofs.Ytmecljahobechaa.listsTops
open Go.RX Go.Proofs.Ytmecljahobechaa
noncomputable def R : Rg := rg [] [] false false 0
end Go.Proofs.Ytmecljahobechaa.listsTops
