/- The ranges of ListsRound's numbers. -/
import Derived.Test.YtmecljahobechaaRxAwake
namespace Go.Proofs.Ytmecljahobechaa.listsRound
open Go.RX Go.Proofs.Ytmecljahobechaa
noncomputable def R : Rg := rg [] [] false false 0
end Go.Proofs.Ytmecljahobechaa.listsRound
