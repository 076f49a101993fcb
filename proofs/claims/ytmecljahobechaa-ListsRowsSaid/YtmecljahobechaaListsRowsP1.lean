/- Some of the runs of ListsRows. -/
import Derived.Test.YtmecljahobechaaListsRowsR
import Derived.Test.YtmecljahobechaaRxAwake
namespace Go.Proofs.Ytmecljahobechaa.listsRows
open Go.RX Go.Proofs.Ytmecljahobechaa
theorem run1 : (lawRunF Try.prog R (cxT R (0) (0) (0) (0) (0)) 25 3 [iv 0, iv 1] (isE (andE 0 7) ((0) + ((1 : Nat) : Int))) []).good = true := by kernel_rfl
end Go.Proofs.Ytmecljahobechaa.listsRows
