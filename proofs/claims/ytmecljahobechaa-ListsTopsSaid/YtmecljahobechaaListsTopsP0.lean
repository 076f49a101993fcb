/- Some of the runs of ListsTops. -/
import Derived.Test.YtmecljahobechaaListsTopsR
import Derived.Test.YtmecljahobechaaRxAwake
namespace Go.Proofs.Ytmecljahobechaa.listsTops
open Go.RX Go.Proofs.Ytmecljahobechaa
theorem run0 : (lawRunF Try.prog R (cxT R (0) (0) (0) (0) (0)) 25 5 [iv 0, iv 1] (isE (andE 0 3) ((0) + ((0 : Nat) : Int))) []).good = true := by kernel_rfl
theorem run1 : (lawRunF Try.prog R (cxT R (0) (0) (0) (0) (0)) 25 5 [iv 0, iv 1] (isE (andE 0 3) ((0) + ((1 : Nat) : Int))) []).good = true := by kernel_rfl
end Go.Proofs.Ytmecljahobechaa.listsTops
