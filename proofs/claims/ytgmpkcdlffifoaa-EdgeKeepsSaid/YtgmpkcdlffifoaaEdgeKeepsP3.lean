/- Some of the runs of EdgeKeeps. -/
import Derived.Test.YtgmpkcdlffifoaaEdgeKeepsR
import Derived.Test.YtgmpkcdlffifoaaRxAwake
namespace Go.Proofs.Ytgmpkcdlffifoaa.edgeKeeps
open Go.RX Go.Proofs.Ytgmpkcdlffifoaa
theorem run1_2 : (lawRunF Try.prog R (cxT R (2 ^ 11 + 2 ^ 13 + 2 ^ 15) (0) (0) (2 ^ 26)) 25 9 [iv 0, iv 1, iv 2, iv 3] (isE (andE 3 1) ((0) + ((1 : Nat) : Int)) ++ isE (umdE 2 4) ((0) + ((2 : Nat) : Int))) [andE 0 1]).good = true := by kernel_rfl
theorem run1_3 : (lawRunF Try.prog R (cxT R (2 ^ 11 + 2 ^ 13 + 2 ^ 15) (0) (0) (2 ^ 26)) 25 9 [iv 0, iv 1, iv 2, iv 3] (isE (andE 3 1) ((0) + ((1 : Nat) : Int)) ++ isE (umdE 2 4) ((0) + ((3 : Nat) : Int))) [andE 0 1]).good = true := by kernel_rfl
end Go.Proofs.Ytgmpkcdlffifoaa.edgeKeeps
