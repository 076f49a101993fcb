/- Some of the runs of EdgeNear. -/
import Derived.Test.YtgmpkcdlffifoaaEdgeNearR
import Derived.Test.YtgmpkcdlffifoaaRxAwake
namespace Go.Proofs.Ytgmpkcdlffifoaa.edgeNear
open Go.RX Go.Proofs.Ytgmpkcdlffifoaa
theorem run3_0 : (lawRunF Try.prog R (cxT R (2 ^ 47) (2 ^ 10) (0) (2 ^ 26)) 25 10 [.agg [iv 0, iv 1, iv 2, iv 3], .agg [iv 4, iv 5, iv 6, iv 7], iv 8, iv 9, bv 10] (isE (andE 8 3) ((0) + ((3 : Nat) : Int)) ++ isE (.atom (.var 10)) ((0) + ((0 : Nat) : Int))) []).good = true := by kernel_rfl
theorem run3_1 : (lawRunF Try.prog R (cxT R (2 ^ 47) (2 ^ 10) (0) (2 ^ 26)) 25 10 [.agg [iv 0, iv 1, iv 2, iv 3], .agg [iv 4, iv 5, iv 6, iv 7], iv 8, iv 9, bv 10] (isE (andE 8 3) ((0) + ((3 : Nat) : Int)) ++ isE (.atom (.var 10)) ((0) + ((1 : Nat) : Int))) []).good = true := by kernel_rfl
end Go.Proofs.Ytgmpkcdlffifoaa.edgeNear
