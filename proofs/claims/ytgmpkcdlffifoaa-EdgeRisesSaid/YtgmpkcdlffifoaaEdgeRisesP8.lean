/- Some of the runs of EdgeRises. -/
import Derived.Test.YtgmpkcdlffifoaaEdgeRisesR
import Derived.Test.YtgmpkcdlffifoaaRxAwake
namespace Go.Proofs.Ytgmpkcdlffifoaa.edgeRises
open Go.RX Go.Proofs.Ytgmpkcdlffifoaa
theorem run48_0 : (lawRunF Try.prog R (cxT R (2 ^ 47 + 2 ^ 24) (0) (0) (0)) 25 7 [iv 0, iv 1] (isE (umdE 0 60) ((0) + ((48 : Nat) : Int)) ++ isE (umdE 1 3) ((0) + ((0 : Nat) : Int))) []).good = true := by kernel_rfl
theorem run48_1 : (lawRunF Try.prog R (cxT R (2 ^ 47 + 2 ^ 24) (0) (0) (0)) 25 7 [iv 0, iv 1] (isE (umdE 0 60) ((0) + ((48 : Nat) : Int)) ++ isE (umdE 1 3) ((0) + ((1 : Nat) : Int))) []).good = true := by kernel_rfl
theorem run48_2 : (lawRunF Try.prog R (cxT R (2 ^ 47 + 2 ^ 24) (0) (0) (0)) 25 7 [iv 0, iv 1] (isE (umdE 0 60) ((0) + ((48 : Nat) : Int)) ++ isE (umdE 1 3) ((0) + ((2 : Nat) : Int))) []).good = true := by kernel_rfl
theorem run49_0 : (lawRunF Try.prog R (cxT R (2 ^ 47 + 2 ^ 24) (0) (0) (0)) 25 7 [iv 0, iv 1] (isE (umdE 0 60) ((0) + ((49 : Nat) : Int)) ++ isE (umdE 1 3) ((0) + ((0 : Nat) : Int))) []).good = true := by kernel_rfl
theorem run49_1 : (lawRunF Try.prog R (cxT R (2 ^ 47 + 2 ^ 24) (0) (0) (0)) 25 7 [iv 0, iv 1] (isE (umdE 0 60) ((0) + ((49 : Nat) : Int)) ++ isE (umdE 1 3) ((0) + ((1 : Nat) : Int))) []).good = true := by kernel_rfl
theorem run49_2 : (lawRunF Try.prog R (cxT R (2 ^ 47 + 2 ^ 24) (0) (0) (0)) 25 7 [iv 0, iv 1] (isE (umdE 0 60) ((0) + ((49 : Nat) : Int)) ++ isE (umdE 1 3) ((0) + ((2 : Nat) : Int))) []).good = true := by kernel_rfl
theorem run50_0 : (lawRunF Try.prog R (cxT R (2 ^ 47 + 2 ^ 24) (0) (0) (0)) 25 7 [iv 0, iv 1] (isE (umdE 0 60) ((0) + ((50 : Nat) : Int)) ++ isE (umdE 1 3) ((0) + ((0 : Nat) : Int))) []).good = true := by kernel_rfl
theorem run50_1 : (lawRunF Try.prog R (cxT R (2 ^ 47 + 2 ^ 24) (0) (0) (0)) 25 7 [iv 0, iv 1] (isE (umdE 0 60) ((0) + ((50 : Nat) : Int)) ++ isE (umdE 1 3) ((0) + ((1 : Nat) : Int))) []).good = true := by kernel_rfl
theorem run50_2 : (lawRunF Try.prog R (cxT R (2 ^ 47 + 2 ^ 24) (0) (0) (0)) 25 7 [iv 0, iv 1] (isE (umdE 0 60) ((0) + ((50 : Nat) : Int)) ++ isE (umdE 1 3) ((0) + ((2 : Nat) : Int))) []).good = true := by kernel_rfl
theorem run51_0 : (lawRunF Try.prog R (cxT R (2 ^ 47 + 2 ^ 24) (0) (0) (0)) 25 7 [iv 0, iv 1] (isE (umdE 0 60) ((0) + ((51 : Nat) : Int)) ++ isE (umdE 1 3) ((0) + ((0 : Nat) : Int))) []).good = true := by kernel_rfl
theorem run51_1 : (lawRunF Try.prog R (cxT R (2 ^ 47 + 2 ^ 24) (0) (0) (0)) 25 7 [iv 0, iv 1] (isE (umdE 0 60) ((0) + ((51 : Nat) : Int)) ++ isE (umdE 1 3) ((0) + ((1 : Nat) : Int))) []).good = true := by kernel_rfl
theorem run51_2 : (lawRunF Try.prog R (cxT R (2 ^ 47 + 2 ^ 24) (0) (0) (0)) 25 7 [iv 0, iv 1] (isE (umdE 0 60) ((0) + ((51 : Nat) : Int)) ++ isE (umdE 1 3) ((0) + ((2 : Nat) : Int))) []).good = true := by kernel_rfl
theorem run52_0 : (lawRunF Try.prog R (cxT R (2 ^ 47 + 2 ^ 24) (0) (0) (0)) 25 7 [iv 0, iv 1] (isE (umdE 0 60) ((0) + ((52 : Nat) : Int)) ++ isE (umdE 1 3) ((0) + ((0 : Nat) : Int))) []).good = true := by kernel_rfl
theorem run52_1 : (lawRunF Try.prog R (cxT R (2 ^ 47 + 2 ^ 24) (0) (0) (0)) 25 7 [iv 0, iv 1] (isE (umdE 0 60) ((0) + ((52 : Nat) : Int)) ++ isE (umdE 1 3) ((0) + ((1 : Nat) : Int))) []).good = true := by kernel_rfl
theorem run52_2 : (lawRunF Try.prog R (cxT R (2 ^ 47 + 2 ^ 24) (0) (0) (0)) 25 7 [iv 0, iv 1] (isE (umdE 0 60) ((0) + ((52 : Nat) : Int)) ++ isE (umdE 1 3) ((0) + ((2 : Nat) : Int))) []).good = true := by kernel_rfl
theorem run53_0 : (lawRunF Try.prog R (cxT R (2 ^ 47 + 2 ^ 24) (0) (0) (0)) 25 7 [iv 0, iv 1] (isE (umdE 0 60) ((0) + ((53 : Nat) : Int)) ++ isE (umdE 1 3) ((0) + ((0 : Nat) : Int))) []).good = true := by kernel_rfl
theorem run53_1 : (lawRunF Try.prog R (cxT R (2 ^ 47 + 2 ^ 24) (0) (0) (0)) 25 7 [iv 0, iv 1] (isE (umdE 0 60) ((0) + ((53 : Nat) : Int)) ++ isE (umdE 1 3) ((0) + ((1 : Nat) : Int))) []).good = true := by kernel_rfl
theorem run53_2 : (lawRunF Try.prog R (cxT R (2 ^ 47 + 2 ^ 24) (0) (0) (0)) 25 7 [iv 0, iv 1] (isE (umdE 0 60) ((0) + ((53 : Nat) : Int)) ++ isE (umdE 1 3) ((0) + ((2 : Nat) : Int))) []).good = true := by kernel_rfl
end Go.Proofs.Ytgmpkcdlffifoaa.edgeRises
