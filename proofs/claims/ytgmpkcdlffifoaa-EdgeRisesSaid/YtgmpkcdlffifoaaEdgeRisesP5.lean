/- Some of the runs of EdgeRises. -/
import Derived.Test.YtgmpkcdlffifoaaEdgeRisesR
import Derived.Test.YtgmpkcdlffifoaaRxAwake
namespace Go.Proofs.Ytgmpkcdlffifoaa.edgeRises
open Go.RX Go.Proofs.Ytgmpkcdlffifoaa
theorem run30_0 : (lawRunF Try.prog R (cxT R (2 ^ 47 + 2 ^ 24) (0) (0) (0)) 25 7 [iv 0, iv 1] (isE (umdE 0 60) ((0) + ((30 : Nat) : Int)) ++ isE (umdE 1 3) ((0) + ((0 : Nat) : Int))) []).good = true := by kernel_rfl
theorem run30_1 : (lawRunF Try.prog R (cxT R (2 ^ 47 + 2 ^ 24) (0) (0) (0)) 25 7 [iv 0, iv 1] (isE (umdE 0 60) ((0) + ((30 : Nat) : Int)) ++ isE (umdE 1 3) ((0) + ((1 : Nat) : Int))) []).good = true := by kernel_rfl
theorem run30_2 : (lawRunF Try.prog R (cxT R (2 ^ 47 + 2 ^ 24) (0) (0) (0)) 25 7 [iv 0, iv 1] (isE (umdE 0 60) ((0) + ((30 : Nat) : Int)) ++ isE (umdE 1 3) ((0) + ((2 : Nat) : Int))) []).good = true := by kernel_rfl
theorem run31_0 : (lawRunF Try.prog R (cxT R (2 ^ 47 + 2 ^ 24) (0) (0) (0)) 25 7 [iv 0, iv 1] (isE (umdE 0 60) ((0) + ((31 : Nat) : Int)) ++ isE (umdE 1 3) ((0) + ((0 : Nat) : Int))) []).good = true := by kernel_rfl
theorem run31_1 : (lawRunF Try.prog R (cxT R (2 ^ 47 + 2 ^ 24) (0) (0) (0)) 25 7 [iv 0, iv 1] (isE (umdE 0 60) ((0) + ((31 : Nat) : Int)) ++ isE (umdE 1 3) ((0) + ((1 : Nat) : Int))) []).good = true := by kernel_rfl
theorem run31_2 : (lawRunF Try.prog R (cxT R (2 ^ 47 + 2 ^ 24) (0) (0) (0)) 25 7 [iv 0, iv 1] (isE (umdE 0 60) ((0) + ((31 : Nat) : Int)) ++ isE (umdE 1 3) ((0) + ((2 : Nat) : Int))) []).good = true := by kernel_rfl
theorem run32_0 : (lawRunF Try.prog R (cxT R (2 ^ 47 + 2 ^ 24) (0) (0) (0)) 25 7 [iv 0, iv 1] (isE (umdE 0 60) ((0) + ((32 : Nat) : Int)) ++ isE (umdE 1 3) ((0) + ((0 : Nat) : Int))) []).good = true := by kernel_rfl
theorem run32_1 : (lawRunF Try.prog R (cxT R (2 ^ 47 + 2 ^ 24) (0) (0) (0)) 25 7 [iv 0, iv 1] (isE (umdE 0 60) ((0) + ((32 : Nat) : Int)) ++ isE (umdE 1 3) ((0) + ((1 : Nat) : Int))) []).good = true := by kernel_rfl
theorem run32_2 : (lawRunF Try.prog R (cxT R (2 ^ 47 + 2 ^ 24) (0) (0) (0)) 25 7 [iv 0, iv 1] (isE (umdE 0 60) ((0) + ((32 : Nat) : Int)) ++ isE (umdE 1 3) ((0) + ((2 : Nat) : Int))) []).good = true := by kernel_rfl
theorem run33_0 : (lawRunF Try.prog R (cxT R (2 ^ 47 + 2 ^ 24) (0) (0) (0)) 25 7 [iv 0, iv 1] (isE (umdE 0 60) ((0) + ((33 : Nat) : Int)) ++ isE (umdE 1 3) ((0) + ((0 : Nat) : Int))) []).good = true := by kernel_rfl
theorem run33_1 : (lawRunF Try.prog R (cxT R (2 ^ 47 + 2 ^ 24) (0) (0) (0)) 25 7 [iv 0, iv 1] (isE (umdE 0 60) ((0) + ((33 : Nat) : Int)) ++ isE (umdE 1 3) ((0) + ((1 : Nat) : Int))) []).good = true := by kernel_rfl
theorem run33_2 : (lawRunF Try.prog R (cxT R (2 ^ 47 + 2 ^ 24) (0) (0) (0)) 25 7 [iv 0, iv 1] (isE (umdE 0 60) ((0) + ((33 : Nat) : Int)) ++ isE (umdE 1 3) ((0) + ((2 : Nat) : Int))) []).good = true := by kernel_rfl
theorem run34_0 : (lawRunF Try.prog R (cxT R (2 ^ 47 + 2 ^ 24) (0) (0) (0)) 25 7 [iv 0, iv 1] (isE (umdE 0 60) ((0) + ((34 : Nat) : Int)) ++ isE (umdE 1 3) ((0) + ((0 : Nat) : Int))) []).good = true := by kernel_rfl
theorem run34_1 : (lawRunF Try.prog R (cxT R (2 ^ 47 + 2 ^ 24) (0) (0) (0)) 25 7 [iv 0, iv 1] (isE (umdE 0 60) ((0) + ((34 : Nat) : Int)) ++ isE (umdE 1 3) ((0) + ((1 : Nat) : Int))) []).good = true := by kernel_rfl
theorem run34_2 : (lawRunF Try.prog R (cxT R (2 ^ 47 + 2 ^ 24) (0) (0) (0)) 25 7 [iv 0, iv 1] (isE (umdE 0 60) ((0) + ((34 : Nat) : Int)) ++ isE (umdE 1 3) ((0) + ((2 : Nat) : Int))) []).good = true := by kernel_rfl
theorem run35_0 : (lawRunF Try.prog R (cxT R (2 ^ 47 + 2 ^ 24) (0) (0) (0)) 25 7 [iv 0, iv 1] (isE (umdE 0 60) ((0) + ((35 : Nat) : Int)) ++ isE (umdE 1 3) ((0) + ((0 : Nat) : Int))) []).good = true := by kernel_rfl
theorem run35_1 : (lawRunF Try.prog R (cxT R (2 ^ 47 + 2 ^ 24) (0) (0) (0)) 25 7 [iv 0, iv 1] (isE (umdE 0 60) ((0) + ((35 : Nat) : Int)) ++ isE (umdE 1 3) ((0) + ((1 : Nat) : Int))) []).good = true := by kernel_rfl
theorem run35_2 : (lawRunF Try.prog R (cxT R (2 ^ 47 + 2 ^ 24) (0) (0) (0)) 25 7 [iv 0, iv 1] (isE (umdE 0 60) ((0) + ((35 : Nat) : Int)) ++ isE (umdE 1 3) ((0) + ((2 : Nat) : Int))) []).good = true := by kernel_rfl
end Go.Proofs.Ytgmpkcdlffifoaa.edgeRises
