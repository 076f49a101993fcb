/- Some of the runs of EdgeRises. -/
import Derived.Test.YtgmpkcdlffifoaaEdgeRisesR
import Derived.Test.YtgmpkcdlffifoaaRxAwake
namespace Go.Proofs.Ytgmpkcdlffifoaa.edgeRises
open Go.RX Go.Proofs.Ytgmpkcdlffifoaa
theorem run12_0 : (lawRunF Try.prog R (cxT R (2 ^ 47 + 2 ^ 24) (0) (0) (0)) 25 7 [iv 0, iv 1] (isE (umdE 0 60) ((0) + ((12 : Nat) : Int)) ++ isE (umdE 1 3) ((0) + ((0 : Nat) : Int))) []).good = true := by kernel_rfl
theorem run12_1 : (lawRunF Try.prog R (cxT R (2 ^ 47 + 2 ^ 24) (0) (0) (0)) 25 7 [iv 0, iv 1] (isE (umdE 0 60) ((0) + ((12 : Nat) : Int)) ++ isE (umdE 1 3) ((0) + ((1 : Nat) : Int))) []).good = true := by kernel_rfl
theorem run12_2 : (lawRunF Try.prog R (cxT R (2 ^ 47 + 2 ^ 24) (0) (0) (0)) 25 7 [iv 0, iv 1] (isE (umdE 0 60) ((0) + ((12 : Nat) : Int)) ++ isE (umdE 1 3) ((0) + ((2 : Nat) : Int))) []).good = true := by kernel_rfl
theorem run13_0 : (lawRunF Try.prog R (cxT R (2 ^ 47 + 2 ^ 24) (0) (0) (0)) 25 7 [iv 0, iv 1] (isE (umdE 0 60) ((0) + ((13 : Nat) : Int)) ++ isE (umdE 1 3) ((0) + ((0 : Nat) : Int))) []).good = true := by kernel_rfl
theorem run13_1 : (lawRunF Try.prog R (cxT R (2 ^ 47 + 2 ^ 24) (0) (0) (0)) 25 7 [iv 0, iv 1] (isE (umdE 0 60) ((0) + ((13 : Nat) : Int)) ++ isE (umdE 1 3) ((0) + ((1 : Nat) : Int))) []).good = true := by kernel_rfl
theorem run13_2 : (lawRunF Try.prog R (cxT R (2 ^ 47 + 2 ^ 24) (0) (0) (0)) 25 7 [iv 0, iv 1] (isE (umdE 0 60) ((0) + ((13 : Nat) : Int)) ++ isE (umdE 1 3) ((0) + ((2 : Nat) : Int))) []).good = true := by kernel_rfl
theorem run14_0 : (lawRunF Try.prog R (cxT R (2 ^ 47 + 2 ^ 24) (0) (0) (0)) 25 7 [iv 0, iv 1] (isE (umdE 0 60) ((0) + ((14 : Nat) : Int)) ++ isE (umdE 1 3) ((0) + ((0 : Nat) : Int))) []).good = true := by kernel_rfl
theorem run14_1 : (lawRunF Try.prog R (cxT R (2 ^ 47 + 2 ^ 24) (0) (0) (0)) 25 7 [iv 0, iv 1] (isE (umdE 0 60) ((0) + ((14 : Nat) : Int)) ++ isE (umdE 1 3) ((0) + ((1 : Nat) : Int))) []).good = true := by kernel_rfl
theorem run14_2 : (lawRunF Try.prog R (cxT R (2 ^ 47 + 2 ^ 24) (0) (0) (0)) 25 7 [iv 0, iv 1] (isE (umdE 0 60) ((0) + ((14 : Nat) : Int)) ++ isE (umdE 1 3) ((0) + ((2 : Nat) : Int))) []).good = true := by kernel_rfl
theorem run15_0 : (lawRunF Try.prog R (cxT R (2 ^ 47 + 2 ^ 24) (0) (0) (0)) 25 7 [iv 0, iv 1] (isE (umdE 0 60) ((0) + ((15 : Nat) : Int)) ++ isE (umdE 1 3) ((0) + ((0 : Nat) : Int))) []).good = true := by kernel_rfl
theorem run15_1 : (lawRunF Try.prog R (cxT R (2 ^ 47 + 2 ^ 24) (0) (0) (0)) 25 7 [iv 0, iv 1] (isE (umdE 0 60) ((0) + ((15 : Nat) : Int)) ++ isE (umdE 1 3) ((0) + ((1 : Nat) : Int))) []).good = true := by kernel_rfl
theorem run15_2 : (lawRunF Try.prog R (cxT R (2 ^ 47 + 2 ^ 24) (0) (0) (0)) 25 7 [iv 0, iv 1] (isE (umdE 0 60) ((0) + ((15 : Nat) : Int)) ++ isE (umdE 1 3) ((0) + ((2 : Nat) : Int))) []).good = true := by kernel_rfl
theorem run16_0 : (lawRunF Try.prog R (cxT R (2 ^ 47 + 2 ^ 24) (0) (0) (0)) 25 7 [iv 0, iv 1] (isE (umdE 0 60) ((0) + ((16 : Nat) : Int)) ++ isE (umdE 1 3) ((0) + ((0 : Nat) : Int))) []).good = true := by kernel_rfl
theorem run16_1 : (lawRunF Try.prog R (cxT R (2 ^ 47 + 2 ^ 24) (0) (0) (0)) 25 7 [iv 0, iv 1] (isE (umdE 0 60) ((0) + ((16 : Nat) : Int)) ++ isE (umdE 1 3) ((0) + ((1 : Nat) : Int))) []).good = true := by kernel_rfl
theorem run16_2 : (lawRunF Try.prog R (cxT R (2 ^ 47 + 2 ^ 24) (0) (0) (0)) 25 7 [iv 0, iv 1] (isE (umdE 0 60) ((0) + ((16 : Nat) : Int)) ++ isE (umdE 1 3) ((0) + ((2 : Nat) : Int))) []).good = true := by kernel_rfl
theorem run17_0 : (lawRunF Try.prog R (cxT R (2 ^ 47 + 2 ^ 24) (0) (0) (0)) 25 7 [iv 0, iv 1] (isE (umdE 0 60) ((0) + ((17 : Nat) : Int)) ++ isE (umdE 1 3) ((0) + ((0 : Nat) : Int))) []).good = true := by kernel_rfl
theorem run17_1 : (lawRunF Try.prog R (cxT R (2 ^ 47 + 2 ^ 24) (0) (0) (0)) 25 7 [iv 0, iv 1] (isE (umdE 0 60) ((0) + ((17 : Nat) : Int)) ++ isE (umdE 1 3) ((0) + ((1 : Nat) : Int))) []).good = true := by kernel_rfl
theorem run17_2 : (lawRunF Try.prog R (cxT R (2 ^ 47 + 2 ^ 24) (0) (0) (0)) 25 7 [iv 0, iv 1] (isE (umdE 0 60) ((0) + ((17 : Nat) : Int)) ++ isE (umdE 1 3) ((0) + ((2 : Nat) : Int))) []).good = true := by kernel_rfl
end Go.Proofs.Ytgmpkcdlffifoaa.edgeRises
