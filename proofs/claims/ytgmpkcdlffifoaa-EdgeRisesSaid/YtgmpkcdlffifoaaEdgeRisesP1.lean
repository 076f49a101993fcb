/- Some of the runs of EdgeRises. -/
import Derived.Test.YtgmpkcdlffifoaaEdgeRisesR
import Derived.Test.YtgmpkcdlffifoaaRxAwake
namespace Go.Proofs.Ytgmpkcdlffifoaa.edgeRises
open Go.RX Go.Proofs.Ytgmpkcdlffifoaa
theorem run6_0 : (lawRunF Try.prog R (cxT R (2 ^ 47 + 2 ^ 24) (0) (0) (0)) 25 7 [iv 0, iv 1] (isE (umdE 0 60) ((0) + ((6 : Nat) : Int)) ++ isE (umdE 1 3) ((0) + ((0 : Nat) : Int))) []).good = true := by kernel_rfl
theorem run6_1 : (lawRunF Try.prog R (cxT R (2 ^ 47 + 2 ^ 24) (0) (0) (0)) 25 7 [iv 0, iv 1] (isE (umdE 0 60) ((0) + ((6 : Nat) : Int)) ++ isE (umdE 1 3) ((0) + ((1 : Nat) : Int))) []).good = true := by kernel_rfl
theorem run6_2 : (lawRunF Try.prog R (cxT R (2 ^ 47 + 2 ^ 24) (0) (0) (0)) 25 7 [iv 0, iv 1] (isE (umdE 0 60) ((0) + ((6 : Nat) : Int)) ++ isE (umdE 1 3) ((0) + ((2 : Nat) : Int))) []).good = true := by kernel_rfl
theorem run7_0 : (lawRunF Try.prog R (cxT R (2 ^ 47 + 2 ^ 24) (0) (0) (0)) 25 7 [iv 0, iv 1] (isE (umdE 0 60) ((0) + ((7 : Nat) : Int)) ++ isE (umdE 1 3) ((0) + ((0 : Nat) : Int))) []).good = true := by kernel_rfl
theorem run7_1 : (lawRunF Try.prog R (cxT R (2 ^ 47 + 2 ^ 24) (0) (0) (0)) 25 7 [iv 0, iv 1] (isE (umdE 0 60) ((0) + ((7 : Nat) : Int)) ++ isE (umdE 1 3) ((0) + ((1 : Nat) : Int))) []).good = true := by kernel_rfl
theorem run7_2 : (lawRunF Try.prog R (cxT R (2 ^ 47 + 2 ^ 24) (0) (0) (0)) 25 7 [iv 0, iv 1] (isE (umdE 0 60) ((0) + ((7 : Nat) : Int)) ++ isE (umdE 1 3) ((0) + ((2 : Nat) : Int))) []).good = true := by kernel_rfl
theorem run8_0 : (lawRunF Try.prog R (cxT R (2 ^ 47 + 2 ^ 24) (0) (0) (0)) 25 7 [iv 0, iv 1] (isE (umdE 0 60) ((0) + ((8 : Nat) : Int)) ++ isE (umdE 1 3) ((0) + ((0 : Nat) : Int))) []).good = true := by kernel_rfl
theorem run8_1 : (lawRunF Try.prog R (cxT R (2 ^ 47 + 2 ^ 24) (0) (0) (0)) 25 7 [iv 0, iv 1] (isE (umdE 0 60) ((0) + ((8 : Nat) : Int)) ++ isE (umdE 1 3) ((0) + ((1 : Nat) : Int))) []).good = true := by kernel_rfl
theorem run8_2 : (lawRunF Try.prog R (cxT R (2 ^ 47 + 2 ^ 24) (0) (0) (0)) 25 7 [iv 0, iv 1] (isE (umdE 0 60) ((0) + ((8 : Nat) : Int)) ++ isE (umdE 1 3) ((0) + ((2 : Nat) : Int))) []).good = true := by kernel_rfl
theorem run9_0 : (lawRunF Try.prog R (cxT R (2 ^ 47 + 2 ^ 24) (0) (0) (0)) 25 7 [iv 0, iv 1] (isE (umdE 0 60) ((0) + ((9 : Nat) : Int)) ++ isE (umdE 1 3) ((0) + ((0 : Nat) : Int))) []).good = true := by kernel_rfl
theorem run9_1 : (lawRunF Try.prog R (cxT R (2 ^ 47 + 2 ^ 24) (0) (0) (0)) 25 7 [iv 0, iv 1] (isE (umdE 0 60) ((0) + ((9 : Nat) : Int)) ++ isE (umdE 1 3) ((0) + ((1 : Nat) : Int))) []).good = true := by kernel_rfl
theorem run9_2 : (lawRunF Try.prog R (cxT R (2 ^ 47 + 2 ^ 24) (0) (0) (0)) 25 7 [iv 0, iv 1] (isE (umdE 0 60) ((0) + ((9 : Nat) : Int)) ++ isE (umdE 1 3) ((0) + ((2 : Nat) : Int))) []).good = true := by kernel_rfl
theorem run10_0 : (lawRunF Try.prog R (cxT R (2 ^ 47 + 2 ^ 24) (0) (0) (0)) 25 7 [iv 0, iv 1] (isE (umdE 0 60) ((0) + ((10 : Nat) : Int)) ++ isE (umdE 1 3) ((0) + ((0 : Nat) : Int))) []).good = true := by kernel_rfl
theorem run10_1 : (lawRunF Try.prog R (cxT R (2 ^ 47 + 2 ^ 24) (0) (0) (0)) 25 7 [iv 0, iv 1] (isE (umdE 0 60) ((0) + ((10 : Nat) : Int)) ++ isE (umdE 1 3) ((0) + ((1 : Nat) : Int))) []).good = true := by kernel_rfl
theorem run10_2 : (lawRunF Try.prog R (cxT R (2 ^ 47 + 2 ^ 24) (0) (0) (0)) 25 7 [iv 0, iv 1] (isE (umdE 0 60) ((0) + ((10 : Nat) : Int)) ++ isE (umdE 1 3) ((0) + ((2 : Nat) : Int))) []).good = true := by kernel_rfl
theorem run11_0 : (lawRunF Try.prog R (cxT R (2 ^ 47 + 2 ^ 24) (0) (0) (0)) 25 7 [iv 0, iv 1] (isE (umdE 0 60) ((0) + ((11 : Nat) : Int)) ++ isE (umdE 1 3) ((0) + ((0 : Nat) : Int))) []).good = true := by kernel_rfl
theorem run11_1 : (lawRunF Try.prog R (cxT R (2 ^ 47 + 2 ^ 24) (0) (0) (0)) 25 7 [iv 0, iv 1] (isE (umdE 0 60) ((0) + ((11 : Nat) : Int)) ++ isE (umdE 1 3) ((0) + ((1 : Nat) : Int))) []).good = true := by kernel_rfl
theorem run11_2 : (lawRunF Try.prog R (cxT R (2 ^ 47 + 2 ^ 24) (0) (0) (0)) 25 7 [iv 0, iv 1] (isE (umdE 0 60) ((0) + ((11 : Nat) : Int)) ++ isE (umdE 1 3) ((0) + ((2 : Nat) : Int))) []).good = true := by kernel_rfl
end Go.Proofs.Ytgmpkcdlffifoaa.edgeRises
