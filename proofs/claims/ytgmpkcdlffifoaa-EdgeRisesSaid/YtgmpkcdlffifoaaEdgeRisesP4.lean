/- Some of the runs of EdgeRises. -/
import Derived.Test.YtgmpkcdlffifoaaEdgeRisesR
import Derived.Test.YtgmpkcdlffifoaaRxAwake
namespace Go.Proofs.Ytgmpkcdlffifoaa.edgeRises
open Go.RX Go.Proofs.Ytgmpkcdlffifoaa
theorem run24_0 : (lawRunF Try.prog R (cxT R (2 ^ 47 + 2 ^ 24) (0) (0) (0)) 25 7 [iv 0, iv 1] (isE (umdE 0 60) ((0) + ((24 : Nat) : Int)) ++ isE (umdE 1 3) ((0) + ((0 : Nat) : Int))) []).good = true := by kernel_rfl
theorem run24_1 : (lawRunF Try.prog R (cxT R (2 ^ 47 + 2 ^ 24) (0) (0) (0)) 25 7 [iv 0, iv 1] (isE (umdE 0 60) ((0) + ((24 : Nat) : Int)) ++ isE (umdE 1 3) ((0) + ((1 : Nat) : Int))) []).good = true := by kernel_rfl
theorem run24_2 : (lawRunF Try.prog R (cxT R (2 ^ 47 + 2 ^ 24) (0) (0) (0)) 25 7 [iv 0, iv 1] (isE (umdE 0 60) ((0) + ((24 : Nat) : Int)) ++ isE (umdE 1 3) ((0) + ((2 : Nat) : Int))) []).good = true := by kernel_rfl
theorem run25_0 : (lawRunF Try.prog R (cxT R (2 ^ 47 + 2 ^ 24) (0) (0) (0)) 25 7 [iv 0, iv 1] (isE (umdE 0 60) ((0) + ((25 : Nat) : Int)) ++ isE (umdE 1 3) ((0) + ((0 : Nat) : Int))) []).good = true := by kernel_rfl
theorem run25_1 : (lawRunF Try.prog R (cxT R (2 ^ 47 + 2 ^ 24) (0) (0) (0)) 25 7 [iv 0, iv 1] (isE (umdE 0 60) ((0) + ((25 : Nat) : Int)) ++ isE (umdE 1 3) ((0) + ((1 : Nat) : Int))) []).good = true := by kernel_rfl
theorem run25_2 : (lawRunF Try.prog R (cxT R (2 ^ 47 + 2 ^ 24) (0) (0) (0)) 25 7 [iv 0, iv 1] (isE (umdE 0 60) ((0) + ((25 : Nat) : Int)) ++ isE (umdE 1 3) ((0) + ((2 : Nat) : Int))) []).good = true := by kernel_rfl
theorem run26_0 : (lawRunF Try.prog R (cxT R (2 ^ 47 + 2 ^ 24) (0) (0) (0)) 25 7 [iv 0, iv 1] (isE (umdE 0 60) ((0) + ((26 : Nat) : Int)) ++ isE (umdE 1 3) ((0) + ((0 : Nat) : Int))) []).good = true := by kernel_rfl
theorem run26_1 : (lawRunF Try.prog R (cxT R (2 ^ 47 + 2 ^ 24) (0) (0) (0)) 25 7 [iv 0, iv 1] (isE (umdE 0 60) ((0) + ((26 : Nat) : Int)) ++ isE (umdE 1 3) ((0) + ((1 : Nat) : Int))) []).good = true := by kernel_rfl
theorem run26_2 : (lawRunF Try.prog R (cxT R (2 ^ 47 + 2 ^ 24) (0) (0) (0)) 25 7 [iv 0, iv 1] (isE (umdE 0 60) ((0) + ((26 : Nat) : Int)) ++ isE (umdE 1 3) ((0) + ((2 : Nat) : Int))) []).good = true := by kernel_rfl
theorem run27_0 : (lawRunF Try.prog R (cxT R (2 ^ 47 + 2 ^ 24) (0) (0) (0)) 25 7 [iv 0, iv 1] (isE (umdE 0 60) ((0) + ((27 : Nat) : Int)) ++ isE (umdE 1 3) ((0) + ((0 : Nat) : Int))) []).good = true := by kernel_rfl
theorem run27_1 : (lawRunF Try.prog R (cxT R (2 ^ 47 + 2 ^ 24) (0) (0) (0)) 25 7 [iv 0, iv 1] (isE (umdE 0 60) ((0) + ((27 : Nat) : Int)) ++ isE (umdE 1 3) ((0) + ((1 : Nat) : Int))) []).good = true := by kernel_rfl
theorem run27_2 : (lawRunF Try.prog R (cxT R (2 ^ 47 + 2 ^ 24) (0) (0) (0)) 25 7 [iv 0, iv 1] (isE (umdE 0 60) ((0) + ((27 : Nat) : Int)) ++ isE (umdE 1 3) ((0) + ((2 : Nat) : Int))) []).good = true := by kernel_rfl
theorem run28_0 : (lawRunF Try.prog R (cxT R (2 ^ 47 + 2 ^ 24) (0) (0) (0)) 25 7 [iv 0, iv 1] (isE (umdE 0 60) ((0) + ((28 : Nat) : Int)) ++ isE (umdE 1 3) ((0) + ((0 : Nat) : Int))) []).good = true := by kernel_rfl
theorem run28_1 : (lawRunF Try.prog R (cxT R (2 ^ 47 + 2 ^ 24) (0) (0) (0)) 25 7 [iv 0, iv 1] (isE (umdE 0 60) ((0) + ((28 : Nat) : Int)) ++ isE (umdE 1 3) ((0) + ((1 : Nat) : Int))) []).good = true := by kernel_rfl
theorem run28_2 : (lawRunF Try.prog R (cxT R (2 ^ 47 + 2 ^ 24) (0) (0) (0)) 25 7 [iv 0, iv 1] (isE (umdE 0 60) ((0) + ((28 : Nat) : Int)) ++ isE (umdE 1 3) ((0) + ((2 : Nat) : Int))) []).good = true := by kernel_rfl
theorem run29_0 : (lawRunF Try.prog R (cxT R (2 ^ 47 + 2 ^ 24) (0) (0) (0)) 25 7 [iv 0, iv 1] (isE (umdE 0 60) ((0) + ((29 : Nat) : Int)) ++ isE (umdE 1 3) ((0) + ((0 : Nat) : Int))) []).good = true := by kernel_rfl
theorem run29_1 : (lawRunF Try.prog R (cxT R (2 ^ 47 + 2 ^ 24) (0) (0) (0)) 25 7 [iv 0, iv 1] (isE (umdE 0 60) ((0) + ((29 : Nat) : Int)) ++ isE (umdE 1 3) ((0) + ((1 : Nat) : Int))) []).good = true := by kernel_rfl
theorem run29_2 : (lawRunF Try.prog R (cxT R (2 ^ 47 + 2 ^ 24) (0) (0) (0)) 25 7 [iv 0, iv 1] (isE (umdE 0 60) ((0) + ((29 : Nat) : Int)) ++ isE (umdE 1 3) ((0) + ((2 : Nat) : Int))) []).good = true := by kernel_rfl
end Go.Proofs.Ytgmpkcdlffifoaa.edgeRises
