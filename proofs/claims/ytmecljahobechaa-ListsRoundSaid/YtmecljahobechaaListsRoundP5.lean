/- Some of the runs of ListsRound. -/
import Derived.Test.YtmecljahobechaaListsRoundR
import Derived.Test.YtmecljahobechaaRxAwake
namespace Go.Proofs.Ytmecljahobechaa.listsRound
open Go.RX Go.Proofs.Ytmecljahobechaa
theorem run10_0 : (lawRunF Try.prog R (cxT R (0) (0) (0) (0) (0)) 25 4 [iv 0, iv 1] (isE (andE 0 15) ((0) + ((10 : Nat) : Int)) ++ isE (andE 1 7) ((0) + ((0 : Nat) : Int))) []).good = true := by kernel_rfl
theorem run10_1 : (lawRunF Try.prog R (cxT R (0) (0) (0) (0) (0)) 25 4 [iv 0, iv 1] (isE (andE 0 15) ((0) + ((10 : Nat) : Int)) ++ isE (andE 1 7) ((0) + ((1 : Nat) : Int))) []).good = true := by kernel_rfl
theorem run10_2 : (lawRunF Try.prog R (cxT R (0) (0) (0) (0) (0)) 25 4 [iv 0, iv 1] (isE (andE 0 15) ((0) + ((10 : Nat) : Int)) ++ isE (andE 1 7) ((0) + ((2 : Nat) : Int))) []).good = true := by kernel_rfl
theorem run10_3 : (lawRunF Try.prog R (cxT R (0) (0) (0) (0) (0)) 25 4 [iv 0, iv 1] (isE (andE 0 15) ((0) + ((10 : Nat) : Int)) ++ isE (andE 1 7) ((0) + ((3 : Nat) : Int))) []).good = true := by kernel_rfl
theorem run10_4 : (lawRunF Try.prog R (cxT R (0) (0) (0) (0) (0)) 25 4 [iv 0, iv 1] (isE (andE 0 15) ((0) + ((10 : Nat) : Int)) ++ isE (andE 1 7) ((0) + ((4 : Nat) : Int))) []).good = true := by kernel_rfl
theorem run10_5 : (lawRunF Try.prog R (cxT R (0) (0) (0) (0) (0)) 25 4 [iv 0, iv 1] (isE (andE 0 15) ((0) + ((10 : Nat) : Int)) ++ isE (andE 1 7) ((0) + ((5 : Nat) : Int))) []).good = true := by kernel_rfl
theorem run10_6 : (lawRunF Try.prog R (cxT R (0) (0) (0) (0) (0)) 25 4 [iv 0, iv 1] (isE (andE 0 15) ((0) + ((10 : Nat) : Int)) ++ isE (andE 1 7) ((0) + ((6 : Nat) : Int))) []).good = true := by kernel_rfl
theorem run10_7 : (lawRunF Try.prog R (cxT R (0) (0) (0) (0) (0)) 25 4 [iv 0, iv 1] (isE (andE 0 15) ((0) + ((10 : Nat) : Int)) ++ isE (andE 1 7) ((0) + ((7 : Nat) : Int))) []).good = true := by kernel_rfl
theorem run11_0 : (lawRunF Try.prog R (cxT R (0) (0) (0) (0) (0)) 25 4 [iv 0, iv 1] (isE (andE 0 15) ((0) + ((11 : Nat) : Int)) ++ isE (andE 1 7) ((0) + ((0 : Nat) : Int))) []).good = true := by kernel_rfl
theorem run11_1 : (lawRunF Try.prog R (cxT R (0) (0) (0) (0) (0)) 25 4 [iv 0, iv 1] (isE (andE 0 15) ((0) + ((11 : Nat) : Int)) ++ isE (andE 1 7) ((0) + ((1 : Nat) : Int))) []).good = true := by kernel_rfl
theorem run11_2 : (lawRunF Try.prog R (cxT R (0) (0) (0) (0) (0)) 25 4 [iv 0, iv 1] (isE (andE 0 15) ((0) + ((11 : Nat) : Int)) ++ isE (andE 1 7) ((0) + ((2 : Nat) : Int))) []).good = true := by kernel_rfl
theorem run11_3 : (lawRunF Try.prog R (cxT R (0) (0) (0) (0) (0)) 25 4 [iv 0, iv 1] (isE (andE 0 15) ((0) + ((11 : Nat) : Int)) ++ isE (andE 1 7) ((0) + ((3 : Nat) : Int))) []).good = true := by kernel_rfl
theorem run11_4 : (lawRunF Try.prog R (cxT R (0) (0) (0) (0) (0)) 25 4 [iv 0, iv 1] (isE (andE 0 15) ((0) + ((11 : Nat) : Int)) ++ isE (andE 1 7) ((0) + ((4 : Nat) : Int))) []).good = true := by kernel_rfl
theorem run11_5 : (lawRunF Try.prog R (cxT R (0) (0) (0) (0) (0)) 25 4 [iv 0, iv 1] (isE (andE 0 15) ((0) + ((11 : Nat) : Int)) ++ isE (andE 1 7) ((0) + ((5 : Nat) : Int))) []).good = true := by kernel_rfl
theorem run11_6 : (lawRunF Try.prog R (cxT R (0) (0) (0) (0) (0)) 25 4 [iv 0, iv 1] (isE (andE 0 15) ((0) + ((11 : Nat) : Int)) ++ isE (andE 1 7) ((0) + ((6 : Nat) : Int))) []).good = true := by kernel_rfl
theorem run11_7 : (lawRunF Try.prog R (cxT R (0) (0) (0) (0) (0)) 25 4 [iv 0, iv 1] (isE (andE 0 15) ((0) + ((11 : Nat) : Int)) ++ isE (andE 1 7) ((0) + ((7 : Nat) : Int))) []).good = true := by kernel_rfl
end Go.Proofs.Ytmecljahobechaa.listsRound
