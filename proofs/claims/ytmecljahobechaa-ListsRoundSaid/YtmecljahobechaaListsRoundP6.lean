/- Some of the runs of ListsRound. -/
import Derived.Test.YtmecljahobechaaListsRoundR
import Derived.Test.YtmecljahobechaaRxAwake
namespace Go.Proofs.Ytmecljahobechaa.listsRound
open Go.RX Go.Proofs.Ytmecljahobechaa
theorem run12_0 : (lawRunF Try.prog R (cxT R (0) (0) (0) (0) (0)) 25 4 [iv 0, iv 1] (isE (andE 0 15) ((0) + ((12 : Nat) : Int)) ++ isE (andE 1 7) ((0) + ((0 : Nat) : Int))) []).good = true := by kernel_rfl
theorem run12_1 : (lawRunF Try.prog R (cxT R (0) (0) (0) (0) (0)) 25 4 [iv 0, iv 1] (isE (andE 0 15) ((0) + ((12 : Nat) : Int)) ++ isE (andE 1 7) ((0) + ((1 : Nat) : Int))) []).good = true := by kernel_rfl
theorem run12_2 : (lawRunF Try.prog R (cxT R (0) (0) (0) (0) (0)) 25 4 [iv 0, iv 1] (isE (andE 0 15) ((0) + ((12 : Nat) : Int)) ++ isE (andE 1 7) ((0) + ((2 : Nat) : Int))) []).good = true := by kernel_rfl
theorem run12_3 : (lawRunF Try.prog R (cxT R (0) (0) (0) (0) (0)) 25 4 [iv 0, iv 1] (isE (andE 0 15) ((0) + ((12 : Nat) : Int)) ++ isE (andE 1 7) ((0) + ((3 : Nat) : Int))) []).good = true := by kernel_rfl
theorem run12_4 : (lawRunF Try.prog R (cxT R (0) (0) (0) (0) (0)) 25 4 [iv 0, iv 1] (isE (andE 0 15) ((0) + ((12 : Nat) : Int)) ++ isE (andE 1 7) ((0) + ((4 : Nat) : Int))) []).good = true := by kernel_rfl
theorem run12_5 : (lawRunF Try.prog R (cxT R (0) (0) (0) (0) (0)) 25 4 [iv 0, iv 1] (isE (andE 0 15) ((0) + ((12 : Nat) : Int)) ++ isE (andE 1 7) ((0) + ((5 : Nat) : Int))) []).good = true := by kernel_rfl
theorem run12_6 : (lawRunF Try.prog R (cxT R (0) (0) (0) (0) (0)) 25 4 [iv 0, iv 1] (isE (andE 0 15) ((0) + ((12 : Nat) : Int)) ++ isE (andE 1 7) ((0) + ((6 : Nat) : Int))) []).good = true := by kernel_rfl
theorem run12_7 : (lawRunF Try.prog R (cxT R (0) (0) (0) (0) (0)) 25 4 [iv 0, iv 1] (isE (andE 0 15) ((0) + ((12 : Nat) : Int)) ++ isE (andE 1 7) ((0) + ((7 : Nat) : Int))) []).good = true := by kernel_rfl
theorem run13_0 : (lawRunF Try.prog R (cxT R (0) (0) (0) (0) (0)) 25 4 [iv 0, iv 1] (isE (andE 0 15) ((0) + ((13 : Nat) : Int)) ++ isE (andE 1 7) ((0) + ((0 : Nat) : Int))) []).good = true := by kernel_rfl
theorem run13_1 : (lawRunF Try.prog R (cxT R (0) (0) (0) (0) (0)) 25 4 [iv 0, iv 1] (isE (andE 0 15) ((0) + ((13 : Nat) : Int)) ++ isE (andE 1 7) ((0) + ((1 : Nat) : Int))) []).good = true := by kernel_rfl
theorem run13_2 : (lawRunF Try.prog R (cxT R (0) (0) (0) (0) (0)) 25 4 [iv 0, iv 1] (isE (andE 0 15) ((0) + ((13 : Nat) : Int)) ++ isE (andE 1 7) ((0) + ((2 : Nat) : Int))) []).good = true := by kernel_rfl
theorem run13_3 : (lawRunF Try.prog R (cxT R (0) (0) (0) (0) (0)) 25 4 [iv 0, iv 1] (isE (andE 0 15) ((0) + ((13 : Nat) : Int)) ++ isE (andE 1 7) ((0) + ((3 : Nat) : Int))) []).good = true := by kernel_rfl
theorem run13_4 : (lawRunF Try.prog R (cxT R (0) (0) (0) (0) (0)) 25 4 [iv 0, iv 1] (isE (andE 0 15) ((0) + ((13 : Nat) : Int)) ++ isE (andE 1 7) ((0) + ((4 : Nat) : Int))) []).good = true := by kernel_rfl
theorem run13_5 : (lawRunF Try.prog R (cxT R (0) (0) (0) (0) (0)) 25 4 [iv 0, iv 1] (isE (andE 0 15) ((0) + ((13 : Nat) : Int)) ++ isE (andE 1 7) ((0) + ((5 : Nat) : Int))) []).good = true := by kernel_rfl
theorem run13_6 : (lawRunF Try.prog R (cxT R (0) (0) (0) (0) (0)) 25 4 [iv 0, iv 1] (isE (andE 0 15) ((0) + ((13 : Nat) : Int)) ++ isE (andE 1 7) ((0) + ((6 : Nat) : Int))) []).good = true := by kernel_rfl
theorem run13_7 : (lawRunF Try.prog R (cxT R (0) (0) (0) (0) (0)) 25 4 [iv 0, iv 1] (isE (andE 0 15) ((0) + ((13 : Nat) : Int)) ++ isE (andE 1 7) ((0) + ((7 : Nat) : Int))) []).good = true := by kernel_rfl
end Go.Proofs.Ytmecljahobechaa.listsRound
