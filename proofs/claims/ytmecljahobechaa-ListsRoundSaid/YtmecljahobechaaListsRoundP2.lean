/- Some of the runs of ListsRound. -/
import Derived.Test.YtmecljahobechaaListsRoundR
import Derived.Test.YtmecljahobechaaRxAwake
namespace Go.Proofs.Ytmecljahobechaa.listsRound
open Go.RX Go.Proofs.Ytmecljahobechaa
theorem run4_0 : (lawRunF Try.prog R (cxT R (0) (0) (0) (0) (0)) 25 4 [iv 0, iv 1] (isE (andE 0 15) ((0) + ((4 : Nat) : Int)) ++ isE (andE 1 7) ((0) + ((0 : Nat) : Int))) []).good = true := by kernel_rfl
theorem run4_1 : (lawRunF Try.prog R (cxT R (0) (0) (0) (0) (0)) 25 4 [iv 0, iv 1] (isE (andE 0 15) ((0) + ((4 : Nat) : Int)) ++ isE (andE 1 7) ((0) + ((1 : Nat) : Int))) []).good = true := by kernel_rfl
theorem run4_2 : (lawRunF Try.prog R (cxT R (0) (0) (0) (0) (0)) 25 4 [iv 0, iv 1] (isE (andE 0 15) ((0) + ((4 : Nat) : Int)) ++ isE (andE 1 7) ((0) + ((2 : Nat) : Int))) []).good = true := by kernel_rfl
theorem run4_3 : (lawRunF Try.prog R (cxT R (0) (0) (0) (0) (0)) 25 4 [iv 0, iv 1] (isE (andE 0 15) ((0) + ((4 : Nat) : Int)) ++ isE (andE 1 7) ((0) + ((3 : Nat) : Int))) []).good = true := by kernel_rfl
theorem run4_4 : (lawRunF Try.prog R (cxT R (0) (0) (0) (0) (0)) 25 4 [iv 0, iv 1] (isE (andE 0 15) ((0) + ((4 : Nat) : Int)) ++ isE (andE 1 7) ((0) + ((4 : Nat) : Int))) []).good = true := by kernel_rfl
theorem run4_5 : (lawRunF Try.prog R (cxT R (0) (0) (0) (0) (0)) 25 4 [iv 0, iv 1] (isE (andE 0 15) ((0) + ((4 : Nat) : Int)) ++ isE (andE 1 7) ((0) + ((5 : Nat) : Int))) []).good = true := by kernel_rfl
theorem run4_6 : (lawRunF Try.prog R (cxT R (0) (0) (0) (0) (0)) 25 4 [iv 0, iv 1] (isE (andE 0 15) ((0) + ((4 : Nat) : Int)) ++ isE (andE 1 7) ((0) + ((6 : Nat) : Int))) []).good = true := by kernel_rfl
theorem run4_7 : (lawRunF Try.prog R (cxT R (0) (0) (0) (0) (0)) 25 4 [iv 0, iv 1] (isE (andE 0 15) ((0) + ((4 : Nat) : Int)) ++ isE (andE 1 7) ((0) + ((7 : Nat) : Int))) []).good = true := by kernel_rfl
theorem run5_0 : (lawRunF Try.prog R (cxT R (0) (0) (0) (0) (0)) 25 4 [iv 0, iv 1] (isE (andE 0 15) ((0) + ((5 : Nat) : Int)) ++ isE (andE 1 7) ((0) + ((0 : Nat) : Int))) []).good = true := by kernel_rfl
theorem run5_1 : (lawRunF Try.prog R (cxT R (0) (0) (0) (0) (0)) 25 4 [iv 0, iv 1] (isE (andE 0 15) ((0) + ((5 : Nat) : Int)) ++ isE (andE 1 7) ((0) + ((1 : Nat) : Int))) []).good = true := by kernel_rfl
theorem run5_2 : (lawRunF Try.prog R (cxT R (0) (0) (0) (0) (0)) 25 4 [iv 0, iv 1] (isE (andE 0 15) ((0) + ((5 : Nat) : Int)) ++ isE (andE 1 7) ((0) + ((2 : Nat) : Int))) []).good = true := by kernel_rfl
theorem run5_3 : (lawRunF Try.prog R (cxT R (0) (0) (0) (0) (0)) 25 4 [iv 0, iv 1] (isE (andE 0 15) ((0) + ((5 : Nat) : Int)) ++ isE (andE 1 7) ((0) + ((3 : Nat) : Int))) []).good = true := by kernel_rfl
theorem run5_4 : (lawRunF Try.prog R (cxT R (0) (0) (0) (0) (0)) 25 4 [iv 0, iv 1] (isE (andE 0 15) ((0) + ((5 : Nat) : Int)) ++ isE (andE 1 7) ((0) + ((4 : Nat) : Int))) []).good = true := by kernel_rfl
theorem run5_5 : (lawRunF Try.prog R (cxT R (0) (0) (0) (0) (0)) 25 4 [iv 0, iv 1] (isE (andE 0 15) ((0) + ((5 : Nat) : Int)) ++ isE (andE 1 7) ((0) + ((5 : Nat) : Int))) []).good = true := by kernel_rfl
theorem run5_6 : (lawRunF Try.prog R (cxT R (0) (0) (0) (0) (0)) 25 4 [iv 0, iv 1] (isE (andE 0 15) ((0) + ((5 : Nat) : Int)) ++ isE (andE 1 7) ((0) + ((6 : Nat) : Int))) []).good = true := by kernel_rfl
theorem run5_7 : (lawRunF Try.prog R (cxT R (0) (0) (0) (0) (0)) 25 4 [iv 0, iv 1] (isE (andE 0 15) ((0) + ((5 : Nat) : Int)) ++ isE (andE 1 7) ((0) + ((7 : Nat) : Int))) []).good = true := by kernel_rfl
end Go.Proofs.Ytmecljahobechaa.listsRound
