/- Some of the runs of ListsRound. -/
import Derived.Test.YtmecljahobechaaListsRoundR
import Derived.Test.YtmecljahobechaaRxAwake
namespace Go.Proofs.Ytmecljahobechaa.listsRound
open Go.RX Go.Proofs.Ytmecljahobechaa
theorem run8_0 : (lawRunF Try.prog R (cxT R (0) (0) (0) (0) (0)) 25 4 [iv 0, iv 1] (isE (andE 0 15) ((0) + ((8 : Nat) : Int)) ++ isE (andE 1 7) ((0) + ((0 : Nat) : Int))) []).good = true := by kernel_rfl
theorem run8_1 : (lawRunF Try.prog R (cxT R (0) (0) (0) (0) (0)) 25 4 [iv 0, iv 1] (isE (andE 0 15) ((0) + ((8 : Nat) : Int)) ++ isE (andE 1 7) ((0) + ((1 : Nat) : Int))) []).good = true := by kernel_rfl
theorem run8_2 : (lawRunF Try.prog R (cxT R (0) (0) (0) (0) (0)) 25 4 [iv 0, iv 1] (isE (andE 0 15) ((0) + ((8 : Nat) : Int)) ++ isE (andE 1 7) ((0) + ((2 : Nat) : Int))) []).good = true := by kernel_rfl
theorem run8_3 : (lawRunF Try.prog R (cxT R (0) (0) (0) (0) (0)) 25 4 [iv 0, iv 1] (isE (andE 0 15) ((0) + ((8 : Nat) : Int)) ++ isE (andE 1 7) ((0) + ((3 : Nat) : Int))) []).good = true := by kernel_rfl
theorem run8_4 : (lawRunF Try.prog R (cxT R (0) (0) (0) (0) (0)) 25 4 [iv 0, iv 1] (isE (andE 0 15) ((0) + ((8 : Nat) : Int)) ++ isE (andE 1 7) ((0) + ((4 : Nat) : Int))) []).good = true := by kernel_rfl
theorem run8_5 : (lawRunF Try.prog R (cxT R (0) (0) (0) (0) (0)) 25 4 [iv 0, iv 1] (isE (andE 0 15) ((0) + ((8 : Nat) : Int)) ++ isE (andE 1 7) ((0) + ((5 : Nat) : Int))) []).good = true := by kernel_rfl
theorem run8_6 : (lawRunF Try.prog R (cxT R (0) (0) (0) (0) (0)) 25 4 [iv 0, iv 1] (isE (andE 0 15) ((0) + ((8 : Nat) : Int)) ++ isE (andE 1 7) ((0) + ((6 : Nat) : Int))) []).good = true := by kernel_rfl
theorem run8_7 : (lawRunF Try.prog R (cxT R (0) (0) (0) (0) (0)) 25 4 [iv 0, iv 1] (isE (andE 0 15) ((0) + ((8 : Nat) : Int)) ++ isE (andE 1 7) ((0) + ((7 : Nat) : Int))) []).good = true := by kernel_rfl
theorem run9_0 : (lawRunF Try.prog R (cxT R (0) (0) (0) (0) (0)) 25 4 [iv 0, iv 1] (isE (andE 0 15) ((0) + ((9 : Nat) : Int)) ++ isE (andE 1 7) ((0) + ((0 : Nat) : Int))) []).good = true := by kernel_rfl
theorem run9_1 : (lawRunF Try.prog R (cxT R (0) (0) (0) (0) (0)) 25 4 [iv 0, iv 1] (isE (andE 0 15) ((0) + ((9 : Nat) : Int)) ++ isE (andE 1 7) ((0) + ((1 : Nat) : Int))) []).good = true := by kernel_rfl
theorem run9_2 : (lawRunF Try.prog R (cxT R (0) (0) (0) (0) (0)) 25 4 [iv 0, iv 1] (isE (andE 0 15) ((0) + ((9 : Nat) : Int)) ++ isE (andE 1 7) ((0) + ((2 : Nat) : Int))) []).good = true := by kernel_rfl
theorem run9_3 : (lawRunF Try.prog R (cxT R (0) (0) (0) (0) (0)) 25 4 [iv 0, iv 1] (isE (andE 0 15) ((0) + ((9 : Nat) : Int)) ++ isE (andE 1 7) ((0) + ((3 : Nat) : Int))) []).good = true := by kernel_rfl
theorem run9_4 : (lawRunF Try.prog R (cxT R (0) (0) (0) (0) (0)) 25 4 [iv 0, iv 1] (isE (andE 0 15) ((0) + ((9 : Nat) : Int)) ++ isE (andE 1 7) ((0) + ((4 : Nat) : Int))) []).good = true := by kernel_rfl
theorem run9_5 : (lawRunF Try.prog R (cxT R (0) (0) (0) (0) (0)) 25 4 [iv 0, iv 1] (isE (andE 0 15) ((0) + ((9 : Nat) : Int)) ++ isE (andE 1 7) ((0) + ((5 : Nat) : Int))) []).good = true := by kernel_rfl
theorem run9_6 : (lawRunF Try.prog R (cxT R (0) (0) (0) (0) (0)) 25 4 [iv 0, iv 1] (isE (andE 0 15) ((0) + ((9 : Nat) : Int)) ++ isE (andE 1 7) ((0) + ((6 : Nat) : Int))) []).good = true := by kernel_rfl
theorem run9_7 : (lawRunF Try.prog R (cxT R (0) (0) (0) (0) (0)) 25 4 [iv 0, iv 1] (isE (andE 0 15) ((0) + ((9 : Nat) : Int)) ++ isE (andE 1 7) ((0) + ((7 : Nat) : Int))) []).good = true := by kernel_rfl
end Go.Proofs.Ytmecljahobechaa.listsRound
