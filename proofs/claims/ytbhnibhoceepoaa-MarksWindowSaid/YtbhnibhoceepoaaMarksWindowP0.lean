/- Some of the runs of MarksWindow. -/
import Derived.Test.YtbhnibhoceepoaaMarksWindowR
import Derived.Test.YtbhnibhoceepoaaRxAwake
namespace Go.Proofs.Ytbhnibhoceepoaa.marksWindow
open Go.RX Go.Proofs.Ytbhnibhoceepoaa
theorem run0_0 : (lawRunF Try.prog R (cxT R (0) (0) (0)) 25 7 [iv 0, iv 1, iv 2] (isE (andE 1 7) ((0) + ((0 : Nat) : Int)) ++ isE (andE 2 3) ((0) + ((0 : Nat) : Int))) []).good = true := by kernel_rfl
theorem run0_1 : (lawRunF Try.prog R (cxT R (0) (0) (0)) 25 7 [iv 0, iv 1, iv 2] (isE (andE 1 7) ((0) + ((0 : Nat) : Int)) ++ isE (andE 2 3) ((0) + ((1 : Nat) : Int))) []).good = true := by kernel_rfl
theorem run0_2 : (lawRunF Try.prog R (cxT R (0) (0) (0)) 25 7 [iv 0, iv 1, iv 2] (isE (andE 1 7) ((0) + ((0 : Nat) : Int)) ++ isE (andE 2 3) ((0) + ((2 : Nat) : Int))) []).good = true := by kernel_rfl
theorem run0_3 : (lawRunF Try.prog R (cxT R (0) (0) (0)) 25 7 [iv 0, iv 1, iv 2] (isE (andE 1 7) ((0) + ((0 : Nat) : Int)) ++ isE (andE 2 3) ((0) + ((3 : Nat) : Int))) []).good = true := by kernel_rfl
end Go.Proofs.Ytbhnibhoceepoaa.marksWindow
