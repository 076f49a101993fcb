/- Some of the runs of BumpRows. -/
import Derived.Test.YtmaggffcjemagaaBumpRowsR
import Derived.Test.YtmaggffcjemagaaRxAwake
namespace Go.Proofs.Ytmaggffcjemagaa.bumpRows
open Go.RX Go.Proofs.Ytmaggffcjemagaa
theorem run14_1 : (lawRunF Try.prog R (cxT R (0) (0) (0) (0) (2 ^ 11)) 25 4 [iv 0, iv 1] (isE (andE 0 15) ((0) + ((14 : Nat) : Int)) ++ isE (andE 1 3) ((0) + ((1 : Nat) : Int))) []).good = true := by kernel_rfl
theorem run14_2 : (lawRunF Try.prog R (cxT R (0) (0) (0) (0) (2 ^ 11)) 25 4 [iv 0, iv 1] (isE (andE 0 15) ((0) + ((14 : Nat) : Int)) ++ isE (andE 1 3) ((0) + ((2 : Nat) : Int))) []).good = true := by kernel_rfl
theorem run14_3 : (lawRunF Try.prog R (cxT R (0) (0) (0) (0) (2 ^ 11)) 25 4 [iv 0, iv 1] (isE (andE 0 15) ((0) + ((14 : Nat) : Int)) ++ isE (andE 1 3) ((0) + ((3 : Nat) : Int))) []).good = true := by kernel_rfl
end Go.Proofs.Ytmaggffcjemagaa.bumpRows
