/- Some of the runs of BumpRows. -/
import Derived.Test.YtmaggffcjemagaaBumpRowsR
import Derived.Test.YtmaggffcjemagaaRxAwake
namespace Go.Proofs.Ytmaggffcjemagaa.bumpRows
open Go.RX Go.Proofs.Ytmaggffcjemagaa
theorem run12_0 : (lawRunF Try.prog R (cxT R (0) (0) (0) (0) (2 ^ 11)) 25 4 [iv 0, iv 1] (isE (andE 0 15) ((0) + ((12 : Nat) : Int)) ++ isE (andE 1 3) ((0) + ((0 : Nat) : Int))) []).good = true := by kernel_rfl
theorem run12_1 : (lawRunF Try.prog R (cxT R (0) (0) (0) (0) (2 ^ 11)) 25 4 [iv 0, iv 1] (isE (andE 0 15) ((0) + ((12 : Nat) : Int)) ++ isE (andE 1 3) ((0) + ((1 : Nat) : Int))) []).good = true := by kernel_rfl
theorem run12_2 : (lawRunF Try.prog R (cxT R (0) (0) (0) (0) (2 ^ 11)) 25 4 [iv 0, iv 1] (isE (andE 0 15) ((0) + ((12 : Nat) : Int)) ++ isE (andE 1 3) ((0) + ((2 : Nat) : Int))) []).good = true := by kernel_rfl
end Go.Proofs.Ytmaggffcjemagaa.bumpRows
