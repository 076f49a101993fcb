/- Some of the runs of BumpAtOnce. -/
import Derived.Test.YtmaggffcjemagaaBumpAtOnceR
import Derived.Test.YtmaggffcjemagaaRxAwake
namespace Go.Proofs.Ytmaggffcjemagaa.bumpAtOnce
open Go.RX Go.Proofs.Ytmaggffcjemagaa
theorem run0_x : (lawRunF Try.prog R (cxT R (0) (0) (0) (0) (2 ^ 11)) 25 6 [iv 0, iv 1] (isE (andE 0 7) 0 ++ []) []).good = true := by kernel_rfl
theorem run1_x : (lawRunF Try.prog R (cxT R (0) (0) (0) (0) (2 ^ 11)) 25 6 [iv 0, iv 1] (isE (andE 0 7) 1 ++ []) []).good = true := by kernel_rfl
theorem run2_x : (lawRunF Try.prog R (cxT R (0) (0) (0) (0) (2 ^ 11)) 25 6 [iv 0, iv 1] (isE (andE 0 7) 2 ++ []) []).good = true := by kernel_rfl
theorem run3_0 : (lawRunF Try.prog R (cxT R (0) (0) (0) (0) (2 ^ 11)) 25 6 [iv 0, iv 1] (isE (andE 0 7) 3 ++ isE (bt 0) 0 ++ []) []).good = true := by kernel_rfl
theorem run3_1 : (lawRunF Try.prog R (cxT R (0) (0) (0) (0) (2 ^ 11)) 25 6 [iv 0, iv 1] (isE (andE 0 7) 3 ++ isE (bt 0) 1 ++ []) []).good = true := by kernel_rfl
end Go.Proofs.Ytmaggffcjemagaa.bumpAtOnce
