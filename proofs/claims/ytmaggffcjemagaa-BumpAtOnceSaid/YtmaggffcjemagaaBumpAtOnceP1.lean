/- Some of the runs of BumpAtOnce. -/
import Derived.Test.YtmaggffcjemagaaBumpAtOnceR
import Derived.Test.YtmaggffcjemagaaRxAwake
namespace Go.Proofs.Ytmaggffcjemagaa.bumpAtOnce
open Go.RX Go.Proofs.Ytmaggffcjemagaa
theorem run4_00 : (lawRunF Try.prog R (cxT R (0) (0) (0) (0) (2 ^ 11)) 25 6 [iv 0, iv 1] (isE (andE 0 7) 4 ++ isE (bt 0) 0 ++ isE (bt 1) 0 ++ []) []).good = true := by kernel_rfl
theorem run4_01 : (lawRunF Try.prog R (cxT R (0) (0) (0) (0) (2 ^ 11)) 25 6 [iv 0, iv 1] (isE (andE 0 7) 4 ++ isE (bt 0) 0 ++ isE (bt 1) 1 ++ []) []).good = true := by kernel_rfl
theorem run4_10 : (lawRunF Try.prog R (cxT R (0) (0) (0) (0) (2 ^ 11)) 25 6 [iv 0, iv 1] (isE (andE 0 7) 4 ++ isE (bt 0) 1 ++ isE (bt 1) 0 ++ []) []).good = true := by kernel_rfl
theorem run4_11 : (lawRunF Try.prog R (cxT R (0) (0) (0) (0) (2 ^ 11)) 25 6 [iv 0, iv 1] (isE (andE 0 7) 4 ++ isE (bt 0) 1 ++ isE (bt 1) 1 ++ []) []).good = true := by kernel_rfl
theorem run5_000 : (lawRunF Try.prog R (cxT R (0) (0) (0) (0) (2 ^ 11)) 25 6 [iv 0, iv 1] (isE (andE 0 7) 5 ++ isE (bt 0) 0 ++ isE (bt 1) 0 ++ isE (bt 2) 0 ++ []) []).good = true := by kernel_rfl
end Go.Proofs.Ytmaggffcjemagaa.bumpAtOnce
