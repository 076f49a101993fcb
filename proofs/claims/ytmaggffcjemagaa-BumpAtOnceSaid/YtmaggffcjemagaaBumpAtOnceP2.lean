/- Some of the runs of BumpAtOnce. -/
import Derived.Test.YtmaggffcjemagaaBumpAtOnceR
import Derived.Test.YtmaggffcjemagaaRxAwake
namespace Go.Proofs.Ytmaggffcjemagaa.bumpAtOnce
open Go.RX Go.Proofs.Ytmaggffcjemagaa
theorem run5_001 : (lawRunF Try.prog R (cxT R (0) (0) (0) (0) (2 ^ 11)) 25 6 [iv 0, iv 1] (isE (andE 0 7) 5 ++ isE (bt 0) 0 ++ isE (bt 1) 0 ++ isE (bt 2) 1 ++ []) []).good = true := by kernel_rfl
theorem run5_010 : (lawRunF Try.prog R (cxT R (0) (0) (0) (0) (2 ^ 11)) 25 6 [iv 0, iv 1] (isE (andE 0 7) 5 ++ isE (bt 0) 0 ++ isE (bt 1) 1 ++ isE (bt 2) 0 ++ []) []).good = true := by kernel_rfl
theorem run5_011 : (lawRunF Try.prog R (cxT R (0) (0) (0) (0) (2 ^ 11)) 25 6 [iv 0, iv 1] (isE (andE 0 7) 5 ++ isE (bt 0) 0 ++ isE (bt 1) 1 ++ isE (bt 2) 1 ++ []) []).good = true := by kernel_rfl
theorem run5_100 : (lawRunF Try.prog R (cxT R (0) (0) (0) (0) (2 ^ 11)) 25 6 [iv 0, iv 1] (isE (andE 0 7) 5 ++ isE (bt 0) 1 ++ isE (bt 1) 0 ++ isE (bt 2) 0 ++ []) []).good = true := by kernel_rfl
theorem run5_101 : (lawRunF Try.prog R (cxT R (0) (0) (0) (0) (2 ^ 11)) 25 6 [iv 0, iv 1] (isE (andE 0 7) 5 ++ isE (bt 0) 1 ++ isE (bt 1) 0 ++ isE (bt 2) 1 ++ []) []).good = true := by kernel_rfl
end Go.Proofs.Ytmaggffcjemagaa.bumpAtOnce
