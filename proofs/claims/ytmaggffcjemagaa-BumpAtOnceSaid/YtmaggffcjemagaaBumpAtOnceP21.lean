/- Some of the runs of BumpAtOnce. -/
import Derived.Test.YtmaggffcjemagaaBumpAtOnceR
import Derived.Test.YtmaggffcjemagaaRxAwake
namespace Go.Proofs.Ytmaggffcjemagaa.bumpAtOnce
open Go.RX Go.Proofs.Ytmaggffcjemagaa
theorem run7_111000 : (lawRunF Try.prog R (cxT R (0) (0) (0) (0) (2 ^ 11)) 25 6 [iv 0, iv 1] (isE (andE 0 7) 7 ++ isE (bt 0) 1 ++ isE (bt 1) 1 ++ isE (bt 2) 1 ++ isE (bt 3) 0 ++ isE (bt 4) 0 ++ isE (bt 5) 0 ++ []) []).good = true := by kernel_rfl
theorem run7_111001 : (lawRunF Try.prog R (cxT R (0) (0) (0) (0) (2 ^ 11)) 25 6 [iv 0, iv 1] (isE (andE 0 7) 7 ++ isE (bt 0) 1 ++ isE (bt 1) 1 ++ isE (bt 2) 1 ++ isE (bt 3) 0 ++ isE (bt 4) 0 ++ isE (bt 5) 1 ++ []) []).good = true := by kernel_rfl
theorem run7_111010 : (lawRunF Try.prog R (cxT R (0) (0) (0) (0) (2 ^ 11)) 25 6 [iv 0, iv 1] (isE (andE 0 7) 7 ++ isE (bt 0) 1 ++ isE (bt 1) 1 ++ isE (bt 2) 1 ++ isE (bt 3) 0 ++ isE (bt 4) 1 ++ isE (bt 5) 0 ++ []) []).good = true := by kernel_rfl
theorem run7_111011 : (lawRunF Try.prog R (cxT R (0) (0) (0) (0) (2 ^ 11)) 25 6 [iv 0, iv 1] (isE (andE 0 7) 7 ++ isE (bt 0) 1 ++ isE (bt 1) 1 ++ isE (bt 2) 1 ++ isE (bt 3) 0 ++ isE (bt 4) 1 ++ isE (bt 5) 1 ++ []) []).good = true := by kernel_rfl
theorem run7_111100 : (lawRunF Try.prog R (cxT R (0) (0) (0) (0) (2 ^ 11)) 25 6 [iv 0, iv 1] (isE (andE 0 7) 7 ++ isE (bt 0) 1 ++ isE (bt 1) 1 ++ isE (bt 2) 1 ++ isE (bt 3) 1 ++ isE (bt 4) 0 ++ isE (bt 5) 0 ++ []) []).good = true := by kernel_rfl
end Go.Proofs.Ytmaggffcjemagaa.bumpAtOnce
