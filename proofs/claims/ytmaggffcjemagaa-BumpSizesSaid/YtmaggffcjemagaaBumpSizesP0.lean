/- Some of the runs of BumpSizes. -/
import Derived.Test.YtmaggffcjemagaaBumpSizesR
import Derived.Test.YtmaggffcjemagaaRxAwake
namespace Go.Proofs.Ytmaggffcjemagaa.bumpSizes
open Go.RX Go.Proofs.Ytmaggffcjemagaa
theorem runlo : (lawRunF Try.prog R (cxT R (0) (0) (0) (0) (2 ^ 11)) 25 3 [iv 0, iv 1] [E.sub (.k 0) S] []).good = true := by kernel_rfl
theorem runhi : (lawRunF Try.prog R (cxT R (0) (0) (0) (0) (2 ^ 11)) 25 3 [iv 0, iv 1] [E.sub S (.k 10)] []).good = true := by kernel_rfl
theorem run1lo : (lawRunF Try.prog R (cxT R (0) (0) (0) (0) (2 ^ 11)) 25 3 [iv 0, iv 1] (isE S 1 ++ [E.sub (.k (-1)) D]) []).good = true := by kernel_rfl
theorem run1hi : (lawRunF Try.prog R (cxT R (0) (0) (0) (0) (2 ^ 11)) 25 3 [iv 0, iv 1] (isE S 1 ++ [E.sub D (.k 2)]) []).good = true := by kernel_rfl
theorem run2lo : (lawRunF Try.prog R (cxT R (0) (0) (0) (0) (2 ^ 11)) 25 3 [iv 0, iv 1] (isE S 2 ++ [E.sub (.k (-1)) D]) []).good = true := by kernel_rfl
theorem run2hi : (lawRunF Try.prog R (cxT R (0) (0) (0) (0) (2 ^ 11)) 25 3 [iv 0, iv 1] (isE S 2 ++ [E.sub D (.k 3)]) []).good = true := by kernel_rfl
theorem run3lo : (lawRunF Try.prog R (cxT R (0) (0) (0) (0) (2 ^ 11)) 25 3 [iv 0, iv 1] (isE S 3 ++ [E.sub (.k (-1)) D]) []).good = true := by kernel_rfl
theorem run3hi : (lawRunF Try.prog R (cxT R (0) (0) (0) (0) (2 ^ 11)) 25 3 [iv 0, iv 1] (isE S 3 ++ [E.sub D (.k 4)]) []).good = true := by kernel_rfl
theorem run4lo : (lawRunF Try.prog R (cxT R (0) (0) (0) (0) (2 ^ 11)) 25 3 [iv 0, iv 1] (isE S 4 ++ [E.sub (.k (-1)) D]) []).good = true := by kernel_rfl
theorem run4hi : (lawRunF Try.prog R (cxT R (0) (0) (0) (0) (2 ^ 11)) 25 3 [iv 0, iv 1] (isE S 4 ++ [E.sub D (.k 5)]) []).good = true := by kernel_rfl
theorem run5lo : (lawRunF Try.prog R (cxT R (0) (0) (0) (0) (2 ^ 11)) 25 3 [iv 0, iv 1] (isE S 5 ++ [E.sub (.k (-1)) D]) []).good = true := by kernel_rfl
theorem run5hi : (lawRunF Try.prog R (cxT R (0) (0) (0) (0) (2 ^ 11)) 25 3 [iv 0, iv 1] (isE S 5 ++ [E.sub D (.k 6)]) []).good = true := by kernel_rfl
theorem run6lo : (lawRunF Try.prog R (cxT R (0) (0) (0) (0) (2 ^ 11)) 25 3 [iv 0, iv 1] (isE S 6 ++ [E.sub (.k (-1)) D]) []).good = true := by kernel_rfl
theorem run6hi : (lawRunF Try.prog R (cxT R (0) (0) (0) (0) (2 ^ 11)) 25 3 [iv 0, iv 1] (isE S 6 ++ [E.sub D (.k 7)]) []).good = true := by kernel_rfl
theorem run7lo : (lawRunF Try.prog R (cxT R (0) (0) (0) (0) (2 ^ 11)) 25 3 [iv 0, iv 1] (isE S 7 ++ [E.sub (.k (-1)) D]) []).good = true := by kernel_rfl
theorem run7hi : (lawRunF Try.prog R (cxT R (0) (0) (0) (0) (2 ^ 11)) 25 3 [iv 0, iv 1] (isE S 7 ++ [E.sub D (.k 8)]) []).good = true := by kernel_rfl
theorem run8lo : (lawRunF Try.prog R (cxT R (0) (0) (0) (0) (2 ^ 11)) 25 3 [iv 0, iv 1] (isE S 8 ++ [E.sub (.k (-1)) D]) []).good = true := by kernel_rfl
theorem run8hi : (lawRunF Try.prog R (cxT R (0) (0) (0) (0) (2 ^ 11)) 25 3 [iv 0, iv 1] (isE S 8 ++ [E.sub D (.k 9)]) []).good = true := by kernel_rfl
theorem run9lo : (lawRunF Try.prog R (cxT R (0) (0) (0) (0) (2 ^ 11)) 25 3 [iv 0, iv 1] (isE S 9 ++ [E.sub (.k (-1)) D]) []).good = true := by kernel_rfl
theorem run9hi : (lawRunF Try.prog R (cxT R (0) (0) (0) (0) (2 ^ 11)) 25 3 [iv 0, iv 1] (isE S 9 ++ [E.sub D (.k 10)]) []).good = true := by kernel_rfl
end Go.Proofs.Ytmaggffcjemagaa.bumpSizes
