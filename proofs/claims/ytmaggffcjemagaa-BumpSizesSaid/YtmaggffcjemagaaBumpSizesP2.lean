/- Some of the runs of BumpSizes. -/
import Derived.Test.YtmaggffcjemagaaBumpSizesR
import Derived.Test.YtmaggffcjemagaaRxAwake
namespace Go.Proofs.Ytmaggffcjemagaa.bumpSizes
open Go.RX Go.Proofs.Ytmaggffcjemagaa
theorem run2_1 : (lawRunF Try.prog R (cxT R (0) (0) (0) (0) (2 ^ 11)) 25 3 [iv 0, iv 1] (isE S 2 ++ isE D 1) []).good = true := by kernel_rfl
theorem run2_2 : (lawRunF Try.prog R (cxT R (0) (0) (0) (0) (2 ^ 11)) 25 3 [iv 0, iv 1] (isE S 2 ++ isE D 2) []).good = true := by kernel_rfl
theorem run3_0 : (lawRunF Try.prog R (cxT R (0) (0) (0) (0) (2 ^ 11)) 25 3 [iv 0, iv 1] (isE S 3 ++ isE D 0) []).good = true := by kernel_rfl
end Go.Proofs.Ytmaggffcjemagaa.bumpSizes
