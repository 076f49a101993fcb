/- Some of the runs of BumpSizes. -/
import Derived.Test.YtmaggffcjemagaaBumpSizesR
import Derived.Test.YtmaggffcjemagaaRxAwake
namespace Go.Proofs.Ytmaggffcjemagaa.bumpSizes
open Go.RX Go.Proofs.Ytmaggffcjemagaa
theorem run8_7 : (lawRunF Try.prog R (cxT R (0) (0) (0) (0) (2 ^ 11)) 25 3 [iv 0, iv 1] (isE S 8 ++ isE D 7) []).good = true := by kernel_rfl
theorem run8_8 : (lawRunF Try.prog R (cxT R (0) (0) (0) (0) (2 ^ 11)) 25 3 [iv 0, iv 1] (isE S 8 ++ isE D 8) []).good = true := by kernel_rfl
theorem run9_0 : (lawRunF Try.prog R (cxT R (0) (0) (0) (0) (2 ^ 11)) 25 3 [iv 0, iv 1] (isE S 9 ++ isE D 0) []).good = true := by kernel_rfl
end Go.Proofs.Ytmaggffcjemagaa.bumpSizes
