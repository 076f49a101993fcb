/- Some of the runs of BumpSizes. -/
import Derived.Test.YtmaggffcjemagaaBumpSizesR
import Derived.Test.YtmaggffcjemagaaRxAwake
namespace Go.Proofs.Ytmaggffcjemagaa.bumpSizes
open Go.RX Go.Proofs.Ytmaggffcjemagaa
theorem run7_6 : (lawRunF Try.prog R (cxT R (0) (0) (0) (0) (2 ^ 11)) 25 3 [iv 0, iv 1] (isE S 7 ++ isE D 6) []).good = true := by kernel_rfl
theorem run7_7 : (lawRunF Try.prog R (cxT R (0) (0) (0) (0) (2 ^ 11)) 25 3 [iv 0, iv 1] (isE S 7 ++ isE D 7) []).good = true := by kernel_rfl
theorem run8_0 : (lawRunF Try.prog R (cxT R (0) (0) (0) (0) (2 ^ 11)) 25 3 [iv 0, iv 1] (isE S 8 ++ isE D 0) []).good = true := by kernel_rfl
end Go.Proofs.Ytmaggffcjemagaa.bumpSizes
