/- Some of the runs of BumpSizes. -/
import Derived.Test.YtmaggffcjemagaaBumpSizesR
import Derived.Test.YtmaggffcjemagaaRxAwake
namespace Go.Proofs.Ytmaggffcjemagaa.bumpSizes
open Go.RX Go.Proofs.Ytmaggffcjemagaa
theorem run8_4 : (lawRunF Try.prog R (cxT R (0) (0) (0) (0) (2 ^ 11)) 25 3 [iv 0, iv 1] (isE S 8 ++ isE D 4) []).good = true := by kernel_rfl
theorem run8_5 : (lawRunF Try.prog R (cxT R (0) (0) (0) (0) (2 ^ 11)) 25 3 [iv 0, iv 1] (isE S 8 ++ isE D 5) []).good = true := by kernel_rfl
theorem run8_6 : (lawRunF Try.prog R (cxT R (0) (0) (0) (0) (2 ^ 11)) 25 3 [iv 0, iv 1] (isE S 8 ++ isE D 6) []).good = true := by kernel_rfl
end Go.Proofs.Ytmaggffcjemagaa.bumpSizes
