/- Some of the runs of BumpFrames. -/
import Derived.Test.YtmaggffcjemagaaBumpFramesR
import Derived.Test.YtmaggffcjemagaaRxAwake
namespace Go.Proofs.Ytmaggffcjemagaa.bumpFrames
open Go.RX Go.Proofs.Ytmaggffcjemagaa
theorem run6 : (lawRunF Try.prog R (cxT R (0) (0) (0) (0) (2 ^ 11)) 25 5 [iv 0] (isE (andE 0 7) ((0) + ((6 : Nat) : Int))) []).good = true := by kernel_rfl
end Go.Proofs.Ytmaggffcjemagaa.bumpFrames
