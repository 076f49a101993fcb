/- Some of the runs of QuantRanges. -/
import Derived.Test.YtcmkifhafcgjbaaQuantRangesR
import Derived.Test.YtcmkifhafcgjbaaRxAwake
namespace Go.Proofs.Ytcmkifhafcgjbaa.quantRanges
open Go.RX Go.Proofs.Ytcmkifhafcgjbaa
theorem run46 : (lawRunF Try.prog R (cxT R (0) (0) (0)) 25 9 (asL ((0) + ((46 : Nat) : Int))) [] []).good = true := by kernel_rfl
theorem run47 : (lawRunF Try.prog R (cxT R (0) (0) (0)) 25 9 (asL ((0) + ((47 : Nat) : Int))) [] []).good = true := by kernel_rfl
theorem run48 : (lawRunF Try.prog R (cxT R (0) (0) (0)) 25 9 (asL ((0) + ((48 : Nat) : Int))) [] []).good = true := by kernel_rfl
theorem run49 : (lawRunF Try.prog R (cxT R (0) (0) (0)) 25 9 (asL ((0) + ((49 : Nat) : Int))) [] []).good = true := by kernel_rfl
theorem run50 : (lawRunF Try.prog R (cxT R (0) (0) (0)) 25 9 (asL ((0) + ((50 : Nat) : Int))) [] []).good = true := by kernel_rfl
theorem run51 : (lawRunF Try.prog R (cxT R (0) (0) (0)) 25 9 (asL ((0) + ((51 : Nat) : Int))) [] []).good = true := by kernel_rfl
end Go.Proofs.Ytcmkifhafcgjbaa.quantRanges
