/- Some of the runs of QuantRanges. -/
import Derived.Test.YtcmkifhafcgjbaaQuantRangesR
import Derived.Test.YtcmkifhafcgjbaaRxAwake
namespace Go.Proofs.Ytcmkifhafcgjbaa.quantRanges
open Go.RX Go.Proofs.Ytcmkifhafcgjbaa
theorem run22 : (lawRunF Try.prog R (cxT R (0) (0) (0)) 25 9 (asL ((0) + ((22 : Nat) : Int))) [] []).good = true := by kernel_rfl
theorem run23 : (lawRunF Try.prog R (cxT R (0) (0) (0)) 25 9 (asL ((0) + ((23 : Nat) : Int))) [] []).good = true := by kernel_rfl
theorem run24 : (lawRunF Try.prog R (cxT R (0) (0) (0)) 25 9 (asL ((0) + ((24 : Nat) : Int))) [] []).good = true := by kernel_rfl
theorem run25 : (lawRunF Try.prog R (cxT R (0) (0) (0)) 25 9 (asL ((0) + ((25 : Nat) : Int))) [] []).good = true := by kernel_rfl
theorem run26 : (lawRunF Try.prog R (cxT R (0) (0) (0)) 25 9 (asL ((0) + ((26 : Nat) : Int))) [] []).good = true := by kernel_rfl
theorem run27 : (lawRunF Try.prog R (cxT R (0) (0) (0)) 25 9 (asL ((0) + ((27 : Nat) : Int))) [] []).good = true := by kernel_rfl
end Go.Proofs.Ytcmkifhafcgjbaa.quantRanges
