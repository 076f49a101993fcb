/- Some of the runs of QuantRanges. -/
import Derived.Test.YtcmkifhafcgjbaaQuantRangesR
import Derived.Test.YtcmkifhafcgjbaaRxAwake
namespace Go.Proofs.Ytcmkifhafcgjbaa.quantRanges
open Go.RX Go.Proofs.Ytcmkifhafcgjbaa
theorem run40 : (lawRunF Try.prog R (cxT R (0) (0) (0)) 25 9 (asL ((0) + ((40 : Nat) : Int))) [] []).good = true := by kernel_rfl
theorem run41 : (lawRunF Try.prog R (cxT R (0) (0) (0)) 25 9 (asL ((0) + ((41 : Nat) : Int))) [] []).good = true := by kernel_rfl
theorem run42 : (lawRunF Try.prog R (cxT R (0) (0) (0)) 25 9 (asL ((0) + ((42 : Nat) : Int))) [] []).good = true := by kernel_rfl
theorem run43 : (lawRunF Try.prog R (cxT R (0) (0) (0)) 25 9 (asL ((0) + ((43 : Nat) : Int))) [] []).good = true := by kernel_rfl
theorem run44 : (lawRunF Try.prog R (cxT R (0) (0) (0)) 25 9 (asL ((0) + ((44 : Nat) : Int))) [] []).good = true := by kernel_rfl
theorem run45 : (lawRunF Try.prog R (cxT R (0) (0) (0)) 25 9 (asL ((0) + ((45 : Nat) : Int))) [] []).good = true := by kernel_rfl
end Go.Proofs.Ytcmkifhafcgjbaa.quantRanges
