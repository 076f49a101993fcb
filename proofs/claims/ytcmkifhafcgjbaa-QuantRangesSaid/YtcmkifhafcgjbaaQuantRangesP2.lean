/- Some of the runs of QuantRanges. -/
import Derived.Test.YtcmkifhafcgjbaaQuantRangesR
import Derived.Test.YtcmkifhafcgjbaaRxAwake
namespace Go.Proofs.Ytcmkifhafcgjbaa.quantRanges
open Go.RX Go.Proofs.Ytcmkifhafcgjbaa
theorem run10 : (lawRunF Try.prog R (cxT R (0) (0) (0)) 25 9 (asL ((0) + ((10 : Nat) : Int))) [] []).good = true := by kernel_rfl
theorem run11 : (lawRunF Try.prog R (cxT R (0) (0) (0)) 25 9 (asL ((0) + ((11 : Nat) : Int))) [] []).good = true := by kernel_rfl
theorem run12 : (lawRunF Try.prog R (cxT R (0) (0) (0)) 25 9 (asL ((0) + ((12 : Nat) : Int))) [] []).good = true := by kernel_rfl
theorem run13 : (lawRunF Try.prog R (cxT R (0) (0) (0)) 25 9 (asL ((0) + ((13 : Nat) : Int))) [] []).good = true := by kernel_rfl
theorem run14 : (lawRunF Try.prog R (cxT R (0) (0) (0)) 25 9 (asL ((0) + ((14 : Nat) : Int))) [] []).good = true := by kernel_rfl
theorem run15 : (lawRunF Try.prog R (cxT R (0) (0) (0)) 25 9 (asL ((0) + ((15 : Nat) : Int))) [] []).good = true := by kernel_rfl
end Go.Proofs.Ytcmkifhafcgjbaa.quantRanges
