/- Some of the runs of QuantRanges. -/
import Derived.Test.YtcmkifhafcgjbaaQuantRangesR
import Derived.Test.YtcmkifhafcgjbaaRxAwake
namespace Go.Proofs.Ytcmkifhafcgjbaa.quantRanges
open Go.RX Go.Proofs.Ytcmkifhafcgjbaa
theorem run4 : (lawRunF Try.prog R (cxT R (0) (0) (0)) 25 9 (asL ((0) + ((4 : Nat) : Int))) [] []).good = true := by kernel_rfl
theorem run5 : (lawRunF Try.prog R (cxT R (0) (0) (0)) 25 9 (asL ((0) + ((5 : Nat) : Int))) [] []).good = true := by kernel_rfl
theorem run6 : (lawRunF Try.prog R (cxT R (0) (0) (0)) 25 9 (asL ((0) + ((6 : Nat) : Int))) [] []).good = true := by kernel_rfl
theorem run7 : (lawRunF Try.prog R (cxT R (0) (0) (0)) 25 9 (asL ((0) + ((7 : Nat) : Int))) [] []).good = true := by kernel_rfl
theorem run8 : (lawRunF Try.prog R (cxT R (0) (0) (0)) 25 9 (asL ((0) + ((8 : Nat) : Int))) [] []).good = true := by kernel_rfl
theorem run9 : (lawRunF Try.prog R (cxT R (0) (0) (0)) 25 9 (asL ((0) + ((9 : Nat) : Int))) [] []).good = true := by kernel_rfl
end Go.Proofs.Ytcmkifhafcgjbaa.quantRanges
