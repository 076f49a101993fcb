/- Some of the runs of QuantRanges. -/
import Derived.Test.YtcmkifhafcgjbaaQuantRangesR
import Derived.Test.YtcmkifhafcgjbaaRxAwake
namespace Go.Proofs.Ytcmkifhafcgjbaa.quantRanges
open Go.RX Go.Proofs.Ytcmkifhafcgjbaa
theorem run34 : (lawRunF Try.prog R (cxT R (0) (0) (0)) 25 9 (asL ((0) + ((34 : Nat) : Int))) [] []).good = true := by kernel_rfl
theorem run35 : (lawRunF Try.prog R (cxT R (0) (0) (0)) 25 9 (asL ((0) + ((35 : Nat) : Int))) [] []).good = true := by kernel_rfl
theorem run36 : (lawRunF Try.prog R (cxT R (0) (0) (0)) 25 9 (asL ((0) + ((36 : Nat) : Int))) [] []).good = true := by kernel_rfl
theorem run37 : (lawRunF Try.prog R (cxT R (0) (0) (0)) 25 9 (asL ((0) + ((37 : Nat) : Int))) [] []).good = true := by kernel_rfl
theorem run38 : (lawRunF Try.prog R (cxT R (0) (0) (0)) 25 9 (asL ((0) + ((38 : Nat) : Int))) [] []).good = true := by kernel_rfl
theorem run39 : (lawRunF Try.prog R (cxT R (0) (0) (0)) 25 9 (asL ((0) + ((39 : Nat) : Int))) [] []).good = true := by kernel_rfl
end Go.Proofs.Ytcmkifhafcgjbaa.quantRanges
