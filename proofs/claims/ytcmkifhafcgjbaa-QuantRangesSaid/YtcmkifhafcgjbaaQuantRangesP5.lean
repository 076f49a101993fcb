/- Some of the runs of QuantRanges. -/
import Derived.Test.YtcmkifhafcgjbaaQuantRangesR
import Derived.Test.YtcmkifhafcgjbaaRxAwake
namespace Go.Proofs.Ytcmkifhafcgjbaa.quantRanges
open Go.RX Go.Proofs.Ytcmkifhafcgjbaa
theorem run28 : (lawRunF Try.prog R (cxT R (0) (0) (0)) 25 9 (asL ((0) + ((28 : Nat) : Int))) [] []).good = true := by kernel_rfl
theorem run29 : (lawRunF Try.prog R (cxT R (0) (0) (0)) 25 9 (asL ((0) + ((29 : Nat) : Int))) [] []).good = true := by kernel_rfl
theorem run30 : (lawRunF Try.prog R (cxT R (0) (0) (0)) 25 9 (asL ((0) + ((30 : Nat) : Int))) [] []).good = true := by kernel_rfl
theorem run31 : (lawRunF Try.prog R (cxT R (0) (0) (0)) 25 9 (asL ((0) + ((31 : Nat) : Int))) [] []).good = true := by kernel_rfl
theorem run32 : (lawRunF Try.prog R (cxT R (0) (0) (0)) 25 9 (asL ((0) + ((32 : Nat) : Int))) [] []).good = true := by kernel_rfl
theorem run33 : (lawRunF Try.prog R (cxT R (0) (0) (0)) 25 9 (asL ((0) + ((33 : Nat) : Int))) [] []).good = true := by kernel_rfl
end Go.Proofs.Ytcmkifhafcgjbaa.quantRanges
