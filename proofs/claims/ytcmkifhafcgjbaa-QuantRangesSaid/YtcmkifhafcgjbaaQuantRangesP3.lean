/- Some of the runs of QuantRanges. -/
import Derived.Test.YtcmkifhafcgjbaaQuantRangesR
import Derived.Test.YtcmkifhafcgjbaaRxAwake
namespace Go.Proofs.Ytcmkifhafcgjbaa.quantRanges
open Go.RX Go.Proofs.Ytcmkifhafcgjbaa
theorem run16 : (lawRunF Try.prog R (cxT R (0) (0) (0)) 25 9 (asL ((0) + ((16 : Nat) : Int))) [] []).good = true := by kernel_rfl
theorem run17 : (lawRunF Try.prog R (cxT R (0) (0) (0)) 25 9 (asL ((0) + ((17 : Nat) : Int))) [] []).good = true := by kernel_rfl
theorem run18 : (lawRunF Try.prog R (cxT R (0) (0) (0)) 25 9 (asL ((0) + ((18 : Nat) : Int))) [] []).good = true := by kernel_rfl
theorem run19 : (lawRunF Try.prog R (cxT R (0) (0) (0)) 25 9 (asL ((0) + ((19 : Nat) : Int))) [] []).good = true := by kernel_rfl
theorem run20 : (lawRunF Try.prog R (cxT R (0) (0) (0)) 25 9 (asL ((0) + ((20 : Nat) : Int))) [] []).good = true := by kernel_rfl
theorem run21 : (lawRunF Try.prog R (cxT R (0) (0) (0)) 25 9 (asL ((0) + ((21 : Nat) : Int))) [] []).good = true := by kernel_rfl
end Go.Proofs.Ytcmkifhafcgjbaa.quantRanges
