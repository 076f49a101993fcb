/- Some of the runs of QuantRanges. -/
import Derived.Test.YtcmkifhafcgjbaaQuantRangesR
import Derived.Test.YtcmkifhafcgjbaaRxAwake
namespace Go.Proofs.Ytcmkifhafcgjbaa.quantRanges
open Go.RX Go.Proofs.Ytcmkifhafcgjbaa
theorem runl : (lawRunF Try.prog R (cxT R (0) (0) (0)) 25 9 [iv 0, iv 1] [E.sub (.k ((0) - 1)) (.atom (.var 0))] []).good = true := by kernel_rfl
theorem runh : (lawRunF Try.prog R (cxT R (0) (0) (0)) 25 9 [iv 0, iv 1] [E.sub (.atom (.var 0)) (.k ((0) + ((52 : Nat) : Int)))] []).good = true := by kernel_rfl
theorem run0 : (lawRunF Try.prog R (cxT R (0) (0) (0)) 25 9 (asL ((0) + ((0 : Nat) : Int))) [] []).good = true := by kernel_rfl
theorem run1 : (lawRunF Try.prog R (cxT R (0) (0) (0)) 25 9 (asL ((0) + ((1 : Nat) : Int))) [] []).good = true := by kernel_rfl
theorem run2 : (lawRunF Try.prog R (cxT R (0) (0) (0)) 25 9 (asL ((0) + ((2 : Nat) : Int))) [] []).good = true := by kernel_rfl
theorem run3 : (lawRunF Try.prog R (cxT R (0) (0) (0)) 25 9 (asL ((0) + ((3 : Nat) : Int))) [] []).good = true := by kernel_rfl
end Go.Proofs.Ytcmkifhafcgjbaa.quantRanges
