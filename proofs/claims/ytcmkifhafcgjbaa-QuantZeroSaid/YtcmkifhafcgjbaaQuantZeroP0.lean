/- Some of the runs of QuantZero. -/
import Derived.Test.YtcmkifhafcgjbaaQuantZeroR
import Derived.Test.YtcmkifhafcgjbaaRxAwake
namespace Go.Proofs.Ytcmkifhafcgjbaa.quantZero
open Go.RX Go.Proofs.Ytcmkifhafcgjbaa
theorem run0 : (lawRunF Try.prog R (cxT R (0) (0) (0)) 25 8 [iv 0, bv 1] (isE (umdE 0 52) ((0) + ((0 : Nat) : Int))) []).good = true := by kernel_rfl
theorem run1 : (lawRunF Try.prog R (cxT R (0) (0) (0)) 25 8 [iv 0, bv 1] (isE (umdE 0 52) ((0) + ((1 : Nat) : Int))) []).good = true := by kernel_rfl
theorem run2 : (lawRunF Try.prog R (cxT R (0) (0) (0)) 25 8 [iv 0, bv 1] (isE (umdE 0 52) ((0) + ((2 : Nat) : Int))) []).good = true := by kernel_rfl
theorem run3 : (lawRunF Try.prog R (cxT R (0) (0) (0)) 25 8 [iv 0, bv 1] (isE (umdE 0 52) ((0) + ((3 : Nat) : Int))) []).good = true := by kernel_rfl
theorem run4 : (lawRunF Try.prog R (cxT R (0) (0) (0)) 25 8 [iv 0, bv 1] (isE (umdE 0 52) ((0) + ((4 : Nat) : Int))) []).good = true := by kernel_rfl
theorem run5 : (lawRunF Try.prog R (cxT R (0) (0) (0)) 25 8 [iv 0, bv 1] (isE (umdE 0 52) ((0) + ((5 : Nat) : Int))) []).good = true := by kernel_rfl
theorem run6 : (lawRunF Try.prog R (cxT R (0) (0) (0)) 25 8 [iv 0, bv 1] (isE (umdE 0 52) ((0) + ((6 : Nat) : Int))) []).good = true := by kernel_rfl
end Go.Proofs.Ytcmkifhafcgjbaa.quantZero
