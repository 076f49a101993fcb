/- Some of the runs of QuantZero. -/
import Derived.Test.YtcmkifhafcgjbaaQuantZeroR
import Derived.Test.YtcmkifhafcgjbaaRxAwake
namespace Go.Proofs.Ytcmkifhafcgjbaa.quantZero
open Go.RX Go.Proofs.Ytcmkifhafcgjbaa
theorem run42 : (lawRunF Try.prog R (cxT R (0) (0) (0)) 25 8 [iv 0, bv 1] (isE (umdE 0 52) ((0) + ((42 : Nat) : Int))) []).good = true := by kernel_rfl
theorem run43 : (lawRunF Try.prog R (cxT R (0) (0) (0)) 25 8 [iv 0, bv 1] (isE (umdE 0 52) ((0) + ((43 : Nat) : Int))) []).good = true := by kernel_rfl
theorem run44 : (lawRunF Try.prog R (cxT R (0) (0) (0)) 25 8 [iv 0, bv 1] (isE (umdE 0 52) ((0) + ((44 : Nat) : Int))) []).good = true := by kernel_rfl
theorem run45 : (lawRunF Try.prog R (cxT R (0) (0) (0)) 25 8 [iv 0, bv 1] (isE (umdE 0 52) ((0) + ((45 : Nat) : Int))) []).good = true := by kernel_rfl
theorem run46 : (lawRunF Try.prog R (cxT R (0) (0) (0)) 25 8 [iv 0, bv 1] (isE (umdE 0 52) ((0) + ((46 : Nat) : Int))) []).good = true := by kernel_rfl
theorem run47 : (lawRunF Try.prog R (cxT R (0) (0) (0)) 25 8 [iv 0, bv 1] (isE (umdE 0 52) ((0) + ((47 : Nat) : Int))) []).good = true := by kernel_rfl
theorem run48 : (lawRunF Try.prog R (cxT R (0) (0) (0)) 25 8 [iv 0, bv 1] (isE (umdE 0 52) ((0) + ((48 : Nat) : Int))) []).good = true := by kernel_rfl
end Go.Proofs.Ytcmkifhafcgjbaa.quantZero
