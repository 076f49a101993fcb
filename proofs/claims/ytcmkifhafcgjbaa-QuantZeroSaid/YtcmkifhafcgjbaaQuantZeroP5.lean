/- Some of the runs of QuantZero. -/
import Derived.Test.YtcmkifhafcgjbaaQuantZeroR
import Derived.Test.YtcmkifhafcgjbaaRxAwake
namespace Go.Proofs.Ytcmkifhafcgjbaa.quantZero
open Go.RX Go.Proofs.Ytcmkifhafcgjbaa
theorem run35 : (lawRunF Try.prog R (cxT R (0) (0) (0)) 25 8 [iv 0, bv 1] (isE (umdE 0 52) ((0) + ((35 : Nat) : Int))) []).good = true := by kernel_rfl
theorem run36 : (lawRunF Try.prog R (cxT R (0) (0) (0)) 25 8 [iv 0, bv 1] (isE (umdE 0 52) ((0) + ((36 : Nat) : Int))) []).good = true := by kernel_rfl
theorem run37 : (lawRunF Try.prog R (cxT R (0) (0) (0)) 25 8 [iv 0, bv 1] (isE (umdE 0 52) ((0) + ((37 : Nat) : Int))) []).good = true := by kernel_rfl
theorem run38 : (lawRunF Try.prog R (cxT R (0) (0) (0)) 25 8 [iv 0, bv 1] (isE (umdE 0 52) ((0) + ((38 : Nat) : Int))) []).good = true := by kernel_rfl
theorem run39 : (lawRunF Try.prog R (cxT R (0) (0) (0)) 25 8 [iv 0, bv 1] (isE (umdE 0 52) ((0) + ((39 : Nat) : Int))) []).good = true := by kernel_rfl
theorem run40 : (lawRunF Try.prog R (cxT R (0) (0) (0)) 25 8 [iv 0, bv 1] (isE (umdE 0 52) ((0) + ((40 : Nat) : Int))) []).good = true := by kernel_rfl
theorem run41 : (lawRunF Try.prog R (cxT R (0) (0) (0)) 25 8 [iv 0, bv 1] (isE (umdE 0 52) ((0) + ((41 : Nat) : Int))) []).good = true := by kernel_rfl
end Go.Proofs.Ytcmkifhafcgjbaa.quantZero
