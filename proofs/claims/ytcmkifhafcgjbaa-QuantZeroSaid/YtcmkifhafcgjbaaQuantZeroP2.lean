/- Some of the runs of QuantZero. -/
import Derived.Test.YtcmkifhafcgjbaaQuantZeroR
import Derived.Test.YtcmkifhafcgjbaaRxAwake
namespace Go.Proofs.Ytcmkifhafcgjbaa.quantZero
open Go.RX Go.Proofs.Ytcmkifhafcgjbaa
theorem run14 : (lawRunF Try.prog R (cxT R (0) (0) (0)) 25 8 [iv 0, bv 1] (isE (umdE 0 52) ((0) + ((14 : Nat) : Int))) []).good = true := by kernel_rfl
theorem run15 : (lawRunF Try.prog R (cxT R (0) (0) (0)) 25 8 [iv 0, bv 1] (isE (umdE 0 52) ((0) + ((15 : Nat) : Int))) []).good = true := by kernel_rfl
theorem run16 : (lawRunF Try.prog R (cxT R (0) (0) (0)) 25 8 [iv 0, bv 1] (isE (umdE 0 52) ((0) + ((16 : Nat) : Int))) []).good = true := by kernel_rfl
theorem run17 : (lawRunF Try.prog R (cxT R (0) (0) (0)) 25 8 [iv 0, bv 1] (isE (umdE 0 52) ((0) + ((17 : Nat) : Int))) []).good = true := by kernel_rfl
theorem run18 : (lawRunF Try.prog R (cxT R (0) (0) (0)) 25 8 [iv 0, bv 1] (isE (umdE 0 52) ((0) + ((18 : Nat) : Int))) []).good = true := by kernel_rfl
theorem run19 : (lawRunF Try.prog R (cxT R (0) (0) (0)) 25 8 [iv 0, bv 1] (isE (umdE 0 52) ((0) + ((19 : Nat) : Int))) []).good = true := by kernel_rfl
theorem run20 : (lawRunF Try.prog R (cxT R (0) (0) (0)) 25 8 [iv 0, bv 1] (isE (umdE 0 52) ((0) + ((20 : Nat) : Int))) []).good = true := by kernel_rfl
end Go.Proofs.Ytcmkifhafcgjbaa.quantZero
