/- Some of the runs of QuantZero. -/
import Derived.Test.YtcmkifhafcgjbaaQuantZeroR
import Derived.Test.YtcmkifhafcgjbaaRxAwake
namespace Go.Proofs.Ytcmkifhafcgjbaa.quantZero
open Go.RX Go.Proofs.Ytcmkifhafcgjbaa
theorem run49 : (lawRunF Try.prog R (cxT R (0) (0) (0)) 25 8 [iv 0, bv 1] (isE (umdE 0 52) ((0) + ((49 : Nat) : Int))) []).good = true := by kernel_rfl
theorem run50 : (lawRunF Try.prog R (cxT R (0) (0) (0)) 25 8 [iv 0, bv 1] (isE (umdE 0 52) ((0) + ((50 : Nat) : Int))) []).good = true := by kernel_rfl
theorem run51 : (lawRunF Try.prog R (cxT R (0) (0) (0)) 25 8 [iv 0, bv 1] (isE (umdE 0 52) ((0) + ((51 : Nat) : Int))) []).good = true := by kernel_rfl
end Go.Proofs.Ytcmkifhafcgjbaa.quantZero
