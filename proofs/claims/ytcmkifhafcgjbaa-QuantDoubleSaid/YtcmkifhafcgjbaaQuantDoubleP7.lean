/- Some of the runs of QuantDouble. -/
import Derived.Test.YtcmkifhafcgjbaaQuantDoubleR
import Derived.Test.YtcmkifhafcgjbaaRxAwake
namespace Go.Proofs.Ytcmkifhafcgjbaa.quantDouble
open Go.RX Go.Proofs.Ytcmkifhafcgjbaa
theorem run28 : (lawRunF Try.prog R (cxT R (2 ^ 32 + 2 ^ 31 + 2 ^ 33) (2 ^ 4) (0) (0)) 25 4 [sv 0, iv 1] (isE (umdE 1 46) ((0) + ((28 : Nat) : Int))) []).good = true := by kernel_rfl
theorem run29 : (lawRunF Try.prog R (cxT R (2 ^ 32 + 2 ^ 31 + 2 ^ 33) (2 ^ 4) (0) (0)) 25 4 [sv 0, iv 1] (isE (umdE 1 46) ((0) + ((29 : Nat) : Int))) []).good = true := by kernel_rfl
theorem run30 : (lawRunF Try.prog R (cxT R (2 ^ 32 + 2 ^ 31 + 2 ^ 33) (2 ^ 4) (0) (0)) 25 4 [sv 0, iv 1] (isE (umdE 1 46) ((0) + ((30 : Nat) : Int))) []).good = true := by kernel_rfl
theorem run31 : (lawRunF Try.prog R (cxT R (2 ^ 32 + 2 ^ 31 + 2 ^ 33) (2 ^ 4) (0) (0)) 25 4 [sv 0, iv 1] (isE (umdE 1 46) ((0) + ((31 : Nat) : Int))) []).good = true := by kernel_rfl
end Go.Proofs.Ytcmkifhafcgjbaa.quantDouble
