/- Some of the runs of QuantDouble. -/
import Derived.Test.YtcmkifhafcgjbaaQuantDoubleR
import Derived.Test.YtcmkifhafcgjbaaRxAwake
namespace Go.Proofs.Ytcmkifhafcgjbaa.quantDouble
open Go.RX Go.Proofs.Ytcmkifhafcgjbaa
theorem run32 : (lawRunF Try.prog R (cxT R (2 ^ 32 + 2 ^ 31 + 2 ^ 33) (2 ^ 4) (0) (0)) 25 4 [sv 0, iv 1] (isE (umdE 1 46) ((0) + ((32 : Nat) : Int))) []).good = true := by kernel_rfl
theorem run33 : (lawRunF Try.prog R (cxT R (2 ^ 32 + 2 ^ 31 + 2 ^ 33) (2 ^ 4) (0) (0)) 25 4 [sv 0, iv 1] (isE (umdE 1 46) ((0) + ((33 : Nat) : Int))) []).good = true := by kernel_rfl
theorem run34 : (lawRunF Try.prog R (cxT R (2 ^ 32 + 2 ^ 31 + 2 ^ 33) (2 ^ 4) (0) (0)) 25 4 [sv 0, iv 1] (isE (umdE 1 46) ((0) + ((34 : Nat) : Int))) []).good = true := by kernel_rfl
theorem run35 : (lawRunF Try.prog R (cxT R (2 ^ 32 + 2 ^ 31 + 2 ^ 33) (2 ^ 4) (0) (0)) 25 4 [sv 0, iv 1] (isE (umdE 1 46) ((0) + ((35 : Nat) : Int))) []).good = true := by kernel_rfl
end Go.Proofs.Ytcmkifhafcgjbaa.quantDouble
