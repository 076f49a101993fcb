/- Some of the runs of QuantDouble. -/
import Derived.Test.YtcmkifhafcgjbaaQuantDoubleR
import Derived.Test.YtcmkifhafcgjbaaRxAwake
namespace Go.Proofs.Ytcmkifhafcgjbaa.quantDouble
open Go.RX Go.Proofs.Ytcmkifhafcgjbaa
theorem run8 : (lawRunF Try.prog R (cxT R (2 ^ 32 + 2 ^ 31 + 2 ^ 33) (2 ^ 4) (0) (0)) 25 4 [sv 0, iv 1] (isE (umdE 1 46) ((0) + ((8 : Nat) : Int))) []).good = true := by kernel_rfl
theorem run9 : (lawRunF Try.prog R (cxT R (2 ^ 32 + 2 ^ 31 + 2 ^ 33) (2 ^ 4) (0) (0)) 25 4 [sv 0, iv 1] (isE (umdE 1 46) ((0) + ((9 : Nat) : Int))) []).good = true := by kernel_rfl
theorem run10 : (lawRunF Try.prog R (cxT R (2 ^ 32 + 2 ^ 31 + 2 ^ 33) (2 ^ 4) (0) (0)) 25 4 [sv 0, iv 1] (isE (umdE 1 46) ((0) + ((10 : Nat) : Int))) []).good = true := by kernel_rfl
theorem run11 : (lawRunF Try.prog R (cxT R (2 ^ 32 + 2 ^ 31 + 2 ^ 33) (2 ^ 4) (0) (0)) 25 4 [sv 0, iv 1] (isE (umdE 1 46) ((0) + ((11 : Nat) : Int))) []).good = true := by kernel_rfl
end Go.Proofs.Ytcmkifhafcgjbaa.quantDouble
