/- Some of the runs of QuantDouble. -/
import Derived.Test.YtcmkifhafcgjbaaQuantDoubleR
import Derived.Test.YtcmkifhafcgjbaaRxAwake
namespace Go.Proofs.Ytcmkifhafcgjbaa.quantDouble
open Go.RX Go.Proofs.Ytcmkifhafcgjbaa
theorem run12 : (lawRunF Try.prog R (cxT R (2 ^ 32 + 2 ^ 31 + 2 ^ 33) (2 ^ 4) (0) (0)) 25 4 [sv 0, iv 1] (isE (umdE 1 46) ((0) + ((12 : Nat) : Int))) []).good = true := by kernel_rfl
theorem run13 : (lawRunF Try.prog R (cxT R (2 ^ 32 + 2 ^ 31 + 2 ^ 33) (2 ^ 4) (0) (0)) 25 4 [sv 0, iv 1] (isE (umdE 1 46) ((0) + ((13 : Nat) : Int))) []).good = true := by kernel_rfl
theorem run14 : (lawRunF Try.prog R (cxT R (2 ^ 32 + 2 ^ 31 + 2 ^ 33) (2 ^ 4) (0) (0)) 25 4 [sv 0, iv 1] (isE (umdE 1 46) ((0) + ((14 : Nat) : Int))) []).good = true := by kernel_rfl
theorem run15 : (lawRunF Try.prog R (cxT R (2 ^ 32 + 2 ^ 31 + 2 ^ 33) (2 ^ 4) (0) (0)) 25 4 [sv 0, iv 1] (isE (umdE 1 46) ((0) + ((15 : Nat) : Int))) []).good = true := by kernel_rfl
end Go.Proofs.Ytcmkifhafcgjbaa.quantDouble
