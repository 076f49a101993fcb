/- Some of the runs of QuantDouble. -/
import Derived.Test.YtcmkifhafcgjbaaQuantDoubleR
import Derived.Test.YtcmkifhafcgjbaaRxAwake
namespace Go.Proofs.Ytcmkifhafcgjbaa.quantDouble
open Go.RX Go.Proofs.Ytcmkifhafcgjbaa
theorem run4 : (lawRunF Try.prog R (cxT R (2 ^ 32 + 2 ^ 31 + 2 ^ 33) (2 ^ 4) (0) (0)) 25 4 [sv 0, iv 1] (isE (umdE 1 46) ((0) + ((4 : Nat) : Int))) []).good = true := by kernel_rfl
theorem run5 : (lawRunF Try.prog R (cxT R (2 ^ 32 + 2 ^ 31 + 2 ^ 33) (2 ^ 4) (0) (0)) 25 4 [sv 0, iv 1] (isE (umdE 1 46) ((0) + ((5 : Nat) : Int))) []).good = true := by kernel_rfl
theorem run6 : (lawRunF Try.prog R (cxT R (2 ^ 32 + 2 ^ 31 + 2 ^ 33) (2 ^ 4) (0) (0)) 25 4 [sv 0, iv 1] (isE (umdE 1 46) ((0) + ((6 : Nat) : Int))) []).good = true := by kernel_rfl
theorem run7 : (lawRunF Try.prog R (cxT R (2 ^ 32 + 2 ^ 31 + 2 ^ 33) (2 ^ 4) (0) (0)) 25 4 [sv 0, iv 1] (isE (umdE 1 46) ((0) + ((7 : Nat) : Int))) []).good = true := by kernel_rfl
end Go.Proofs.Ytcmkifhafcgjbaa.quantDouble
