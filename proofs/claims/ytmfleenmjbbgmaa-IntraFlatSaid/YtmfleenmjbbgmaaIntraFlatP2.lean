/- Some of the runs of IntraFlat. -/
import Derived.Test.YtmfleenmjbbgmaaIntraFlatR
import Derived.Test.YtmfleenmjbbgmaaRxAwake
namespace Go.Proofs.Ytmfleenmjbbgmaa.intraFlat
open Go.RX Go.Proofs.Ytmfleenmjbbgmaa
theorem run1_2 : (lawRunF Try.prog R (cxT R (0) (0) (0)) 25 5 [iv 0, iv 1] (isE (umdE 1 9) ((0) + ((1 : Nat) : Int)) ++ isE (umdE 1 4) ((0) + ((2 : Nat) : Int))) []).good = true := by kernel_rfl
theorem run1_3 : (lawRunF Try.prog R (cxT R (0) (0) (0)) 25 5 [iv 0, iv 1] (isE (umdE 1 9) ((0) + ((1 : Nat) : Int)) ++ isE (umdE 1 4) ((0) + ((3 : Nat) : Int))) []).good = true := by kernel_rfl
theorem run2_0 : (lawRunF Try.prog R (cxT R (0) (0) (0)) 25 5 [iv 0, iv 1] (isE (umdE 1 9) ((0) + ((2 : Nat) : Int)) ++ isE (umdE 1 4) ((0) + ((0 : Nat) : Int))) []).good = true := by kernel_rfl
end Go.Proofs.Ytmfleenmjbbgmaa.intraFlat
