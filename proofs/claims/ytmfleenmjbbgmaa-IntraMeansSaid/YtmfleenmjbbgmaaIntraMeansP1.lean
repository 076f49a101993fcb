/- Some of the runs of IntraMeans. -/
import Derived.Test.YtmfleenmjbbgmaaIntraMeansR
import Derived.Test.YtmfleenmjbbgmaaRxAwake
namespace Go.Proofs.Ytmfleenmjbbgmaa.intraMeans
open Go.RX Go.Proofs.Ytmfleenmjbbgmaa
theorem run0_2 : (lawRunF Try.prog R (cxT R (0) (2 ^ 32) (0)) 25 15 [sv 0, sv 1, iv 2] (isE (andE 2 1) ((0) + ((0 : Nat) : Int)) ++ isE (andE 2 2) ((0) + ((2 : Nat) : Int))) []).good = true := by kernel_rfl
theorem run1_0 : (lawRunF Try.prog R (cxT R (0) (2 ^ 32) (0)) 25 15 [sv 0, sv 1, iv 2] (isE (andE 2 1) ((0) + ((1 : Nat) : Int)) ++ isE (andE 2 2) ((0) + ((0 : Nat) : Int))) []).good = true := by kernel_rfl
end Go.Proofs.Ytmfleenmjbbgmaa.intraMeans
