/- The program's own facts for RX: its externs of a lock that nobody else holds. Beside it nothing is assumed. -/
import Derived.Test.YtoheklommpochaaRxS
import Derived.Test.YtoheklommpochaaRxArg
import Derived.Test.YtoheklommpochaaChecked
import Derived.KernelRfl
namespace Go.Proofs.Ytoheklommpochaa
open Go.RX
def tab : List (Nat × Ek) := []
theorem tab_ok : ∀ x ∈ tab, EkOk Try.prog x.1 x.2 := by
  intro x hx
  cases hx
/-- Functions that may write (a hint). -/
def effM : Nat := 0
/-- iso: the functions that run apart, jn: those whose paths are joined, cs: those before which arguments are told apart (by bits). -/
noncomputable def cx (R : Rg) (iso jn cs : Nat) (gen : Nat := 0) : Cx := cxE Try.prog R tab 1000 iso jn cs 0 effM 0 gen
theorem cx_ok {R : Rg} {V : Va} (hR : R.ok V) (iso jn cs : Nat) (gen : Nat := 0) : (cx R iso jn cs gen).ok Try.prog V := cxE_ok Try.checked.mixed hR tab_ok _ _ _ _ _ _ _ _ _ (fun f h => by simp at h)
end Go.Proofs.Ytoheklommpochaa
