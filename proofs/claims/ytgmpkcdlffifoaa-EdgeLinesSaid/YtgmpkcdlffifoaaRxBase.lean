/- The program's own facts for RX: its externs of a lock that nobody else holds. Beside it nothing is assumed. -/
import Derived.Test.YtgmpkcdlffifoaaRxS
import Derived.Test.YtgmpkcdlffifoaaRxArg
import Derived.Test.YtgmpkcdlffifoaaChecked
import Derived.KernelRfl
namespace Go.Proofs.Ytgmpkcdlffifoaa
open Go.RX
def tab : List (Nat × Ek) := [(40, .load .u32), (46, .store), (48, .mark0), (49, .cas .i32), (50, .mark0), (51, .marked), (53, .marked), (54, .add .i32)]
theorem tab_ok : ∀ x ∈ tab, EkOk Try.prog x.1 x.2 := by
  intro x hx
  simp only [tab, List.mem_cons, List.not_mem_nil, or_false] at hx
  rcases hx with rfl | rfl | rfl | rfl | rfl | rfl | rfl | rfl
  · exact ⟨_, Try.func40, by kernel_rfl, by kernel_rfl, by kernel_rfl, (by kernel_rfl : Extern.find Try.f40 = some (Extern.Atomic.loadT (.int .u32)))⟩
  · exact ⟨_, Try.func46, by kernel_rfl, by kernel_rfl, by kernel_rfl, (by kernel_rfl : Extern.find Try.f46 = some Extern.Atomic.storeT)⟩
  · exact ⟨_, Try.func48, by kernel_rfl, by kernel_rfl, by kernel_rfl, .disable, by kernel_rfl⟩
  · exact ⟨_, Try.func49, by kernel_rfl, by kernel_rfl, by kernel_rfl, (by kernel_rfl : Extern.find Try.f49 = some (Extern.Atomic.casT (.int .i32)))⟩
  · exact ⟨_, Try.func50, by kernel_rfl, by kernel_rfl, by kernel_rfl, .enable, by kernel_rfl⟩
  · exact ⟨_, Try.func51, by kernel_rfl, by kernel_rfl, by kernel_rfl, .acquire, by kernel_rfl⟩
  · exact ⟨_, Try.func53, by kernel_rfl, by kernel_rfl, by kernel_rfl, .releaseMerge, by kernel_rfl⟩
  · exact ⟨_, Try.func54, by kernel_rfl, by kernel_rfl, by kernel_rfl, (by kernel_rfl : Extern.find Try.f54 = some (Extern.Atomic.update (Op.intArith .add) .i32 true))⟩
/-- Functions that may write (a hint). -/
def effM : Nat := 2 ^ 23 + 2 ^ 32 + 2 ^ 33 + 2 ^ 37 + 2 ^ 38 + 2 ^ 41 + 2 ^ 42 + 2 ^ 43 + 2 ^ 44 + 2 ^ 45 + 2 ^ 46 + 2 ^ 49 + 2 ^ 52 + 2 ^ 54 + 2 ^ 55
/-- iso: the functions that run apart, jn: those whose paths are joined, cs: those before which arguments are told apart (by bits). -/
noncomputable def cx (R : Rg) (iso jn cs : Nat) : Cx := cxE Try.prog R tab 1000 iso jn cs 0 effM
theorem cx_ok {R : Rg} {V : Va} (hR : R.ok V) (iso jn cs : Nat) : (cx R iso jn cs).ok Try.prog V := cxE_ok Try.checked.mixed hR tab_ok _ _ _ _ _ _ _ (fun f h => by simp at h)
end Go.Proofs.Ytgmpkcdlffifoaa
