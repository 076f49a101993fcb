/- The program's own facts for RX: its externs of a lock that nobody else holds. Beside it nothing is assumed. -/
import Derived.Test.YtmfleenmjbbgmaaRxS
import Derived.Test.YtmfleenmjbbgmaaRxArg
import Derived.Test.YtmfleenmjbbgmaaChecked
import Derived.KernelRfl
namespace Go.Proofs.Ytmfleenmjbbgmaa
open Go.RX
def tab : List (Nat × Ek) := [(87, .load .u32), (93, .store), (95, .mark0), (96, .cas .i32), (97, .mark0), (98, .marked), (100, .marked), (101, .add .i32)]
theorem tab_ok : ∀ x ∈ tab, EkOk Try.prog x.1 x.2 := by
  intro x hx
  simp only [tab, List.mem_cons, List.not_mem_nil, or_false] at hx
  rcases hx with rfl | rfl | rfl | rfl | rfl | rfl | rfl | rfl
  · exact ⟨_, Try.func87, by kernel_rfl, by kernel_rfl, by kernel_rfl, (by kernel_rfl : Extern.find Try.f87 = some (Extern.Atomic.loadT (.int .u32)))⟩
  · exact ⟨_, Try.func93, by kernel_rfl, by kernel_rfl, by kernel_rfl, (by kernel_rfl : Extern.find Try.f93 = some Extern.Atomic.storeT)⟩
  · exact ⟨_, Try.func95, by kernel_rfl, by kernel_rfl, by kernel_rfl, .disable, by kernel_rfl⟩
  · exact ⟨_, Try.func96, by kernel_rfl, by kernel_rfl, by kernel_rfl, (by kernel_rfl : Extern.find Try.f96 = some (Extern.Atomic.casT (.int .i32)))⟩
  · exact ⟨_, Try.func97, by kernel_rfl, by kernel_rfl, by kernel_rfl, .enable, by kernel_rfl⟩
  · exact ⟨_, Try.func98, by kernel_rfl, by kernel_rfl, by kernel_rfl, .acquire, by kernel_rfl⟩
  · exact ⟨_, Try.func100, by kernel_rfl, by kernel_rfl, by kernel_rfl, .releaseMerge, by kernel_rfl⟩
  · exact ⟨_, Try.func101, by kernel_rfl, by kernel_rfl, by kernel_rfl, (by kernel_rfl : Extern.find Try.f101 = some (Extern.Atomic.update (Op.intArith .add) .i32 true))⟩
/-- Functions that may write (a hint). -/
def effM : Nat := 2 ^ 35 + 2 ^ 56 + 2 ^ 57 + 2 ^ 84 + 2 ^ 85 + 2 ^ 88 + 2 ^ 89 + 2 ^ 90 + 2 ^ 91 + 2 ^ 92 + 2 ^ 93 + 2 ^ 96 + 2 ^ 99 + 2 ^ 101 + 2 ^ 102
/-- iso: the functions that run apart, jn: those whose paths are joined, cs: those before which arguments are told apart (by bits). -/
noncomputable def cx (R : Rg) (iso jn cs : Nat) (gen : Nat := 0) : Cx := cxE Try.prog R tab 1000 iso jn cs 0 effM 0 gen
theorem cx_ok {R : Rg} {V : Va} (hR : R.ok V) (iso jn cs : Nat) (gen : Nat := 0) : (cx R iso jn cs gen).ok Try.prog V := cxE_ok Try.checked.mixed hR tab_ok _ _ _ _ _ _ _ _ _ (fun f h => by simp at h)
end Go.Proofs.Ytmfleenmjbbgmaa
