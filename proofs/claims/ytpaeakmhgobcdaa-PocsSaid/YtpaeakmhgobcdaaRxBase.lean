/- The program's own facts for RX: its externs of a lock that nobody else holds. Beside it nothing is assumed. -/
import Derived.Test.YtpaeakmhgobcdaaRxS
import Derived.Test.YtpaeakmhgobcdaaRxArg
import Derived.Test.YtpaeakmhgobcdaaChecked
import Derived.KernelRfl
namespace Go.Proofs.Ytpaeakmhgobcdaa
open Go.RX
def tab : List (Nat × Ek) := [(34, .load .u32), (40, .store), (42, .mark0), (43, .cas .i32), (44, .mark0), (45, .marked), (47, .marked), (48, .add .i32)]
theorem tab_ok : ∀ x ∈ tab, EkOk Try.prog x.1 x.2 := by
  intro x hx
  simp only [tab, List.mem_cons, List.not_mem_nil, or_false] at hx
  rcases hx with rfl | rfl | rfl | rfl | rfl | rfl | rfl | rfl
  · exact ⟨_, Try.func34, by kernel_rfl, by kernel_rfl, by kernel_rfl, (by kernel_rfl : Extern.find Try.f34 = some (Extern.Atomic.loadT (.int .u32)))⟩
  · exact ⟨_, Try.func40, by kernel_rfl, by kernel_rfl, by kernel_rfl, (by kernel_rfl : Extern.find Try.f40 = some Extern.Atomic.storeT)⟩
  · exact ⟨_, Try.func42, by kernel_rfl, by kernel_rfl, by kernel_rfl, .disable, by kernel_rfl⟩
  · exact ⟨_, Try.func43, by kernel_rfl, by kernel_rfl, by kernel_rfl, (by kernel_rfl : Extern.find Try.f43 = some (Extern.Atomic.casT (.int .i32)))⟩
  · exact ⟨_, Try.func44, by kernel_rfl, by kernel_rfl, by kernel_rfl, .enable, by kernel_rfl⟩
  · exact ⟨_, Try.func45, by kernel_rfl, by kernel_rfl, by kernel_rfl, .acquire, by kernel_rfl⟩
  · exact ⟨_, Try.func47, by kernel_rfl, by kernel_rfl, by kernel_rfl, .releaseMerge, by kernel_rfl⟩
  · exact ⟨_, Try.func48, by kernel_rfl, by kernel_rfl, by kernel_rfl, (by kernel_rfl : Extern.find Try.f48 = some (Extern.Atomic.update (Op.intArith .add) .i32 true))⟩
/-- Functions that may write (a hint). -/
def effM : Nat := 2 ^ 24 + 2 ^ 29 + 2 ^ 30 + 2 ^ 32 + 2 ^ 33 + 2 ^ 35 + 2 ^ 36 + 2 ^ 37 + 2 ^ 38 + 2 ^ 39 + 2 ^ 40 + 2 ^ 43 + 2 ^ 46 + 2 ^ 48 + 2 ^ 49
/-- iso: the functions that run apart, jn: those whose paths are joined, cs: those before which arguments are told apart (by bits). -/
noncomputable def cx (R : Rg) (iso jn cs : Nat) (gen : Nat := 0) : Cx := cxE Try.prog R tab 1000 iso jn cs 0 effM 0 gen
theorem cx_ok {R : Rg} {V : Va} (hR : R.ok V) (iso jn cs : Nat) (gen : Nat := 0) : (cx R iso jn cs gen).ok Try.prog V := cxE_ok Try.checked.mixed hR tab_ok _ _ _ _ _ _ _ _ _ (fun f h => by simp at h)
end Go.Proofs.Ytpaeakmhgobcdaa
