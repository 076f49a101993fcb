/- The program's own facts for RX: its externs of a lock that nobody else holds. Beside it nothing is assumed. -/
import Derived.Test.YtclgfhbalocmaaaRxS
import Derived.Test.YtclgfhbalocmaaaRxArg
import Derived.Test.YtclgfhbalocmaaaChecked
import Derived.KernelRfl
namespace Go.Proofs.Ytclgfhbalocmaaa
open Go.RX
def tab : List (Nat × Ek) := [(25, .load .u32), (31, .store), (33, .mark0), (34, .cas .i32), (35, .mark0), (36, .marked), (38, .marked), (39, .add .i32)]
theorem tab_ok : ∀ x ∈ tab, EkOk Try.prog x.1 x.2 := by
  intro x hx
  simp only [tab, List.mem_cons, List.not_mem_nil, or_false] at hx
  rcases hx with rfl | rfl | rfl | rfl | rfl | rfl | rfl | rfl
  · exact ⟨_, Try.func25, by kernel_rfl, by kernel_rfl, by kernel_rfl, (by kernel_rfl : Extern.find Try.f25 = some (Extern.Atomic.loadT (.int .u32)))⟩
  · exact ⟨_, Try.func31, by kernel_rfl, by kernel_rfl, by kernel_rfl, (by kernel_rfl : Extern.find Try.f31 = some Extern.Atomic.storeT)⟩
  · exact ⟨_, Try.func33, by kernel_rfl, by kernel_rfl, by kernel_rfl, .disable, by kernel_rfl⟩
  · exact ⟨_, Try.func34, by kernel_rfl, by kernel_rfl, by kernel_rfl, (by kernel_rfl : Extern.find Try.f34 = some (Extern.Atomic.casT (.int .i32)))⟩
  · exact ⟨_, Try.func35, by kernel_rfl, by kernel_rfl, by kernel_rfl, .enable, by kernel_rfl⟩
  · exact ⟨_, Try.func36, by kernel_rfl, by kernel_rfl, by kernel_rfl, .acquire, by kernel_rfl⟩
  · exact ⟨_, Try.func38, by kernel_rfl, by kernel_rfl, by kernel_rfl, .releaseMerge, by kernel_rfl⟩
  · exact ⟨_, Try.func39, by kernel_rfl, by kernel_rfl, by kernel_rfl, (by kernel_rfl : Extern.find Try.f39 = some (Extern.Atomic.update (Op.intArith .add) .i32 true))⟩
/-- Functions that may write (a hint). -/
def effM : Nat := 2 ^ 16 + 2 ^ 20 + 2 ^ 21 + 2 ^ 23 + 2 ^ 24 + 2 ^ 26 + 2 ^ 27 + 2 ^ 28 + 2 ^ 29 + 2 ^ 30 + 2 ^ 31 + 2 ^ 34 + 2 ^ 37 + 2 ^ 39 + 2 ^ 40
/-- iso: the functions that run apart, jn: those whose paths are joined, cs: those before which arguments are told apart (by bits). -/
noncomputable def cx (R : Rg) (iso jn cs : Nat) (gen : Nat := 0) : Cx := cxE Try.prog R tab 1000 iso jn cs 0 effM 0 gen
theorem cx_ok {R : Rg} {V : Va} (hR : R.ok V) (iso jn cs : Nat) (gen : Nat := 0) : (cx R iso jn cs gen).ok Try.prog V := cxE_ok Try.checked.mixed hR tab_ok _ _ _ _ _ _ _ _ (fun f h => by simp at h)
end Go.Proofs.Ytclgfhbalocmaaa
