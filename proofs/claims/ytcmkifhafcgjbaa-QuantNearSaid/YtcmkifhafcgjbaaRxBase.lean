/- The program's own facts for RX: its externs of a lock that nobody else holds. Beside it nothing is assumed. -/
import Derived.Test.YtcmkifhafcgjbaaRxS
import Derived.Test.YtcmkifhafcgjbaaRxArg
import Derived.Test.YtcmkifhafcgjbaaChecked
import Derived.KernelRfl
namespace Go.Proofs.Ytcmkifhafcgjbaa
open Go.RX
def tab : List (Nat × Ek) := [(57, .load .u32), (63, .store), (65, .mark0), (66, .cas .i32), (67, .mark0), (68, .marked), (70, .marked), (71, .add .i32)]
theorem tab_ok : ∀ x ∈ tab, EkOk Try.prog x.1 x.2 := by
  intro x hx
  simp only [tab, List.mem_cons, List.not_mem_nil, or_false] at hx
  rcases hx with rfl | rfl | rfl | rfl | rfl | rfl | rfl | rfl
  · exact ⟨_, Try.func57, by kernel_rfl, by kernel_rfl, by kernel_rfl, (by kernel_rfl : Extern.find Try.f57 = some (Extern.Atomic.loadT (.int .u32)))⟩
  · exact ⟨_, Try.func63, by kernel_rfl, by kernel_rfl, by kernel_rfl, (by kernel_rfl : Extern.find Try.f63 = some Extern.Atomic.storeT)⟩
  · exact ⟨_, Try.func65, by kernel_rfl, by kernel_rfl, by kernel_rfl, .disable, by kernel_rfl⟩
  · exact ⟨_, Try.func66, by kernel_rfl, by kernel_rfl, by kernel_rfl, (by kernel_rfl : Extern.find Try.f66 = some (Extern.Atomic.casT (.int .i32)))⟩
  · exact ⟨_, Try.func67, by kernel_rfl, by kernel_rfl, by kernel_rfl, .enable, by kernel_rfl⟩
  · exact ⟨_, Try.func68, by kernel_rfl, by kernel_rfl, by kernel_rfl, .acquire, by kernel_rfl⟩
  · exact ⟨_, Try.func70, by kernel_rfl, by kernel_rfl, by kernel_rfl, .releaseMerge, by kernel_rfl⟩
  · exact ⟨_, Try.func71, by kernel_rfl, by kernel_rfl, by kernel_rfl, (by kernel_rfl : Extern.find Try.f71 = some (Extern.Atomic.update (Op.intArith .add) .i32 true))⟩
/-- Functions that may write (a hint). -/
def effM : Nat := 2 ^ 29 + 2 ^ 48 + 2 ^ 49 + 2 ^ 55 + 2 ^ 56 + 2 ^ 58 + 2 ^ 59 + 2 ^ 60 + 2 ^ 61 + 2 ^ 62 + 2 ^ 63 + 2 ^ 66 + 2 ^ 69 + 2 ^ 71 + 2 ^ 72
/-- iso: the functions that run apart, jn: those whose paths are joined, cs: those before which arguments are told apart (by bits). -/
noncomputable def cx (R : Rg) (iso jn cs : Nat) (gen : Nat := 0) : Cx := cxE Try.prog R tab 1000 iso jn cs 0 effM 0 gen
theorem cx_ok {R : Rg} {V : Va} (hR : R.ok V) (iso jn cs : Nat) (gen : Nat := 0) : (cx R iso jn cs gen).ok Try.prog V := cxE_ok Try.checked.mixed hR tab_ok _ _ _ _ _ _ _ _ _ (fun f h => by simp at h)
end Go.Proofs.Ytcmkifhafcgjbaa
