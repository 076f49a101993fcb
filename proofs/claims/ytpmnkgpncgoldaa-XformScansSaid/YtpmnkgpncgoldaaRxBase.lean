/- The program's own facts for RX: its externs of a lock that nobody else holds. Beside it nothing is assumed. -/
import Derived.Test.YtpmnkgpncgoldaaRxS
import Derived.Test.YtpmnkgpncgoldaaRxT
import Derived.Test.YtpmnkgpncgoldaaChecked
import Derived.KernelRfl
namespace Go.Proofs.Ytpmnkgpncgoldaa
open Go.RX
def tab : List (Nat × Ek) := [(41, .load .u32), (47, .store), (49, .mark0), (50, .cas .i32), (51, .mark0), (52, .marked), (54, .marked), (55, .add .i32)]
theorem tab_ok : ∀ x ∈ tab, EkOk Try.prog x.1 x.2 := by
  intro x hx
  simp only [tab, List.mem_cons, List.not_mem_nil, or_false] at hx
  rcases hx with rfl | rfl | rfl | rfl | rfl | rfl | rfl | rfl
  · exact ⟨_, Try.func41, by kernel_rfl, by kernel_rfl, by kernel_rfl, (by kernel_rfl : Extern.find Try.f41 = some (Extern.Atomic.loadT (.int .u32)))⟩
  · exact ⟨_, Try.func47, by kernel_rfl, by kernel_rfl, by kernel_rfl, (by kernel_rfl : Extern.find Try.f47 = some Extern.Atomic.storeT)⟩
  · exact ⟨_, Try.func49, by kernel_rfl, by kernel_rfl, by kernel_rfl, .disable, by kernel_rfl⟩
  · exact ⟨_, Try.func50, by kernel_rfl, by kernel_rfl, by kernel_rfl, (by kernel_rfl : Extern.find Try.f50 = some (Extern.Atomic.casT (.int .i32)))⟩
  · exact ⟨_, Try.func51, by kernel_rfl, by kernel_rfl, by kernel_rfl, .enable, by kernel_rfl⟩
  · exact ⟨_, Try.func52, by kernel_rfl, by kernel_rfl, by kernel_rfl, .acquire, by kernel_rfl⟩
  · exact ⟨_, Try.func54, by kernel_rfl, by kernel_rfl, by kernel_rfl, .releaseMerge, by kernel_rfl⟩
  · exact ⟨_, Try.func55, by kernel_rfl, by kernel_rfl, by kernel_rfl, (by kernel_rfl : Extern.find Try.f55 = some (Extern.Atomic.update (Op.intArith .add) .i32 true))⟩
/-- Every variable is an int. -/
def R0 : Rg := ⟨fun _ => (-9223372036854775808, 9223372036854775807), fun _ => (0, 0)⟩
/-- The functions that run apart: by bits. -/
noncomputable def cx : Cx := cxE Try.prog R0 tab 1000 (2 ^ 34 + 2 ^ 31 + 2 ^ 48)
theorem cx_ok {V : Va} (hR : R0.ok V) : cx.ok Try.prog V := cxE_ok Try.checked.mixed hR tab_ok _ _
noncomputable def iv (n : Nat) : AV := .int .i64 (.atom (.var n))
def va (l : List Int) : Va := ⟨fun i => (l[i]?).getD 0, fun _ _ _ => 0⟩
theorem va_ok {l : List Int} (h : ∀ x ∈ l, -9223372036854775808 ≤ x ∧ x ≤ 9223372036854775807) : R0.ok (va l) := by
  refine ⟨fun i => ?_, fun _ _ _ => ⟨Int.le_refl 0, Int.le_refl 0⟩⟩
  show (-9223372036854775808 : Int) ≤ (l[i]?).getD 0 ∧ (l[i]?).getD 0 ≤ (9223372036854775807 : Int)
  cases hx : l[i]? with
  | none => exact ⟨by decide, by decide⟩
  | some x => exact h x (List.mem_of_getElem? hx)
theorem int_bd {a : Int} (w : (Lit.int .i64 a).wf = true) : -9223372036854775808 ≤ a ∧ a ≤ 9223372036854775807 := by
  simp [Lit.wf, IntKind.min, IntKind.max, IntKind.bits, IntKind.signed] at w
  omega
theorem int_rel (l : List Int) (n : Nat) (N : Env) : (iv n).rel (va l) N (.int .i64 ((l[n]?).getD 0)) := by
  simp only [iv, AV.rel, E.den_atom, E.den]
  rfl
end Go.Proofs.Ytpmnkgpncgoldaa
