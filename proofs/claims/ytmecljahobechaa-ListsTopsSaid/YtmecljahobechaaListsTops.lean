/- ListsTops returns true for every input: it neither panics nor runs on, and what came in reads as before. Without a condition. The walk is one evaluation, in Lean's kernel, of a symbolic run that the texts Rx.. prove sound. -/
import Derived.Test.YtmecljahobechaaRows
import Derived.Test.YtmecljahobechaaRxAwake
import Derived.Test.YtmecljahobechaaListsTopsR
import Derived.Test.YtmecljahobechaaListsTopsP0
import Derived.Test.YtmecljahobechaaListsTopsP1
import Derived.WalkKit
import Derived.ProofKit
import Derived.OpenShut
import Derived.ShutString
import Derived.ChangeOld
import Derived.Below
namespace Go.Proofs.Ytmecljahobechaa.listsTops
open Go.ChangeShapes Go.WideShapes Go.ChangeAt Go.RowKit Go.RX Go.Proofs.Ytmecljahobechaa
set_option linter.unusedVariables false
theorem own : ownKnob Try.prog.godebug = none := by kernel_rfl
theorem laidOut : laidOutB Try.prog = true := by kernel_rfl
theorem runs : ∀ i : Nat, i < 4 → (lawRunF Try.prog R (cxT R (0) (0) (0) (0) (0)) 25 5 [iv 0, iv 1] (isE (andE 0 3) ((0) + (i : Int))) []).good = true
  | 0, _ => run0
  | 1, _ => run1
  | 2, _ => run2
  | 3, _ => run3
  | _ + 4, h => absurd h (by omega)
theorem walk (a0 : Int) (a1 : Int) (w : World) (w0 : (Lit.int .i64 a0).wf = true) (w1 : (Lit.int .i64 a1).wf = true) :
    Calls Try.prog 5 #[.int .i64 a0, .int .i64 a1] w fun e w' => e = .returned (.bool true) ∧ Below w.heap.size w w' := by
  have hR : R.ok (va [a0, a1] []) := rg_ok (lens := []) (bls := []) (sel := false) (spl := false) (by decide) (by decide) ⟨wf_bd w0, ⟨wf_bd w1, trivial⟩⟩ (fun r hr => by cases hr)
  have hA : ArgsOk (va [a0, a1] []) w := args_ok (fun r hr => by cases hr)
  exact law_atP hR (fun _ h => cxT_ok h _ _ _ _ _) (e := andE 0 3) (lo := 0) (m := 4) (vs := #[.int .i64 a0, .int .i64 a1]) (fun N => rels_cons' (iv_rel 0 (by decide) rfl) (rels_cons' (iv_rel 1 (by decide) rfl) (rels_nil.2 rfl))) (of_decide_eq_true (by kernel_rfl)) (of_decide_eq_true (by kernel_rfl)) runs w hA

set_option maxRecDepth 100000 in
theorem lifted (os : Os) (started : os.Started) (H : Type) (enc : TypeId × Value → H) :
    ReturnsInHanded {} Try.checked os 5 .any (Rows.listsTopsSpec.pre6 enc Try.prog Try.f5 Rows.listsTopsRow.domain false) (Rows.listsTopsSpec.post enc Try.prog Try.f5 false true false false) := by
  refine returnsInHanded_of_change (C := Try.checked) own started (by kernel_rfl) Try.func5
    (ChangeSpec.witness6 (enc := enc) (C := Try.checked) false ⟨#[], #[.int .i64 0, .int .i64 0], []⟩ 8 (by kernel_rfl) (by kernel_rfl) (by kernel_rfl) (by kernel_rfl)) ?_
  intro W base args ds gs before hval0 hW hcnd _
  have hval : ∀ (j : Nat) t v, Try.f5.params[j]? = some t → args[j]? = some v → Value.okWide Try.prog W .any base t v := hval0
  have hW' := hW
  obtain ⟨p, q, hA0, hV, rfl, hfz, hnd⟩ := hW
  have hA : DataW.TrodAll enc Try.prog W 0 (fun _ => true) true Try.f5.params.toList args.toList ds p := hA0
  rw [Try.params5] at hA hval
  obtain ⟨v0, vs0, d0, ds0, p0, q0, hargs, rfl, rfl, h0, r0⟩ := trodAll_cons hA
  obtain ⟨v1, vs1, d1, ds1, p1, q1, rfl, rfl, rfl, h1, r1⟩ := trodAll_cons r0
  obtain ⟨rfl, rfl, rfl⟩ := trodAll_nil r1
  obtain rfl : args = #[v0, v1] := by cases args; simp_all
  obtain ⟨rfl, rfl⟩ := trodVars_none hV
  obtain ⟨a0, rfl, rfl, rfl, w0⟩ := open_int Try.underlying3 (hval 0 3 v0 rfl rfl) h0
  obtain ⟨a1, rfl, rfl, rfl, w1⟩ := open_int Try.underlying3 (hval 1 3 v1 rfl rfl) h1
  clear hA0 hval0
  refine (walk a0 a1 W w0 w1).mono fun e W' ⟨he, bel⟩ => ?_
  subst he
  exact ⟨_, rfl, _, _, _, [], _, [], hW', trodAll_mk1 (shut_bool Try.underlying4 _), (trodAll_cons_mk (shut_int Try.underlying3 w0) (trodAll_cons_mk (shut_int Try.underlying3 w1) trodAll_mk0)), rfl, bel.frame _, fun h => by cases h⟩

theorem over : Rows.listsTopsRow.holds Try.pinned (OpenSpec.ofChange Rows.listsTopsSpec) :=
  OpenClaim.holds_of_wide 5 Try.f5 rfl rfl rfl rfl rfl rfl rfl ⟨rfl, rfl, rfl, rfl, rfl⟩ rfl rfl rfl rfl rfl (by kernel_rfl) Try.func5 (by kernel_rfl)
    (of_decide_eq_true (by kernel_rfl)) (by unfold Func.isWrapper; first | (rw [if_pos (by decide +kernel)]; kernel_rfl) | (rw [if_neg (by decide +kernel)]; exact ⟨rfl, rfl⟩))
    (fun os started H enc _ => lifted os started H enc)

/-- The statement. -/
theorem proved : Rows.ListsTopsSaid := over
#print axioms proved
end Go.Proofs.Ytmecljahobechaa.listsTops
