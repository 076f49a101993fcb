/- BumpFrames returns true for every input: it neither panics nor runs on, and what came in reads as before. Without a condition. The walk is one evaluation, in Lean's kernel, of a symbolic run that the texts Rx.. prove sound. -/
import Derived.Test.YtmaggffcjemagaaRows
import Derived.Test.YtmaggffcjemagaaRxAwake
import Derived.Test.YtmaggffcjemagaaBumpFramesR
import Derived.Test.YtmaggffcjemagaaBumpFramesP0
import Derived.Test.YtmaggffcjemagaaBumpFramesP1
import Derived.Test.YtmaggffcjemagaaBumpFramesP2
import Derived.Test.YtmaggffcjemagaaBumpFramesP3
import Derived.Test.YtmaggffcjemagaaBumpFramesP4
import Derived.Test.YtmaggffcjemagaaBumpFramesP5
import Derived.Test.YtmaggffcjemagaaBumpFramesP6
import Derived.Test.YtmaggffcjemagaaBumpFramesP7
import Derived.WalkKit
import Derived.ProofKit
import Derived.OpenShut
import Derived.ShutString
import Derived.ChangeOld
import Derived.Below
namespace Go.Proofs.Ytmaggffcjemagaa.bumpFrames
open Go.ChangeShapes Go.WideShapes Go.ChangeAt Go.RowKit Go.RX Go.Proofs.Ytmaggffcjemagaa
set_option linter.unusedVariables false
theorem own : ownKnob Try.prog.godebug = none := by kernel_rfl
theorem laidOut : laidOutB Try.prog = true := by kernel_rfl
theorem runs : ∀ i : Nat, i < 8 → (lawRunF Try.prog R (cxT R (0) (0) (0) (0) (2 ^ 11)) 25 5 [iv 0] (isE (andE 0 7) ((0) + (i : Int))) []).good = true
  | 0, _ => run0
  | 1, _ => run1
  | 2, _ => run2
  | 3, _ => run3
  | 4, _ => run4
  | 5, _ => run5
  | 6, _ => run6
  | 7, _ => run7
  | _ + 8, h => absurd h (by omega)
theorem walk (a0 : Int) (w : World) (w0 : (Lit.int .i64 a0).wf = true) :
    Calls Try.prog 5 #[.int .i64 a0] w fun e w' => e = .returned (.bool true) ∧ Below w.heap.size w w' := by
  have hR : R.ok (va [a0] []) := rg_ok (lens := []) (bls := []) (sel := false) (spl := false) (by decide) (by decide) ⟨wf_bd w0, trivial⟩ (fun r hr => by cases hr)
  have hA : ArgsOk (va [a0] []) w := args_ok (fun r hr => by cases hr)
  exact law_atP hR (fun _ h => cxT_ok h _ _ _ _ _) (e := andE 0 7) (lo := 0) (m := 8) (vs := #[.int .i64 a0]) (fun N => rels_cons' (iv_rel 0 (by decide) rfl) (rels_nil.2 rfl)) (of_decide_eq_true (by kernel_rfl)) (of_decide_eq_true (by kernel_rfl)) runs w hA

set_option maxRecDepth 100000 in
theorem lifted (os : Os) (started : os.Started) (H : Type) (enc : TypeId × Value → H) :
    ReturnsInHanded {} Try.checked os 5 .any (Rows.bumpFramesSpec.pre6 enc Try.prog Try.f5 Rows.bumpFramesRow.domain false) (Rows.bumpFramesSpec.post enc Try.prog Try.f5 false true false false) := by
  refine returnsInHanded_of_change (C := Try.checked) own started (by kernel_rfl) Try.func5
    (ChangeSpec.witness6 (enc := enc) (C := Try.checked) false ⟨#[], #[.int .i64 0], []⟩ 8 (by kernel_rfl) (by kernel_rfl) (by kernel_rfl) (by kernel_rfl)) ?_
  intro W base args ds gs before hval0 hW hcnd _
  have hval : ∀ (j : Nat) t v, Try.f5.params[j]? = some t → args[j]? = some v → Value.okWide Try.prog W .any base t v := hval0
  have hW' := hW
  obtain ⟨p, q, hA0, hV, rfl, hfz, hnd⟩ := hW
  have hA : DataW.TrodAll enc Try.prog W 0 (fun _ => true) true Try.f5.params.toList args.toList ds p := hA0
  rw [Try.params5] at hA hval
  obtain ⟨v0, vs0, d0, ds0, p0, q0, hargs, rfl, rfl, h0, r0⟩ := trodAll_cons hA
  obtain ⟨rfl, rfl, rfl⟩ := trodAll_nil r0
  obtain rfl : args = #[v0] := by cases args; simp_all
  obtain ⟨rfl, rfl⟩ := trodVars_none hV
  obtain ⟨a0, rfl, rfl, rfl, w0⟩ := open_int Try.underlying3 (hval 0 3 v0 rfl rfl) h0
  clear hA0 hval0
  refine (walk a0 W w0).mono fun e W' ⟨he, bel⟩ => ?_
  subst he
  exact ⟨_, rfl, _, _, _, [], _, [], hW', trodAll_mk1 (shut_bool Try.underlying4 _), (trodAll_cons_mk (shut_int Try.underlying3 w0) trodAll_mk0), rfl, bel.frame _, fun h => by cases h⟩

theorem over : Rows.bumpFramesRow.holds Try.pinned (OpenSpec.ofChange Rows.bumpFramesSpec) :=
  OpenClaim.holds_of_wide 5 Try.f5 rfl rfl rfl rfl rfl rfl rfl ⟨rfl, rfl, rfl, rfl, rfl⟩ rfl rfl rfl rfl rfl (by kernel_rfl) Try.func5 (by kernel_rfl)
    (of_decide_eq_true (by kernel_rfl)) (by unfold Func.isWrapper; first | (rw [if_pos (by decide +kernel)]; kernel_rfl) | (rw [if_neg (by decide +kernel)]; exact ⟨rfl, rfl⟩))
    (fun os started H enc _ => lifted os started H enc)

/-- The statement. -/
theorem proved : Rows.BumpFramesSaid := over
#print axioms proved
end Go.Proofs.Ytmaggffcjemagaa.bumpFrames
