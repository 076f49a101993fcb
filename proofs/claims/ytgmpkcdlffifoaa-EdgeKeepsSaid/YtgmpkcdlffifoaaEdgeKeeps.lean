/- EdgeKeeps returns true for every input: it neither panics nor runs on, and what came in reads as before. Without a condition. The walk is one evaluation, in Lean's kernel, of a symbolic run that the texts Rx.. prove sound. -/
import Derived.Test.YtgmpkcdlffifoaaRows
import Derived.Test.YtgmpkcdlffifoaaRxAwake
import Derived.Test.YtgmpkcdlffifoaaEdgeKeepsR
import Derived.Test.YtgmpkcdlffifoaaEdgeKeepsP0
import Derived.Test.YtgmpkcdlffifoaaEdgeKeepsP1
import Derived.Test.YtgmpkcdlffifoaaEdgeKeepsP2
import Derived.Test.YtgmpkcdlffifoaaEdgeKeepsP3
import Derived.WalkKit
import Derived.ProofKit
import Derived.OpenShut
import Derived.ShutString
import Derived.ChangeOld
import Derived.Below
namespace Go.Proofs.Ytgmpkcdlffifoaa.edgeKeeps
open Go.ChangeShapes Go.WideShapes Go.ChangeAt Go.RowKit Go.RX Go.Proofs.Ytgmpkcdlffifoaa
set_option linter.unusedVariables false
theorem own : ownKnob Try.prog.godebug = none := by kernel_rfl
theorem laidOut : laidOutB Try.prog = true := by kernel_rfl
theorem runs0 : ∀ j : Nat, j < 4 → (lawRunF Try.prog R (cxT R (2 ^ 11 + 2 ^ 13 + 2 ^ 15) (0) (0) (2 ^ 26)) 25 9 [iv 0, iv 1, iv 2, iv 3] (isE (andE 3 1) ((0) + ((0 : Nat) : Int)) ++ isE (umdE 2 4) ((0) + (j : Int))) [andE 0 1]).good = true
  | 0, _ => run0_0
  | 1, _ => run0_1
  | 2, _ => run0_2
  | 3, _ => run0_3
  | _ + 4, h => absurd h (by omega)
theorem runs1 : ∀ j : Nat, j < 4 → (lawRunF Try.prog R (cxT R (2 ^ 11 + 2 ^ 13 + 2 ^ 15) (0) (0) (2 ^ 26)) 25 9 [iv 0, iv 1, iv 2, iv 3] (isE (andE 3 1) ((0) + ((1 : Nat) : Int)) ++ isE (umdE 2 4) ((0) + (j : Int))) [andE 0 1]).good = true
  | 0, _ => run1_0
  | 1, _ => run1_1
  | 2, _ => run1_2
  | 3, _ => run1_3
  | _ + 4, h => absurd h (by omega)
theorem runs : ∀ i : Nat, i < 2 → ∀ j : Nat, j < 4 → (lawRunF Try.prog R (cxT R (2 ^ 11 + 2 ^ 13 + 2 ^ 15) (0) (0) (2 ^ 26)) 25 9 [iv 0, iv 1, iv 2, iv 3] (isE (andE 3 1) ((0) + (i : Int)) ++ isE (umdE 2 4) ((0) + (j : Int))) [andE 0 1]).good = true
  | 0, _ => runs0
  | 1, _ => runs1
  | _ + 2, h => absurd h (by omega)
theorem walk (a0 : Int) (a1 : Int) (a2 : Int) (a3 : Int) (w : World) (w0 : (Lit.int .i64 a0).wf = true) (w1 : (Lit.int .i64 a1).wf = true) (w2 : (Lit.int .i64 a2).wf = true) (w3 : (Lit.int .i64 a3).wf = true) :
    Calls Try.prog 9 #[.int .i64 a0, .int .i64 a1, .int .i64 a2, .int .i64 a3] w fun e w' => e = .returned (.bool true) ∧ Below w.heap.size w w' := by
  have hR : R.ok (va [a0, a1, a2, a3] []) := rg_ok (by decide) (by decide) ⟨wf_bd w0, ⟨wf_bd w1, ⟨wf_bd w2, ⟨wf_bd w3, trivial⟩⟩⟩⟩ (fun r hr => by cases hr)
  have hA : ArgsOk (va [a0, a1, a2, a3] []) w := args_ok (fun r hr => by cases hr)
  exact law_atP2 hR (cxT_ok hR _ _ _ _) (e := andE 3 1) (lo := 0) (m := 2) (e' := umdE 2 4) (lo' := 0) (m' := 4) (vs := #[.int .i64 a0, .int .i64 a1, .int .i64 a2, .int .i64 a3]) (fun N => rels_cons' (iv_rel 0 (by decide) rfl) (rels_cons' (iv_rel 1 (by decide) rfl) (rels_cons' (iv_rel 2 (by decide) rfl) (rels_cons' (iv_rel 3 (by decide) rfl) (rels_nil.2 rfl))))) (of_decide_eq_true (by kernel_rfl)) (of_decide_eq_true (by kernel_rfl)) (of_decide_eq_true (by kernel_rfl)) (of_decide_eq_true (by kernel_rfl)) runs w hA

set_option maxRecDepth 100000 in
theorem lifted (os : Os) (started : os.Started) (H : Type) (enc : TypeId × Value → H) :
    ReturnsInHanded {} Try.checked os 9 .any (Rows.edgeKeepsSpec.pre6 enc Try.prog Try.f9 Rows.edgeKeepsRow.domain false) (Rows.edgeKeepsSpec.post enc Try.prog Try.f9 false true false false) := by
  refine returnsInHanded_of_change (C := Try.checked) own started (by kernel_rfl) Try.func9
    (ChangeSpec.witness6 (enc := enc) (C := Try.checked) false ⟨#[], #[.int .i64 0, .int .i64 0, .int .i64 0, .int .i64 0], []⟩ 8 (by kernel_rfl) (by kernel_rfl) (by kernel_rfl) (by kernel_rfl)) ?_
  intro W base args ds gs before hval0 hW hcnd _
  have hval : ∀ (j : Nat) t v, Try.f9.params[j]? = some t → args[j]? = some v → Value.okWide Try.prog W .any base t v := hval0
  have hW' := hW
  obtain ⟨p, q, hA0, hV, rfl, hfz, hnd⟩ := hW
  have hA : DataW.TrodAll enc Try.prog W 0 (fun _ => true) true Try.f9.params.toList args.toList ds p := hA0
  rw [Try.params9] at hA hval
  obtain ⟨v0, vs0, d0, ds0, p0, q0, hargs, rfl, rfl, h0, r0⟩ := trodAll_cons hA
  obtain ⟨v1, vs1, d1, ds1, p1, q1, rfl, rfl, rfl, h1, r1⟩ := trodAll_cons r0
  obtain ⟨v2, vs2, d2, ds2, p2, q2, rfl, rfl, rfl, h2, r2⟩ := trodAll_cons r1
  obtain ⟨v3, vs3, d3, ds3, p3, q3, rfl, rfl, rfl, h3, r3⟩ := trodAll_cons r2
  obtain ⟨rfl, rfl, rfl⟩ := trodAll_nil r3
  obtain rfl : args = #[v0, v1, v2, v3] := by cases args; simp_all
  obtain ⟨rfl, rfl⟩ := trodVars_none hV
  obtain ⟨a0, rfl, rfl, rfl, w0⟩ := open_int Try.underlying3 (hval 0 3 v0 rfl rfl) h0
  obtain ⟨a1, rfl, rfl, rfl, w1⟩ := open_int Try.underlying3 (hval 1 3 v1 rfl rfl) h1
  obtain ⟨a2, rfl, rfl, rfl, w2⟩ := open_int Try.underlying3 (hval 2 3 v2 rfl rfl) h2
  obtain ⟨a3, rfl, rfl, rfl, w3⟩ := open_int Try.underlying3 (hval 3 3 v3 rfl rfl) h3
  clear hA0 hval0
  refine (walk a0 a1 a2 a3 W w0 w1 w2 w3).mono fun e W' ⟨he, bel⟩ => ?_
  subst he
  exact ⟨_, rfl, _, _, _, [], _, [], hW', trodAll_mk1 (shut_bool Try.underlying4 _), (trodAll_cons_mk (shut_int Try.underlying3 w0) (trodAll_cons_mk (shut_int Try.underlying3 w1) (trodAll_cons_mk (shut_int Try.underlying3 w2) (trodAll_cons_mk (shut_int Try.underlying3 w3) trodAll_mk0)))), rfl, bel.frame _, fun h => by cases h⟩

theorem over : Rows.edgeKeepsRow.holds Try.pinned (OpenSpec.ofChange Rows.edgeKeepsSpec) :=
  OpenClaim.holds_of_wide 9 Try.f9 rfl rfl rfl rfl rfl rfl rfl ⟨rfl, rfl, rfl, rfl, rfl⟩ rfl rfl rfl rfl rfl (by kernel_rfl) Try.func9 (by kernel_rfl)
    (of_decide_eq_true (by kernel_rfl)) (by unfold Func.isWrapper; first | (rw [if_pos (by decide +kernel)]; kernel_rfl) | (rw [if_neg (by decide +kernel)]; exact ⟨rfl, rfl⟩))
    (fun os started H enc _ => lifted os started H enc)

/-- The statement. -/
theorem proved : Rows.EdgeKeepsSaid := over
#print axioms proved
end Go.Proofs.Ytgmpkcdlffifoaa.edgeKeeps
