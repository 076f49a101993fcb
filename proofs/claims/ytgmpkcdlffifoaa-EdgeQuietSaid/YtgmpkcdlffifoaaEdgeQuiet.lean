/- EdgeQuiet returns true for every input: it neither panics nor runs on, and what came in reads as before. Without a condition. The walk is one evaluation, in Lean's kernel, of a symbolic run that the texts Rx.. prove sound. -/
import Derived.Test.YtgmpkcdlffifoaaRows
import Derived.Test.YtgmpkcdlffifoaaRxAwake
import Derived.WalkKit
import Derived.ProofKit
import Derived.OpenShut
import Derived.ShutString
import Derived.ChangeOld
import Derived.Below
namespace Go.Proofs.Ytgmpkcdlffifoaa.edgeQuiet
open Go.ChangeShapes Go.WideShapes Go.ChangeAt Go.RowKit Go.RX Go.Proofs.Ytgmpkcdlffifoaa
set_option linter.unusedVariables false
theorem own : ownKnob Try.prog.godebug = none := by kernel_rfl
theorem laidOut : laidOutB Try.prog = true := by kernel_rfl
noncomputable def R : Rg := rg [] [] true
theorem run : (lawRun Try.prog R (cxT R (2 ^ 47) (0) (0)) 25 6 [.agg [iv 0, iv 1, iv 2, iv 3], .agg [iv 4, iv 5, iv 6, iv 7], iv 8, iv 9] []).good = true := by kernel_rfl
theorem walk (x0_0 x0_1 x0_2 x0_3 : Int) (x1_0 x1_1 x1_2 x1_3 : Int) (a2 : Int) (a3 : Int) (w : World) (w0_0 : (Lit.int .i64 x0_0).wf = true) (w0_1 : (Lit.int .i64 x0_1).wf = true) (w0_2 : (Lit.int .i64 x0_2).wf = true) (w0_3 : (Lit.int .i64 x0_3).wf = true) (w1_0 : (Lit.int .i64 x1_0).wf = true) (w1_1 : (Lit.int .i64 x1_1).wf = true) (w1_2 : (Lit.int .i64 x1_2).wf = true) (w1_3 : (Lit.int .i64 x1_3).wf = true) (w2 : (Lit.int .i64 a2).wf = true) (w3 : (Lit.int .i64 a3).wf = true) :
    Calls Try.prog 6 #[.agg #[.int .i64 x0_0, .int .i64 x0_1, .int .i64 x0_2, .int .i64 x0_3], .agg #[.int .i64 x1_0, .int .i64 x1_1, .int .i64 x1_2, .int .i64 x1_3], .int .i64 a2, .int .i64 a3] w fun e w' => e = .returned (.bool true) ∧ Below w.heap.size w w' := by
  have hR : R.ok (va [x0_0, x0_1, x0_2, x0_3, x1_0, x1_1, x1_2, x1_3, a2, a3] []) := rg_ok (by decide) (by decide) ⟨wf_bd w0_0, ⟨wf_bd w0_1, ⟨wf_bd w0_2, ⟨wf_bd w0_3, ⟨wf_bd w1_0, ⟨wf_bd w1_1, ⟨wf_bd w1_2, ⟨wf_bd w1_3, ⟨wf_bd w2, ⟨wf_bd w3, trivial⟩⟩⟩⟩⟩⟩⟩⟩⟩⟩ (fun r hr => by cases hr)
  have hA : ArgsOk (va [x0_0, x0_1, x0_2, x0_3, x1_0, x1_1, x1_2, x1_3, a2, a3] []) w := args_ok (fun r hr => by cases hr)
  exact law_at hR (cxT_ok hR _ _ _) (vs := #[.agg #[.int .i64 x0_0, .int .i64 x0_1, .int .i64 x0_2, .int .i64 x0_3], .agg #[.int .i64 x1_0, .int .i64 x1_1, .int .i64 x1_2, .int .i64 x1_3], .int .i64 a2, .int .i64 a3]) (fun N => rels_cons' (agg4_rel (iv_rel 0 (by decide) rfl) (iv_rel 1 (by decide) rfl) (iv_rel 2 (by decide) rfl) (iv_rel 3 (by decide) rfl)) (rels_cons' (agg4_rel (iv_rel 4 (by decide) rfl) (iv_rel 5 (by decide) rfl) (iv_rel 6 (by decide) rfl) (iv_rel 7 (by decide) rfl)) (rels_cons' (iv_rel 8 (by decide) rfl) (rels_cons' (iv_rel 9 (by decide) rfl) (rels_nil.2 rfl))))) run w hA

set_option maxRecDepth 100000 in
theorem lifted (os : Os) (started : os.Started) (H : Type) (enc : TypeId × Value → H) :
    ReturnsInHanded {} Try.checked os 6 .any (Rows.edgeQuietSpec.pre6 enc Try.prog Try.f6 Rows.edgeQuietRow.domain false) (Rows.edgeQuietSpec.post enc Try.prog Try.f6 false true false false) := by
  refine returnsInHanded_of_change (C := Try.checked) own started (by kernel_rfl) Try.func6
    (ChangeSpec.witness6 (enc := enc) (C := Try.checked) false ⟨#[], #[.agg #[.int .i64 0, .int .i64 0, .int .i64 0, .int .i64 0], .agg #[.int .i64 0, .int .i64 0, .int .i64 0, .int .i64 0], .int .i64 0, .int .i64 0], []⟩ 8 (by kernel_rfl) (by kernel_rfl) (by kernel_rfl) (by kernel_rfl)) ?_
  intro W base args ds gs before hval0 hW hcnd _
  have hval : ∀ (j : Nat) t v, Try.f6.params[j]? = some t → args[j]? = some v → Value.okWide Try.prog W .any base t v := hval0
  have hW' := hW
  obtain ⟨p, q, hA0, hV, rfl, hfz, hnd⟩ := hW
  have hA : DataW.TrodAll enc Try.prog W 0 (fun _ => true) true Try.f6.params.toList args.toList ds p := hA0
  rw [Try.params6] at hA hval
  obtain ⟨v0, vs0, d0, ds0, p0, q0, hargs, rfl, rfl, h0, r0⟩ := trodAll_cons hA
  obtain ⟨v1, vs1, d1, ds1, p1, q1, rfl, rfl, rfl, h1, r1⟩ := trodAll_cons r0
  obtain ⟨v2, vs2, d2, ds2, p2, q2, rfl, rfl, rfl, h2, r2⟩ := trodAll_cons r1
  obtain ⟨v3, vs3, d3, ds3, p3, q3, rfl, rfl, rfl, h3, r3⟩ := trodAll_cons r2
  obtain ⟨rfl, rfl, rfl⟩ := trodAll_nil r3
  obtain rfl : args = #[v0, v1, v2, v3] := by cases args; simp_all
  obtain ⟨rfl, rfl⟩ := trodVars_none hV
  have k0 := h0
  have lt0 : ∀ x ∈ p0, x.block < W.heap.size := by obtain ⟨m, hm⟩ := k0; exact DataW.trod_lt m _ _ _ hm
  obtain ⟨z0, rfl, lz0, wz0⟩ := open_row Try.underlying27 Try.underlying3 (by kernel_rfl) (by kernel_rfl) (hval 0 27 v0 rfl rfl) h0
  obtain ⟨x0_0, x0_1, x0_2, x0_3, rfl⟩ := four_of lz0
  have w0_0 := wz0 x0_0 (by simp)
  have w0_1 := wz0 x0_1 (by simp)
  have w0_2 := wz0 x0_2 (by simp)
  have w0_3 := wz0 x0_3 (by simp)
  have k1 := h1
  have lt1 : ∀ x ∈ p1, x.block < W.heap.size := by obtain ⟨m, hm⟩ := k1; exact DataW.trod_lt m _ _ _ hm
  obtain ⟨z1, rfl, lz1, wz1⟩ := open_row Try.underlying27 Try.underlying3 (by kernel_rfl) (by kernel_rfl) (hval 1 27 v1 rfl rfl) h1
  obtain ⟨x1_0, x1_1, x1_2, x1_3, rfl⟩ := four_of lz1
  have w1_0 := wz1 x1_0 (by simp)
  have w1_1 := wz1 x1_1 (by simp)
  have w1_2 := wz1 x1_2 (by simp)
  have w1_3 := wz1 x1_3 (by simp)
  obtain ⟨a2, rfl, rfl, rfl, w2⟩ := open_int Try.underlying3 (hval 2 3 v2 rfl rfl) h2
  obtain ⟨a3, rfl, rfl, rfl, w3⟩ := open_int Try.underlying3 (hval 3 3 v3 rfl rfl) h3
  clear hA0 hval0
  refine (walk x0_0 x0_1 x0_2 x0_3 x1_0 x1_1 x1_2 x1_3 a2 a3 W w0_0 w0_1 w0_2 w0_3 w1_0 w1_1 w1_2 w1_3 w2 w3).mono fun e W' ⟨he, bel⟩ => ?_
  subst he
  exact ⟨_, rfl, _, _, _, [], _, [], hW', trodAll_mk1 (shut_bool Try.underlying4 _), (trodAll_cons_mk (Below.trod laidOut (by kernel_rfl) (of_decide_eq_true (by kernel_rfl)) k0 bel lt0) (trodAll_cons_mk (Below.trod laidOut (by kernel_rfl) (of_decide_eq_true (by kernel_rfl)) k1 bel lt1) (trodAll_cons_mk (shut_int Try.underlying3 w2) (trodAll_cons_mk (shut_int Try.underlying3 w3) trodAll_mk0)))), rfl, bel.frame _, fun h => by cases h⟩

theorem over : Rows.edgeQuietRow.holds Try.pinned (OpenSpec.ofChange Rows.edgeQuietSpec) :=
  OpenClaim.holds_of_wide 6 Try.f6 rfl rfl rfl rfl rfl rfl rfl ⟨rfl, rfl, rfl, rfl, rfl⟩ rfl rfl rfl rfl rfl (by kernel_rfl) Try.func6 (by kernel_rfl)
    (of_decide_eq_true (by kernel_rfl)) (by unfold Func.isWrapper; first | (rw [if_pos (by decide +kernel)]; kernel_rfl) | (rw [if_neg (by decide +kernel)]; exact ⟨rfl, rfl⟩))
    (fun os started H enc _ => lifted os started H enc)

/-- The statement. -/
theorem proved : Rows.EdgeQuietSaid := over
#print axioms proved
end Go.Proofs.Ytgmpkcdlffifoaa.edgeQuiet
