/- EdgeNear returns true for every input: it neither panics nor runs on, and what came in reads as before. Without a condition. The walk is one evaluation, in Lean's kernel, of a symbolic run that the texts Rx.. prove sound. -/
import Derived.Test.YtgmpkcdlffifoaaRows
import Derived.Test.YtgmpkcdlffifoaaRxAwake
import Derived.Test.YtgmpkcdlffifoaaEdgeNearR
import Derived.Test.YtgmpkcdlffifoaaEdgeNearP0
import Derived.Test.YtgmpkcdlffifoaaEdgeNearP1
import Derived.Test.YtgmpkcdlffifoaaEdgeNearP2
import Derived.Test.YtgmpkcdlffifoaaEdgeNearP3
import Derived.WalkKit
import Derived.ProofKit
import Derived.OpenShut
import Derived.ShutString
import Derived.ChangeOld
import Derived.Below
namespace Go.Proofs.Ytgmpkcdlffifoaa.edgeNear
open Go.ChangeShapes Go.WideShapes Go.ChangeAt Go.RowKit Go.RX Go.Proofs.Ytgmpkcdlffifoaa
set_option linter.unusedVariables false
theorem own : ownKnob Try.prog.godebug = none := by kernel_rfl
theorem laidOut : laidOutB Try.prog = true := by kernel_rfl
theorem runs0 : ∀ j : Nat, j < 2 → (lawRunF Try.prog R (cxT R (2 ^ 47) (2 ^ 10) (0) (2 ^ 26)) 25 10 [.agg [iv 0, iv 1, iv 2, iv 3], .agg [iv 4, iv 5, iv 6, iv 7], iv 8, iv 9, bv 10] (isE (andE 8 3) ((0) + ((0 : Nat) : Int)) ++ isE (.atom (.var 10)) ((0) + (j : Int))) []).good = true
  | 0, _ => run0_0
  | 1, _ => run0_1
  | _ + 2, h => absurd h (by omega)
theorem runs1 : ∀ j : Nat, j < 2 → (lawRunF Try.prog R (cxT R (2 ^ 47) (2 ^ 10) (0) (2 ^ 26)) 25 10 [.agg [iv 0, iv 1, iv 2, iv 3], .agg [iv 4, iv 5, iv 6, iv 7], iv 8, iv 9, bv 10] (isE (andE 8 3) ((0) + ((1 : Nat) : Int)) ++ isE (.atom (.var 10)) ((0) + (j : Int))) []).good = true
  | 0, _ => run1_0
  | 1, _ => run1_1
  | _ + 2, h => absurd h (by omega)
theorem runs2 : ∀ j : Nat, j < 2 → (lawRunF Try.prog R (cxT R (2 ^ 47) (2 ^ 10) (0) (2 ^ 26)) 25 10 [.agg [iv 0, iv 1, iv 2, iv 3], .agg [iv 4, iv 5, iv 6, iv 7], iv 8, iv 9, bv 10] (isE (andE 8 3) ((0) + ((2 : Nat) : Int)) ++ isE (.atom (.var 10)) ((0) + (j : Int))) []).good = true
  | 0, _ => run2_0
  | 1, _ => run2_1
  | _ + 2, h => absurd h (by omega)
theorem runs3 : ∀ j : Nat, j < 2 → (lawRunF Try.prog R (cxT R (2 ^ 47) (2 ^ 10) (0) (2 ^ 26)) 25 10 [.agg [iv 0, iv 1, iv 2, iv 3], .agg [iv 4, iv 5, iv 6, iv 7], iv 8, iv 9, bv 10] (isE (andE 8 3) ((0) + ((3 : Nat) : Int)) ++ isE (.atom (.var 10)) ((0) + (j : Int))) []).good = true
  | 0, _ => run3_0
  | 1, _ => run3_1
  | _ + 2, h => absurd h (by omega)
theorem runs : ∀ i : Nat, i < 4 → ∀ j : Nat, j < 2 → (lawRunF Try.prog R (cxT R (2 ^ 47) (2 ^ 10) (0) (2 ^ 26)) 25 10 [.agg [iv 0, iv 1, iv 2, iv 3], .agg [iv 4, iv 5, iv 6, iv 7], iv 8, iv 9, bv 10] (isE (andE 8 3) ((0) + (i : Int)) ++ isE (.atom (.var 10)) ((0) + (j : Int))) []).good = true
  | 0, _ => runs0
  | 1, _ => runs1
  | 2, _ => runs2
  | 3, _ => runs3
  | _ + 4, h => absurd h (by omega)
theorem walk (x0_0 x0_1 x0_2 x0_3 : Int) (x1_0 x1_1 x1_2 x1_3 : Int) (a2 : Int) (a3 : Int) (a4 : Bool) (w : World) (w0_0 : (Lit.int .i64 x0_0).wf = true) (w0_1 : (Lit.int .i64 x0_1).wf = true) (w0_2 : (Lit.int .i64 x0_2).wf = true) (w0_3 : (Lit.int .i64 x0_3).wf = true) (w1_0 : (Lit.int .i64 x1_0).wf = true) (w1_1 : (Lit.int .i64 x1_1).wf = true) (w1_2 : (Lit.int .i64 x1_2).wf = true) (w1_3 : (Lit.int .i64 x1_3).wf = true) (w2 : (Lit.int .i64 a2).wf = true) (w3 : (Lit.int .i64 a3).wf = true) :
    Calls Try.prog 10 #[.agg #[.int .i64 x0_0, .int .i64 x0_1, .int .i64 x0_2, .int .i64 x0_3], .agg #[.int .i64 x1_0, .int .i64 x1_1, .int .i64 x1_2, .int .i64 x1_3], .int .i64 a2, .int .i64 a3, .bool a4] w fun e w' => e = .returned (.bool true) ∧ Below w.heap.size w w' := by
  have hR : R.ok (va [x0_0, x0_1, x0_2, x0_3, x1_0, x1_1, x1_2, x1_3, a2, a3, b01 a4] []) := rg_ok (lens := []) (bls := [10]) (sel := true) (spl := false) (by decide) (by decide) ⟨wf_bd w0_0, ⟨wf_bd w0_1, ⟨wf_bd w0_2, ⟨wf_bd w0_3, ⟨wf_bd w1_0, ⟨wf_bd w1_1, ⟨wf_bd w1_2, ⟨wf_bd w1_3, ⟨wf_bd w2, ⟨wf_bd w3, ⟨b01_bd a4, trivial⟩⟩⟩⟩⟩⟩⟩⟩⟩⟩⟩ (fun r hr => by cases hr)
  have hA : ArgsOk (va [x0_0, x0_1, x0_2, x0_3, x1_0, x1_1, x1_2, x1_3, a2, a3, b01 a4] []) w := args_ok (fun r hr => by cases hr)
  exact law_atP2 hR (cxT_ok hR _ _ _ _) (e := andE 8 3) (lo := 0) (m := 4) (e' := .atom (.var 10)) (lo' := 0) (m' := 2) (vs := #[.agg #[.int .i64 x0_0, .int .i64 x0_1, .int .i64 x0_2, .int .i64 x0_3], .agg #[.int .i64 x1_0, .int .i64 x1_1, .int .i64 x1_2, .int .i64 x1_3], .int .i64 a2, .int .i64 a3, .bool a4]) (fun N => rels_cons' (agg4_rel (iv_rel 0 (by decide) rfl) (iv_rel 1 (by decide) rfl) (iv_rel 2 (by decide) rfl) (iv_rel 3 (by decide) rfl)) (rels_cons' (agg4_rel (iv_rel 4 (by decide) rfl) (iv_rel 5 (by decide) rfl) (iv_rel 6 (by decide) rfl) (iv_rel 7 (by decide) rfl)) (rels_cons' (iv_rel 8 (by decide) rfl) (rels_cons' (iv_rel 9 (by decide) rfl) (rels_cons' (bv_rel 10 (by decide) rfl) (rels_nil.2 rfl)))))) (of_decide_eq_true (by kernel_rfl)) (of_decide_eq_true (by kernel_rfl)) (of_decide_eq_true (by kernel_rfl)) (of_decide_eq_true (by kernel_rfl)) runs w hA

set_option maxRecDepth 100000 in
theorem lifted (os : Os) (started : os.Started) (H : Type) (enc : TypeId × Value → H) :
    ReturnsInHanded {} Try.checked os 10 .any (Rows.edgeNearSpec.pre6 enc Try.prog Try.f10 Rows.edgeNearRow.domain false) (Rows.edgeNearSpec.post enc Try.prog Try.f10 false true false false) := by
  refine returnsInHanded_of_change (C := Try.checked) own started (by kernel_rfl) Try.func10
    (ChangeSpec.witness6 (enc := enc) (C := Try.checked) false ⟨#[], #[.agg #[.int .i64 0, .int .i64 0, .int .i64 0, .int .i64 0], .agg #[.int .i64 0, .int .i64 0, .int .i64 0, .int .i64 0], .int .i64 0, .int .i64 0, .bool false], []⟩ 8 (by kernel_rfl) (by kernel_rfl) (by kernel_rfl) (by kernel_rfl)) ?_
  intro W base args ds gs before hval0 hW hcnd _
  have hval : ∀ (j : Nat) t v, Try.f10.params[j]? = some t → args[j]? = some v → Value.okWide Try.prog W .any base t v := hval0
  have hW' := hW
  obtain ⟨p, q, hA0, hV, rfl, hfz, hnd⟩ := hW
  have hA : DataW.TrodAll enc Try.prog W 0 (fun _ => true) true Try.f10.params.toList args.toList ds p := hA0
  rw [Try.params10] at hA hval
  obtain ⟨v0, vs0, d0, ds0, p0, q0, hargs, rfl, rfl, h0, r0⟩ := trodAll_cons hA
  obtain ⟨v1, vs1, d1, ds1, p1, q1, rfl, rfl, rfl, h1, r1⟩ := trodAll_cons r0
  obtain ⟨v2, vs2, d2, ds2, p2, q2, rfl, rfl, rfl, h2, r2⟩ := trodAll_cons r1
  obtain ⟨v3, vs3, d3, ds3, p3, q3, rfl, rfl, rfl, h3, r3⟩ := trodAll_cons r2
  obtain ⟨v4, vs4, d4, ds4, p4, q4, rfl, rfl, rfl, h4, r4⟩ := trodAll_cons r3
  obtain ⟨rfl, rfl, rfl⟩ := trodAll_nil r4
  obtain rfl : args = #[v0, v1, v2, v3, v4] := by cases args; simp_all
  obtain ⟨rfl, rfl⟩ := trodVars_none hV
  have k0 := h0
  have lt0 : ∀ x ∈ p0, x.block < W.heap.size := by obtain ⟨m, hm⟩ := k0; exact DataW.trod_lt m _ _ _ hm
  obtain ⟨z0, rfl, lz0, wz0⟩ := open_row Try.underlying27 Try.underlying3 (by kernel_rfl) (by kernel_rfl) (hval 0 27 v0 rfl rfl) h0
  obtain ⟨x0_0, x0_1, x0_2, x0_3, rfl⟩ := four_of lz0
  have w0_0 := wz0 x0_0 (by simp)
  have w0_1 := wz0 x0_1 (by simp)
  have w0_2 := wz0 x0_2 (by simp)
  have w0_3 := wz0 x0_3 (by simp)
  have k1 := h1
  have lt1 : ∀ x ∈ p1, x.block < W.heap.size := by obtain ⟨m, hm⟩ := k1; exact DataW.trod_lt m _ _ _ hm
  obtain ⟨z1, rfl, lz1, wz1⟩ := open_row Try.underlying27 Try.underlying3 (by kernel_rfl) (by kernel_rfl) (hval 1 27 v1 rfl rfl) h1
  obtain ⟨x1_0, x1_1, x1_2, x1_3, rfl⟩ := four_of lz1
  have w1_0 := wz1 x1_0 (by simp)
  have w1_1 := wz1 x1_1 (by simp)
  have w1_2 := wz1 x1_2 (by simp)
  have w1_3 := wz1 x1_3 (by simp)
  obtain ⟨a2, rfl, rfl, rfl, w2⟩ := open_int Try.underlying3 (hval 2 3 v2 rfl rfl) h2
  obtain ⟨a3, rfl, rfl, rfl, w3⟩ := open_int Try.underlying3 (hval 3 3 v3 rfl rfl) h3
  obtain ⟨a4, rfl, rfl, rfl⟩ := open_bool Try.underlying4 (hval 4 4 v4 rfl rfl) h4
  clear hA0 hval0
  refine (walk x0_0 x0_1 x0_2 x0_3 x1_0 x1_1 x1_2 x1_3 a2 a3 a4 W w0_0 w0_1 w0_2 w0_3 w1_0 w1_1 w1_2 w1_3 w2 w3).mono fun e W' ⟨he, bel⟩ => ?_
  subst he
  exact ⟨_, rfl, _, _, _, [], _, [], hW', trodAll_mk1 (shut_bool Try.underlying4 _), (trodAll_cons_mk (Below.trod laidOut (by kernel_rfl) (of_decide_eq_true (by kernel_rfl)) k0 bel lt0) (trodAll_cons_mk (Below.trod laidOut (by kernel_rfl) (of_decide_eq_true (by kernel_rfl)) k1 bel lt1) (trodAll_cons_mk (shut_int Try.underlying3 w2) (trodAll_cons_mk (shut_int Try.underlying3 w3) (trodAll_cons_mk (shut_bool Try.underlying4 _) trodAll_mk0))))), rfl, bel.frame _, fun h => by cases h⟩

theorem over : Rows.edgeNearRow.holds Try.pinned (OpenSpec.ofChange Rows.edgeNearSpec) :=
  OpenClaim.holds_of_wide 10 Try.f10 rfl rfl rfl rfl rfl rfl rfl ⟨rfl, rfl, rfl, rfl, rfl⟩ rfl rfl rfl rfl rfl (by kernel_rfl) Try.func10 (by kernel_rfl)
    (of_decide_eq_true (by kernel_rfl)) (by unfold Func.isWrapper; first | (rw [if_pos (by decide +kernel)]; kernel_rfl) | (rw [if_neg (by decide +kernel)]; exact ⟨rfl, rfl⟩))
    (fun os started H enc _ => lifted os started H enc)

/-- The statement. -/
theorem proved : Rows.EdgeNearSaid := over
#print axioms proved
end Go.Proofs.Ytgmpkcdlffifoaa.edgeNear
