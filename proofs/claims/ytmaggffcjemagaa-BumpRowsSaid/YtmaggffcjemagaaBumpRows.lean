/- BumpRows returns true for every input: it neither panics nor runs on, and what came in reads as before. Without a condition. The walk is one evaluation, in Lean's kernel, of a symbolic run that the texts Rx.. prove sound. -/
import Derived.Test.YtmaggffcjemagaaRows
import Derived.Test.YtmaggffcjemagaaRxAwake
import Derived.Test.YtmaggffcjemagaaBumpRowsR
import Derived.Test.YtmaggffcjemagaaBumpRowsP0
import Derived.Test.YtmaggffcjemagaaBumpRowsP1
import Derived.Test.YtmaggffcjemagaaBumpRowsP2
import Derived.Test.YtmaggffcjemagaaBumpRowsP3
import Derived.Test.YtmaggffcjemagaaBumpRowsP4
import Derived.Test.YtmaggffcjemagaaBumpRowsP5
import Derived.Test.YtmaggffcjemagaaBumpRowsP6
import Derived.Test.YtmaggffcjemagaaBumpRowsP7
import Derived.Test.YtmaggffcjemagaaBumpRowsP8
import Derived.Test.YtmaggffcjemagaaBumpRowsP9
import Derived.Test.YtmaggffcjemagaaBumpRowsP10
import Derived.Test.YtmaggffcjemagaaBumpRowsP11
import Derived.Test.YtmaggffcjemagaaBumpRowsP12
import Derived.Test.YtmaggffcjemagaaBumpRowsP13
import Derived.Test.YtmaggffcjemagaaBumpRowsP14
import Derived.Test.YtmaggffcjemagaaBumpRowsP15
import Derived.Test.YtmaggffcjemagaaBumpRowsP16
import Derived.Test.YtmaggffcjemagaaBumpRowsP17
import Derived.Test.YtmaggffcjemagaaBumpRowsP18
import Derived.Test.YtmaggffcjemagaaBumpRowsP19
import Derived.Test.YtmaggffcjemagaaBumpRowsP20
import Derived.Test.YtmaggffcjemagaaBumpRowsP21
import Derived.WalkKit
import Derived.ProofKit
import Derived.OpenShut
import Derived.ShutString
import Derived.ChangeOld
import Derived.Below
namespace Go.Proofs.Ytmaggffcjemagaa.bumpRows
open Go.ChangeShapes Go.WideShapes Go.ChangeAt Go.RowKit Go.RX Go.Proofs.Ytmaggffcjemagaa
set_option linter.unusedVariables false
theorem own : ownKnob Try.prog.godebug = none := by kernel_rfl
theorem laidOut : laidOutB Try.prog = true := by kernel_rfl
theorem runs0 : ∀ j : Nat, j < 4 → (lawRunF Try.prog R (cxT R (0) (0) (0) (0) (2 ^ 11)) 25 4 [iv 0, iv 1] (isE (andE 0 15) ((0) + ((0 : Nat) : Int)) ++ isE (andE 1 3) ((0) + (j : Int))) []).good = true
  | 0, _ => run0_0
  | 1, _ => run0_1
  | 2, _ => run0_2
  | 3, _ => run0_3
  | _ + 4, h => absurd h (by omega)
theorem runs1 : ∀ j : Nat, j < 4 → (lawRunF Try.prog R (cxT R (0) (0) (0) (0) (2 ^ 11)) 25 4 [iv 0, iv 1] (isE (andE 0 15) ((0) + ((1 : Nat) : Int)) ++ isE (andE 1 3) ((0) + (j : Int))) []).good = true
  | 0, _ => run1_0
  | 1, _ => run1_1
  | 2, _ => run1_2
  | 3, _ => run1_3
  | _ + 4, h => absurd h (by omega)
theorem runs2 : ∀ j : Nat, j < 4 → (lawRunF Try.prog R (cxT R (0) (0) (0) (0) (2 ^ 11)) 25 4 [iv 0, iv 1] (isE (andE 0 15) ((0) + ((2 : Nat) : Int)) ++ isE (andE 1 3) ((0) + (j : Int))) []).good = true
  | 0, _ => run2_0
  | 1, _ => run2_1
  | 2, _ => run2_2
  | 3, _ => run2_3
  | _ + 4, h => absurd h (by omega)
theorem runs3 : ∀ j : Nat, j < 4 → (lawRunF Try.prog R (cxT R (0) (0) (0) (0) (2 ^ 11)) 25 4 [iv 0, iv 1] (isE (andE 0 15) ((0) + ((3 : Nat) : Int)) ++ isE (andE 1 3) ((0) + (j : Int))) []).good = true
  | 0, _ => run3_0
  | 1, _ => run3_1
  | 2, _ => run3_2
  | 3, _ => run3_3
  | _ + 4, h => absurd h (by omega)
theorem runs4 : ∀ j : Nat, j < 4 → (lawRunF Try.prog R (cxT R (0) (0) (0) (0) (2 ^ 11)) 25 4 [iv 0, iv 1] (isE (andE 0 15) ((0) + ((4 : Nat) : Int)) ++ isE (andE 1 3) ((0) + (j : Int))) []).good = true
  | 0, _ => run4_0
  | 1, _ => run4_1
  | 2, _ => run4_2
  | 3, _ => run4_3
  | _ + 4, h => absurd h (by omega)
theorem runs5 : ∀ j : Nat, j < 4 → (lawRunF Try.prog R (cxT R (0) (0) (0) (0) (2 ^ 11)) 25 4 [iv 0, iv 1] (isE (andE 0 15) ((0) + ((5 : Nat) : Int)) ++ isE (andE 1 3) ((0) + (j : Int))) []).good = true
  | 0, _ => run5_0
  | 1, _ => run5_1
  | 2, _ => run5_2
  | 3, _ => run5_3
  | _ + 4, h => absurd h (by omega)
theorem runs6 : ∀ j : Nat, j < 4 → (lawRunF Try.prog R (cxT R (0) (0) (0) (0) (2 ^ 11)) 25 4 [iv 0, iv 1] (isE (andE 0 15) ((0) + ((6 : Nat) : Int)) ++ isE (andE 1 3) ((0) + (j : Int))) []).good = true
  | 0, _ => run6_0
  | 1, _ => run6_1
  | 2, _ => run6_2
  | 3, _ => run6_3
  | _ + 4, h => absurd h (by omega)
theorem runs7 : ∀ j : Nat, j < 4 → (lawRunF Try.prog R (cxT R (0) (0) (0) (0) (2 ^ 11)) 25 4 [iv 0, iv 1] (isE (andE 0 15) ((0) + ((7 : Nat) : Int)) ++ isE (andE 1 3) ((0) + (j : Int))) []).good = true
  | 0, _ => run7_0
  | 1, _ => run7_1
  | 2, _ => run7_2
  | 3, _ => run7_3
  | _ + 4, h => absurd h (by omega)
theorem runs8 : ∀ j : Nat, j < 4 → (lawRunF Try.prog R (cxT R (0) (0) (0) (0) (2 ^ 11)) 25 4 [iv 0, iv 1] (isE (andE 0 15) ((0) + ((8 : Nat) : Int)) ++ isE (andE 1 3) ((0) + (j : Int))) []).good = true
  | 0, _ => run8_0
  | 1, _ => run8_1
  | 2, _ => run8_2
  | 3, _ => run8_3
  | _ + 4, h => absurd h (by omega)
theorem runs9 : ∀ j : Nat, j < 4 → (lawRunF Try.prog R (cxT R (0) (0) (0) (0) (2 ^ 11)) 25 4 [iv 0, iv 1] (isE (andE 0 15) ((0) + ((9 : Nat) : Int)) ++ isE (andE 1 3) ((0) + (j : Int))) []).good = true
  | 0, _ => run9_0
  | 1, _ => run9_1
  | 2, _ => run9_2
  | 3, _ => run9_3
  | _ + 4, h => absurd h (by omega)
theorem runs10 : ∀ j : Nat, j < 4 → (lawRunF Try.prog R (cxT R (0) (0) (0) (0) (2 ^ 11)) 25 4 [iv 0, iv 1] (isE (andE 0 15) ((0) + ((10 : Nat) : Int)) ++ isE (andE 1 3) ((0) + (j : Int))) []).good = true
  | 0, _ => run10_0
  | 1, _ => run10_1
  | 2, _ => run10_2
  | 3, _ => run10_3
  | _ + 4, h => absurd h (by omega)
theorem runs11 : ∀ j : Nat, j < 4 → (lawRunF Try.prog R (cxT R (0) (0) (0) (0) (2 ^ 11)) 25 4 [iv 0, iv 1] (isE (andE 0 15) ((0) + ((11 : Nat) : Int)) ++ isE (andE 1 3) ((0) + (j : Int))) []).good = true
  | 0, _ => run11_0
  | 1, _ => run11_1
  | 2, _ => run11_2
  | 3, _ => run11_3
  | _ + 4, h => absurd h (by omega)
theorem runs12 : ∀ j : Nat, j < 4 → (lawRunF Try.prog R (cxT R (0) (0) (0) (0) (2 ^ 11)) 25 4 [iv 0, iv 1] (isE (andE 0 15) ((0) + ((12 : Nat) : Int)) ++ isE (andE 1 3) ((0) + (j : Int))) []).good = true
  | 0, _ => run12_0
  | 1, _ => run12_1
  | 2, _ => run12_2
  | 3, _ => run12_3
  | _ + 4, h => absurd h (by omega)
theorem runs13 : ∀ j : Nat, j < 4 → (lawRunF Try.prog R (cxT R (0) (0) (0) (0) (2 ^ 11)) 25 4 [iv 0, iv 1] (isE (andE 0 15) ((0) + ((13 : Nat) : Int)) ++ isE (andE 1 3) ((0) + (j : Int))) []).good = true
  | 0, _ => run13_0
  | 1, _ => run13_1
  | 2, _ => run13_2
  | 3, _ => run13_3
  | _ + 4, h => absurd h (by omega)
theorem runs14 : ∀ j : Nat, j < 4 → (lawRunF Try.prog R (cxT R (0) (0) (0) (0) (2 ^ 11)) 25 4 [iv 0, iv 1] (isE (andE 0 15) ((0) + ((14 : Nat) : Int)) ++ isE (andE 1 3) ((0) + (j : Int))) []).good = true
  | 0, _ => run14_0
  | 1, _ => run14_1
  | 2, _ => run14_2
  | 3, _ => run14_3
  | _ + 4, h => absurd h (by omega)
theorem runs15 : ∀ j : Nat, j < 4 → (lawRunF Try.prog R (cxT R (0) (0) (0) (0) (2 ^ 11)) 25 4 [iv 0, iv 1] (isE (andE 0 15) ((0) + ((15 : Nat) : Int)) ++ isE (andE 1 3) ((0) + (j : Int))) []).good = true
  | 0, _ => run15_0
  | 1, _ => run15_1
  | 2, _ => run15_2
  | 3, _ => run15_3
  | _ + 4, h => absurd h (by omega)
theorem runs : ∀ i : Nat, i < 16 → ∀ j : Nat, j < 4 → (lawRunF Try.prog R (cxT R (0) (0) (0) (0) (2 ^ 11)) 25 4 [iv 0, iv 1] (isE (andE 0 15) ((0) + (i : Int)) ++ isE (andE 1 3) ((0) + (j : Int))) []).good = true
  | 0, _ => runs0
  | 1, _ => runs1
  | 2, _ => runs2
  | 3, _ => runs3
  | 4, _ => runs4
  | 5, _ => runs5
  | 6, _ => runs6
  | 7, _ => runs7
  | 8, _ => runs8
  | 9, _ => runs9
  | 10, _ => runs10
  | 11, _ => runs11
  | 12, _ => runs12
  | 13, _ => runs13
  | 14, _ => runs14
  | 15, _ => runs15
  | _ + 16, h => absurd h (by omega)
theorem walk (a0 : Int) (a1 : Int) (w : World) (w0 : (Lit.int .i64 a0).wf = true) (w1 : (Lit.int .i64 a1).wf = true) :
    Calls Try.prog 4 #[.int .i64 a0, .int .i64 a1] w fun e w' => e = .returned (.bool true) ∧ Below w.heap.size w w' := by
  have hR : R.ok (va [a0, a1] []) := rg_ok (lens := []) (bls := []) (sel := false) (spl := false) (by decide) (by decide) ⟨wf_bd w0, ⟨wf_bd w1, trivial⟩⟩ (fun r hr => by cases hr)
  have hA : ArgsOk (va [a0, a1] []) w := args_ok (fun r hr => by cases hr)
  exact law_atP2 hR (fun _ h => cxT_ok h _ _ _ _ _) (e := andE 0 15) (lo := 0) (m := 16) (e' := andE 1 3) (lo' := 0) (m' := 4) (vs := #[.int .i64 a0, .int .i64 a1]) (fun N => rels_cons' (iv_rel 0 (by decide) rfl) (rels_cons' (iv_rel 1 (by decide) rfl) (rels_nil.2 rfl))) (of_decide_eq_true (by kernel_rfl)) (of_decide_eq_true (by kernel_rfl)) (of_decide_eq_true (by kernel_rfl)) (of_decide_eq_true (by kernel_rfl)) runs w hA

set_option maxRecDepth 100000 in
theorem lifted (os : Os) (started : os.Started) (H : Type) (enc : TypeId × Value → H) :
    ReturnsInHanded {} Try.checked os 4 .any (Rows.bumpRowsSpec.pre6 enc Try.prog Try.f4 Rows.bumpRowsRow.domain false) (Rows.bumpRowsSpec.post enc Try.prog Try.f4 false true false false) := by
  refine returnsInHanded_of_change (C := Try.checked) own started (by kernel_rfl) Try.func4
    (ChangeSpec.witness6 (enc := enc) (C := Try.checked) false ⟨#[], #[.int .i64 0, .int .i64 0], []⟩ 8 (by kernel_rfl) (by kernel_rfl) (by kernel_rfl) (by kernel_rfl)) ?_
  intro W base args ds gs before hval0 hW hcnd _
  have hval : ∀ (j : Nat) t v, Try.f4.params[j]? = some t → args[j]? = some v → Value.okWide Try.prog W .any base t v := hval0
  have hW' := hW
  obtain ⟨p, q, hA0, hV, rfl, hfz, hnd⟩ := hW
  have hA : DataW.TrodAll enc Try.prog W 0 (fun _ => true) true Try.f4.params.toList args.toList ds p := hA0
  rw [Try.params4] at hA hval
  obtain ⟨v0, vs0, d0, ds0, p0, q0, hargs, rfl, rfl, h0, r0⟩ := trodAll_cons hA
  obtain ⟨v1, vs1, d1, ds1, p1, q1, rfl, rfl, rfl, h1, r1⟩ := trodAll_cons r0
  obtain ⟨rfl, rfl, rfl⟩ := trodAll_nil r1
  obtain rfl : args = #[v0, v1] := by cases args; simp_all
  obtain ⟨rfl, rfl⟩ := trodVars_none hV
  obtain ⟨a0, rfl, rfl, rfl, w0⟩ := open_int Try.underlying3 (hval 0 3 v0 rfl rfl) h0
  obtain ⟨a1, rfl, rfl, rfl, w1⟩ := open_int Try.underlying3 (hval 1 3 v1 rfl rfl) h1
  clear hA0 hval0
  refine (walk a0 a1 W w0 w1).mono fun e W' ⟨he, bel⟩ => ?_
  subst he
  exact ⟨_, rfl, _, _, _, [], _, [], hW', trodAll_mk1 (shut_bool Try.underlying4 _), (trodAll_cons_mk (shut_int Try.underlying3 w0) (trodAll_cons_mk (shut_int Try.underlying3 w1) trodAll_mk0)), rfl, bel.frame _, fun h => by cases h⟩

theorem over : Rows.bumpRowsRow.holds Try.pinned (OpenSpec.ofChange Rows.bumpRowsSpec) :=
  OpenClaim.holds_of_wide 4 Try.f4 rfl rfl rfl rfl rfl rfl rfl ⟨rfl, rfl, rfl, rfl, rfl⟩ rfl rfl rfl rfl rfl (by kernel_rfl) Try.func4 (by kernel_rfl)
    (of_decide_eq_true (by kernel_rfl)) (by unfold Func.isWrapper; first | (rw [if_pos (by decide +kernel)]; kernel_rfl) | (rw [if_neg (by decide +kernel)]; exact ⟨rfl, rfl⟩))
    (fun os started H enc _ => lifted os started H enc)

/-- The statement. -/
theorem proved : Rows.BumpRowsSaid := over
#print axioms proved
end Go.Proofs.Ytmaggffcjemagaa.bumpRows
