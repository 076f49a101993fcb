/- IntraMeans returns true for every input: it neither panics nor runs on, and what came in reads as before. Without a condition. The walk is one evaluation, in Lean's kernel, of a symbolic run that the texts Rx.. prove sound. -/
import Derived.Test.YtmfleenmjbbgmaaRows
import Derived.Test.YtmfleenmjbbgmaaRxAwake
import Derived.Test.YtmfleenmjbbgmaaIntraMeansR
import Derived.Test.YtmfleenmjbbgmaaIntraMeansP0
import Derived.Test.YtmfleenmjbbgmaaIntraMeansP1
import Derived.Test.YtmfleenmjbbgmaaIntraMeansP2
import Derived.WalkKit
import Derived.ProofKit
import Derived.OpenShut
import Derived.ShutString
import Derived.ChangeOld
import Derived.Below
namespace Go.Proofs.Ytmfleenmjbbgmaa.intraMeans
open Go.ChangeShapes Go.WideShapes Go.ChangeAt Go.RowKit Go.RX Go.Proofs.Ytmfleenmjbbgmaa
set_option linter.unusedVariables false
theorem own : ownKnob Try.prog.godebug = none := by kernel_rfl
theorem laidOut : laidOutB Try.prog = true := by kernel_rfl
theorem runs0 : ∀ j : Nat, j < 3 → (lawRunF Try.prog R (cxT R (0) (2 ^ 32) (0)) 25 15 [sv 0, sv 1, iv 2] (isE (andE 2 1) ((0) + ((0 : Nat) : Int)) ++ isE (andE 2 2) ((0) + (j : Int))) []).good = true
  | 0, _ => run0_0
  | 1, _ => run0_1
  | 2, _ => run0_2
  | _ + 3, h => absurd h (by omega)
theorem runs1 : ∀ j : Nat, j < 3 → (lawRunF Try.prog R (cxT R (0) (2 ^ 32) (0)) 25 15 [sv 0, sv 1, iv 2] (isE (andE 2 1) ((0) + ((1 : Nat) : Int)) ++ isE (andE 2 2) ((0) + (j : Int))) []).good = true
  | 0, _ => run1_0
  | 1, _ => run1_1
  | 2, _ => run1_2
  | _ + 3, h => absurd h (by omega)
theorem runs : ∀ i : Nat, i < 2 → ∀ j : Nat, j < 3 → (lawRunF Try.prog R (cxT R (0) (2 ^ 32) (0)) 25 15 [sv 0, sv 1, iv 2] (isE (andE 2 1) ((0) + (i : Int)) ++ isE (andE 2 2) ((0) + (j : Int))) []).good = true
  | 0, _ => runs0
  | 1, _ => runs1
  | _ + 2, h => absurd h (by omega)
theorem walk (a0 : Option Addr) (len0 cap0 : Nat) (z0 : List Int) (a1 : Option Addr) (len1 cap1 : Nat) (z1 : List Int) (a2 : Int) (w : World) (w0 : Go.RX.IsRow w a0 len0 cap0 z0) (w1 : Go.RX.IsRow w a1 len1 cap1 z1) (w2 : (Lit.int .i64 a2).wf = true) :
    Calls Try.prog 15 #[.slice a0 len0 cap0, .slice a1 len1 cap1, .int .i64 a2] w fun e w' => e = .returned (.bool true) ∧ Below w.heap.size w w' := by
  have hR : R.ok (va [(len0 : Int), (len1 : Int), a2] [⟨0, a0, z0⟩, ⟨1, a1, z1⟩]) := rg_ok (by decide) (by decide) ⟨w0.len_bd, ⟨w1.len_bd, ⟨wf_bd w2, trivial⟩⟩⟩ (by
    intro r hr
    simp only [List.mem_cons, List.not_mem_nil, or_false] at hr
    rcases hr with rfl | rfl
    · exact w0.bd
    · exact w1.bd)
  have hA : ArgsOk (va [(len0 : Int), (len1 : Int), a2] [⟨0, a0, z0⟩, ⟨1, a1, z1⟩]) w := args_ok (by
    intro r hr
    simp only [List.mem_cons, List.not_mem_nil, or_false] at hr
    rcases hr with rfl | rfl
    · exact w0.ok (by decide) rfl
    · exact w1.ok (by decide) rfl)
  exact law_atP2 hR (cxT_ok hR _ _ _) (e := andE 2 1) (lo := 0) (m := 2) (e' := andE 2 2) (lo' := 0) (m' := 3) (vs := #[.slice a0 len0 cap0, .slice a1 len1 cap1, .int .i64 a2]) (fun N => rels_cons' (sv_rel w0 0 (by decide) rfl rfl) (rels_cons' (sv_rel w1 1 (by decide) rfl rfl) (rels_cons' (iv_rel 2 (by decide) rfl) (rels_nil.2 rfl)))) (of_decide_eq_true (by kernel_rfl)) (of_decide_eq_true (by kernel_rfl)) (of_decide_eq_true (by kernel_rfl)) (of_decide_eq_true (by kernel_rfl)) runs w hA

set_option maxRecDepth 100000 in
theorem lifted (os : Os) (started : os.Started) (H : Type) (enc : TypeId × Value → H) :
    ReturnsInHanded {} Try.checked os 15 .any (Rows.intraMeansSpec.pre6 enc Try.prog Try.f15 Rows.intraMeansRow.domain false) (Rows.intraMeansSpec.post enc Try.prog Try.f15 false true false false) := by
  refine returnsInHanded_of_change (C := Try.checked) own started (by kernel_rfl) Try.func15
    (ChangeSpec.witness6 (enc := enc) (C := Try.checked) false ⟨#[], #[.slice none 0 0, .slice none 0 0, .int .i64 0], []⟩ 8 (by kernel_rfl) (by kernel_rfl) (by kernel_rfl) (by kernel_rfl)) ?_
  intro W base args ds gs before hval0 hW hcnd _
  have hval : ∀ (j : Nat) t v, Try.f15.params[j]? = some t → args[j]? = some v → Value.okWide Try.prog W .any base t v := hval0
  have hW' := hW
  obtain ⟨p, q, hA0, hV, rfl, hfz, hnd⟩ := hW
  have hA : DataW.TrodAll enc Try.prog W 0 (fun _ => true) true Try.f15.params.toList args.toList ds p := hA0
  rw [Try.params15] at hA hval
  obtain ⟨v0, vs0, d0, ds0, p0, q0, hargs, rfl, rfl, h0, r0⟩ := trodAll_cons hA
  obtain ⟨v1, vs1, d1, ds1, p1, q1, rfl, rfl, rfl, h1, r1⟩ := trodAll_cons r0
  obtain ⟨v2, vs2, d2, ds2, p2, q2, rfl, rfl, rfl, h2, r2⟩ := trodAll_cons r1
  obtain ⟨rfl, rfl, rfl⟩ := trodAll_nil r2
  obtain rfl : args = #[v0, v1, v2] := by cases args; simp_all
  obtain ⟨rfl, rfl⟩ := trodVars_none hV
  obtain ⟨a0, len0, cap0, rfl⟩ := okWide_slice Try.underlying22 (hval 0 22 v0 rfl rfl)
  have k0 := h0
  have lt0 : ∀ x ∈ p0, x.block < W.heap.size := by obtain ⟨m, hm⟩ := k0; exact DataW.trod_lt m _ _ _ hm
  obtain ⟨z0, w0⟩ : ∃ zs, Go.RX.IsRow W a0 len0 cap0 zs := by
    obtain ⟨fuel, hf⟩ := h0
    rcases open_ints Try.underlying22 Try.underlying3 (by kernel_rfl) hf with ⟨hcs, _⟩ | ⟨x, l, c, zs, hcs, _, hl, hm, hz, _, hcell, hwz⟩
    · simp [Value.cells] at hcs
      obtain ⟨rfl, rfl, rfl⟩ := hcs
      exact ⟨[], .inl ⟨rfl, rfl, rfl, rfl⟩⟩
    · simp [Value.cells] at hcs
      obtain ⟨rfl, rfl, rfl⟩ := hcs
      exact ⟨zs, .inr ⟨_, rfl, hl, hm, by simpa using hz, hcell, hwz⟩⟩
  obtain ⟨a1, len1, cap1, rfl⟩ := okWide_slice Try.underlying22 (hval 1 22 v1 rfl rfl)
  have k1 := h1
  have lt1 : ∀ x ∈ p1, x.block < W.heap.size := by obtain ⟨m, hm⟩ := k1; exact DataW.trod_lt m _ _ _ hm
  obtain ⟨z1, w1⟩ : ∃ zs, Go.RX.IsRow W a1 len1 cap1 zs := by
    obtain ⟨fuel, hf⟩ := h1
    rcases open_ints Try.underlying22 Try.underlying3 (by kernel_rfl) hf with ⟨hcs, _⟩ | ⟨x, l, c, zs, hcs, _, hl, hm, hz, _, hcell, hwz⟩
    · simp [Value.cells] at hcs
      obtain ⟨rfl, rfl, rfl⟩ := hcs
      exact ⟨[], .inl ⟨rfl, rfl, rfl, rfl⟩⟩
    · simp [Value.cells] at hcs
      obtain ⟨rfl, rfl, rfl⟩ := hcs
      exact ⟨zs, .inr ⟨_, rfl, hl, hm, by simpa using hz, hcell, hwz⟩⟩
  obtain ⟨a2, rfl, rfl, rfl, w2⟩ := open_int Try.underlying3 (hval 2 3 v2 rfl rfl) h2
  clear hA0 hval0
  refine (walk a0 len0 cap0 z0 a1 len1 cap1 z1 a2 W w0 w1 w2).mono fun e W' ⟨he, bel⟩ => ?_
  subst he
  exact ⟨_, rfl, _, _, _, [], _, [], hW', trodAll_mk1 (shut_bool Try.underlying4 _), (trodAll_cons_mk (Below.trod laidOut (by kernel_rfl) (of_decide_eq_true (by kernel_rfl)) k0 bel lt0) (trodAll_cons_mk (Below.trod laidOut (by kernel_rfl) (of_decide_eq_true (by kernel_rfl)) k1 bel lt1) (trodAll_cons_mk (shut_int Try.underlying3 w2) trodAll_mk0))), rfl, bel.frame _, fun h => by cases h⟩

theorem over : Rows.intraMeansRow.holds Try.pinned (OpenSpec.ofChange Rows.intraMeansSpec) :=
  OpenClaim.holds_of_wide 15 Try.f15 rfl rfl rfl rfl rfl rfl rfl ⟨rfl, rfl, rfl, rfl, rfl⟩ rfl rfl rfl rfl rfl (by kernel_rfl) Try.func15 (by kernel_rfl)
    (of_decide_eq_true (by kernel_rfl)) (by unfold Func.isWrapper; first | (rw [if_pos (by decide +kernel)]; kernel_rfl) | (rw [if_neg (by decide +kernel)]; exact ⟨rfl, rfl⟩))
    (fun os started H enc _ => lifted os started H enc)

/-- The statement. -/
theorem proved : Rows.IntraMeansSaid := over
#print axioms proved
end Go.Proofs.Ytmfleenmjbbgmaa.intraMeans
