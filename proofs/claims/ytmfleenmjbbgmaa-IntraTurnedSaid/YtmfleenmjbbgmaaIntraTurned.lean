/- IntraTurned returns true for every input: it neither panics nor runs on, and what came in reads as before. Without a condition. The walk is one evaluation, in Lean's kernel, of a symbolic run that the texts Rx.. prove sound. -/
import Derived.Test.YtmfleenmjbbgmaaRows
import Derived.Test.YtmfleenmjbbgmaaRxAwake
import Derived.Test.YtmfleenmjbbgmaaRxL
import Derived.Test.YtmfleenmjbbgmaaIntraTurnedR
import Derived.Test.YtmfleenmjbbgmaaIntraTurnedP0
import Derived.Test.YtmfleenmjbbgmaaIntraTurnedP1
import Derived.Test.YtmfleenmjbbgmaaIntraTurnedP2
import Derived.Test.YtmfleenmjbbgmaaIntraTurnedP3
import Derived.WalkKit
import Derived.ProofKit
import Derived.OpenShut
import Derived.ShutString
import Derived.ChangeOld
import Derived.Below
namespace Go.Proofs.Ytmfleenmjbbgmaa.intraTurned
open Go.ChangeShapes Go.WideShapes Go.ChangeAt Go.RowKit Go.RX Go.Proofs.Ytmfleenmjbbgmaa
set_option linter.unusedVariables false
theorem own : ownKnob Try.prog.godebug = none := by kernel_rfl
theorem laidOut : laidOutB Try.prog = true := by kernel_rfl
theorem walk (a0 : Option Addr) (len0 cap0 : Nat) (z0 : List Int) (a1 : Option Addr) (len1 cap1 : Nat) (z1 : List Int) (a2 : Int) (a3 : Int) (w : World) (w0 : Go.RX.IsRow w a0 len0 cap0 z0) (w1 : Go.RX.IsRow w a1 len1 cap1 z1) (w2 : (Lit.int .i64 a2).wf = true) (w3 : (Lit.int .i64 a3).wf = true) :
    Calls Try.prog 6 #[.slice a0 len0 cap0, .slice a1 len1 cap1, .int .i64 a2, .int .i64 a3] w fun e w' => e = .returned (.bool true) ∧ Below w.heap.size w w' := by
  have hR0 : R0.ok (va [(len0 : Int), (len1 : Int), a2, a3] [⟨0, a0, z0⟩, ⟨1, a1, z1⟩]) := rg_ok (lens := [0, 1]) (bls := []) (sel := false) (spl := false) (by decide) (by decide) ⟨w0.len_bd, ⟨w1.len_bd, ⟨wf_bd w2, ⟨wf_bd w3, trivial⟩⟩⟩⟩ (by
    intro r hr
    simp only [List.mem_cons, List.not_mem_nil, or_false] at hr
    rcases hr with rfl | rfl
    · exact w0.bd
    · exact w1.bd)
  have hR : R.ok (V1 [(len0 : Int), (len1 : Int), a2, a3] a0 a1 z0 z1) := R_ok hR0
  have hA : ArgsOk (V1 [(len0 : Int), (len1 : Int), a2, a3] a0 a1 z0 z1) w := args_ok (by
    intro r hr
    simp only [List.mem_cons, List.not_mem_nil, or_false] at hr
    rcases hr with rfl | rfl | rfl | rfl
    · exact w0.ok (by decide) rfl
    · exact w1.ok (by decide) rfl
    · exact ⟨show (4 : Nat) < 16 by decide, fun ad h => by cases h⟩
    · exact ⟨show (5 : Nat) < 16 by decide, fun ad h => by cases h⟩)
  have rels : ∀ N, AV.rels (V1 [(len0 : Int), (len1 : Int), a2, a3] a0 a1 z0 z1) N [sv 0, sv 1, iv 2, iv 3] (#[.slice a0 len0 cap0, .slice a1 len1 cap1, .int .i64 a2, .int .i64 a3] : Array Value).toList := fun N => rels_cons' (sv_rel w0 0 (by decide) rfl rfl) (rels_cons' (sv_rel w1 1 (by decide) rfl rfl) (rels_cons' (iv_rel 2 (by decide) rfl) (rels_cons' (iv_rel 3 (by decide) rfl) (rels_nil.2 rfl))))
  have hb := E.rng_ok hR (umdE 3 4)
  have h1 : 0 ≤ ((umdE 3 4).rng R).1 := of_decide_eq_true (by kernel_rfl)
  have h2 : ((umdE 3 4).rng R).2 < 4 := of_decide_eq_true (by kernel_rfl)
  have hc : (umdE 3 4).den (V1 [(len0 : Int), (len1 : Int), a2, a3] a0 a1 z0 z1) = 0 ∨ (umdE 3 4).den (V1 [(len0 : Int), (len1 : Int), a2, a3] a0 a1 z0 z1) = 1 ∨ (umdE 3 4).den (V1 [(len0 : Int), (len1 : Int), a2, a3] a0 a1 z0 z1) = 2 ∨ (umdE 3 4).den (V1 [(len0 : Int), (len1 : Int), a2, a3] a0 a1 z0 z1) = 3 := by omega
  have hl : ∀ fn c, Try.prog.funcs[6]? = some fn → fn.body = some c → ∀ x ∈ loopsOf c, ∀ (α : Type) (p : α → Prop), CodeOk Try.prog (V1 [(len0 : Int), (len1 : Int), a2, a3] a0 a1 z0 z1) w p fn.ntmps (dep fn.ntmps) (lp x α) (.loop x) := fun fn c hf hb x hx α p => by
    rw [nt_of hf]
    exact lpR_ok hR (fun _ h => cxT_ok h _ _ _ _ _) T_ok x α p
  rcases hc with h | h | h | h
  · exact law_okL hR (fun _ h => cxT_ok h _ _ _ _ _) rels (isE_ok h) hA hl run0
  · exact law_okL hR (fun _ h => cxT_ok h _ _ _ _ _) rels (isE_ok h) hA hl run1
  · exact law_okL hR (fun _ h => cxT_ok h _ _ _ _ _) rels (isE_ok h) hA hl run2
  · exact law_okL hR (fun _ h => cxT_ok h _ _ _ _ _) rels (isE_ok h) hA hl run3

set_option maxRecDepth 100000 in
theorem lifted (os : Os) (started : os.Started) (H : Type) (enc : TypeId × Value → H) :
    ReturnsInHanded {} Try.checked os 6 .any (Rows.intraTurnedSpec.pre6 enc Try.prog Try.f6 Rows.intraTurnedRow.domain false) (Rows.intraTurnedSpec.post enc Try.prog Try.f6 false true false false) := by
  refine returnsInHanded_of_change (C := Try.checked) own started (by kernel_rfl) Try.func6
    (ChangeSpec.witness6 (enc := enc) (C := Try.checked) false ⟨#[], #[.slice none 0 0, .slice none 0 0, .int .i64 0, .int .i64 0], []⟩ 8 (by kernel_rfl) (by kernel_rfl) (by kernel_rfl) (by kernel_rfl)) ?_
  intro W base args ds gs before hval0 hW hcnd _
  have hval : ∀ (j : Nat) t v, Try.f6.params[j]? = some t → args[j]? = some v → Value.okWide Try.prog W .any base t v := hval0
  have hW' := hW
  obtain ⟨p, q, hA0, hV, rfl, hfz, hnd⟩ := hW
  have hA : DataW.TrodAll enc Try.prog W 0 (fun _ => true) true Try.f6.params.toList args.toList ds p := hA0
  rw [Try.params6] at hA hval
  obtain ⟨v0, vs0, d0, ds0, p0, q0, hargs, rfl, rfl, h0, r0⟩ := trodAll_cons hA
  obtain ⟨v1, vs1, d1, ds1, p1, q1, rfl, rfl, rfl, h1, r1⟩ := trodAll_cons r0
  obtain ⟨v2, vs2, d2, ds2, p2, q2, rfl, rfl, rfl, h2, r2⟩ := trodAll_cons r1
  obtain ⟨v3, vs3, d3, ds3, p3, q3, rfl, rfl, rfl, h3, r3⟩ := trodAll_cons r2
  obtain ⟨rfl, rfl, rfl⟩ := trodAll_nil r3
  obtain rfl : args = #[v0, v1, v2, v3] := by cases args; simp_all
  obtain ⟨rfl, rfl⟩ := trodVars_none hV
  obtain ⟨a0, len0, cap0, rfl⟩ := okWide_slice Try.underlying22 (hval 0 22 v0 rfl rfl)
  have k0 := h0
  have lt0 : ∀ x ∈ p0, x.block < W.heap.size := by obtain ⟨m, hm⟩ := k0; exact DataW.trod_lt m _ _ _ hm
  obtain ⟨z0, w0⟩ : ∃ zs, Go.RX.IsRow W a0 len0 cap0 zs := by
    obtain ⟨fuel, hf⟩ := h0
    rcases open_ints Try.underlying22 Try.underlying3 (by kernel_rfl) hf with ⟨hcs, _⟩ | ⟨x, l, c, zs, hcs, _, hl, hm, hz, _, hcell, hwz⟩
    · simp [Value.cells] at hcs
      obtain ⟨rfl, rfl, rfl⟩ := hcs
      exact ⟨[], .inl ⟨rfl, rfl, rfl, rfl⟩⟩
    · simp [Value.cells] at hcs
      obtain ⟨rfl, rfl, rfl⟩ := hcs
      exact ⟨zs, .inr ⟨_, rfl, hl, hm, by simpa using hz, hcell, hwz⟩⟩
  obtain ⟨a1, len1, cap1, rfl⟩ := okWide_slice Try.underlying22 (hval 1 22 v1 rfl rfl)
  have k1 := h1
  have lt1 : ∀ x ∈ p1, x.block < W.heap.size := by obtain ⟨m, hm⟩ := k1; exact DataW.trod_lt m _ _ _ hm
  obtain ⟨z1, w1⟩ : ∃ zs, Go.RX.IsRow W a1 len1 cap1 zs := by
    obtain ⟨fuel, hf⟩ := h1
    rcases open_ints Try.underlying22 Try.underlying3 (by kernel_rfl) hf with ⟨hcs, _⟩ | ⟨x, l, c, zs, hcs, _, hl, hm, hz, _, hcell, hwz⟩
    · simp [Value.cells] at hcs
      obtain ⟨rfl, rfl, rfl⟩ := hcs
      exact ⟨[], .inl ⟨rfl, rfl, rfl, rfl⟩⟩
    · simp [Value.cells] at hcs
      obtain ⟨rfl, rfl, rfl⟩ := hcs
      exact ⟨zs, .inr ⟨_, rfl, hl, hm, by simpa using hz, hcell, hwz⟩⟩
  obtain ⟨a2, rfl, rfl, rfl, w2⟩ := open_int Try.underlying3 (hval 2 3 v2 rfl rfl) h2
  obtain ⟨a3, rfl, rfl, rfl, w3⟩ := open_int Try.underlying3 (hval 3 3 v3 rfl rfl) h3
  clear hA0 hval0
  refine (walk a0 len0 cap0 z0 a1 len1 cap1 z1 a2 a3 W w0 w1 w2 w3).mono fun e W' ⟨he, bel⟩ => ?_
  subst he
  exact ⟨_, rfl, _, _, _, [], _, [], hW', trodAll_mk1 (shut_bool Try.underlying4 _), (trodAll_cons_mk (Below.trod laidOut (by kernel_rfl) (of_decide_eq_true (by kernel_rfl)) k0 bel lt0) (trodAll_cons_mk (Below.trod laidOut (by kernel_rfl) (of_decide_eq_true (by kernel_rfl)) k1 bel lt1) (trodAll_cons_mk (shut_int Try.underlying3 w2) (trodAll_cons_mk (shut_int Try.underlying3 w3) trodAll_mk0)))), rfl, bel.frame _, fun h => by cases h⟩

theorem over : Rows.intraTurnedRow.holds Try.pinned (OpenSpec.ofChange Rows.intraTurnedSpec) :=
  OpenClaim.holds_of_wide 6 Try.f6 rfl rfl rfl rfl rfl rfl rfl ⟨rfl, rfl, rfl, rfl, rfl⟩ rfl rfl rfl rfl rfl (by kernel_rfl) Try.func6 (by kernel_rfl)
    (of_decide_eq_true (by kernel_rfl)) (by unfold Func.isWrapper; first | (rw [if_pos (by decide +kernel)]; kernel_rfl) | (rw [if_neg (by decide +kernel)]; exact ⟨rfl, rfl⟩))
    (fun os started H enc _ => lifted os started H enc)

/-- The statement. -/
theorem proved : Rows.IntraTurnedSaid := over
#print axioms proved
end Go.Proofs.Ytmfleenmjbbgmaa.intraTurned
