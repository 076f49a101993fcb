/- PocCounts returns true for every input: it neither panics nor runs on, and what came in reads as before. Without a condition. The walk is one evaluation, in Lean's kernel, of a symbolic run that the texts Rx.. prove sound. -/
import Derived.Test.YtclgfhbalocmaaaRows
import Derived.Test.YtclgfhbalocmaaaRxAwake
import Derived.Test.YtclgfhbalocmaaaRxL
import Derived.Test.YtclgfhbalocmaaaPocCountsR
import Derived.Test.YtclgfhbalocmaaaPocCountsP4
import Derived.Test.YtclgfhbalocmaaaPocCountsP5
import Derived.Test.YtclgfhbalocmaaaPocCountsP6
import Derived.Test.YtclgfhbalocmaaaPocCountsP7
import Derived.Test.YtclgfhbalocmaaaPocCountsP8
import Derived.WalkKit
import Derived.ProofKit
import Derived.OpenShut
import Derived.ShutString
import Derived.ChangeOld
import Derived.Below
namespace Go.Proofs.Ytclgfhbalocmaaa.pocCounts
open Go.ChangeShapes Go.WideShapes Go.ChangeAt Go.RowKit Go.RX Go.Proofs.Ytclgfhbalocmaaa
set_option linter.unusedVariables false
theorem own : ownKnob Try.prog.godebug = none := by kernel_rfl
theorem laidOut : laidOutB Try.prog = true := by kernel_rfl
theorem walk (a0 : Option Addr) (len0 cap0 : Nat) (z0 : List Int) (a1 : Int) (w : World) (w0 : Go.RX.IsRow w a0 len0 cap0 z0) (w1 : (Lit.int .i64 a1).wf = true) :
    Calls Try.prog 5 #[.slice a0 len0 cap0, .int .i64 a1] w fun e w' => e = .returned (.bool true) ∧ Below w.heap.size w w' := by
  have hR : R0.ok (va [(len0 : Int), a1] [⟨0, a0, z0⟩]) := rg_ok (lens := [0]) (bls := []) (sel := false) (spl := false) (by decide) (by decide) ⟨w0.len_bd, ⟨wf_bd w1, trivial⟩⟩ (by
    intro r hr
    simp only [List.mem_cons, List.not_mem_nil, or_false] at hr
    subst hr
    exact w0.bd)
  have hA : ArgsOk (va [(len0 : Int), a1] [⟨0, a0, z0⟩]) w := args_ok (by
    intro r hr
    simp only [List.mem_cons, List.not_mem_nil, or_false] at hr
    subst hr
    exact w0.ok (by decide) rfl)
  have rels : ∀ N, AV.rels (va [(len0 : Int), a1] [⟨0, a0, z0⟩]) N [sv 0, iv 1] (#[.slice a0 len0 cap0, .int .i64 a1] : Array Value).toList := fun N => rels_cons' (sv_rel w0 0 (by decide) rfl rfl) (rels_cons' (iv_rel 1 (by decide) rfl) (rels_nil.2 rfl))
  have hb := E.rng_ok hR (umdE 1 5)
  have h1 : 0 ≤ ((umdE 1 5).rng R0).1 := of_decide_eq_true (by kernel_rfl)
  have h2 : ((umdE 1 5).rng R0).2 < 5 := of_decide_eq_true (by kernel_rfl)
  have hc : (umdE 1 5).den (va [(len0 : Int), a1] [⟨0, a0, z0⟩]) = 0 ∨ (umdE 1 5).den (va [(len0 : Int), a1] [⟨0, a0, z0⟩]) = 1 ∨ (umdE 1 5).den (va [(len0 : Int), a1] [⟨0, a0, z0⟩]) = 2 ∨ (umdE 1 5).den (va [(len0 : Int), a1] [⟨0, a0, z0⟩]) = 3 ∨ (umdE 1 5).den (va [(len0 : Int), a1] [⟨0, a0, z0⟩]) = 4 := by omega
  rcases hc with h | h | h | h | h
  · refine law_okL hR (fun _ h => cxT_ok h _ _ _ _ _) rels (isE_ok h) hA (fun fn c hf hb x hx α p => ?_) run4
    obtain ⟨e1, e2⟩ := loop_one lone fn c hf hb
    rw [e1, nts, e2 x hx]
    exact lpE_ok (Inv := Inv 4 16 a0 len0 z0 a1 w) (M := 61) hA hnt (fun N tm a w' hc ht hd hw => inv0 (by decide) hc ht hd hw) (fun a w' h => absurd h.1 (by decide)) (fun r a w' hr h => step4 w0 (wf_bd w1) r a w' hr h) α p
  · refine law_okL hR (fun _ h => cxT_ok h _ _ _ _ _) rels (isE_ok h) hA (fun fn c hf hb x hx α p => ?_) run5
    obtain ⟨e1, e2⟩ := loop_one lone fn c hf hb
    rw [e1, nts, e2 x hx]
    exact lpE_ok (Inv := Inv 5 32 a0 len0 z0 a1 w) (M := 61) hA hnt (fun N tm a w' hc ht hd hw => inv0 (by decide) hc ht hd hw) (fun a w' h => absurd h.1 (by decide)) (fun r a w' hr h => step5 w0 (wf_bd w1) r a w' hr h) α p
  · refine law_okL hR (fun _ h => cxT_ok h _ _ _ _ _) rels (isE_ok h) hA (fun fn c hf hb x hx α p => ?_) run6
    obtain ⟨e1, e2⟩ := loop_one lone fn c hf hb
    rw [e1, nts, e2 x hx]
    exact lpE_ok (Inv := Inv 6 64 a0 len0 z0 a1 w) (M := 61) hA hnt (fun N tm a w' hc ht hd hw => inv0 (by decide) hc ht hd hw) (fun a w' h => absurd h.1 (by decide)) (fun r a w' hr h => step6 w0 (wf_bd w1) r a w' hr h) α p
  · refine law_okL hR (fun _ h => cxT_ok h _ _ _ _ _) rels (isE_ok h) hA (fun fn c hf hb x hx α p => ?_) run7
    obtain ⟨e1, e2⟩ := loop_one lone fn c hf hb
    rw [e1, nts, e2 x hx]
    exact lpE_ok (Inv := Inv 7 128 a0 len0 z0 a1 w) (M := 61) hA hnt (fun N tm a w' hc ht hd hw => inv0 (by decide) hc ht hd hw) (fun a w' h => absurd h.1 (by decide)) (fun r a w' hr h => step7 w0 (wf_bd w1) r a w' hr h) α p
  · refine law_okL hR (fun _ h => cxT_ok h _ _ _ _ _) rels (isE_ok h) hA (fun fn c hf hb x hx α p => ?_) run8
    obtain ⟨e1, e2⟩ := loop_one lone fn c hf hb
    rw [e1, nts, e2 x hx]
    exact lpE_ok (Inv := Inv 8 256 a0 len0 z0 a1 w) (M := 61) hA hnt (fun N tm a w' hc ht hd hw => inv0 (by decide) hc ht hd hw) (fun a w' h => absurd h.1 (by decide)) (fun r a w' hr h => step8 w0 (wf_bd w1) r a w' hr h) α p

set_option maxRecDepth 100000 in
theorem lifted (os : Os) (started : os.Started) (H : Type) (enc : TypeId × Value → H) :
    ReturnsInHanded {} Try.checked os 5 .any (Rows.pocCountsSpec.pre6 enc Try.prog Try.f5 Rows.pocCountsRow.domain false) (Rows.pocCountsSpec.post enc Try.prog Try.f5 false true false false) := by
  refine returnsInHanded_of_change (C := Try.checked) own started (by kernel_rfl) Try.func5
    (ChangeSpec.witness6 (enc := enc) (C := Try.checked) false ⟨#[], #[.slice none 0 0, .int .i64 0], []⟩ 8 (by kernel_rfl) (by kernel_rfl) (by kernel_rfl) (by kernel_rfl)) ?_
  intro W base args ds gs before hval0 hW hcnd _
  have hval : ∀ (j : Nat) t v, Try.f5.params[j]? = some t → args[j]? = some v → Value.okWide Try.prog W .any base t v := hval0
  have hW' := hW
  obtain ⟨p, q, hA0, hV, rfl, hfz, hnd⟩ := hW
  have hA : DataW.TrodAll enc Try.prog W 0 (fun _ => true) true Try.f5.params.toList args.toList ds p := hA0
  rw [Try.params5] at hA hval
  obtain ⟨v0, vs0, d0, ds0, p0, q0, hargs, rfl, rfl, h0, r0⟩ := trodAll_cons hA
  obtain ⟨v1, vs1, d1, ds1, p1, q1, rfl, rfl, rfl, h1, r1⟩ := trodAll_cons r0
  obtain ⟨rfl, rfl, rfl⟩ := trodAll_nil r1
  obtain rfl : args = #[v0, v1] := by cases args; simp_all
  obtain ⟨rfl, rfl⟩ := trodVars_none hV
  obtain ⟨a0, len0, cap0, rfl⟩ := okWide_slice Try.underlying22 (hval 0 22 v0 rfl rfl)
  have k0 := h0
  have lt0 : ∀ x ∈ p0, x.block < W.heap.size := by obtain ⟨m, hm⟩ := k0; exact DataW.trod_lt m _ _ _ hm
  obtain ⟨z0, w0⟩ : ∃ zs, Go.RX.IsRow W a0 len0 cap0 zs := by
    obtain ⟨fuel, hf⟩ := h0
    rcases open_ints Try.underlying22 Try.underlying3 (by kernel_rfl) hf with ⟨hcs, _⟩ | ⟨x, l, c, zs, hcs, _, hl, hm, hz, _, hcell, hwz⟩
    · simp [Value.cells] at hcs
      obtain ⟨rfl, rfl, rfl⟩ := hcs
      exact ⟨[], .inl ⟨rfl, rfl, rfl, rfl⟩⟩
    · simp [Value.cells] at hcs
      obtain ⟨rfl, rfl, rfl⟩ := hcs
      exact ⟨zs, .inr ⟨_, rfl, hl, hm, by simpa using hz, hcell, hwz⟩⟩
  obtain ⟨a1, rfl, rfl, rfl, w1⟩ := open_int Try.underlying3 (hval 1 3 v1 rfl rfl) h1
  clear hA0 hval0
  refine (walk a0 len0 cap0 z0 a1 W w0 w1).mono fun e W' ⟨he, bel⟩ => ?_
  subst he
  exact ⟨_, rfl, _, _, _, [], _, [], hW', trodAll_mk1 (shut_bool Try.underlying4 _), (trodAll_cons_mk (Below.trod laidOut (by kernel_rfl) (of_decide_eq_true (by kernel_rfl)) k0 bel lt0) (trodAll_cons_mk (shut_int Try.underlying3 w1) trodAll_mk0)), rfl, bel.frame _, fun h => by cases h⟩

theorem over : Rows.pocCountsRow.holds Try.pinned (OpenSpec.ofChange Rows.pocCountsSpec) :=
  OpenClaim.holds_of_wide 5 Try.f5 rfl rfl rfl rfl rfl rfl rfl ⟨rfl, rfl, rfl, rfl, rfl⟩ rfl rfl rfl rfl rfl (by kernel_rfl) Try.func5 (by kernel_rfl)
    (of_decide_eq_true (by kernel_rfl)) (by unfold Func.isWrapper; first | (rw [if_pos (by decide +kernel)]; kernel_rfl) | (rw [if_neg (by decide +kernel)]; exact ⟨rfl, rfl⟩))
    (fun os started H enc _ => lifted os started H enc)

/-- The statement. -/
theorem proved : Rows.PocCountsSaid := over
#print axioms proved
end Go.Proofs.Ytclgfhbalocmaaa.pocCounts
