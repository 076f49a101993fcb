/- QuantNear returns true for every input: it neither panics nor runs on, and what came in reads as before. Without a condition. The walk is one evaluation, in Lean's kernel, of a symbolic run that the texts Rx.. prove sound. -/
import Derived.Test.YtcmkifhafcgjbaaRows
import Derived.Test.YtcmkifhafcgjbaaRxAwake
import Derived.Test.YtcmkifhafcgjbaaRxL
import Derived.Test.YtcmkifhafcgjbaaQuantNearR
import Derived.Test.YtcmkifhafcgjbaaQuantNearP0
import Derived.Test.YtcmkifhafcgjbaaQuantNearP1
import Derived.Test.YtcmkifhafcgjbaaQuantNearP2
import Derived.Test.YtcmkifhafcgjbaaQuantNearP3
import Derived.Test.YtcmkifhafcgjbaaQuantNearP4
import Derived.Test.YtcmkifhafcgjbaaQuantNearP5
import Derived.Test.YtcmkifhafcgjbaaQuantNearP6
import Derived.Test.YtcmkifhafcgjbaaQuantNearP7
import Derived.Test.YtcmkifhafcgjbaaQuantNearP8
import Derived.Test.YtcmkifhafcgjbaaQuantNearP9
import Derived.WalkKit
import Derived.ProofKit
import Derived.OpenShut
import Derived.ShutString
import Derived.ChangeOld
import Derived.Below
namespace Go.Proofs.Ytcmkifhafcgjbaa.quantNear
open Go.ChangeShapes Go.WideShapes Go.ChangeAt Go.RowKit Go.RX Go.Proofs.Ytcmkifhafcgjbaa
set_option linter.unusedVariables false
theorem own : ownKnob Try.prog.godebug = none := by kernel_rfl
theorem laidOut : laidOutB Try.prog = true := by kernel_rfl
theorem runs : ∀ n : Nat, n < 30 → run (n : Int) = true
  | 0, _ => run0
  | 1, _ => run1
  | 2, _ => run2
  | 3, _ => run3
  | 4, _ => run4
  | 5, _ => run5
  | 6, _ => run6
  | 7, _ => run7
  | 8, _ => run8
  | 9, _ => run9
  | 10, _ => run10
  | 11, _ => run11
  | 12, _ => run12
  | 13, _ => run13
  | 14, _ => run14
  | 15, _ => run15
  | 16, _ => run16
  | 17, _ => run17
  | 18, _ => run18
  | 19, _ => run19
  | 20, _ => run20
  | 21, _ => run21
  | 22, _ => run22
  | 23, _ => run23
  | 24, _ => run24
  | 25, _ => run25
  | 26, _ => run26
  | 27, _ => run27
  | 28, _ => run28
  | 29, _ => run29
  | _ + 30, h => absurd h (by omega)
theorem walk (a0 : Option Addr) (len0 cap0 : Nat) (z0 : List Int) (a1 : Int) (w : World) (w0 : Go.RX.IsRow w a0 len0 cap0 z0) (w1 : (Lit.int .i64 a1).wf = true) :
    Calls Try.prog 6 #[.slice a0 len0 cap0, .int .i64 a1] w fun e w' => e = .returned (.bool true) ∧ Below w.heap.size w w' := by
  have hR0 : R0.ok (va [(len0 : Int), a1] [⟨0, a0, z0⟩]) := rg_ok (lens := [0]) (bls := [2]) (sel := false) (spl := false) (by decide) (by decide) ⟨w0.len_bd, ⟨wf_bd w1, trivial⟩⟩ (by
    intro r hr
    simp only [List.mem_cons, List.not_mem_nil, or_false] at hr
    subst hr
    exact w0.bd)
  have hR : R.ok (V1 [(len0 : Int), a1] a0 z0) := R_ok hR0
  have hA : ArgsOk (V1 [(len0 : Int), a1] a0 z0) w := args_ok (by
    intro r hr
    simp only [List.mem_cons, List.not_mem_nil, or_false] at hr
    rcases hr with rfl | rfl
    · exact w0.ok (by decide) rfl
    · exact ⟨show (4 : Nat) < 16 by decide, fun ad h => by cases h⟩)
  have rels : ∀ N, AV.rels (V1 [(len0 : Int), a1] a0 z0) N [sv 0, iv 1] (#[.slice a0 len0 cap0, .int .i64 a1] : Array Value).toList := fun N => rels_cons' (sv_rel w0 0 (by decide) rfl rfl) (rels_cons' (iv_rel 1 (by decide) rfl) (rels_nil.2 rfl))
  have hb := E.rng_ok hR (umdE 1 30)
  have h1 : 0 ≤ ((umdE 1 30).rng R).1 := of_decide_eq_true (by kernel_rfl)
  have h2 : ((umdE 1 30).rng R).2 < 30 := of_decide_eq_true (by kernel_rfl)
  have hl : ∀ fn c, Try.prog.funcs[6]? = some fn → fn.body = some c → ∀ x ∈ loopsOf c, ∀ (α : Type) (p : α → Prop), CodeOk Try.prog (V1 [(len0 : Int), a1] a0 z0) w p fn.ntmps (dep fn.ntmps) (lp x α) (.loop x) := fun fn c hf hb x hx α p => by
    rw [nt_of hf]
    exact lpR_ok hR (fun _ h => cxT_ok h _ _ _ _ _) T_ok x α p
  obtain ⟨n, hn, h30⟩ : ∃ n : Nat, (umdE 1 30).den (V1 [(len0 : Int), a1] a0 z0) = (n : Int) ∧ n < 30 := ⟨((umdE 1 30).den (V1 [(len0 : Int), a1] a0 z0)).toNat, by omega, by omega⟩
  exact law_okL hR (fun _ h => cxT_ok h _ _ _ _ _) rels (isE_ok hn) hA hl (runs n h30)

set_option maxRecDepth 100000 in
theorem lifted (os : Os) (started : os.Started) (H : Type) (enc : TypeId × Value → H) :
    ReturnsInHanded {} Try.checked os 6 .any (Rows.quantNearSpec.pre6 enc Try.prog Try.f6 Rows.quantNearRow.domain false) (Rows.quantNearSpec.post enc Try.prog Try.f6 false true false false) := by
  refine returnsInHanded_of_change (C := Try.checked) own started (by kernel_rfl) Try.func6
    (ChangeSpec.witness6 (enc := enc) (C := Try.checked) false ⟨#[], #[.slice none 0 0, .int .i64 0], []⟩ 8 (by kernel_rfl) (by kernel_rfl) (by kernel_rfl) (by kernel_rfl)) ?_
  intro W base args ds gs before hval0 hW hcnd _
  have hval : ∀ (j : Nat) t v, Try.f6.params[j]? = some t → args[j]? = some v → Value.okWide Try.prog W .any base t v := hval0
  have hW' := hW
  obtain ⟨p, q, hA0, hV, rfl, hfz, hnd⟩ := hW
  have hA : DataW.TrodAll enc Try.prog W 0 (fun _ => true) true Try.f6.params.toList args.toList ds p := hA0
  rw [Try.params6] at hA hval
  obtain ⟨v0, vs0, d0, ds0, p0, q0, hargs, rfl, rfl, h0, r0⟩ := trodAll_cons hA
  obtain ⟨v1, vs1, d1, ds1, p1, q1, rfl, rfl, rfl, h1, r1⟩ := trodAll_cons r0
  obtain ⟨rfl, rfl, rfl⟩ := trodAll_nil r1
  obtain rfl : args = #[v0, v1] := by cases args; simp_all
  obtain ⟨rfl, rfl⟩ := trodVars_none hV
  obtain ⟨a0, len0, cap0, rfl⟩ := okWide_slice Try.underlying26 (hval 0 26 v0 rfl rfl)
  have k0 := h0
  have lt0 : ∀ x ∈ p0, x.block < W.heap.size := by obtain ⟨m, hm⟩ := k0; exact DataW.trod_lt m _ _ _ hm
  obtain ⟨z0, w0⟩ : ∃ zs, Go.RX.IsRow W a0 len0 cap0 zs := by
    obtain ⟨fuel, hf⟩ := h0
    rcases open_ints Try.underlying26 Try.underlying3 (by kernel_rfl) hf with ⟨hcs, _⟩ | ⟨x, l, c, zs, hcs, _, hl, hm, hz, _, hcell, hwz⟩
    · simp [Value.cells] at hcs
      obtain ⟨rfl, rfl, rfl⟩ := hcs
      exact ⟨[], .inl ⟨rfl, rfl, rfl, rfl⟩⟩
    · simp [Value.cells] at hcs
      obtain ⟨rfl, rfl, rfl⟩ := hcs
      exact ⟨zs, .inr ⟨_, rfl, hl, hm, by simpa using hz, hcell, hwz⟩⟩
  obtain ⟨a1, rfl, rfl, rfl, w1⟩ := open_int Try.underlying3 (hval 1 3 v1 rfl rfl) h1
  clear hA0 hval0
  refine (walk a0 len0 cap0 z0 a1 W w0 w1).mono fun e W' ⟨he, bel⟩ => ?_
  subst he
  exact ⟨_, rfl, _, _, _, [], _, [], hW', trodAll_mk1 (shut_bool Try.underlying4 _), (trodAll_cons_mk (Below.trod laidOut (by kernel_rfl) (of_decide_eq_true (by kernel_rfl)) k0 bel lt0) (trodAll_cons_mk (shut_int Try.underlying3 w1) trodAll_mk0)), rfl, bel.frame _, fun h => by cases h⟩

theorem over : Rows.quantNearRow.holds Try.pinned (OpenSpec.ofChange Rows.quantNearSpec) :=
  OpenClaim.holds_of_wide 6 Try.f6 rfl rfl rfl rfl rfl rfl rfl ⟨rfl, rfl, rfl, rfl, rfl⟩ rfl rfl rfl rfl rfl (by kernel_rfl) Try.func6 (by kernel_rfl)
    (of_decide_eq_true (by kernel_rfl)) (by unfold Func.isWrapper; first | (rw [if_pos (by decide +kernel)]; kernel_rfl) | (rw [if_neg (by decide +kernel)]; exact ⟨rfl, rfl⟩))
    (fun os started H enc _ => lifted os started H enc)

/-- The statement. -/
theorem proved : Rows.QuantNearSaid := over
#print axioms proved
end Go.Proofs.Ytcmkifhafcgjbaa.quantNear
