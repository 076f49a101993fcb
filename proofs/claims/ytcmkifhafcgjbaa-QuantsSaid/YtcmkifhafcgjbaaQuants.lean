/- Quants returns true for every input: it neither panics nor runs on, and what came in reads as before. Without a condition. The walk is one evaluation, in Lean's kernel, of a symbolic run that the texts Rx.. prove sound. -/
import Derived.Test.YtcmkifhafcgjbaaRows
import Derived.Test.YtcmkifhafcgjbaaRxAwake
import Derived.Test.YtcmkifhafcgjbaaRxL
import Derived.Test.YtcmkifhafcgjbaaQuantsR
import Derived.Test.YtcmkifhafcgjbaaQuantsP0
import Derived.Test.YtcmkifhafcgjbaaQuantsP1
import Derived.Test.YtcmkifhafcgjbaaQuantsP2
import Derived.Test.YtcmkifhafcgjbaaQuantsP3
import Derived.Test.YtcmkifhafcgjbaaQuantsP4
import Derived.Test.YtcmkifhafcgjbaaQuantsP5
import Derived.Test.YtcmkifhafcgjbaaQuantsP6
import Derived.Test.YtcmkifhafcgjbaaQuantsP7
import Derived.Test.YtcmkifhafcgjbaaQuantsP8
import Derived.Test.YtcmkifhafcgjbaaQuantsP9
import Derived.Test.YtcmkifhafcgjbaaQuantsP10
import Derived.Test.YtcmkifhafcgjbaaQuantsP11
import Derived.Test.YtcmkifhafcgjbaaQuantsP12
import Derived.Test.YtcmkifhafcgjbaaQuantsP13
import Derived.Test.YtcmkifhafcgjbaaQuantsP14
import Derived.Test.YtcmkifhafcgjbaaQuantsP15
import Derived.Test.YtcmkifhafcgjbaaQuantsP16
import Derived.Test.YtcmkifhafcgjbaaQuantsP17
import Derived.Test.YtcmkifhafcgjbaaQuantsP18
import Derived.Test.YtcmkifhafcgjbaaQuantsP19
import Derived.Test.YtcmkifhafcgjbaaQuantsP20
import Derived.Test.YtcmkifhafcgjbaaQuantsP21
import Derived.Test.YtcmkifhafcgjbaaQuantsP22
import Derived.WalkKit
import Derived.ProofKit
import Derived.OpenShut
import Derived.ShutString
import Derived.ChangeOld
import Derived.Below
namespace Go.Proofs.Ytcmkifhafcgjbaa.quants
open Go.ChangeShapes Go.WideShapes Go.ChangeAt Go.RowKit Go.RX Go.Proofs.Ytcmkifhafcgjbaa
set_option linter.unusedVariables false
theorem own : ownKnob Try.prog.godebug = none := by kernel_rfl
theorem laidOut : laidOutB Try.prog = true := by kernel_rfl
theorem runsA : ∀ n : Nat, n < 52 → runA (n : Int) = true
  | 0, _ => runA0
  | 1, _ => runA1
  | 2, _ => runA2
  | 3, _ => runA3
  | 4, _ => runA4
  | 5, _ => runA5
  | 6, _ => runA6
  | 7, _ => runA7
  | 8, _ => runA8
  | 9, _ => runA9
  | 10, _ => runA10
  | 11, _ => runA11
  | 12, _ => runA12
  | 13, _ => runA13
  | 14, _ => runA14
  | 15, _ => runA15
  | 16, _ => runA16
  | 17, _ => runA17
  | 18, _ => runA18
  | 19, _ => runA19
  | 20, _ => runA20
  | 21, _ => runA21
  | 22, _ => runA22
  | 23, _ => runA23
  | 24, _ => runA24
  | 25, _ => runA25
  | 26, _ => runA26
  | 27, _ => runA27
  | 28, _ => runA28
  | 29, _ => runA29
  | 30, _ => runA30
  | 31, _ => runA31
  | 32, _ => runA32
  | 33, _ => runA33
  | 34, _ => runA34
  | 35, _ => runA35
  | 36, _ => runA36
  | 37, _ => runA37
  | 38, _ => runA38
  | 39, _ => runA39
  | 40, _ => runA40
  | 41, _ => runA41
  | 42, _ => runA42
  | 43, _ => runA43
  | 44, _ => runA44
  | 45, _ => runA45
  | 46, _ => runA46
  | 47, _ => runA47
  | 48, _ => runA48
  | 49, _ => runA49
  | 50, _ => runA50
  | 51, _ => runA51
  | _ + 52, h => absurd h (by omega)
theorem runsB : ∀ n : Nat, n < 52 → runB (n : Int) = true
  | 0, _ => runB0
  | 1, _ => runB1
  | 2, _ => runB2
  | 3, _ => runB3
  | 4, _ => runB4
  | 5, _ => runB5
  | 6, _ => runB6
  | 7, _ => runB7
  | 8, _ => runB8
  | 9, _ => runB9
  | 10, _ => runB10
  | 11, _ => runB11
  | 12, _ => runB12
  | 13, _ => runB13
  | 14, _ => runB14
  | 15, _ => runB15
  | 16, _ => runB16
  | 17, _ => runB17
  | 18, _ => runB18
  | 19, _ => runB19
  | 20, _ => runB20
  | 21, _ => runB21
  | 22, _ => runB22
  | 23, _ => runB23
  | 24, _ => runB24
  | 25, _ => runB25
  | 26, _ => runB26
  | 27, _ => runB27
  | 28, _ => runB28
  | 29, _ => runB29
  | 30, _ => runB30
  | 31, _ => runB31
  | 32, _ => runB32
  | 33, _ => runB33
  | 34, _ => runB34
  | 35, _ => runB35
  | 36, _ => runB36
  | 37, _ => runB37
  | 38, _ => runB38
  | 39, _ => runB39
  | 40, _ => runB40
  | 41, _ => runB41
  | 42, _ => runB42
  | 43, _ => runB43
  | 44, _ => runB44
  | 45, _ => runB45
  | 46, _ => runB46
  | 47, _ => runB47
  | 48, _ => runB48
  | 49, _ => runB49
  | 50, _ => runB50
  | 51, _ => runB51
  | _ + 52, h => absurd h (by omega)
theorem runsC : ∀ n : Nat, n < 52 → runC (n : Int) = true
  | 0, _ => runC0
  | 1, _ => runC1
  | 2, _ => runC2
  | 3, _ => runC3
  | 4, _ => runC4
  | 5, _ => runC5
  | 6, _ => runC6
  | 7, _ => runC7
  | 8, _ => runC8
  | 9, _ => runC9
  | 10, _ => runC10
  | 11, _ => runC11
  | 12, _ => runC12
  | 13, _ => runC13
  | 14, _ => runC14
  | 15, _ => runC15
  | 16, _ => runC16
  | 17, _ => runC17
  | 18, _ => runC18
  | 19, _ => runC19
  | 20, _ => runC20
  | 21, _ => runC21
  | 22, _ => runC22
  | 23, _ => runC23
  | 24, _ => runC24
  | 25, _ => runC25
  | 26, _ => runC26
  | 27, _ => runC27
  | 28, _ => runC28
  | 29, _ => runC29
  | 30, _ => runC30
  | 31, _ => runC31
  | 32, _ => runC32
  | 33, _ => runC33
  | 34, _ => runC34
  | 35, _ => runC35
  | 36, _ => runC36
  | 37, _ => runC37
  | 38, _ => runC38
  | 39, _ => runC39
  | 40, _ => runC40
  | 41, _ => runC41
  | 42, _ => runC42
  | 43, _ => runC43
  | 44, _ => runC44
  | 45, _ => runC45
  | 46, _ => runC46
  | 47, _ => runC47
  | 48, _ => runC48
  | 49, _ => runC49
  | 50, _ => runC50
  | 51, _ => runC51
  | _ + 52, h => absurd h (by omega)
theorem walk (a0 : Option Addr) (len0 cap0 : Nat) (z0 : List Int) (a1 : Int) (a2 : Int) (a3 : Bool) (w : World) (w0 : Go.RX.IsRow w a0 len0 cap0 z0) (w1 : (Lit.int .i64 a1).wf = true) (w2 : (Lit.int .i64 a2).wf = true) :
    Calls Try.prog 7 #[.slice a0 len0 cap0, .int .i64 a1, .int .i64 a2, .bool a3] w fun e w' => e = .returned (.bool true) ∧ Below w.heap.size w w' := by
  have hR0 : R0.ok (va [(len0 : Int), a1, a2, b01 a3] [⟨0, a0, z0⟩]) := rg_ok (lens := [0]) (bls := [3]) (sel := false) (spl := false) (by decide) (by decide) ⟨w0.len_bd, ⟨wf_bd w1, ⟨wf_bd w2, ⟨b01_bd a3, trivial⟩⟩⟩⟩ (by
    intro r hr
    simp only [List.mem_cons, List.not_mem_nil, or_false] at hr
    subst hr
    exact w0.bd)
  have hA : ArgsOk (V1 [(len0 : Int), a1, a2, b01 a3] a0 z0) w := args_ok (by
    intro r hr
    simp only [List.mem_cons, List.not_mem_nil, or_false] at hr
    rcases hr with rfl | rfl
    · exact w0.ok (by decide) rfl
    · exact ⟨show (4 : Nat) < 16 by decide, fun ad h => by cases h⟩)
  have rels : ∀ N, AV.rels (V1 [(len0 : Int), a1, a2, b01 a3] a0 z0) N [sv 0, iv 1, iv 2, bv 3] (#[.slice a0 len0 cap0, .int .i64 a1, .int .i64 a2, .bool a3] : Array Value).toList := fun N => rels_cons' (sv_rel w0 0 (by decide) rfl rfl) (rels_cons' (iv_rel 1 (by decide) rfl) (rels_cons' (iv_rel 2 (by decide) rfl) (rels_cons' (bv_rel 3 (by decide) rfl) (rels_nil.2 rfl))))
  have hl : ∀ lo hi : Int, (R lo hi).ok (V1 [(len0 : Int), a1, a2, b01 a3] a0 z0) → ∀ fn c, Try.prog.funcs[7]? = some fn → fn.body = some c → ∀ x ∈ loopsOf c, ∀ (α : Type) (p : α → Prop), CodeOk Try.prog (V1 [(len0 : Int), a1, a2, b01 a3] a0 z0) w p fn.ntmps (dep fn.ntmps) (lp (R lo hi) x α) (.loop x) := fun lo hi hR fn c hf hb x hx α p => by
    rw [nt_of hf]
    exact lpR_ok hR (fun _ h => cxT_ok h _ _ _ _ _ _) T_ok x α p
  have hC : RC.ok (V1 [(len0 : Int), a1, a2, b01 a3] a0 z0) := R_ok (by decide) (zs_bd hR0) hR0
  have v1 : ((V1 [(len0 : Int), a1, a2, b01 a3] a0 z0)).v 1 = a1 := rfl
  have one : ∀ e : E, 0 ≤ e.den (V1 [(len0 : Int), a1, a2, b01 a3] a0 z0) → Fs.ok (V1 [(len0 : Int), a1, a2, b01 a3] a0 z0) [e] := fun e he y hy => by rw [List.mem_singleton.1 hy]; exact he
  rcases Int.lt_or_le a1 0 with h1 | h1
  · exact law_okL hC (fun _ h => cxT_ok h _ _ _ _ _ _) rels (one _ (by rw [E.den_sub, E.den_atom]; simp only [E.den, v1]; omega)) hA (hl _ _ hC) runlow
  rcases Int.lt_or_le 51 a1 with h2 | h2
  · exact law_okL hC (fun _ h => cxT_ok h _ _ _ _ _ _) rels (one _ (by rw [E.den_sub, E.den_atom]; simp only [E.den, v1]; omega)) hA (hl _ _ hC) runhigh
  obtain ⟨n, hn, h52⟩ : ∃ n : Nat, a1 = (n : Int) ∧ n < 52 := ⟨a1.toNat, by omega, by omega⟩
  have relsL : ∀ N, AV.rels (V1 [(len0 : Int), a1, a2, b01 a3] a0 z0) N [sv 0, .int .i64 (.k (n : Int)), iv 2, bv 3] (#[.slice a0 len0 cap0, .int .i64 a1, .int .i64 a2, .bool a3] : Array Value).toList := fun N => rels_cons' (sv_rel w0 0 (by decide) rfl rfl) (rels_cons' (lit_rel hn) (rels_cons' (iv_rel 2 (by decide) rfl) (rels_cons' (bv_rel 3 (by decide) rfl) (rels_nil.2 rfl))))
  by_cases hz1 : ∀ x ∈ zs (V0 [(len0 : Int), a1, a2, b01 a3] a0 z0), (-32767 : Int) ≤ x ∧ x ≤ 32767
  · have hR := R_ok (by decide) hz1 hR0
    exact law_okL hR (fun _ h => cxT_ok h _ _ _ _ _ _) relsL (fun _ h => by cases h) hA (hl _ _ hR) (runsA n h52)
  by_cases hz2 : ∀ x ∈ zs (V0 [(len0 : Int), a1, a2, b01 a3] a0 z0), (-1048576 : Int) ≤ x ∧ x ≤ 1048576
  · have hR := R_ok (by decide) hz2 hR0
    exact law_okL hR (fun _ h => cxT_ok h _ _ _ _ _ _) relsL (isE_ok (beyond hz1)) hA (hl _ _ hR) (runsB n h52)
  · exact law_okL hC (fun _ h => cxT_ok h _ _ _ _ _ _) relsL (fs_app (isE_ok (beyond hz2)) (isE_ok (beyond hz1))) hA (hl _ _ hC) (runsC n h52)

set_option maxRecDepth 100000 in
theorem lifted (os : Os) (started : os.Started) (H : Type) (enc : TypeId × Value → H) :
    ReturnsInHanded {} Try.checked os 7 .any (Rows.quantsSpec.pre6 enc Try.prog Try.f7 Rows.quantsRow.domain false) (Rows.quantsSpec.post enc Try.prog Try.f7 false true false false) := by
  refine returnsInHanded_of_change (C := Try.checked) own started (by kernel_rfl) Try.func7
    (ChangeSpec.witness6 (enc := enc) (C := Try.checked) false ⟨#[], #[.slice none 0 0, .int .i64 0, .int .i64 0, .bool false], []⟩ 8 (by kernel_rfl) (by kernel_rfl) (by kernel_rfl) (by kernel_rfl)) ?_
  intro W base args ds gs before hval0 hW hcnd _
  have hval : ∀ (j : Nat) t v, Try.f7.params[j]? = some t → args[j]? = some v → Value.okWide Try.prog W .any base t v := hval0
  have hW' := hW
  obtain ⟨p, q, hA0, hV, rfl, hfz, hnd⟩ := hW
  have hA : DataW.TrodAll enc Try.prog W 0 (fun _ => true) true Try.f7.params.toList args.toList ds p := hA0
  rw [Try.params7] at hA hval
  obtain ⟨v0, vs0, d0, ds0, p0, q0, hargs, rfl, rfl, h0, r0⟩ := trodAll_cons hA
  obtain ⟨v1, vs1, d1, ds1, p1, q1, rfl, rfl, rfl, h1, r1⟩ := trodAll_cons r0
  obtain ⟨v2, vs2, d2, ds2, p2, q2, rfl, rfl, rfl, h2, r2⟩ := trodAll_cons r1
  obtain ⟨v3, vs3, d3, ds3, p3, q3, rfl, rfl, rfl, h3, r3⟩ := trodAll_cons r2
  obtain ⟨rfl, rfl, rfl⟩ := trodAll_nil r3
  obtain rfl : args = #[v0, v1, v2, v3] := by cases args; simp_all
  obtain ⟨rfl, rfl⟩ := trodVars_none hV
  obtain ⟨a0, len0, cap0, rfl⟩ := okWide_slice Try.underlying26 (hval 0 26 v0 rfl rfl)
  have k0 := h0
  have lt0 : ∀ x ∈ p0, x.block < W.heap.size := by obtain ⟨m, hm⟩ := k0; exact DataW.trod_lt m _ _ _ hm
  obtain ⟨z0, w0⟩ : ∃ zs, Go.RX.IsRow W a0 len0 cap0 zs := by
    obtain ⟨fuel, hf⟩ := h0
    rcases open_ints Try.underlying26 Try.underlying3 (by kernel_rfl) hf with ⟨hcs, _⟩ | ⟨x, l, c, zs, hcs, _, hl, hm, hz, _, hcell, hwz⟩
    · simp [Value.cells] at hcs
      obtain ⟨rfl, rfl, rfl⟩ := hcs
      exact ⟨[], .inl ⟨rfl, rfl, rfl, rfl⟩⟩
    · simp [Value.cells] at hcs
      obtain ⟨rfl, rfl, rfl⟩ := hcs
      exact ⟨zs, .inr ⟨_, rfl, hl, hm, by simpa using hz, hcell, hwz⟩⟩
  obtain ⟨a1, rfl, rfl, rfl, w1⟩ := open_int Try.underlying3 (hval 1 3 v1 rfl rfl) h1
  obtain ⟨a2, rfl, rfl, rfl, w2⟩ := open_int Try.underlying3 (hval 2 3 v2 rfl rfl) h2
  obtain ⟨a3, rfl, rfl, rfl⟩ := open_bool Try.underlying4 (hval 3 4 v3 rfl rfl) h3
  clear hA0 hval0
  refine (walk a0 len0 cap0 z0 a1 a2 a3 W w0 w1 w2).mono fun e W' ⟨he, bel⟩ => ?_
  subst he
  exact ⟨_, rfl, _, _, _, [], _, [], hW', trodAll_mk1 (shut_bool Try.underlying4 _), (trodAll_cons_mk (Below.trod laidOut (by kernel_rfl) (of_decide_eq_true (by kernel_rfl)) k0 bel lt0) (trodAll_cons_mk (shut_int Try.underlying3 w1) (trodAll_cons_mk (shut_int Try.underlying3 w2) (trodAll_cons_mk (shut_bool Try.underlying4 _) trodAll_mk0)))), rfl, bel.frame _, fun h => by cases h⟩

theorem over : Rows.quantsRow.holds Try.pinned (OpenSpec.ofChange Rows.quantsSpec) :=
  OpenClaim.holds_of_wide 7 Try.f7 rfl rfl rfl rfl rfl rfl rfl ⟨rfl, rfl, rfl, rfl, rfl⟩ rfl rfl rfl rfl rfl (by kernel_rfl) Try.func7 (by kernel_rfl)
    (of_decide_eq_true (by kernel_rfl)) (by unfold Func.isWrapper; first | (rw [if_pos (by decide +kernel)]; kernel_rfl) | (rw [if_neg (by decide +kernel)]; exact ⟨rfl, rfl⟩))
    (fun os started H enc _ => lifted os started H enc)

/-- The statement. -/
theorem proved : Rows.QuantsSaid := over
#print axioms proved
end Go.Proofs.Ytcmkifhafcgjbaa.quants
