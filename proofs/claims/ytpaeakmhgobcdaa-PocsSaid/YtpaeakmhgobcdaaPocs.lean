/- Pocs returns true for every input: it neither panics nor runs on, and what came in reads as before. Without a condition. -/
import Derived.Test.YtpaeakmhgobcdaaRows
import Derived.Test.YtpaeakmhgobcdaaRxAwake
import Derived.Test.YtpaeakmhgobcdaaPocsW
import Derived.SizedLaws
import Derived.WalkKit
import Derived.ProofKit
import Derived.OpenShut
import Derived.ShutString
import Derived.ChangeOld
import Derived.Below
namespace Go.Proofs.Ytpaeakmhgobcdaa.pocs
open Go.ChangeShapes Go.WideShapes Go.ChangeAt Go.RowKit Go.RX Go.Proofs.Ytpaeakmhgobcdaa Go.Proofs.Ytpaeakmhgobcdaa.po
set_option linter.unusedVariables false
theorem own : ownKnob Try.prog.godebug = none := by kernel_rfl
theorem laidOut : laidOutB Try.prog = true := by kernel_rfl
section
variable {H : Type} {enc : TypeId × Value → H} {P : Program} {w : World} {spare : Nat → Bool} {held : Bool} {base : Nat}
theorem sized_agg {ts : List TypeId} {ds : List (DataW H)} (h : (DataW.weightsEach P ts ds).all (· ≤ reachBytes) = true) {j : Nat} {t : TypeId} {fs : Array Field} {parts : List (DataW H)} (ht : ts[j]? = some t) (hd : ds[j]? = some (.agg parts)) (hu : P.underlying t = some (.struct fs)) :
    (DataW.weightsEach P (fs.toList.map (·.type)) parts).all (· ≤ reachBytes) = true :=
  List.all_eq_true.2 fun n hn => List.all_eq_true.1 h n (DataW.weights_mem_each ht hd n (by simp only [DataW.weights, hu]; exact hn))
theorem array9 {α : Type} {cs : Array α} (h : cs.size = 9) : ∃ c0 c1 c2 c3 c4 c5 c6 c7 c8, cs = #[c0, c1, c2, c3, c4, c5, c6, c7, c8] := by
  obtain ⟨l⟩ := cs
  match l, h with
  | [c0, c1, c2, c3, c4, c5, c6, c7, c8], _ => exact ⟨c0, c1, c2, c3, c4, c5, c6, c7, c8, rfl⟩
theorem cells3 : Try.prog.cellsOf 3 = 1 := by kernel_rfl
theorem cells22 : Try.prog.cellsOf 22 = 1 := by kernel_rfl
theorem cells24 : Try.prog.cellsOf 24 = 9 := by kernel_rfl
theorem open_sps {r : Reach} {b0 : Nat} {v : Value} {d : DataW H} {ps : List MemPlace} (hval : Value.okWide Try.prog w r b0 24 v) (hd : DataW.Trod enc Try.prog w base (fun _ => true) held 24 v d ps) :
    ∃ (s0 s1 s2 s3 s4 s5 s7 s8 : Int) (X : Option Addr) (n c : Nat) (z : List Int) (parts : List (DataW H)), v = .agg #[.int .i64 s0, .int .i64 s1, .int .i64 s2, .int .i64 s3, .int .i64 s4, .int .i64 s5, .slice X n c, .int .i64 s7, .int .i64 s8] ∧ d = .agg parts ∧ ((Lit.int .i64 s0).wf = true ∧ (Lit.int .i64 s1).wf = true ∧ (Lit.int .i64 s2).wf = true ∧ (Lit.int .i64 s3).wf = true ∧ (Lit.int .i64 s4).wf = true ∧ (Lit.int .i64 s5).wf = true ∧ (Lit.int .i64 s7).wf = true ∧ (Lit.int .i64 s8).wf = true) ∧ IsRow w X n c z ∧ (n = 0 ∨ parts[6]? = some (.slice (lits .i64 (z.take n)) (lits .i64 (z.drop n)))) := by
  obtain ⟨cs, rfl, hsz⟩ := okWide_struct Try.underlying24 hval
  obtain ⟨c0, c1, c2, c3, c4, c5, c6, c7, c8, rfl⟩ := array9 (hsz.trans cells24)
  obtain ⟨fuel, hf⟩ := hd
  obtain ⟨xs, m, _, hx, _, hlen, hfd⟩ := DataW.trod_struct Try.underlying24 hf
  have hd : d = .agg (xs.map (·.1)) := (Prod.mk.inj hx).1
  have hl9 : xs.length = 9 := hlen
  have get : ∀ i, i < 9 → ∃ y, xs[i]? = some y := fun i hi => ⟨_, List.getElem?_eq_getElem (by omega)⟩
  obtain ⟨y0, e0⟩ := get 0 (by decide)
  have f0 : DataW.trod enc Try.prog w base (fun _ => true) held m 3 (([c0, c1, c2, c3, c4, c5, c6, c7, c8].drop 0).take (Try.prog.cellsOf 3)) = xs[0]? := hfd 0 _ rfl
  rw [e0, cells3] at f0
  obtain ⟨s0, k0, _, w0⟩ := DataW.trod_int Try.underlying3 (show DataW.trod enc Try.prog w base (fun _ => true) held m 3 [c0] = some y0 from f0)
  obtain rfl : c0 = .int .i64 s0 := by simpa using k0
  obtain ⟨y1, e1⟩ := get 1 (by decide)
  have f1 : DataW.trod enc Try.prog w base (fun _ => true) held m 3 (([(.int .i64 s0), c1, c2, c3, c4, c5, c6, c7, c8].drop 1).take (Try.prog.cellsOf 3)) = xs[1]? := hfd 1 _ rfl
  rw [e1, cells3] at f1
  obtain ⟨s1, k1, _, w1⟩ := DataW.trod_int Try.underlying3 (show DataW.trod enc Try.prog w base (fun _ => true) held m 3 [c1] = some y1 from f1)
  obtain rfl : c1 = .int .i64 s1 := by simpa using k1
  obtain ⟨y2, e2⟩ := get 2 (by decide)
  have f2 : DataW.trod enc Try.prog w base (fun _ => true) held m 3 (([(.int .i64 s0), (.int .i64 s1), c2, c3, c4, c5, c6, c7, c8].drop 2).take (Try.prog.cellsOf 3)) = xs[2]? := hfd 2 _ rfl
  rw [e2, cells3] at f2
  obtain ⟨s2, k2, _, w2⟩ := DataW.trod_int Try.underlying3 (show DataW.trod enc Try.prog w base (fun _ => true) held m 3 [c2] = some y2 from f2)
  obtain rfl : c2 = .int .i64 s2 := by simpa using k2
  obtain ⟨y3, e3⟩ := get 3 (by decide)
  have f3 : DataW.trod enc Try.prog w base (fun _ => true) held m 3 (([(.int .i64 s0), (.int .i64 s1), (.int .i64 s2), c3, c4, c5, c6, c7, c8].drop 3).take (Try.prog.cellsOf 3)) = xs[3]? := hfd 3 _ rfl
  rw [e3, cells3] at f3
  obtain ⟨s3, k3, _, w3⟩ := DataW.trod_int Try.underlying3 (show DataW.trod enc Try.prog w base (fun _ => true) held m 3 [c3] = some y3 from f3)
  obtain rfl : c3 = .int .i64 s3 := by simpa using k3
  obtain ⟨y4, e4⟩ := get 4 (by decide)
  have f4 : DataW.trod enc Try.prog w base (fun _ => true) held m 3 (([(.int .i64 s0), (.int .i64 s1), (.int .i64 s2), (.int .i64 s3), c4, c5, c6, c7, c8].drop 4).take (Try.prog.cellsOf 3)) = xs[4]? := hfd 4 _ rfl
  rw [e4, cells3] at f4
  obtain ⟨s4, k4, _, w4⟩ := DataW.trod_int Try.underlying3 (show DataW.trod enc Try.prog w base (fun _ => true) held m 3 [c4] = some y4 from f4)
  obtain rfl : c4 = .int .i64 s4 := by simpa using k4
  obtain ⟨y5, e5⟩ := get 5 (by decide)
  have f5 : DataW.trod enc Try.prog w base (fun _ => true) held m 3 (([(.int .i64 s0), (.int .i64 s1), (.int .i64 s2), (.int .i64 s3), (.int .i64 s4), c5, c6, c7, c8].drop 5).take (Try.prog.cellsOf 3)) = xs[5]? := hfd 5 _ rfl
  rw [e5, cells3] at f5
  obtain ⟨s5, k5, _, w5⟩ := DataW.trod_int Try.underlying3 (show DataW.trod enc Try.prog w base (fun _ => true) held m 3 [c5] = some y5 from f5)
  obtain rfl : c5 = .int .i64 s5 := by simpa using k5
  obtain ⟨y6, e6⟩ := get 6 (by decide)
  have f6 : DataW.trod enc Try.prog w base (fun _ => true) held m 22 (([(.int .i64 s0), (.int .i64 s1), (.int .i64 s2), (.int .i64 s3), (.int .i64 s4), (.int .i64 s5), c6, c7, c8].drop 6).take (Try.prog.cellsOf 22)) = xs[6]? := hfd 6 _ rfl
  rw [e6, cells22] at f6
  have g6 : ∃ (X : Option Addr) (n c : Nat) (z : List Int), c6 = .slice X n c ∧ IsRow w X n c z ∧ (n = 0 ∨ y6.1 = .slice (lits .i64 (z.take n)) (lits .i64 (z.drop n))) := by
    rcases open_ints Try.underlying22 Try.underlying3 cells3 (show DataW.trod enc Try.prog w base (fun _ => true) held m 22 [c6] = some y6 from f6) with ⟨hcs, _⟩ | ⟨x, l, cc, zs, hcs, _, hl, hm, hz, hx6, hcell, hwz⟩
    · exact ⟨none, 0, 0, [], by simpa using hcs, .inl ⟨rfl, rfl, rfl, rfl⟩, .inl rfl⟩
    · exact ⟨some x, l, cc, zs, by simpa using hcs, .inr ⟨x, rfl, hl, hm, by simpa using hz, hcell, hwz⟩, .inr (by rw [hx6])⟩
  obtain ⟨X, n, c, z, rfl, hrow, hy6⟩ := g6
  obtain ⟨y7, e7⟩ := get 7 (by decide)
  have f7 : DataW.trod enc Try.prog w base (fun _ => true) held m 3 (([(.int .i64 s0), (.int .i64 s1), (.int .i64 s2), (.int .i64 s3), (.int .i64 s4), (.int .i64 s5), (.slice X n c), c7, c8].drop 7).take (Try.prog.cellsOf 3)) = xs[7]? := hfd 7 _ rfl
  rw [e7, cells3] at f7
  obtain ⟨s7, k7, _, w7⟩ := DataW.trod_int Try.underlying3 (show DataW.trod enc Try.prog w base (fun _ => true) held m 3 [c7] = some y7 from f7)
  obtain rfl : c7 = .int .i64 s7 := by simpa using k7
  obtain ⟨y8, e8⟩ := get 8 (by decide)
  have f8 : DataW.trod enc Try.prog w base (fun _ => true) held m 3 (([(.int .i64 s0), (.int .i64 s1), (.int .i64 s2), (.int .i64 s3), (.int .i64 s4), (.int .i64 s5), (.slice X n c), (.int .i64 s7), c8].drop 8).take (Try.prog.cellsOf 3)) = xs[8]? := hfd 8 _ rfl
  rw [e8, cells3] at f8
  obtain ⟨s8, k8, _, w8⟩ := DataW.trod_int Try.underlying3 (show DataW.trod enc Try.prog w base (fun _ => true) held m 3 [c8] = some y8 from f8)
  obtain rfl : c8 = .int .i64 s8 := by simpa using k8
  refine ⟨s0, s1, s2, s3, s4, s5, s7, s8, X, n, c, z, xs.map (·.1), rfl, hd, ⟨w0, w1, w2, w3, w4, w5, w7, w8⟩, hrow, ?_⟩
  rcases hy6 with h | h
  · exact .inl h
  · exact .inr (by rw [List.getElem?_map, e6, ← h]; rfl)
end
theorem rowIs_of {w : World} {a : Option Addr} {len cap : Nat} {zs : List Int} (h : Go.RX.IsRow w a len cap zs) (hb : len * 8 ≤ 140737488351232) : RowIs w a len cap zs := by
  have hbd := h.bd
  rcases h with ⟨rfl, rfl, rfl, rfl⟩ | ⟨x, rfl, h1, h2, h3, h4, h5⟩
  · exact RowIs.none w hbd
  · refine ⟨h1, by omega, hbd, ?_⟩
    rcases Nat.eq_zero_or_pos len with h0 | h0
    · exact .inl h0
    · obtain ⟨b, off, spot⟩ := x
      have hc0 := h4 0 (by omega)
      have hspot : spot = none := by simpa [Addr.add] using World.cell?_spot hc0
      subst hspot
      refine .inr ⟨b, off, rfl, ?_, fun j hj => ?_⟩
      · have := World.block_lt_of_cell? w _ hc0
        rwa [Go.RX.addr_block] at this
      · have := h4 j (by omega)
        rwa [add_at] at this
theorem bytes3 : Try.prog.bytesOf 3 = 8 := by kernel_rfl
set_option maxRecDepth 100000 in
theorem lifted (os : Os) (started : os.Started) (H : Type) (enc : TypeId × Value → H) :
    ReturnsInHanded {} Try.checked os 3 .any (Rows.pocsSpec.pre6 enc Try.prog Try.f3 Rows.pocsRow.domain false) (Rows.pocsSpec.post enc Try.prog Try.f3 false true false false) := by
  refine returnsInHanded_of_change_sized (C := Try.checked) own started (by kernel_rfl) Try.func3
    (ChangeSpec.witness6 (enc := enc) (C := Try.checked) false ⟨#[], #[.agg #[.int .i64 0, .int .i64 0, .int .i64 0, .int .i64 0, .int .i64 0, .int .i64 0, .slice none 0 0, .int .i64 0, .int .i64 0], .int .i64 0, .int .i64 0, .int .i64 0, .int .i64 0, .bool false], []⟩ 8 (by kernel_rfl) (by kernel_rfl) (by kernel_rfl) (by kernel_rfl)) ?_
  intro W base args ds gs before hval0 hW hcnd hsz0 _
  have hval : ∀ (j : Nat) t v, Try.f3.params[j]? = some t → args[j]? = some v → Value.okWide Try.prog W .any base t v := hval0
  have hW' := hW
  obtain ⟨p, q, hA0, hV, rfl, hfz, hnd⟩ := hW
  have hA : DataW.TrodAll enc Try.prog W 0 (fun _ => true) true Try.f3.params.toList args.toList ds p := hA0
  have hsz : (DataW.weightsEach Try.prog (Try.f3.params.toList ++ Rows.pocsSpec.plain.varTypes Try.prog) (ds ++ gs)).all (· ≤ reachBytes) = true := hsz0
  rw [Try.params3] at hA hval hsz
  obtain ⟨v0, vs0, d0, ds0, p0, q0, hargs, rfl, rfl, h0, r0⟩ := trodAll_cons hA
  obtain ⟨v1, vs1, d1, ds1, p1, q1, rfl, rfl, rfl, h1, r1⟩ := trodAll_cons r0
  obtain ⟨v2, vs2, d2, ds2, p2, q2, rfl, rfl, rfl, h2, r2⟩ := trodAll_cons r1
  obtain ⟨v3, vs3, d3, ds3, p3, q3, rfl, rfl, rfl, h3, r3⟩ := trodAll_cons r2
  obtain ⟨v4, vs4, d4, ds4, p4, q4, rfl, rfl, rfl, h4, r4⟩ := trodAll_cons r3
  obtain ⟨v5, vs5, d5, ds5, p5, q5, rfl, rfl, rfl, h5, r5⟩ := trodAll_cons r4
  obtain ⟨rfl, rfl, rfl⟩ := trodAll_nil r5
  obtain rfl : args = #[v0, v1, v2, v3, v4, v5] := by cases args; simp_all
  obtain ⟨rfl, rfl⟩ := trodVars_none hV
  have k0 := h0
  have lt0 : ∀ x ∈ p0, x.block < W.heap.size := by obtain ⟨m, hm⟩ := k0; exact DataW.trod_lt m _ _ _ hm
  obtain ⟨s0, s1, s2, s3, s4, s5, s7, s8, X, n, c, z, parts, rfl, hd0, ⟨ws0, ws1, ws2, ws3, ws4, ws5, ws7, ws8⟩, hrow, h6⟩ := open_sps (hval 0 24 v0 rfl rfl) h0
  obtain ⟨a1, rfl, rfl, rfl, w1⟩ := open_int Try.underlying3 (hval 1 3 v1 rfl rfl) h1
  obtain ⟨a2, rfl, rfl, rfl, w2⟩ := open_int Try.underlying3 (hval 2 3 v2 rfl rfl) h2
  obtain ⟨a3, rfl, rfl, rfl, w3⟩ := open_int Try.underlying3 (hval 3 3 v3 rfl rfl) h3
  obtain ⟨a4, rfl, rfl, rfl, w4⟩ := open_int Try.underlying3 (hval 4 3 v4 rfl rfl) h4
  obtain ⟨a5, rfl, rfl, rfl⟩ := open_bool Try.underlying4 (hval 5 4 v5 rfl rfl) h5
  have hb : n * 8 ≤ 140737488351232 := by
    rcases h6 with rfl | h6
    · decide
    · have hq := sized_agg hsz (j := 0) (t := 24) rfl (by rw [hd0]; rfl) Try.underlying24
      have hs := sized_slice hq (j := 6) (t := 22) (e := 3) rfl h6 Try.underlying22
      rw [bytes3] at hs
      simp only [lits, List.length_map, List.length_take, List.length_drop, reachBytes] at hs
      rcases hrow with ⟨_, rfl, _, _⟩ | ⟨_, _, h1, _, h3, _⟩
      · decide
      · omega
  clear hA0 hval0 hsz hsz0
  have ok : Nums.ok ⟨s0, s1, s2, s3, s4, s5, n, s7, s8, a1, a2, a3, a4, a5, z⟩ := ⟨wf_bd ws0, wf_bd ws1, wf_bd ws2, wf_bd ws3, wf_bd ws4, wf_bd ws5, wf_bd ws7, wf_bd ws8, wf_bd w1, wf_bd w2, wf_bd w3, wf_bd w4, hrow.len_bd.2, hrow.bd⟩
  refine (main ok X c W (rowIs_of hrow hb)).mono fun e W' ⟨he, hg⟩ => ?_
  have bel := hg.below
  subst he
  exact ⟨_, rfl, _, _, _, [], _, [], hW', trodAll_mk1 (shut_bool Try.underlying4 _), (trodAll_cons_mk (Below.trod laidOut (by kernel_rfl) (of_decide_eq_true (by kernel_rfl)) k0 bel lt0) (trodAll_cons_mk (shut_int Try.underlying3 w1) (trodAll_cons_mk (shut_int Try.underlying3 w2) (trodAll_cons_mk (shut_int Try.underlying3 w3) (trodAll_cons_mk (shut_int Try.underlying3 w4) (trodAll_cons_mk (shut_bool Try.underlying4 _) trodAll_mk0)))))), rfl, bel.frame _, fun h => by cases h⟩

theorem over : Rows.pocsRow.holds Try.pinned (OpenSpec.ofChange Rows.pocsSpec) :=
  OpenClaim.holds_of_wide 3 Try.f3 rfl rfl rfl rfl rfl rfl rfl ⟨rfl, rfl, rfl, rfl, rfl⟩ rfl rfl rfl rfl rfl (by kernel_rfl) Try.func3 (by kernel_rfl)
    (of_decide_eq_true (by kernel_rfl)) (by unfold Func.isWrapper; first | (rw [if_pos (by decide +kernel)]; kernel_rfl) | (rw [if_neg (by decide +kernel)]; exact ⟨rfl, rfl⟩))
    (fun os started H enc _ => lifted os started H enc)

/-- The statement. -/
theorem proved : Rows.PocsSaid := over
#print axioms proved
end Go.Proofs.Ytpaeakmhgobcdaa.pocs
