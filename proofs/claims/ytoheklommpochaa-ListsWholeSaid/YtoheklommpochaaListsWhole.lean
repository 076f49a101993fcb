/- ListsWhole returns true for every input: it neither panics nor runs on, and what came in reads as before. Without a condition. -/
import Derived.Test.YtoheklommpochaaRows
import Derived.Test.YtoheklommpochaaRxAwake
import Derived.Test.YtoheklommpochaaLv
import Derived.SizedLaws
import Derived.WalkKit
import Derived.ProofKit
import Derived.OpenShut
import Derived.ShutString
import Derived.ChangeOld
import Derived.Below
import Derived.Deep.Slices
namespace Go.Proofs.Ytoheklommpochaa.listsWhole
open Go.Deep Go.ChangeShapes Go.WideShapes Go.ChangeAt Go.RowKit Go.RX Go.Proofs.Ytoheklommpochaa Go.Proofs.Ytoheklommpochaa.pi Go.Proofs.Ytoheklommpochaa.ls
set_option linter.unusedVariables false
theorem own : ownKnob Try.prog.godebug = none := by kernel_rfl
theorem laidOut : laidOutB Try.prog = true := by kernel_rfl
theorem cells3 : Try.prog.cellsOf 3 = 1 := by kernel_rfl
theorem cells4 : Try.prog.cellsOf 4 = 1 := by kernel_rfl
theorem cells45 : Try.prog.cellsOf 45 = 6 := by kernel_rfl
theorem bytes45 : Try.prog.bytesOf 45 = 48 := by kernel_rfl
section
variable {H : Type} {enc' : TypeId × Value → H} {w : World} {spare : Nat → Bool} {held : Bool} {base : Nat}
theorem list6 {α : Type} {cs : List α} (h : cs.length = 6) : ∃ c0 c1 c2 c3 c4 c5, cs = [c0, c1, c2, c3, c4, c5] := by
  match cs, h with
  | [c0, c1, c2, c3, c4, c5], _ => exact ⟨c0, c1, c2, c3, c4, c5, rfl⟩
/-- One picture. -/
theorem open_ref {fuel : Nat} {cs : List Value} {x : DataW H × List MemPlace} (h : DataW.trod enc' Try.prog w base spare held fuel 45 cs = some x) : ∃ r : rf.R6, R6.ok r ∧ cs = rf.enc r := by
  obtain ⟨xs, m, _, hx, hcl, hlen, hfd⟩ := DataW.trod_struct Try.underlying45 h
  rw [cells45] at hcl
  obtain ⟨c0, c1, c2, c3, c4, c5, rfl⟩ := list6 hcl
  have hl6 : xs.length = 6 := hlen
  have get : ∀ i, i < 6 → ∃ y, xs[i]? = some y := fun i hi => ⟨_, List.getElem?_eq_getElem (by omega)⟩
  obtain ⟨y0, e0⟩ := get 0 (by decide)
  have f0 : DataW.trod enc' Try.prog w base spare held m 3 (([c0, c1, c2, c3, c4, c5].drop 0).take (Try.prog.cellsOf 3)) = xs[0]? := hfd 0 _ rfl
  rw [e0, cells3] at f0
  obtain ⟨s0, k0, _, w0⟩ := DataW.trod_int Try.underlying3 (show DataW.trod enc' Try.prog w base spare held m 3 [c0] = some y0 from f0)
  obtain rfl : c0 = .int .i64 s0 := by simpa using k0
  obtain ⟨y1, e1⟩ := get 1 (by decide)
  have f1 : DataW.trod enc' Try.prog w base spare held m 3 (([.int .i64 s0, c1, c2, c3, c4, c5].drop 1).take (Try.prog.cellsOf 3)) = xs[1]? := hfd 1 _ rfl
  rw [e1, cells3] at f1
  obtain ⟨s1, k1, _, w1⟩ := DataW.trod_int Try.underlying3 (show DataW.trod enc' Try.prog w base spare held m 3 [c1] = some y1 from f1)
  obtain rfl : c1 = .int .i64 s1 := by simpa using k1
  obtain ⟨y2, e2⟩ := get 2 (by decide)
  have f2 : DataW.trod enc' Try.prog w base spare held m 3 (([.int .i64 s0, .int .i64 s1, c2, c3, c4, c5].drop 2).take (Try.prog.cellsOf 3)) = xs[2]? := hfd 2 _ rfl
  rw [e2, cells3] at f2
  obtain ⟨s2, k2, _, w2⟩ := DataW.trod_int Try.underlying3 (show DataW.trod enc' Try.prog w base spare held m 3 [c2] = some y2 from f2)
  obtain rfl : c2 = .int .i64 s2 := by simpa using k2
  obtain ⟨y3, e3⟩ := get 3 (by decide)
  have f3 : DataW.trod enc' Try.prog w base spare held m 3 (([.int .i64 s0, .int .i64 s1, .int .i64 s2, c3, c4, c5].drop 3).take (Try.prog.cellsOf 3)) = xs[3]? := hfd 3 _ rfl
  rw [e3, cells3] at f3
  obtain ⟨s3, k3, _, w3⟩ := DataW.trod_int Try.underlying3 (show DataW.trod enc' Try.prog w base spare held m 3 [c3] = some y3 from f3)
  obtain rfl : c3 = .int .i64 s3 := by simpa using k3
  obtain ⟨y4, e4⟩ := get 4 (by decide)
  have f4 : DataW.trod enc' Try.prog w base spare held m 3 (([.int .i64 s0, .int .i64 s1, .int .i64 s2, .int .i64 s3, c4, c5].drop 4).take (Try.prog.cellsOf 3)) = xs[4]? := hfd 4 _ rfl
  rw [e4, cells3] at f4
  obtain ⟨s4, k4, _, w4⟩ := DataW.trod_int Try.underlying3 (show DataW.trod enc' Try.prog w base spare held m 3 [c4] = some y4 from f4)
  obtain rfl : c4 = .int .i64 s4 := by simpa using k4
  obtain ⟨y5, e5⟩ := get 5 (by decide)
  have f5 : DataW.trod enc' Try.prog w base spare held m 4 (([.int .i64 s0, .int .i64 s1, .int .i64 s2, .int .i64 s3, .int .i64 s4, c5].drop 5).take (Try.prog.cellsOf 4)) = xs[5]? := hfd 5 _ rfl
  rw [e5, cells4] at f5
  obtain ⟨s5, k5, _⟩ := DataW.trod_bool Try.underlying4 (show DataW.trod enc' Try.prog w base spare held m 4 [c5] = some y5 from f5)
  obtain rfl : c5 = .bool s5 := by simpa using k5
  exact ⟨⟨s0, s1, s2, s3, s4, s5⟩, ⟨wf_bd w0, wf_bd w1, wf_bd w2, wf_bd w3, wf_bd w4⟩, rfl⟩
/-- A list of them. -/
theorem open_refs {X : Option Addr} {l0 c0 : Nat} {d : DataW H} {ps : List MemPlace} (hd : DataW.Trod enc' Try.prog w base (fun _ => true) held 24 (.slice X l0 c0) d ps) :
    (Value.slice X l0 c0 = .slice none 0 0) ∨ ∃ (a : Addr) (n c : Nat) (z : List rf.R6) (els sp : List (DataW H)), Value.slice X l0 c0 = .slice (some a) n c ∧ d = .slice els sp ∧ els.length = n ∧ z.length = n ∧ (∀ r ∈ z, R6.ok r) ∧ ∀ j, j < n * 6 → w.cell? (a.add j) = some (rf.val z j) := by
  obtain ⟨fuel, hf⟩ := hd
  rcases open_slice Try.underlying24 hf with ⟨h0, _⟩ | ⟨a, n, c, m, k, D, Pl, hcs, hb, hl, hm, hmm, hx, hel⟩
  · exact .inl (List.cons.inj (show [Value.slice X l0 c0] = _ from h0)).1
  · right
    have hmc : m = c := by simpa using hmm
    have each : ∀ i, i < n → ∃ r : rf.R6, R6.ok r ∧ ∀ t, t < 6 → w.cell? (a.add (i * 6 + t)) = (rf.enc r)[t]? := fun i hi => by
      obtain ⟨cs', h1, h2⟩ := hel i (by omega)
      obtain ⟨r, hr, rfl⟩ := open_ref h2
      rw [cells45] at h1
      obtain ⟨_, _, hc⟩ := World.cells?_some h1
      refine ⟨r, hr, fun t ht => ?_⟩
      have h := hc t ht
      rw [add_add] at h
      rw [h]
    obtain ⟨f, hf'⟩ := choose_lt each
    refine ⟨a, n, c, (List.range n).map f, _, _, (List.cons.inj (show [Value.slice X l0 c0] = _ from hcs)).1, (Prod.mk.inj hx).1, by simp, by simp, fun r hr => ?_, fun j hj => ?_⟩
    · obtain ⟨i, hi, rfl⟩ := List.mem_map.1 hr
      exact (hf' i (List.mem_range.1 hi)).1
    · have hi : j / 6 < n := by omega
      have h := (hf' _ hi).2 (j % 6) (by omega)
      rw [show j / 6 * 6 + j % 6 = j by omega] at h
      rw [h]
      unfold rf.val
      have e : ((List.range n).map f).getD (j / 6) default = f (j / 6) := by
        rw [List.getD_eq_getElem?_getD, List.getElem?_map, List.getElem?_range hi]; rfl
      rw [e, List.getD_eq_getElem?_getD]
      have h6 : j % 6 < (rf.enc (f (j / 6))).length := by show _ < 6; omega
      rw [List.getElem?_eq_getElem h6]; rfl
end
theorem rrow_of {w : World} {a : Addr} {n : Nat} {z : List rf.R6} (hz : z.length = n) (h : ∀ j, j < n * 6 → w.cell? (a.add j) = some (rf.val z j)) : RRow w (some a) z := by
  rcases Nat.eq_zero_or_pos n with h0 | h0
  · exact .inl (List.eq_nil_of_length_eq_zero (by omega))
  obtain ⟨b, off, spot⟩ := a
  have hc0 := h 0 (by omega)
  have hspot : spot = none := by simpa [Addr.add] using World.cell?_spot hc0
  subst hspot
  refine .inr ⟨b, off, rfl, ?_, fun j hj => ?_⟩
  · have := World.block_lt_of_cell? w _ hc0
    rwa [Go.RX.addr_block] at this
  · have := h j (by omega)
    rwa [add_at] at this
set_option maxRecDepth 100000 in
set_option maxHeartbeats 4000000 in
theorem lifted (os : Os) (started : os.Started) (H : Type) (enc : TypeId × Value → H) :
    ReturnsInHanded {} Try.checked os 4 .any (Rows.listsWholeSpec.pre6 enc Try.prog Try.f4 Rows.listsWholeRow.domain false) (Rows.listsWholeSpec.post enc Try.prog Try.f4 false true false false) := by
  refine returnsInHanded_of_change_sized (C := Try.checked) own started (by kernel_rfl) Try.func4
    (ChangeSpec.witness6 (enc := enc) (C := Try.checked) false ⟨#[], #[.slice none 0 0, .int .i64 0, .int .i64 0], []⟩ 8 (by kernel_rfl) (by kernel_rfl) (by kernel_rfl) (by kernel_rfl)) ?_
  intro W base args ds gs before hval0 hW hcnd hsz0 _
  have hval : ∀ (j : Nat) t v, Try.f4.params[j]? = some t → args[j]? = some v → Value.okWide Try.prog W .any base t v := hval0
  have hW' := hW
  obtain ⟨p, q, hA0, hV, rfl, hfz, hnd⟩ := hW
  have hA : DataW.TrodAll enc Try.prog W 0 (fun _ => true) true Try.f4.params.toList args.toList ds p := hA0
  have hsz : (DataW.weightsEach Try.prog (Try.f4.params.toList ++ Rows.listsWholeSpec.plain.varTypes Try.prog) (ds ++ gs)).all (· ≤ reachBytes) = true := hsz0
  rw [Try.params4] at hA hval hsz
  obtain ⟨v0, vs0, d0, ds0, p0, q0, hargs, rfl, rfl, h0, r0⟩ := trodAll_cons hA
  obtain ⟨v1, vs1, d1, ds1, p1, q1, rfl, rfl, rfl, h1, r1⟩ := trodAll_cons r0
  obtain ⟨v2, vs2, d2, ds2, p2, q2, rfl, rfl, rfl, h2, r2⟩ := trodAll_cons r1
  obtain ⟨rfl, rfl, rfl⟩ := trodAll_nil r2
  obtain rfl : args = #[v0, v1, v2] := by cases args; simp_all
  obtain ⟨rfl, rfl⟩ := trodVars_none hV
  have k0 := h0
  have lt0 : ∀ x ∈ p0, x.block < W.heap.size := by obtain ⟨m, hm⟩ := k0; exact DataW.trod_lt m _ _ _ hm
  obtain ⟨a1, rfl, rfl, rfl, w1⟩ := open_int Try.underlying3 (hval 1 3 v1 rfl rfl) h1
  obtain ⟨a2, rfl, rfl, rfl, w2⟩ := open_int Try.underlying3 (hval 2 3 v2 rfl rfl) h2
  have hin0 : ∃ A n c l, v0 = .slice A n c ∧ (∀ r ∈ l, R6.ok r) ∧ RRow W A l ∧ n = l.length ∧ (n + 2) * 48 ≤ 140737488355328 := by
    obtain ⟨X, l0, c0, rfl⟩ := okWide_slice Try.underlying24 (hval 0 24 v0 rfl rfl)
    rcases open_refs h0 with e0 | ⟨a, n, c, z, els, sp, e0, hd0, hl, hlz, hok, hc⟩
    · exact ⟨none, 0, 0, [], e0, (fun r hr => by cases hr), .inl rfl, rfl, by decide⟩
    · have hs := sized_slice hsz (j := 0) (t := 24) (e := 45) rfl (by rw [hd0]; rfl) Try.underlying24
      rw [bytes45, hl] at hs
      simp only [reachBytes] at hs
      exact ⟨some a, n, c, z, e0, hok, rrow_of hlz hc, hlz.symm, by omega⟩
  obtain ⟨A0, n0, c0, l0, rfl, hk0, hr0, he0, hb0⟩ := hin0
  clear hA0 hval0 hsz hsz0
  refine (main (now := a1) (poc := a2) (wf_bd w1) (wf_bd w2) hk0 he0 hb0 hr0).mono fun e W' ⟨he, bel⟩ => ?_
  subst he
  exact ⟨_, rfl, _, _, _, [], _, [], hW', trodAll_mk1 (shut_bool Try.underlying4 _), (trodAll_cons_mk (Below.trod laidOut (by kernel_rfl) (of_decide_eq_true (by kernel_rfl)) k0 bel lt0) (trodAll_cons_mk (shut_int Try.underlying3 w1) (trodAll_cons_mk (shut_int Try.underlying3 w2) trodAll_mk0))), rfl, bel.frame _, fun h => by cases h⟩

theorem over : Rows.listsWholeRow.holds Try.pinned (OpenSpec.ofChange Rows.listsWholeSpec) :=
  OpenClaim.holds_of_wide 4 Try.f4 rfl rfl rfl rfl rfl rfl rfl ⟨rfl, rfl, rfl, rfl, rfl⟩ rfl rfl rfl rfl rfl (by kernel_rfl) Try.func4 (by kernel_rfl)
    (of_decide_eq_true (by kernel_rfl)) (by unfold Func.isWrapper; first | (rw [if_pos (by decide +kernel)]; kernel_rfl) | (rw [if_neg (by decide +kernel)]; exact ⟨rfl, rfl⟩))
    (fun os started H enc _ => lifted os started H enc)

/-- The statement. -/
theorem proved : Rows.ListsWholeSaid := over
#print axioms proved
end Go.Proofs.Ytoheklommpochaa.listsWhole
