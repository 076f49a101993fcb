/- sorted, falling, longs: permutations of the places that are asked for. -/
import Derived.Test.YtoheklommpochaaKd
import Derived.Lib.AppendZeros
namespace Go.Proofs.Ytoheklommpochaa.ls
open Go.RowKit Go.Lib Go.Proofs.Ytoheklommpochaa Go.Proofs.Ytoheklommpochaa.pi
open Go.RX (Garb)
set_option linter.unusedVariables false
set_option linter.unusedSimpArgs false
attribute [local go_sem ↓] Go.wp_at_zero Go.wp_at_succ
/-- A list that is made: nil, or in a block from B on. -/
def Lst (B : Nat) (w : World) (v : Value) (L : List Int) : Prop := (L = [] ∧ v = .slice none 0 0) ∨ ∃ g cap, v = .slice (some ⟨g, 0, none⟩) L.length cap ∧ B ≤ g ∧ OwnI w g cap L
theorem Lst.garb {B : Nat} {w w' : World} {v : Value} {L : List Int} (h : Lst B w v L) (hg : Garb w w') : Lst B w' v L := by
  rcases h with h | ⟨g, cap, h1, h2, h3⟩
  · exact .inl h
  · exact .inr ⟨g, cap, h1, h2, h3.garb hg⟩
theorem Lst.mono {B B' : Nat} {w : World} {v : Value} {L : List Int} (h : Lst B w v L) (hB : B' ≤ B) : Lst B' w v L := by
  rcases h with h | ⟨g, cap, h1, h2, h3⟩
  · exact .inl h
  · exact .inr ⟨g, cap, h1, by omega, h3⟩
theorem Lst.row {B : Nat} {w : World} {v : Value} {L : List Int} (h : Lst B w v L) : ∃ A c, v = .slice A L.length c ∧ Row0 w A L.length L := by
  rcases h with ⟨rfl, rfl⟩ | ⟨g, cap, rfl, h2, h3⟩
  · exact ⟨none, 0, rfl, .inl rfl⟩
  · exact ⟨_, cap, rfl, h3.row⟩
/-- append onto such a list: what comes out. -/
def LApp (w0 w : World) (v : Value) (n : Nat) (src : Option Addr) (m c : Nat) (L : List Int) : Prop :=
  ∃ v' w', (∀ ty : Nat, (Builtin.append_ #[22, 22] ty #[v, .slice src m c]).run Try.prog w = .ok v' w') ∧ Lst w0.heap.size w' v' L ∧ Garb w0 w'
theorem lapp {w0 w : World} {v : Value} {l : List Int} (hg : Garb w0 w) (hl : Lst w0.heap.size w v l) {src : Option Addr} {m c : Nat} {r : List Int} (hsrc : Row0 w src m r) (hm : m = r.length) (hfit : (l.length + m + 2) * 8 ≤ 140737488355328) : LApp w0 w v l.length src m c (l ++ r) := by
  rcases hl with ⟨rfl, rfl⟩ | ⟨g, cap, rfl, hB, ho⟩
  · obtain ⟨i0, hi, hz0, hz1, hz2⟩ := info_parts info3
    rcases Nat.eq_zero_or_pos m with h0 | h0
    · have hr : r = [] := List.eq_nil_of_length_eq_zero (by omega)
      subst hr
      subst h0
      refine ⟨.slice none 0 0, w, fun ty => ?_, .inl ⟨rfl, rfl⟩, hg⟩
      cases src <;> simp [Builtin.append_, run_underlying Try.underlying22, sizeOf, typeInfo, hi, Builtin.lenOf, Builtin.firstCells, storeCells, loadCells, loadCellsFrom]
    · obtain ⟨b, off, rfl, hb, hc⟩ : ∃ b off, src = some ⟨b, off, none⟩ ∧ b < w.heap.size ∧ ∀ j, j < m → w.cell? ⟨b, off + j, none⟩ = some (.int .i64 (r.getD j 0)) := by
        rcases hsrc with h | h
        · omega
        · exact h
      subst hm
      have hrun := fun ty => run_append_nil (P := Try.prog) w 22 ty 3 i0 (.int .i64 0) Try.underlying22 hi hz0 ⟨b, off, none⟩ r.length c (ints r r.length) (by rw [hz1, ints_len]; omega) (fun j v h => by obtain ⟨hj, rfl⟩ := ints_get h; rw [add_at]; exact hc j hj) h0 (by omega) (by rw [hz2]; simp only [List.length_nil] at hfit; omega)
      have hcn : r.length ≤ grownCap w r.length 0 3 := Nat.le_add_right _ _
      generalize grownCap w r.length 0 3 = cap' at hrun hcn
      obtain ⟨cs, hcs⟩ : ∃ cs : Array Value, cs = (ints r r.length).toArray ++ Builtin.zeroCells (Value.int .i64 0).cells (cap' - r.length) := ⟨_, rfl⟩
      rw [← hcs] at hrun
      have hl0 := ints_len r r.length
      have hsz : cs.size = cap' := by
        rw [hcs, show (Value.int IntKind.i64 0).cells = #[.int .i64 0] from rfl]; simp [hl0, Builtin.zeroCells]; omega
      have hat : ∀ j, j < r.length → cs[j]? = some (.int .i64 (r.getD j 0)) := fun j hj => by
        rw [hcs, Array.getElem?_append, if_pos (by simp [hl0]; omega), List.getElem?_toArray]; exact ints_at r hj
      have hnew3 : (w.drew.alloc (.cells cs 3)).heap[w.heap.size]? = some (.cells cs 3 (0, 0)) := heap_alloc_new w.drew (.cells cs 3)
      have hGW : Garb w (w.drew.alloc (.cells cs 3)) := (Garb.drew w _).trans (alloc_garb _ _ _)
      refine ⟨_, _, hrun, .inr ⟨w.heap.size, cap', by rw [List.nil_append], hg.below.size, cs, hnew3, by omega, by rw [List.nil_append]; omega, fun j hj => ?_⟩, hg.trans hGW⟩
      rw [List.nil_append] at hj ⊢
      exact hat j hj
  · obtain ⟨g', cap', w', hr, h1, h2, h3, h4, h5⟩ := appL (c := c) ho hsrc rfl hm hfit
    refine ⟨_, w', hr, .inr ⟨g', cap', by rw [List.length_append, ← hm], ?_, h1⟩, But.garb hg h2 hB h4⟩
    rcases h3 with rfl | h3
    · exact hB
    · exact Nat.le_trans hg.below.size h3
/-- The places that are asked for. -/
def places (p : rf.R6 → Bool) (z : List rf.R6) (n : Nat) : List Int := ((List.range n).filter (fun i => p (z.getD i default))).map (fun (i : Nat) => (i : Int))
theorem places_bd {p : rf.R6 → Bool} {z : List rf.R6} {n : Nat} {x : Int} (h : x ∈ places p z n) : 0 ≤ x ∧ x < n := by
  unfold places at h
  obtain ⟨i, hi, rfl⟩ := List.mem_map.1 h
  have := (List.mem_filter.1 hi).1
  have := List.mem_range.1 this
  omega
theorem places_len (p : rf.R6 → Bool) (z : List rf.R6) (n : Nat) : (places p z n).length ≤ n := by
  unfold places
  rw [List.length_map]
  refine Nat.le_trans (List.length_filter_le _ _) ?_
  rw [List.length_range]; exact Nat.le_refl _
theorem places_in {p : rf.R6 → Bool} {z : List rf.R6} {n : Nat} (h : p (z.getD n default) = true) : places p z (n + 1) = places p z n ++ [(n : Int)] := by
  unfold places
  rw [List.range_succ, List.filter_append, List.map_append]
  simp only [List.filter_cons, h, if_true, if_false, Bool.false_eq_true, List.filter_nil, List.map_cons, List.map_nil, List.append_nil]
theorem places_out {p : rf.R6 → Bool} {z : List rf.R6} {n : Nat} (h : p (z.getD n default) = false) : places p z (n + 1) = places p z n := by
  unfold places
  rw [List.range_succ, List.filter_append, List.map_append]
  simp only [List.filter_cons, h, if_true, if_false, Bool.false_eq_true, List.filter_nil, List.map_cons, List.map_nil, List.append_nil]
def SoPost (w : World) (p : rf.R6 → Bool) (z : List rf.R6) (e : Ending) (w' : World) : Prop := ∃ v L, e = .returned v ∧ Lst w.heap.size w' v L ∧ L.Perm (places p z z.length) ∧ Garb w w'
/-- SortStableFunc of such a list. -/
theorem sortL {w0 w : World} {v : Value} {L : List Int} {g : Nat} {cb : Array Value} {n : Nat} {ok : Int → Prop} (eg : ∀ args w, (callFunc g args).run Try.prog w = .ok (.enter g args) w) (hg : Garb w0 w) (hl : Lst w0.heap.size w v L)
    (hC : ∀ rb, w0.heap.size ≤ rb → (∃ cap, OwnI w rb cap L ∧ v = .slice (some ⟨rb, 0, none⟩) L.length cap) → CmpB g cb w rb ok) (hK : ∀ x ∈ L, ok x) (hn : L.length ≤ n) (hsz : n < 1152921504606846976) :
    Calls Try.prog 53 #[v, .func (.func g) #[] cb] w fun e w' => e = .returned (.tuple #[]) ∧ ∃ L', Lst w0.heap.size w' v L' ∧ L'.Perm L ∧ Garb w0 w' := by
  rcases hl with ⟨rfl, rfl⟩ | ⟨rb, cap, rfl, hB, ho⟩
  · refine (sortStable_none none 0 _ w).mono ?_
    rintro e w' ⟨rfl, rfl⟩
    exact ⟨rfl, [], .inl ⟨rfl, rfl⟩, List.Perm.refl _, hg⟩
  · refine (sortStable_ok eg (hC rb hB ⟨cap, ho, rfl⟩) hK ho rfl (by omega)).mono ?_
    rintro e w' ⟨rfl, L', S⟩
    refine ⟨rfl, L', .inr ⟨rb, cap, by rw [S.perm.length_eq], hB, S.own⟩, S.perm, But.garb hg S.but hB fun c e fr h => ?_⟩
    obtain ⟨cur, h1, _⟩ := S.own
    rw [h1] at h; simp only [Option.some.injEq, Obj.cells.injEq] at h; exact h.2.2.symm
/-- The world behind sorted's boxes. -/
structure Bx (w w3 : World) (h0 : Nat) (A : Option Addr) (n c k : Nat) (kb : Array Value) : Prop where
  g : Garb w w3
  x0 : w3.cell? ⟨h0, 0, none⟩ = some (.slice A n c)
  x1 : w3.cell? ⟨h0 + 1, 0, none⟩ = some (.func (.func k) #[] kb)
  sz : w3.heap.size = h0 + 2
theorem bx (w : World) (A : Option Addr) (n c k : Nat) (kb : Array Value) : Bx w ((w.alloc (.cells #[.slice A n c] 24)).alloc (.cells #[.func (.func k) #[] kb] 63)) w.heap.size A n c k kb := by
  have g1 := alloc_garb w #[.slice A n c] 24
  have k1 : (w.alloc (.cells #[.slice A n c] 24)).cell? ⟨w.heap.size, 0, none⟩ = some (.slice A n c) := by rw [cell_of (heap_alloc_new w _)]; rfl
  have s1 : (w.alloc (.cells #[.slice A n c] 24)).heap.size = w.heap.size + 1 := by show (w.heap.push _).size = _; simp
  generalize w.alloc (.cells #[.slice A n c] 24) = W1 at *
  have g2 := alloc_garb W1 #[.func (.func k) #[] kb] 63
  have k2 : (W1.alloc (.cells #[.func (.func k) #[] kb] 63)).cell? ⟨w.heap.size + 1, 0, none⟩ = some (.func (.func k) #[] kb) := by rw [← s1, cell_of (heap_alloc_new W1 _)]; rfl
  have s2 : (W1.alloc (.cells #[.func (.func k) #[] kb] 63)).heap.size = w.heap.size + 2 := by show (W1.heap.push _).size = _; simp [s1]
  exact ⟨g1.trans g2, keep1 g2 k1, k2, s2⟩
theorem Bx.pics {w w3 : World} {h0 : Nat} {A : Option Addr} {n c k : Nat} {kb : Array Value} (B : Bx w w3 h0 A n c k kb) {b off : Nat} {z : List rf.R6} (h : Pics w b off z) : Pics w3 b off z := h.garb B.g
set_option maxHeartbeats 4000000 in
set_option maxRecDepth 100000 in
theorem sorted_some {w : World} {b off n c f k : Nat} {fb kb : Array Value} {p : rf.R6 → Bool} {z : List rf.R6} {bad : Nat → Prop} (ef : ∀ args w, (callFunc f args).run Try.prog w = .ok (.enter f args) w) (ek : ∀ args w, (callFunc k args).run Try.prog w = .ok (.enter k args) w)
    (hA : AskG f fb p w b off z) (hkey : KeyG k kb w b off z bad) (hbad : ∀ rb, w.heap.size ≤ rb → ¬ bad rb) (hp : Pics w b off z) (hn : n = z.length) (hsz : n ≤ 2932031007403) :
    Calls Try.prog 46 #[.slice (some ⟨b, off, none⟩) n c, .func (.func f) #[] fb, .func (.func k) #[] kb] w (SoPost w p z) := by
  generalize hQ : SoPost w p z = Q0
  have hend : Aside (∀ v L w', Lst w.heap.size w' v L → L.Perm (places p z z.length) → Garb w w' → Q0 (.returned v) w') := fun v L w' h1 h2 h3 => by subst hQ; exact ⟨v, L, rfl, h1, h2, h3⟩
  have B := bx w (some ⟨b, off, none⟩) n c k kb
  obtain ⟨W3, hW3⟩ : ∃ W3, W3 = (w.alloc (.cells #[.slice (some ⟨b, off, none⟩) n c] 24)).alloc (.cells #[.func (.func k) #[] kb] 63) := ⟨_, rfl⟩
  rw [← hW3] at B
  have HB := asd B
  have HA := asd hA
  have HK := asd hkey
  have HP := asd hp
  have HN := asd hn
  have HBd := asd hbad
  have hw0 : w.heap.size + 2 = W3.heap.size := B.sz.symm
  have cB0 := B.x0
  clear hQ B hA hkey hp hn hbad
  have HW := asd hw0
  clear hw0
  go_enter Try.func46, Try.ntmps46
  go_upto_region 2 with (fail)
  rw [← hW3]
  clear hW3
  go_wp2
  go_loopw [7, 11] (fun o i wr => ∃ (j : Nat) (v : Value) (L : List Int), j ≤ n ∧ o = v ∧ i = .int .i64 j ∧ Aside (Garb W3 wr) ∧ Aside (Lst W3.heap.size wr v L) ∧ Aside (L = places p z j)) (fun _ i _ => n - (RowKit.intOf i).toNat)
  case atStart => exact ⟨0, _, [], Nat.zero_le _, rfl, rfl, Garb.refl _, .inl ⟨rfl, rfl⟩, rfl⟩
  case round =>
    obtain ⟨j, v, L, hj, hv, rfl, G, HL, HE⟩ := hrel
    have hv' := hv.symm
    clear hv
    subst hv'
    have G0 := HB.out.g.trans G.out
    have cB := keep1 G.out HB.out.x0
    clear cB0
    by_cases hlt : j < n
    · obtain ⟨r, hr⟩ : ∃ r, z[j]? = some r := ⟨_, List.getElem?_eq_getElem (by rw [← HN.out]; exact hlt)⟩
      have hgd : z.getD j default = r := by rw [List.getD_eq_getElem?_getD, hr]; rfl
      have hcall := HA.out wr G0 (HP.out.garb G0) j r hr
      have HR := asd hgd
      have hlt2 : (j : Int) < (n : Int) := by omega
      clear hr hgd
      rcases bool2 (p r) with hq | hq
      · rw [hq] at hcall
        have TA : Aside (∀ w2, Garb wr w2 → LApp W3 (w2.alloc (.cells #[.int .i64 (j : Int)] 3)) v L.length (some ⟨w2.heap.size, 0, none⟩) 1 1 (L ++ [(j : Int)])) := fun w2 g2 => by
          have g3 := alloc_garb w2 #[.int .i64 (j : Int)] 3
          refine lapp ((G.out.trans g2).trans g3) ((HL.out.garb g2).garb g3) ?_ rfl ?_
          · exact (own_new w2 [(j : Int)] #[.int .i64 (j : Int)] rfl).row
          · have := places_len p z j
            rw [← HE.out] at this
            omega
        go_wp2_with (first
          | (go_at_fn f; refine hcall.mono ?_; rintro e w2 ⟨rfl, g2⟩; clear hcall; obtain ⟨v2, W2, ha2, hl2, gW2⟩ := TA.out w2 g2; have hs2 := (G.out.trans g2); clear TA)
          | (at_builtin; refine Lib.wpList_append_run _ rfl _ _ _ _ rfl _ _ rfl rfl _ _ (ha2 _) ?_; clear ha2))
        exact ⟨⟨j + 1, v2, L ++ [(j : Int)], by omega, rfl, by go_num, gW2, hl2, (show Aside _ from by show _ = _; rw [places_in (by rw [HR.out]; exact hq), HE.out])⟩, by simp [RowKit.intOf]; omega⟩
      · rw [hq] at hcall
        go_wp2_with (go_at_fn f; refine hcall.mono ?_; rintro e w2 ⟨rfl, g2⟩)
        exact ⟨⟨j + 1, v, L, by omega, rfl, by go_num, G.out.trans g2, HL.out.garb g2, (show Aside _ from by rw [places_out (by rw [HR.out]; exact hq)]; exact HE.out)⟩, by simp [RowKit.intOf]; omega⟩
    · have hlt2 : ¬ (j : Int) < (n : Int) := by omega
      have hjn : j = n := by omega
      subst hjn
      have hS := sortL (n := 2932031007403) (v := v) (g := 57) (cb := #[.pointer (some ⟨w.heap.size + 1, 0, none⟩), .pointer (some ⟨w.heap.size, 0, none⟩)]) (ok := fun x => 0 ≤ x ∧ x < (j : Int)) e57 G.out HL.out (fun rb hB ⟨cap, ho, hv⟩ => by
        have := HW.out
        have hlt := HP.out.lt
        exact cmp_ok (.inr rfl) ek (bad := bad) (fun W rb' hk hs hb hp' i r hi => HK.out W rb' (fun q hq hqn => by rw [hk q (Nat.lt_of_lt_of_le hq G0.below.size) hqn, G0.below.block q hq]) (Nat.le_trans G0.below.size hs) hb hp' i r hi) (keep1 G.out HB.out.x1) cB (HP.out.garb G0) HN.out (by omega) (by omega) (by omega) (by omega) (HBd.out rb (by omega))) (fun x hx => by rw [HE.out] at hx; exact places_bd hx) (by rw [HE.out]; exact Nat.le_trans (places_len p z j) hsz) (by omega)
      go_wp2_with (go_at_call 53; refine hS.mono ?_; rintro e w2 ⟨rfl, L2, hl2, hp2, hg2⟩)
      have hq := hend.out v L2 w2 (hl2.mono (by have := HW.out; omega)) (by rw [← HN.out, ← HE.out]; exact hp2) (HB.out.g.trans hg2)
      first | exact hq | (go_ret; exact hq)
end Go.Proofs.Ytoheklommpochaa.ls
