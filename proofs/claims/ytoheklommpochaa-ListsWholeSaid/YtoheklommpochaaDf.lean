/- slices.DeleteFunc of one place; the document's place. -/
import Derived.Test.YtoheklommpochaaCm
import Derived.Lib.SliceRun
import Derived.Shelf.RegionOpenPlain
namespace Go.Proofs.Ytoheklommpochaa.ls
open Go.RowKit Go.Lib Go.Proofs.Ytoheklommpochaa Go.Proofs.Ytoheklommpochaa.pi
open Go.RX (Garb)
set_option linter.unusedVariables false
set_option linter.unusedSimpArgs false
theorem _root_.Go.Proofs.Ytoheklommpochaa.Row0.irow {w : World} {A : Option Addr} {l : List Int} (h : Row0 w A l.length l) : IRow w A l := by
  rcases h with h | h
  · exact .inl (List.eq_nil_of_length_eq_zero h)
  · exact .inr h
set_option maxHeartbeats 2000000 in
/-- The document's place. -/
theorem place_ok {A : Option Addr} {n c : Nat} {l : List rf.R6} {mark v now bits : Int} {w : World} (hn : In64 now) (hb : In64 bits) (hok : ∀ x ∈ l, R6.ok x) (hl : n = l.length) (hbig : n ≤ 9223372036854775807) (hrow : RRow w A l) :
    Calls Try.prog 38 #[.slice A n c, .int .i64 mark, .int .i64 v, .int .i64 now, .int .i64 bits] w fun e w' => e = .returned (.int .i64 (idx (fun r => r.m == mark && pic r now bits == v) l)) ∧ Garb w w' := by
  subst hl
  generalize hQ : (fun (e : Ending) (w' : World) => e = .returned (.int .i64 (idx (fun r => r.m == mark && pic r now bits == v) l)) ∧ Garb w w') = Q0
  obtain ⟨p, hp⟩ : ∃ p : rf.R6 → Bool, p = fun r => r.m == mark && pic r now bits == v := ⟨_, rfl⟩
  rw [← hp] at hQ
  have hend : Aside (∀ w', Garb w w' → Q0 (.returned (.int .i64 (idx p l))) w') := fun w' h => by subst hQ; exact ⟨rfl, h⟩
  have hpv : Aside (∀ r, p r = (r.m == mark && pic r now bits == v)) := fun r => by rw [hp]
  have HC : Aside (l.length = 0 ∨ ∃ b off, A = some ⟨b, off, none⟩ ∧ b < w.heap.size ∧ ∀ j, j < l.length * 6 → w.cell? ⟨b, off + j, none⟩ = some (rf.val l j)) := by
    rcases hrow with rfl | h
    · exact .inl rfl
    · exact .inr h
  have HK : Aside _ := hok
  have HN : Aside (In64 now ∧ In64 bits) := ⟨hn, hb⟩
  clear hQ hrow hok hn hb hp
  generalize hnl : l.length = n at *
  go_enter Try.func38, Try.ntmps38
  go_wp2
  go_loopg [11] n (fun gg i wr => ∃ kk : Nat, kk ≤ n ∧ n - kk ≤ gg ∧ i = .int .i64 kk ∧ Aside (Garb w wr) ∧ Aside (∀ j y, j < kk → l[j]? = some y → p y = false))
  case atStart => exact ⟨0, Nat.zero_le _, by omega, rfl, Garb.refl w, fun j y hj => absurd hj (Nat.not_lt_zero _)⟩
  case round =>
    obtain ⟨kk, hkk, hgg, rfl, G, HA⟩ := hrel
    by_cases hlt : kk < n
    · have hltz : (kk : Int) < (n : Int) := by omega
      obtain ⟨y, hy⟩ : ∃ y, l[kk]? = some y := ⟨_, List.getElem?_eq_getElem (by omega)⟩
      have hgd : l.getD kk default = y := by rw [List.getD_eq_getElem?_getD, hy]; rfl
      obtain ⟨b, off, rfl, hbw, hc⟩ : ∃ b off, A = some ⟨b, off, none⟩ ∧ b < w.heap.size ∧ ∀ j, j < n * 6 → w.cell? ⟨b, off + j, none⟩ = some (rf.val l j) := by
        rcases HC.out with h0 | h
        · omega
        · exact h
      have hc' : ∀ j, j < n * 6 → wr.cell? ⟨b, off + j, none⟩ = some (rf.val l j) := fun j hj => by
        rw [World.cell?_of_block (w := w) (G.out.below.block b hbw)]; exact hc j hj
      obtain ⟨y0, y1, y2, y3, y4, y5⟩ := rf.six l kk b off wr hlt hc'
      rw [hgd] at y0 y1 y2 y3 y4 y5
      have hcall := pic_ok (f := 52) (.inr rfl) (HK.out y (List.mem_of_getElem? hy)) HN.out.1 HN.out.2 wr
      have hpy := hpv.out y
      have HY : Aside (l[kk]? = some y) := hy
      clear hc hc' hgd hy
      have hstop : p y = true → Aside (Q0 (.returned (.int .i64 kk)) wr → True) := fun _ => by intro _; trivial
      clear hstop
      obtain ⟨u, hu⟩ : ∃ u, u = pic y now bits := ⟨_, rfl⟩
      rw [← hu] at hcall hpy
      have goon : Aside (∀ w', Garb w w' → p y = false → kk + 1 ≤ n ∧ n - (kk + 1) ≤ n - (kk + 1) ∧ Aside (Garb w w') ∧ Aside (∀ j z, j < kk + 1 → l[j]? = some z → p z = false)) := fun w' g hq => ⟨by omega, Nat.le_refl _, g, (show Aside _ from fun j z hj hz => by
        by_cases e : j = kk
        · subst e
          have := HY.out
          rw [hz] at this
          injection this with this
          subst this
          exact hq
        · exact HA.out j z (by omega) hz)⟩
      have halt : Aside (∀ w', Garb w w' → p y = true → Q0 (.returned (.int .i64 kk)) w') := fun w' g hq => by
        rw [← idx_hit HY.out hq HA.out]; exact hend.out w' g
      obtain ⟨yi, yf, yl, ym, yp, yo⟩ := y
      clear hu HC HK HN HA HY
      simp only [sv6] at hcall
      simp only at hpy y0 y1 y2 y3 y4 y5
      rcases bool2 (ym == mark) with hm | hm
      · rw [hm, Bool.true_and] at hpy
        rcases bool2 (u == v) with hu | hu
        · rw [hu] at hpy
          have hs := fun w' g => halt.out w' g hpy
          clear halt goon
          go_wp2_with (go_at_call 52; refine hcall.mono ?_; rintro e w' ⟨rfl, g'⟩)
          first | exact G.out.trans g' | exact hs _ (G.out.trans g') | (go_ret; exact hs _ (G.out.trans g'))
        · rw [hu] at hpy
          have hs := fun w' g => goon.out w' g hpy
          clear halt goon
          go_wp2_with (go_at_call 52; refine hcall.mono ?_; rintro e w' ⟨rfl, g'⟩)
          go_roundg (n - (kk + 1))
          case measure => omega
          case rel =>
            obtain ⟨h1, h2, h3, h4⟩ := hs _ (G.out.trans g')
            exact ⟨kk + 1, h1, h2, by go_num, h3, h4⟩
      · rw [hm, Bool.false_and] at hpy
        have hs := fun w' g => goon.out w' g hpy
        clear halt goon hcall
        go_wp2
        go_roundg (n - (kk + 1))
        case measure => omega
        case rel =>
          obtain ⟨h1, h2, h3, h4⟩ := hs _ G.out
          exact ⟨kk + 1, h1, h2, by go_num, h3, h4⟩
    · have hltz : ¬ (kk : Int) < (n : Int) := by omega
      have hkn : kk = n := by omega
      subst hkn
      go_wp2
      have e1 := idx_miss (p := p) (l := l) (fun j y hj => HA.out j y (by have := (List.getElem?_eq_some_iff.1 hj).1; omega) hj)
      have h2 := hend.out wr G.out
      rw [e1] at h2
      first | exact h2 | (go_ret; exact h2)
/-- What is left of the first j. -/
def kept (x : Int) (l : List Int) (j : Nat) : List Int := (l.take j).filter (fun y => !(y == x))
theorem kept_keep {x : Int} {l : List Int} {j : Nat} {y : Int} (h : l[j]? = some y) (hy : (y == x) = false) : kept x l (j + 1) = kept x l j ++ [y] := by
  unfold kept
  rw [List.take_add_one, h, List.filter_append]
  simp [hy]
theorem kept_drop {x : Int} {l : List Int} {j : Nat} {y : Int} (h : l[j]? = some y) (hy : (y == x) = true) : kept x l (j + 1) = kept x l j := by
  unfold kept
  rw [List.take_add_one, h, List.filter_append]
  simp [hy]
theorem kept_len (x : Int) (l : List Int) (j : Nat) : (kept x l j).length ≤ j := by
  unfold kept
  refine Nat.le_trans (List.length_filter_le _ _) ?_
  rw [List.length_take]; omega
theorem kept_all {x : Int} {l : List Int} : ∀ (j : Nat), (∀ t y, t < j → l[t]? = some y → (y == x) = false) → j ≤ l.length → kept x l j = l.take j
  | 0, _, _ => by simp [kept]
  | j + 1, h, hj => by
    obtain ⟨y, hy⟩ : ∃ y, l[j]? = some y := ⟨_, List.getElem?_eq_getElem (by omega)⟩
    rw [kept_keep hy (h j y (by omega) hy), kept_all j (fun t y ht => h t y (by omega)) (by omega), List.take_add_one, hy]; rfl
/-- The row while places are struck. -/
structure Row35 (w wr : World) (g : Nat) (cap sz : Nat) (x : Int) (l : List Int) (j : Nat) : Prop where
  but : But w wr g
  row : ∃ cur : Array Value, wr.heap[g]? = some (.cells cur 3 (0, 0)) ∧ cur.size = sz ∧ (∀ t, t < (kept x l j).length → cur[t]? = some (.int .i64 ((kept x l j).getD t 0))) ∧ ∀ t, j ≤ t → t < l.length → cur[t]? = some (.int .i64 (l.getD t 0))
theorem Row35.skip {w wr : World} {g cap sz : Nat} {x : Int} {l : List Int} {j : Nat} {y : Int} (h : Row35 w wr g cap sz x l j) (hy : l[j]? = some y) (hq : (y == x) = true) : Row35 w wr g cap sz x l (j + 1) := by
  obtain ⟨h1, cur, h2, h3, h4, h5⟩ := h
  exact ⟨h1, cur, h2, h3, by rw [kept_drop hy hq]; exact h4, fun t ht hl => h5 t (by omega) hl⟩
theorem Row35.keep {w wr : World} {g cap sz : Nat} {x : Int} {l : List Int} {j : Nat} {y : Int} (h : Row35 w wr g cap sz x l j) (hg : g < w.heap.size) (hy : l[j]? = some y) (hq : (y == x) = false) (hi : (kept x l j).length < sz) (hij : (kept x l j).length ≤ j) :
    Row35 w (wr.setCell ⟨g, (kept x l j).length, none⟩ (.int .i64 y)) g cap sz x l (j + 1) := by
  obtain ⟨hbut, cur, h2, h3, h4, h5⟩ := h
  have hs := heap_setCell_same wr g (kept x l j).length cur 3 (.int .i64 y) h2
  refine ⟨⟨hbut.os, hbut.tape, hbut.output, by rw [show (wr.setCell ⟨g, (kept x l j).length, none⟩ (.int .i64 y)).heap.size = wr.heap.size from by simp [World.setCell]]; exact hbut.size, fun q hq hne => ?_, fun q hq c e fr hx => ?_⟩, _, hs, by simp [h3], fun t ht => ?_, fun t ht hl => ?_⟩
  · rw [heap_setCell_other wr ⟨g, (kept x l j).length, none⟩ q _ hne]; exact hbut.block q hq hne
  · have hqb : q ≠ g := by omega
    rw [heap_setCell_other wr ⟨g, (kept x l j).length, none⟩ q _ hqb] at hx; exact hbut.soft q hq c e fr hx
  · rw [kept_keep hy hq] at ht ⊢
    rw [List.length_append, List.length_singleton] at ht
    rw [Array.getElem?_setIfInBounds, getD_append]
    by_cases e : t = (kept x l j).length
    · subst e
      rw [if_pos rfl, if_pos (by omega), if_neg (by omega), Nat.sub_self]; rfl
    · rw [if_neg (by omega), if_pos (by omega)]; exact h4 t (by omega)
  · rw [Array.getElem?_setIfInBounds, if_neg (by omega)]; exact h5 t (by omega) hl
theorem setCells_but {w : World} {b : Nat} {c : Array Value} {e : TypeId} (h : w.heap[b]? = some (.cells c e (0, 0))) (o : Nat) (vs : List Value) (hl : o + vs.length ≤ c.size) (h1 : ∀ v ∈ vs, v.oneCell' = true) :
    w.setCells b o vs = { w with heap := w.heap.setIfInBounds b (.cells (Go.RX.splice c o vs) e (0, 0)) } := by
  have k1 := run_storeCells_cells (P := Try.prog) b o vs 0 w (fun j hj => by rw [Nat.add_zero, cell_of h, Array.getElem?_eq_getElem (by omega)]; rfl) (fun j hj => by simp [World.frozen?, h]) h1
  have k2 := Go.RX.run_storeCells (P := Try.prog) vs h o 0 (by omega) h1
  rw [k1] at k2
  simp only [Result.ok.injEq, true_and, Nat.add_zero] at k2
  exact k2
theorem zero3 : ∀ w : World, (zeroValue 3).run Try.prog w = .ok (.int .i64 0) w := by
  obtain ⟨i0, hi, hz0, hz1, hz2⟩ := info_parts info3
  intro w
  simp [zeroValue, typeInfo, hi, hz0]
def DelPost (w : World) (g cap : Nat) (x : Int) (l : List Int) (e : Ending) (w' : World) : Prop :=
  e = .returned (.slice (some ⟨g, 0, none⟩) (l.filter (fun y => !(y == x))).length cap) ∧ OwnI w' g cap (l.filter (fun y => !(y == x))) ∧ But w w' g
set_option maxHeartbeats 4000000 in
set_option maxRecDepth 100000 in
/-- slices.DeleteFunc: the places that are not x. -/
theorem del_ok {w : World} {g cap h n : Nat} {x : Int} {l : List Int} (hrow : OwnI w g cap l) (hx : w.cell? ⟨h, 0, none⟩ = some (.int .i64 x)) (hne : h ≠ g) (hn : n = l.length) (hbig : n ≤ 9223372036854775807) :
    Calls Try.prog 35 #[.slice (some ⟨g, 0, none⟩) n cap, .func (.func 36) #[] #[.pointer (some ⟨h, 0, none⟩)]] w (DelPost w g cap x l) := by
  subst hn
  have hP : PredG 36 #[.pointer (some ⟨h, 0, none⟩)] iv0 (fun p => p == x) (fun _ => True) w := fun W p G _ => (c36 (keep1 G hx) p).mono fun e w' ⟨h1, h2⟩ => ⟨h1, by rw [h2]; exact Garb.refl _⟩
  have hI := idxI_ok (c := cap) e36 hP (fun _ _ => trivial) rfl hbig (hrow.row : Row0 w (some ⟨g, 0, none⟩) l.length l).irow
  have hxl := World.block_lt_of_cell? w _ hx
  have hfl : l.filter (fun y => !(y == x)) = kept x l l.length := by unfold kept; rw [List.take_length]
  rcases idx_cases (fun p => p == x) l with ⟨e1, ha⟩ | ⟨k0, x0, e1, hk0, hx0, hp0, ha⟩
  · rw [e1] at hI
    have hall : l.filter (fun y => !(y == x)) = l := by
      rw [hfl, kept_all l.length (fun t y _ hy => ha t y hy) (Nat.le_refl _), List.take_length]
    generalize hQ : DelPost w g cap x l = Q0
    have hend : Aside (∀ w', Garb w w' → Q0 (.returned (.slice (some ⟨g, 0, none⟩) l.length cap)) w') := fun w' hg => by
      subst hQ
      unfold DelPost
      rw [hall]
      exact ⟨rfl, hrow.garb hg, ⟨hg.below.os, hg.below.tape, hg.below.output, hg.below.size, fun k hk _ => hg.below.block k hk, hg.soft⟩⟩
    clear hQ hall ha hrow hP hx hfl
    go_enter Try.func35, Try.ntmps35
    go_wp2_with (go_at_call 50; refine hI.mono ?_; rintro e w' ⟨rfl, g'⟩)
    first | exact hend.out _ g' | (go_ret; exact hend.out _ g')
  · rw [e1] at hI
    obtain ⟨cur0, c1, c2, c3, c4⟩ := hrow
    have hgw := lt_of_some c1
    have hstart : kept x l (k0 + 1) = l.take k0 := by
      rw [kept_drop hx0 hp0, kept_all k0 (fun t y ht hy => ha t y ht hy) (by omega)]
    have hslen : (kept x l (k0 + 1)).length = k0 := by rw [hstart, List.length_take]; omega
    obtain ⟨sz, hsz⟩ : ∃ sz, sz = cur0.size := ⟨_, rfl⟩
    have st : ∀ w1, Garb w w1 → Row35 w w1 g cap sz x l (k0 + 1) := fun w1 hg =>
      ⟨⟨hg.below.os, hg.below.tape, hg.below.output, hg.below.size, fun k hk _ => hg.below.block k hk, hg.soft⟩, cur0, by rw [hg.below.block g hgw]; exact c1, hsz.symm, fun t ht => by
        rw [hslen] at ht
        rw [hstart, c4 t (by omega)]
        simp only [List.getD_eq_getElem?_getD, List.getElem?_take, if_pos ht], fun t _ ht => c4 t ht⟩
    have hcapsz : cap ≤ sz := by omega
    generalize hQ : DelPost w g cap x l = Q0
    have hend : Aside (∀ w' i, i = (kept x l l.length).length → i < l.length → Row35 w w' g cap sz x l l.length → Q0 (.returned (.slice (some ⟨g, 0, none⟩) i cap)) (w'.setCells g i (List.replicate (l.length - i) (.int .i64 0)))) := fun w' i hi hil hr => by
      subst hQ
      unfold DelPost
      rw [hfl, ← hi]
      obtain ⟨r1, cur, r2, r3, r4, r5⟩ := hr
      have e2 := setCells_but r2 i (List.replicate (l.length - i) (.int .i64 0)) (by rw [List.length_replicate]; omega) (fun v hv => by rw [List.eq_of_mem_replicate hv]; rfl)
      have hg' := lt_of_some r2
      rw [e2]
      refine ⟨rfl, ⟨_, (by
        show (w'.heap.setIfInBounds g _)[g]? = _
        rw [Array.getElem?_setIfInBounds_self_of_lt hg']), ?_, by omega, fun t ht => ?_⟩, But.step r1 (but_set hg' _) hgw⟩
      · rw [Go.RX.splice_size (by rw [List.length_replicate]; omega)]; omega
      · rw [← r4 t ht]
        have htk : (cur.toList.take i).length = i := by simp; omega
        unfold Go.RX.splice
        rw [List.getElem?_toArray, List.append_assoc, List.getElem?_append_left (by omega), List.getElem?_take, if_pos (by omega), Array.getElem?_toList]
    have hcl : Aside (∀ w' i, i < l.length → Row35 w w' g cap sz x l l.length → ∀ ty : Nat, (Builtin.clear_ #[22] ty #[.slice (some ⟨g, i, none⟩) (l.length - i) (cap - i)]).run Try.prog w' = .ok (.tuple #[]) (w'.setCells g i (List.replicate (l.length - i) (.int .i64 0)))) := fun w' i hil hr ty => by
      obtain ⟨r1, cur, r2, r3, r4, r5⟩ := hr
      exact Lib.run_clear_slice w' 22 3 ty (.int .i64 0) Try.underlying22 zero3 rfl rfl g i _ _ (by omega) (fun t ht => by rw [cell_of r2, Array.getElem?_eq_getElem (by omega)]; rfl) (fun t ht => by simp [World.frozen?, r2])
    have HX : Aside (∀ w', But w w' g → w'.cell? ⟨h, 0, none⟩ = some (.int .i64 x)) := fun w' hb => by
      rw [World.cell?_of_block (w := w) (hb.block h hxl hne)]; exact hx
    have hk1 : k0 + 1 ≤ l.length := by omega
    have hbig2 : (l.length : Int) ≤ 9223372036854775807 := by omega
    clear hQ hP hx ha e1 c1 c2 c4 hsz hstart hfl hx0 hp0 hk0
    have ST := st
    have ST : Aside _ := ST
    clear st
    have hne1 : ((k0 : Int) == -1) = false := beq_eq_false_iff_ne.2 (by omega)
    have SL : Aside _ := hslen
    clear hslen
    generalize hnl : l.length = n at *
    go_enter Try.func35, Try.ntmps35
    go_wp2_with (go_at_call 50; refine hI.mono ?_; rintro e w' ⟨rfl, g'⟩)
    go_loopg [5, 6, 7] n (fun gg i j _ wr => ∃ ii jj : Nat, jj ≤ n ∧ ii < jj ∧ n - jj ≤ gg ∧ i = .int .i64 ii ∧ j = .int .i64 jj ∧ Aside (ii = (kept x l jj).length) ∧ Aside (Row35 w wr g cap sz x l jj))
    case atStart => exact ⟨k0, k0 + 1, hk1, by omega, by omega, rfl, by go_num, SL.out.symm, ST.out _ g'⟩
    case round =>
      obtain ⟨ii, jj, hjn, hij, hgg, rfl, rfl, HI, HR⟩ := hrel
      by_cases hlt : jj < n
      · have hltz : (jj : Int) < (n : Int) := by omega
        obtain ⟨y, hy⟩ : ∃ y, l[jj]? = some y := ⟨_, List.getElem?_eq_getElem (by omega)⟩
        have hcall := c36 (HX.out _ HR.out.but) y
        obtain ⟨cur, k1, k2, k3, k4⟩ := HR.out.row
        have g1 : wr.cell? ⟨g, jj, none⟩ = some (.int .i64 y) := by
          rw [cell_of k1, k4 jj (Nat.le_refl _) (by omega), List.getD_eq_getElem?_getD, hy]; rfl
        have g2 : wr.frozen? ⟨g, ii, none⟩ = false := by unfold World.frozen?; simp only [k1]; simp
        obtain ⟨old, g3⟩ : ∃ old, wr.cell? ⟨g, ii, none⟩ = some old := by
          rw [cell_of k1, Array.getElem?_eq_getElem (by omega)]; exact ⟨_, rfl⟩
        have HY : Aside (l[jj]? = some y) := hy
        clear hy k1 k2 k3 k4
        rcases bool2 (y == x) with hq | hq
        · rw [hq] at hcall
          go_wp2_with (go_at_call 36; refine hcall.mono ?_; rintro e w' ⟨rfl, rfl⟩)
          go_roundg (n - (jj + 1))
          case measure => omega
          case rel => exact ⟨ii, jj + 1, by omega, by omega, Nat.le_refl _, rfl, by go_num, (show Aside _ from by rw [kept_drop HY.out hq]; exact HI.out), HR.out.skip HY.out hq⟩
        · rw [hq] at hcall
          go_wp2_with (go_at_call 36; refine hcall.mono ?_; rintro e w' ⟨rfl, rfl⟩)
          go_roundg (n - (jj + 1))
          case measure => omega
          case rel => exact ⟨ii + 1, jj + 1, by omega, by omega, Nat.le_refl _, by go_num, by go_num, (show Aside _ from by rw [kept_keep HY.out hq, List.length_append, ← HI.out]; rfl), (show Aside _ from by
              have := HR.out.keep hgw HY.out hq (by rw [← HI.out]; omega) (by rw [← HI.out]; omega)
              rw [← HI.out] at this
              exact this)⟩
      · have hltz : ¬ (jj : Int) < (n : Int) := by omega
        obtain rfl : jj = n := by omega
        have hc := hcl.out wr ii hij HR.out
        have he := hend.out wr ii HI.out hij HR.out
        have hic : ii ≤ cap := by omega
        have hic2 : ¬ cap = ii := by omega
        go_wp2
        first | exact he | (go_ret; exact he)
end Go.Proofs.Ytoheklommpochaa.ls
