/- The document's Slide, for any length. -/
import Derived.Test.YtboadccdacigeaaWo
namespace Go.Proofs.Ytboadccdacigeaa.sl
open Go.RowKit Go.Proofs.Ytboadccdacigeaa Go.Proofs.Ytboadccdacigeaa.pi
open Go.RX (Garb)
set_option linter.unusedVariables false
/-- The place of the least short one among the first k. -/
def bst (z : List R6) (now bits : Int) : Nat → Int
  | 0 => -1
  | k + 1 => if (z.getD k default).m = 1 ∧ (bst z now bits k < 0 ∨ pic (z.getD k default) now bits < pic (z.getD (bst z now bits k).toNat default) now bits) then k else bst z now bits k
theorem bst_bd (z : List R6) (now bits : Int) : ∀ k, -1 ≤ bst z now bits k ∧ bst z now bits k < k
  | 0 => by simp [bst]
  | k + 1 => by
    have := bst_bd z now bits k
    unfold bst
    split <;> omega
theorem Row.garb {w w' : World} {b off n : Nat} {z : List R6} (h : Row w b off n z) (hg : Garb w w') : Row w' b off n z := h.below hg.below
theorem keep1 {w1 w2 : World} (g : Garb w1 w2) {b o : Nat} {v : Value} (h : w1.cell? ⟨b, o, none⟩ = some v) : w2.cell? ⟨b, o, none⟩ = some v := by
  rw [World.cell?_of_block (w := w1) (g.below.block _ (World.block_lt_of_cell? w1 _ h))]; exact h
/-- A list that came out: these pictures. -/
def Res (w w' : World) (v : Value) (n : Nat) (z : List R6) : Prop :=
  (n = 0 ∧ ∃ A c, v = .slice A 0 c) ∨ ∃ g cap, ∃ cur : Array Value, v = .slice (some ⟨g, 0, none⟩) n cap ∧ w.heap.size ≤ g ∧ w'.heap[g]? = some (.cells cur 30 (0, 0)) ∧ ∀ j, j < n * 6 → cur[j]? = some (val z j)
theorem Res.row {w w1 w' : World} {g cap n : Nat} {z : List R6} (h : RowAt w1 w' g cap n z) (hs : w.heap.size ≤ w1.heap.size) : Res w w' (.slice (some ⟨g, 0, none⟩) n cap) n z :=
  let ⟨a, _, cur, c1, _, c3⟩ := h
  .inr ⟨g, cap, cur, rfl, Nat.le_trans hs a, c1, c3⟩
theorem encs_at : ∀ (z : List R6) (j : Nat), j < z.length * 6 → (encs z)[j]? = some (val z j)
  | [], j, h => by simp at h
  | r :: z, j, h => by
    have e : encs (r :: z) = enc r ++ encs z := by simp [encs]
    have e6 : (enc r).length = 6 := rfl
    rw [e]
    rw [List.length_cons] at h
    by_cases hj : j < 6
    · rw [List.getElem?_append_left (by omega)]
      unfold val
      rw [Nat.div_eq_of_lt hj, Nat.mod_eq_of_lt hj, List.getD_cons_zero, List.getD_eq_getElem?_getD, List.getElem?_eq_getElem (by omega)]; rfl
    · rw [List.getElem?_append_right (by omega), e6, encs_at z (j - 6) (by omega)]
      have h1 : j / 6 = (j - 6) / 6 + 1 := by omega
      have h2 : j % 6 = (j - 6) % 6 := by omega
      unfold val
      rw [h1, h2, List.getD_cons_succ]
theorem Res.own {w w' : World} {z : List R6} {v : Value} (h : Own w w' z v) : Res w w' v z.length z := by
  obtain ⟨⟨h1, h2⟩, -⟩ := h
  rcases h2 with ⟨rfl, h0⟩ | ⟨g, cap, cur, rfl, hb, hg, hn, hm, hs, ht⟩
  · exact .inl ⟨h0, none, 0, rfl⟩
  · refine .inr ⟨g, cap, cur, rfl, hb, hg, fun j hj => ?_⟩
    rw [← encs_at z j hj, ← ht, List.getElem?_take, if_pos hj, Array.getElem?_toList]
def SPost (w : World) (n : Nat) (z : List R6) (e : Ending) (w' : World) : Prop := ∃ v, e = .returned v ∧ Res w w' v n z ∧ Below w.heap.size w w'
/-- What Slide gives. -/
def ansL (z : List R6) (n : Nat) (most now bits : Int) : List R6 := if (n : Int) < most ∨ bst z now bits n < 0 then z else rest z (bst z now bits n).toNat n
def ansN (z : List R6) (n : Nat) (most now bits : Int) : Nat := if (n : Int) < most ∨ bst z now bits n < 0 then n else n - 1
/-- The end of the document's Slide: what it asks of the answer. -/
def End (w : World) (n : Nat) (z : List R6) (Q0 : Ending → World → Prop) : Prop := ∀ v w', Res w w' v n z → Below w.heap.size w w' → Q0 (.returned v) w'
theorem copy_end (b off c n : Nat) (z : List R6) (w wr : World) (hrow : Row wr b off n z) (hg : Garb w wr) (hb : (n + 2) * 48 ≤ 140737488355328) :
    ∃ v' w', (∀ ty : Nat, (Builtin.append_ #[22, 22] ty #[.slice (some ⟨wr.heap.size, 0, none⟩) 0 0, .slice (some ⟨b, off, none⟩) n c]).run Try.prog (wr.alloc (.cells #[] 30)) = .ok v' w') ∧ Res w w' v' n z ∧ Below w.heap.size w w' := by
  rcases Nat.eq_zero_or_pos n with h0 | h0
  · subst h0
    obtain ⟨h1, h2⟩ := copy_start z wr
    exact ⟨_, _, fun ty => app_nil _ _ _ _ _, Res.row h1 hg.below.size, (hg.trans h2).below⟩
  · obtain ⟨g, cap, W, h1, h2, h3⟩ := copy_run b off c n z wr h0 hb hrow.2
    exact ⟨_, _, h1, Res.row h2 hg.below.size, (hg.trans h3).below⟩
set_option maxRecDepth 100000 in
set_option maxHeartbeats 1000000 in
theorem doc_ok (b off n c : Nat) (z : List R6) (most bits now : Int) (w : World) (hz : ∀ r ∈ z, R6.ok r) (hn : In64 now) (hb : In64 bits) (hbig : (n + 2) * 48 ≤ 140737488355328) (hrow : Row w b off n z) :
    Calls Try.prog 6 #[.slice (some ⟨b, off, none⟩) n c, .int .i64 most, .int .i64 bits, .int .i64 now] w (SPost w (ansN z n most now bits) (ansL z n most now bits)) := by
  have z0 : In64 0 := by unfold In64; decide
  have hd : R6.ok default := ⟨z0, z0, z0, z0, z0⟩
  have hget : ∀ k, R6.ok (z.getD k default) := fun k => by
    rw [List.getD_eq_getElem?_getD]
    cases hx : z[k]? with
    | none => exact hd
    | some r => exact hz r (List.mem_of_getElem? hx)
  generalize hQ : SPost w (ansN z n most now bits) (ansL z n most now bits) = Q0
  have hend : End w (ansN z n most now bits) (ansL z n most now bits) Q0 := fun v w' h h' => by subst hQ; exact ⟨v, rfl, h, h'⟩
  clear hQ
  have hn63 : (n : Int) ≤ 9223372036854775807 := by omega
  have H := Lib.hid (show (∀ k, R6.ok (z.getD k default)) ∧ Row w b off n z ∧ End w (ansN z n most now bits) (ansL z n most now bits) Q0 ∧ (n + 2) * 48 ≤ 140737488355328 from ⟨hget, hrow, hend, hbig⟩)
  clear hget hz hd hrow hend hbig
  go_enter Try.func6, Try.ntmps6
  go_wp2
  go_loopw [9, 10] (fun l i wr => ∃ k : Nat, k ≤ n ∧ i = .int .i64 k ∧ l = .int .i64 (bst z now bits k) ∧ Garb w wr) (fun _ i _ => n - (intOf i).toNat)
  case atStart => exact ⟨0, Nat.zero_le _, rfl, rfl, Go.RX.Garb.refl w⟩
  case round =>
    obtain ⟨k, hk, rfl, rfl, hg⟩ := hrel
    by_cases hlt : k < n
    · obtain ⟨hget, hrow, -, -⟩ := H.out
      have hr := hrow.garb hg
      obtain ⟨x0, x1, x2, x3, x4, x5⟩ := six z k b off wr hlt hr.2
      have hbd := bst_bd z now bits k
      have hs : bst z now bits (k + 1) = if (z.getD k default).m = 1 ∧ (bst z now bits k < 0 ∨ pic (z.getD k default) now bits < pic (z.getD (bst z now bits k).toNat default) now bits) then (k : Int) else bst z now bits k := rfl
      have gk := hget k
      obtain ⟨t0, ht0⟩ : ∃ t0, t0 = z.getD (bst z now bits k).toNat default := ⟨_, rfl⟩
      rw [← ht0] at hs
      generalize z.getD k default = r at *
      obtain ⟨lb, hlb⟩ : ∃ lb, lb = bst z now bits k := ⟨_, rfl⟩
      rw [← hlb] at hbd hs ht0 ⊢
      obtain ⟨nb, hnb⟩ : ∃ nb, nb = bst z now bits (k + 1) := ⟨_, rfl⟩
      rw [← hnb] at hs
      by_cases hm : r.m = 1
      · by_cases hl : lb < 0
        · have hs' : nb = k := by rw [hs, if_pos ⟨hm, .inl hl⟩]
          obtain ⟨ri, rf, rl, rm, rp, ro⟩ := r
          simp only at hm x0 x1 x2 x3 x4 x5
          subst hm
          have hlB : decide (lb < 0) = true := by simp [hl]
          have hm1 : ((1 : Int) == 1) = true := rfl
          clear hs hget hrow hr gk H hbd hlb ht0 t0
          go_upto_region 5 with (fail)
          go_quiet (fail)
          go_wp2
          exact ⟨⟨k + 1, by omega, rfl, by rw [← hnb, hs'], hg.trans (Go.RX.Garb.drew _ _)⟩, by simp [intOf]; omega⟩
        · obtain ⟨j, hj⟩ : ∃ j : Nat, lb = (j : Int) := ⟨lb.toNat, by omega⟩
          subst hj
          have hjn : j < n := by omega
          obtain ⟨y0, y1, y2, y3, y4, y5⟩ := six z j b off wr hjn hr.2
          have gj := hget j
          rw [show ((j : Int)).toNat = j from rfl] at ht0
          rw [← ht0] at y0 y1 y2 y3 y4 y5 gj
          clear ht0
          generalize t0 = t at *
          obtain ⟨ri, rf, rl, rm, rp, ro⟩ := r
          obtain ⟨ti, tf, tl, tm, tp, t6⟩ := t
          simp only at hm x0 x1 x2 x3 x4 x5 y0 y1 y2 y3 y4 y5
          subst hm
          have p1 := fun w => pic_ok (f := 15) (.inr rfl) gk hn hb w
          have p2 := fun w => pic_ok (f := 15) (.inr rfl) gj hn hb w
          obtain ⟨u1, hu1⟩ : ∃ u, u = pic ⟨ri, rf, rl, 1, rp, ro⟩ now bits := ⟨_, rfl⟩
          obtain ⟨u2, hu2⟩ : ∃ u, u = pic ⟨ti, tf, tl, tm, tp, t6⟩ now bits := ⟨_, rfl⟩
          rw [← hu1] at hs p1
          rw [← hu2] at hs p2
          simp only [sv6] at p1 p2
          have HS := Lib.hid (show (u1 < u2 → nb = (k : Int)) ∧ (¬ u1 < u2 → nb = (j : Int)) from ⟨fun hu => hs.trans (if_pos ⟨rfl, .inr hu⟩), fun hu => hs.trans (if_neg (fun h => h.2.elim hl hu))⟩)
          clear hs
          clear hget hrow hr gk gj H hlb hu1 hu2 hbd
          go_upto_region 5 with (fail)
          go_region_held3 (fun w' => Garb w w' ∧ w'.cell? ⟨b, off + k * 6, none⟩ = some (.int .i64 ri) ∧ w'.cell? ⟨b, off + k * 6 + 1, none⟩ = some (.int .i64 rf) ∧ w'.cell? ⟨b, off + k * 6 + 2, none⟩ = some (.int .i64 rl) ∧ w'.cell? ⟨b, off + k * 6 + 3, none⟩ = some (.int .i64 1) ∧ w'.cell? ⟨b, off + k * 6 + 4, none⟩ = some (.int .i64 rp) ∧ w'.cell? ⟨b, off + k * 6 + 5, none⟩ = some (.bool ro) ∧
              w'.cell? ⟨b, off + j * 6, none⟩ = some (.int .i64 ti) ∧ w'.cell? ⟨b, off + j * 6 + 1, none⟩ = some (.int .i64 tf) ∧ w'.cell? ⟨b, off + j * 6 + 2, none⟩ = some (.int .i64 tl) ∧ w'.cell? ⟨b, off + j * 6 + 3, none⟩ = some (.int .i64 tm) ∧ w'.cell? ⟨b, off + j * 6 + 4, none⟩ = some (.int .i64 tp) ∧ w'.cell? ⟨b, off + j * 6 + 5, none⟩ = some (.bool t6))
            (((try go_split_ands); (try dsimp only); repeat' apply And.intro) <;> first | assumption | (exact Go.RX.Garb.trans ‹Garb w _› (Go.RX.Garb.drew _ _)) | (exact Go.RX.Garb.trans ‹_› g2) | (exact keep1 g2 ‹_›) | go_keep)
            ((first
              | (go_at_call 15; with_reducible refine (p1 _).mono ?_; rintro e w2 ⟨rfl, g2⟩)
              | (go_at_call 15; with_reducible refine (p2 _).mono ?_; rintro e w2 ⟨rfl, g2⟩)))
          all_goals (by_cases hu : u1 < u2)
          all_goals (first | (have hub : decide (u1 < u2) = true := by simp [hu]) | (have hub : decide (u1 < u2) = false := by simp [hu]))
          all_goals (first | (have hs' : nb = (k : Int) := HS.out.1 hu) | (have hs' : nb = (j : Int) := HS.out.2 (by omega)))
          all_goals go_wp2
          all_goals exact ⟨⟨k + 1, by omega, rfl, by rw [← hnb, hs'], (by first | assumption | (go_split_ands; assumption) | (rename_i hS; exact hS.1))⟩, by simp [intOf]; omega⟩
      · have hs' : nb = lb := by rw [hs, if_neg (fun h => hm h.1)]
        have hmb : (r.m == 1) = false := by simp [hm]
        clear hs hget hrow hr gk H hbd hlb ht0 t0
        go_upto_region 5 with (fail)
        go_quiet (fail)
        go_wp2
        exact ⟨⟨k + 1, by omega, rfl, by rw [← hnb, hs'], hg.trans (Go.RX.Garb.drew _ _)⟩, by simp [intOf]; omega⟩
    · have hkn : k = n := by omega
      subst hkn
      obtain ⟨-, hrow, hend, hbig⟩ := H.out
      have hr := hrow.garb hg
      have hbd := bst_bd z now bits k
      obtain ⟨lb, hlb⟩ : ∃ lb, lb = bst z now bits k := ⟨_, rfl⟩
      rw [← hlb] at hbd ⊢
      unfold ansN ansL at hend
      rw [← hlb] at hend
      clear hlb
      by_cases hmost : (k : Int) < most ∨ lb < 0
      · rw [if_pos hmost, if_pos hmost] at hend
        obtain ⟨v', w', ha, h1, h2⟩ := copy_end b off c k z w wr hr hg hbig
        have hq := hend v' w' h1 h2
        clear hend h1 h2 hr hrow H hg hbd hbig
        by_cases hm2 : (k : Int) < most
        · have hB : decide ((k : Int) < most) = true := by simp [hm2]
          clear hmost
          go_wp2_with (at_builtin; refine Lib.wpList_append_run _ rfl _ _ _ _ rfl _ _ rfl rfl _ _ (ha _) ?_)
          exact hq
        · have hl : lb < 0 := by omega
          have hB : decide ((k : Int) < most) = false := by simp [hm2]
          have hB2 : decide (lb < 0) = true := by simp [hl]
          clear hmost
          go_wp2_with (at_builtin; refine Lib.wpList_append_run _ rfl _ _ _ _ rfl _ _ rfl rfl _ _ (ha _) ?_)
          exact hq
      · rw [if_neg hmost, if_neg hmost] at hend
        obtain ⟨j, hj⟩ : ∃ j : Nat, lb = (j : Int) := ⟨lb.toNat, by omega⟩
        subst hj
        have hjn : j < k := by omega
        have hc := wout_ok b off k c j z wr hjn hr hbig
        have hln : (rest z j k).length = k - 1 := by rw [rest_len, if_pos hjn]
        have hq : ∀ e w', WPost wr (rest z j k) e w' → ∃ v, e = .returned v ∧ Q0 (.returned v) w' := fun e w' ⟨v, he, ho⟩ => ⟨v, he, hend v w' (by
          have := Res.own ho
          rw [hln] at this
          rcases this with h0 | ⟨g, cap, cur, a1, a2, a3, a4⟩
          · exact .inl h0
          · exact .inr ⟨g, cap, cur, a1, Nat.le_trans hg.below.size a2, a3, a4⟩) (hg.below.trans (ho.2.mono hg.below.size))⟩
        have hB : decide ((k : Int) < most) = false := by simp; omega
        have hB2 : decide ((j : Int) < 0) = false := by simp
        clear hend hr hrow H hg hbd hbig hmost hln
        go_wp2_with (go_at_call 16; refine hc.mono ?_; intro e w2 hw2; obtain ⟨v, rfl, hqv⟩ := hq _ _ hw2)
        exact hqv
end Go.Proofs.Ytboadccdacigeaa.sl
