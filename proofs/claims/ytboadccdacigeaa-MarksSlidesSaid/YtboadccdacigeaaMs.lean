/- The package's Slide, for any length. -/
import Derived.Test.YtboadccdacigeaaDe
namespace Go.Proofs.Ytboadccdacigeaa.sl
open Go.RowKit Go.Proofs.Ytboadccdacigeaa Go.Proofs.Ytboadccdacigeaa.pi
open Go.RX (Garb)
set_option linter.unusedVariables false
/-- What Clone gives. -/
def Out (w w1 : World) (v : Value) (n : Nat) (z : List R6) : Prop := ((n = 0 ∧ v = .slice none 0 0) ∨ ∃ g cap, v = .slice (some ⟨g, 0, none⟩) n cap ∧ RowAt w w1 g cap n z) ∧ Garb w w1
theorem out_res {w w1 wr : World} {v : Value} {n : Nat} {z : List R6} (h : Out w w1 v n z) (hg : Garb w1 wr) : Res w wr v n z := by
  obtain ⟨⟨h0, rfl⟩ | ⟨g, cap, rfl, a1, a2, cur, a3, a4, a5⟩, -⟩ := h
  · exact .inl ⟨h0, none, 0, rfl⟩
  · exact .inr ⟨g, cap, cur, rfl, a1, by rw [hg.below.block g (lt_of_some a3)]; exact a3, a5⟩
theorem alloc_garb (w : World) (c : Array Value) (e : TypeId) : Garb w (w.alloc (.cells c e)) := But.garb (Go.RX.Garb.refl w) ((But.refl w w.heap.size).alloc c e) (Nat.le_refl _) (fun c e fr h => by
  rw [heap_alloc_new] at h
  simp only [Option.some.injEq, Obj.cells.injEq] at h
  exact h.2.2.symm)
theorem clone_out (b off c n : Nat) (z : List R6) (w : World) (hb : (n + 2) * 48 ≤ 140737488355328) (hr : Row w b off n z) : Calls Try.prog 12 #[.slice (some ⟨b, off, none⟩) n c] w fun e w' => ∃ v, e = .returned v ∧ Out w w' v n z := by
  have h : Calls Try.prog 12 #[.slice (some ⟨b, off, none⟩) n c] w (ClonePost w n z) := by
    rcases Nat.eq_zero_or_pos n with h0 | h0
    · subst h0; exact clone_nil _ _ _ _
    · exact clone_some b off c n z w h0 hb hr.2
  refine h.mono ?_
  rintro e w' (⟨rfl, rfl, rfl⟩ | ⟨g, cap, rfl, h1, h2⟩)
  · exact ⟨_, rfl, .inl ⟨rfl, rfl⟩, Go.RX.Garb.refl _⟩
  · exact ⟨_, rfl, .inr ⟨g, cap, rfl, h1⟩, h2⟩
set_option maxRecDepth 100000 in
set_option maxHeartbeats 1000000 in
theorem pkg_ok (b off n c : Nat) (z : List R6) (most bits now : Int) (w : World) (hz : ∀ r ∈ z, R6.ok r) (hn : In64 now) (hb : In64 bits) (hbig : (n + 2) * 48 ≤ 140737488355328) (hrow : Row w b off n z) :
    Calls Try.prog 5 #[.slice (some ⟨b, off, none⟩) n c, .int .i64 most, .int .i64 bits, .int .i64 now] w (SPost w (ansN z n most now bits) (ansL z n most now bits)) := by
  have z0 : In64 0 := by unfold In64; decide
  have hd : R6.ok default := ⟨z0, z0, z0, z0, z0⟩
  have hget : ∀ k, R6.ok (z.getD k default) := fun k => by
    rw [List.getD_eq_getElem?_getD]
    cases hx : z[k]? with
    | none => exact hd
    | some r => exact hz r (List.mem_of_getElem? hx)
  generalize hQ : SPost w (ansN z n most now bits) (ansL z n most now bits) = Q0
  have hend : End w (ansN z n most now bits) (ansL z n most now bits) Q0 := fun v w' h h' => by subst hQ; exact ⟨v, rfl, h, h'⟩
  clear hQ
  have hn63 : (n : Int) ≤ 9223372036854775807 := by omega
  have hc := clone_out b off c n z w hbig hrow
  have H := Lib.hid (show (∀ k, R6.ok (z.getD k default)) ∧ Row w b off n z ∧ End w (ansN z n most now bits) (ansL z n most now bits) Q0 ∧ (n + 2) * 48 ≤ 140737488355328 from ⟨hget, hrow, hend, hbig⟩)
  clear hget hz hd hrow hend hbig
  by_cases hmost : (n : Int) < most
  · have hB : decide ((n : Int) < most) = true := by simp [hmost]
    go_enter Try.func5, Try.ntmps5
    go_wp2_with (go_at_call 12; refine hc.mono ?_; rintro e w1 ⟨v1, rfl, ho⟩; have HO := Lib.hid ho; clear ho hc)
    have hq := HO.out
    obtain ⟨-, -, hend, -⟩ := H.out
    unfold ansN ansL at hend
    rw [if_pos (.inl hmost), if_pos (.inl hmost)] at hend
    exact hend v1 w1 (out_res hq (Go.RX.Garb.refl _)) hq.2.below
  · have hB : decide ((n : Int) < most) = false := by simp [hmost]
    go_enter Try.func5, Try.ntmps5
    go_wp2_with (go_at_call 12; refine hc.mono ?_; rintro e w1 ⟨v1, rfl, ho⟩; have HO := Lib.hid ho; clear ho hc)
    go_loopw [10, 22] (fun l i wr => ∃ k : Nat, k ≤ n ∧ i = .int .i64 k ∧ l = .int .i64 (bst z now bits k) ∧ Garb w1 wr) (fun _ i _ => n - (intOf i).toNat)
    case atStart => exact ⟨0, Nat.zero_le _, rfl, rfl, Go.RX.Garb.refl w1⟩
    case round =>
      obtain ⟨k, hk, rfl, rfl, hg⟩ := hrel
      by_cases hlt : k < n
      · obtain ⟨hget, hrow, -, -⟩ := H.out
        have hg0 := (HO.out.2).trans hg
        have hr := hrow.garb hg0
        obtain ⟨x0, x1, x2, x3, x4, x5⟩ := six z k b off wr hlt hr.2
        have hbd := bst_bd z now bits k
        have hs : bst z now bits (k + 1) = if (z.getD k default).m = 1 ∧ (bst z now bits k < 0 ∨ pic (z.getD k default) now bits < pic (z.getD (bst z now bits k).toNat default) now bits) then (k : Int) else bst z now bits k := rfl
        have gk := hget k
        obtain ⟨t0, ht0⟩ : ∃ t0, t0 = z.getD (bst z now bits k).toNat default := ⟨_, rfl⟩
        rw [← ht0] at hs
        generalize z.getD k default = r at *
        obtain ⟨ri, rf, rl, rm, rp, ro⟩ := r
        simp only at x0 x1 x2 x3 x4 x5 hs
        obtain ⟨lb, hlb⟩ : ∃ lb, lb = bst z now bits k := ⟨_, rfl⟩
        rw [← hlb] at hbd hs ht0 ⊢
        obtain ⟨nb, hnb⟩ : ∃ nb, nb = bst z now bits (k + 1) := ⟨_, rfl⟩
        rw [← hnb] at hs
        have HX := Lib.hid (show (∀ k, R6.ok (z.getD k default)) ∧ Row wr b off n z ∧ R6.ok ⟨ri, rf, rl, rm, rp, ro⟩ ∧ (nb = if rm = 1 ∧ (lb < 0 ∨ pic ⟨ri, rf, rl, rm, rp, ro⟩ now bits < pic t0 now bits) then (k : Int) else lb) ∧ (-1 ≤ lb ∧ lb < k) ∧ t0 = z.getD lb.toNat default from ⟨hget, hr, gk, hs, hbd, ht0⟩)
        clear hr hg0 hrow hget hs hbd ht0 gk hlb
        go_upto_region 8 with (fail)
        clear x0 x1 x2 x3 x4 x5
        have hga := hg.trans (alloc_garb wr #[.int .i64 ri, .int .i64 rf, .int .i64 rl, .int .i64 rm, .int .i64 rp, .bool ro] 30)
        have hnew := heap_alloc_new wr (.cells #[.int .i64 ri, .int .i64 rf, .int .i64 rl, .int .i64 rm, .int .i64 rp, .bool ro] 30)
        have hra := (HX.out.2.1).garb (alloc_garb wr #[.int .i64 ri, .int .i64 rf, .int .i64 rl, .int .i64 rm, .int .i64 rp, .bool ro] 30)
        generalize (wr.alloc (.cells #[.int .i64 ri, .int .i64 rf, .int .i64 rl, .int .i64 rm, .int .i64 rp, .bool ro] 30)) = W at *
        have x0 : W.cell? ⟨wr.heap.size, 0, none⟩ = some (.int .i64 ri) := by rw [cell_of hnew]; rfl
        have x1 : W.cell? ⟨wr.heap.size, 1, none⟩ = some (.int .i64 rf) := by rw [cell_of hnew]; rfl
        have x2 : W.cell? ⟨wr.heap.size, 2, none⟩ = some (.int .i64 rl) := by rw [cell_of hnew]; rfl
        have x3 : W.cell? ⟨wr.heap.size, 3, none⟩ = some (.int .i64 rm) := by rw [cell_of hnew]; rfl
        have x4 : W.cell? ⟨wr.heap.size, 4, none⟩ = some (.int .i64 rp) := by rw [cell_of hnew]; rfl
        have x5 : W.cell? ⟨wr.heap.size, 5, none⟩ = some (.bool ro) := by rw [cell_of hnew]; rfl
        clear hnew
        generalize wr.heap.size = pb at *
        obtain ⟨hget, hr0, gk, hs, hbd, ht0⟩ := HX.out
        clear hr0 HX hg
        have hr := hra
        clear hra
        by_cases hm : rm = 1
        · by_cases hl : lb < 0
          · have hs' : nb = k := by rw [hs, if_pos ⟨hm, .inl hl⟩]
            subst hm
            have hlB : decide (lb < 0) = true := by simp [hl]
            have hm1 : ((1 : Int) == 1) = true := rfl
            clear hs hget hr gk H hbd ht0 t0
            go_quiet (fail)
            go_wp2
            exact ⟨⟨k + 1, by omega, rfl, by rw [← hnb, hs'], hga.trans (Go.RX.Garb.drew _ _)⟩, by simp [intOf]; omega⟩
          · obtain ⟨j, hj⟩ : ∃ j : Nat, lb = (j : Int) := ⟨lb.toNat, by omega⟩
            subst hj
            have hjn : j < n := by omega
            obtain ⟨y0, y1, y2, y3, y4, y5⟩ := six z j b off W hjn hr.2
            have gj := hget j
            rw [show ((j : Int)).toNat = j from rfl] at ht0
            rw [← ht0] at y0 y1 y2 y3 y4 y5 gj
            clear ht0
            generalize t0 = t at *
            obtain ⟨ti, tf, tl, tm, tp, t6⟩ := t
            simp only at y0 y1 y2 y3 y4 y5
            subst hm
            have p1 := fun w => pic_ok (f := 13) (.inl rfl) gk hn hb w
            have p2 := fun w => pic_ok (f := 13) (.inl rfl) gj hn hb w
            obtain ⟨u1, hu1⟩ : ∃ u, u = pic ⟨ri, rf, rl, 1, rp, ro⟩ now bits := ⟨_, rfl⟩
            obtain ⟨u2, hu2⟩ : ∃ u, u = pic ⟨ti, tf, tl, tm, tp, t6⟩ now bits := ⟨_, rfl⟩
            rw [← hu1] at hs p1
            rw [← hu2] at hs p2
            simp only [sv6] at p1 p2
            have HS := Lib.hid (show (u1 < u2 → nb = (k : Int)) ∧ (¬ u1 < u2 → nb = (j : Int)) from ⟨fun hu => hs.trans (if_pos ⟨rfl, .inr hu⟩), fun hu => hs.trans (if_neg (fun h => h.2.elim hl hu))⟩)
            clear hs
            clear hget hr gk gj H hu1 hu2 hbd
            go_region_held3 (fun w' => Garb w1 w' ∧ w'.cell? ⟨pb, 0, none⟩ = some (.int .i64 ri) ∧ w'.cell? ⟨pb, 1, none⟩ = some (.int .i64 rf) ∧ w'.cell? ⟨pb, 2, none⟩ = some (.int .i64 rl) ∧ w'.cell? ⟨pb, 3, none⟩ = some (.int .i64 1) ∧ w'.cell? ⟨pb, 4, none⟩ = some (.int .i64 rp) ∧ w'.cell? ⟨pb, 5, none⟩ = some (.bool ro) ∧
                w'.cell? ⟨b, off + j * 6, none⟩ = some (.int .i64 ti) ∧ w'.cell? ⟨b, off + j * 6 + 1, none⟩ = some (.int .i64 tf) ∧ w'.cell? ⟨b, off + j * 6 + 2, none⟩ = some (.int .i64 tl) ∧ w'.cell? ⟨b, off + j * 6 + 3, none⟩ = some (.int .i64 tm) ∧ w'.cell? ⟨b, off + j * 6 + 4, none⟩ = some (.int .i64 tp) ∧ w'.cell? ⟨b, off + j * 6 + 5, none⟩ = some (.bool t6))
              (((try go_split_ands); (try dsimp only); repeat' apply And.intro) <;> first | assumption | (exact Go.RX.Garb.trans ‹Garb w1 _› (Go.RX.Garb.drew _ _)) | (exact Go.RX.Garb.trans ‹_› g2) | (exact keep1 g2 ‹_›) | go_keep)
              ((first
                | (go_at_call 13; with_reducible refine (p1 _).mono ?_; rintro e w2 ⟨rfl, g2⟩)
                | (go_at_call 13; with_reducible refine (p2 _).mono ?_; rintro e w2 ⟨rfl, g2⟩)))
            all_goals (by_cases hu : u1 < u2)
            all_goals (first | (have hub : decide (u1 < u2) = true := by simp [hu]) | (have hub : decide (u1 < u2) = false := by simp [hu]))
            all_goals (first | (have hs' : nb = (k : Int) := HS.out.1 hu) | (have hs' : nb = (j : Int) := HS.out.2 (by omega)))
            all_goals go_wp2
            all_goals exact ⟨⟨k + 1, by omega, rfl, by rw [← hnb, hs'], (by first | assumption | (go_split_ands; assumption) | (rename_i hS; exact hS.1))⟩, by simp [intOf]; omega⟩
        · have hs' : nb = lb := by rw [hs, if_neg (fun h => hm h.1)]
          have hmb : (rm == 1) = false := by simp [hm]
          clear hs hget hr gk H hbd ht0 t0
          go_quiet (fail)
          go_wp2
          exact ⟨⟨k + 1, by omega, rfl, by rw [← hnb, hs'], hga.trans (Go.RX.Garb.drew _ _)⟩, by simp [intOf]; omega⟩
      · have hkn : k = n := by omega
        subst hkn
        obtain ⟨-, hrow, hend, hbig⟩ := H.out
        have ho := HO.out
        have hbd := bst_bd z now bits k
        obtain ⟨lb, hlb⟩ : ∃ lb, lb = bst z now bits k := ⟨_, rfl⟩
        rw [← hlb] at hbd ⊢
        unfold ansN ansL at hend
        rw [← hlb] at hend
        clear hlb
        by_cases hl : lb < 0
        · rw [if_pos (.inr hl), if_pos (.inr hl)] at hend
          have hq := hend v1 wr (out_res ho hg) (ho.2.trans hg).below
          have hB2 : decide (lb < 0) = true := by simp [hl]
          clear hend ho HO H hrow hg hbd hbig
          go_wp2
          exact hq
        · have hno : ¬ ((k : Int) < most ∨ lb < 0) := by omega
          rw [if_neg hno, if_neg hno] at hend
          obtain ⟨j, hj⟩ : ∃ j : Nat, lb = (j : Int) := ⟨lb.toNat, by omega⟩
          subst hj
          have hjn : j < k := by omega
          obtain ⟨h1 | ⟨g, cap, rfl, hrw⟩, hg1⟩ := ho
          · omega
          · obtain ⟨a1, a2, cur, a3, a4, a5⟩ := hrw
            have hcw : wr.heap[g]? = some (.cells cur 30 (0, 0)) := by rw [hg.below.block g (lt_of_some a3)]; exact a3
            have hc := del_ok g k cap j z wr cur hcw a4 hjn a2 (by omega) a5
            have hq : ∀ e w', DPost wr g cap (k - 1) (rest z j k) e w' → ∃ v, e = .returned v ∧ Q0 (.returned v) w' := fun e w' ⟨he, hbt, cur2, c1, c2⟩ => ⟨_, he, hend _ w' (.inr ⟨g, cap, cur2, rfl, a1, c1, c2⟩) (by
              have hgb := hg1.trans hg
              exact (But.garb hgb hbt a1 (fun c e fr h => by rw [c1] at h; simp only [Option.some.injEq, Obj.cells.injEq] at h; exact h.2.2.symm)).below)⟩
            have hB2 : decide ((j : Int) < 0) = false := by simp
            clear hend hrow H HO hg hbd hbig hno a1 a2 a3 a4 a5 hcw hg1
            go_wp2_with (go_at_call 14; refine hc.mono ?_; intro e w2 hw2; obtain ⟨v, rfl, hqv⟩ := hq _ _ hw2)
            exact hqv
end Go.Proofs.Ytboadccdacigeaa.sl
