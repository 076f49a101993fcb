/- The document's Modify: its walk. -/
import Derived.Test.YtoheklommpochaaMw
namespace Go.Proofs.Ytoheklommpochaa.ls
open Go.RowKit Go.Lib Go.Proofs.Ytoheklommpochaa Go.Proofs.Ytoheklommpochaa.pi
open Go.RX (Garb)
set_option linter.unusedVariables false
set_option linter.unusedSimpArgs false
attribute [local go_sem ↓] Go.wp_at_zero Go.wp_at_succ
theorem rem_ok {W : Int} (h : W = 16 ∨ W = 32 ∨ W = 64 ∨ W = 128 ∨ W = 256) (a : Int) (w : World) : (binOp .rem 3 (.int .i64 a) (.int .i64 W)).run Try.prog w = .ok (.int .i64 (a.tmod W)) w := by
  rcases h with rfl | rfl | rfl | rfl | rfl <;> simp [binOp, Op.intDiv]
set_option maxHeartbeats 1000000 in
set_option maxRecDepth 100000 in
theorem ref_many {a1 : Option Addr} {n1 c1 : Nat} {a2 : Option Addr} {n2 c2 : Nat} {a3 : Option Addr} {n3 c3 : Nat} {now bits active : Int} {w : World} (hm : many active n2 = true) (hb2 : n2 ≤ 9223372036854775807) :
    Calls Try.prog 9 #[.slice a1 n1 c1, .slice a2 n2 c2, .slice a3 n3 c3, .int .i64 now, .int .i64 bits, .int .i64 active] w (MPost w [] 1802) := by
  generalize hQ : MPost w [] 1802 = Q0
  have hq : Q0 (.returned (.tuple #[.slice none 0 0, .int .i64 1802])) w := by subst hQ; exact ⟨_, rfl, .inl ⟨rfl, _, _, rfl⟩, Garb.refl w⟩
  unfold many at hm
  clear hQ
  rcases bool2 (decide (active < 1)) with h1 | h1
  · clear hm
    go_enter Try.func9, Try.ntmps9
    go_wp2
    first | exact hq | (go_ret; exact hq)
  · rcases bool2 (decide (8 < active)) with h2 | h2
    · clear hm
      go_enter Try.func9, Try.ntmps9
      go_wp2
      first | exact hq | (go_ret; exact hq)
    · rw [h1, h2, Bool.false_or, Bool.false_or] at hm
      go_enter Try.func9, Try.ntmps9
      go_wp2
      first | exact hq | (go_ret; exact hq)
/-- Onto nothing the first k, and one place behind them. -/
theorem two_apps {w : World} {g cap k : Nat} {x : Int} {out : List Int} (h : OwnI w g cap out) (hk : k ≤ out.length) (hfit : (out.length + 4) * 8 ≤ 140737488355328) :
    ∃ g1 cap1 W1 g2 cap2 W2, (∀ ty : Nat, (Builtin.append_ #[22, 22] ty #[.slice (some ⟨w.heap.size, 0, none⟩) 0 0, .slice (some ⟨g, 0, none⟩) k cap]).run Try.prog (w.alloc (.cells #[] 3)) = .ok (.slice (some ⟨g1, 0, none⟩) k cap1) W1) ∧
      (∀ ty : Nat, (Builtin.append_ #[22, 22] ty #[.slice (some ⟨g1, 0, none⟩) k cap1, .slice (some ⟨W1.heap.size, 0, none⟩) 1 1]).run Try.prog (W1.alloc (.cells #[.int .i64 x] 3)) = .ok (.slice (some ⟨g2, 0, none⟩) (k + 1) cap2) W2) ∧
      OwnI W2 g2 cap2 (out.take k ++ [x]) ∧ Garb w W2 ∧ w.heap.size ≤ g2 := by
  have h0 := own_new w [] #[] rfl
  have hg0 := alloc_garb w #[] 3
  have ht := own_take h hk
  have hl : (out.take k).length = k := by rw [List.length_take]; omega
  have hrow : Row0 (w.alloc (.cells #[] 3)) (some ⟨g, 0, none⟩) k (out.take k) := by have := (ht.garb hg0).row; rwa [hl] at this
  obtain ⟨g1, cap1, W1, ha, ho, hb, hge, hs, -⟩ := appL (c := cap) h0 hrow rfl hl.symm (by simp only [List.length_nil]; omega)
  have hW : Garb w W1 := But.garb hg0 hb (Nat.le_refl _) hs
  have hgs : w.heap.size ≤ g1 := by
    rcases hge with rfl | h
    · exact Nat.le_refl _
    · exact Nat.le_trans hg0.below.size h
  have hg2 := alloc_garb W1 #[.int .i64 x] 3
  have hr2 : Row0 (W1.alloc (.cells #[.int .i64 x] 3)) (some ⟨W1.heap.size, 0, none⟩) 1 [x] := by
    have := (own_new W1 [x] #[.int .i64 x] rfl).row
    exact this
  obtain ⟨g2, cap2, W2, ha2, ho2, hb2, hge2, hs2, -⟩ := appL (c := 1) (ho.garb hg2) hr2 (show k = _ by rw [List.nil_append, hl]) rfl (by omega)
  refine ⟨g1, cap1, W1, g2, cap2, W2, fun ty => ?_, ha2, ho2, But.garb (hW.trans hg2) hb2 hgs hs2, ?_⟩
  · have := ha ty; simpa using this
  · rcases hge2 with rfl | h
    · exact hgs
    · exact Nat.le_trans (hW.trans hg2).below.size h
/-- Onto nothing all of a list. -/
theorem copy_app {w : World} {a : Option Addr} {n c : Nat} {l : List Int} (hrow : Row0 w a n l) (hn : n = l.length) (hfit : (n + 2) * 8 ≤ 140737488355328) :
    ∃ g cap W, (∀ ty : Nat, (Builtin.append_ #[22, 22] ty #[.slice (some ⟨w.heap.size, 0, none⟩) 0 0, .slice a n c]).run Try.prog (w.alloc (.cells #[] 3)) = .ok (.slice (some ⟨g, 0, none⟩) n cap) W) ∧ OwnI W g cap l ∧ Garb w W ∧ w.heap.size ≤ g := by
  have h0 := own_new w [] #[] rfl
  have hg0 := alloc_garb w #[] 3
  have hrow' : Row0 (w.alloc (.cells #[] 3)) a n l := hrow.garb hg0
  obtain ⟨g, cap, W, ha, ho, hb, hge, hs, -⟩ := appL (c := c) h0 hrow' rfl hn (by simp only [List.length_nil]; omega)
  refine ⟨g, cap, W, fun ty => ?_, ho, But.garb hg0 hb (Nat.le_refl _) hs, ?_⟩
  · have := ha ty; simpa using this
  · rcases hge with rfl | h
    · exact Nat.le_refl _
    · exact Nat.le_trans hg0.below.size h
/-- One more place onto a list of one's own. -/
theorem one_app {w : World} {g cap n : Nat} {x : Int} {l : List Int} (h : OwnI w g cap l) (hn : n = l.length) (hfit : (n + 4) * 8 ≤ 140737488355328) :
    ∃ g2 cap2 W2, (∀ ty : Nat, (Builtin.append_ #[22, 22] ty #[.slice (some ⟨g, 0, none⟩) n cap, .slice (some ⟨w.heap.size, 0, none⟩) 1 1]).run Try.prog (w.alloc (.cells #[.int .i64 x] 3)) = .ok (.slice (some ⟨g2, 0, none⟩) (n + 1) cap2) W2) ∧
      OwnI W2 g2 cap2 (l ++ [x]) ∧ But w W2 g ∧ (g2 = g ∨ w.heap.size ≤ g2) ∧ (∀ c e fr, W2.heap[g]? = some (.cells c e fr) → fr = (0, 0)) := by
  have hg2 := alloc_garb w #[.int .i64 x] 3
  have hr2 : Row0 (w.alloc (.cells #[.int .i64 x] 3)) (some ⟨w.heap.size, 0, none⟩) 1 [x] := (own_new w [x] #[.int .i64 x] rfl).row
  obtain ⟨g2, cap2, W2, ha2, ho2, hb2, hge2, hs2, -⟩ := appL (c := 1) (h.garb hg2) hr2 hn rfl (by omega)
  refine ⟨g2, cap2, W2, ha2, ho2, But.step ((But.refl w g).alloc _ _) hb2 h.lt, ?_, hs2⟩
  rcases hge2 with h | h
  · exact .inl h
  · exact .inr (Nat.le_trans hg2.below.size h)
set_option maxHeartbeats 4000000 in
set_option maxRecDepth 100000 in
/-- Both checks. -/
theorem ref_bad {a1 : Option Addr} {n1 c1 : Nat} {a2 : Option Addr} {n2 c2 : Nat} {a3 : Option Addr} {n3 c3 : Nat} {now bits active : Int} {w : World} {l : List Int} {ms : List md.R2} (hm : many active n2 = false) (hbad : (l.any (badP n3) || ms.any badM) = true)
    (h1 : IRow w a1 l) (e1 : n1 = l.length) (b1 : n1 ≤ 9223372036854775807) (h2 : MRow w a2 ms) (e2 : n2 = ms.length) (b2 : n2 ≤ 9223372036854775807) (b3 : n3 ≤ 9223372036854775807) :
    Calls Try.prog 9 #[.slice a1 n1 c1, .slice a2 n2 c2, .slice a3 n3 c3, .int .i64 now, .int .i64 bits, .int .i64 active] w (MPost w [] 1801) := by
  generalize hQ : MPost w [] 1801 = Q0
  have hq : Q0 (.returned (.tuple #[.slice none 0 0, .int .i64 1801])) w := by subst hQ; exact ⟨_, rfl, .inl ⟨rfl, _, _, rfl⟩, Garb.refl w⟩
  obtain ⟨m1, m2, m3⟩ := many_false hm
  have H1 : Aside (IRow w a1 l ∧ n1 = l.length) := ⟨h1, e1⟩
  have H2 : Aside (MRow w a2 ms ∧ n2 = ms.length) := ⟨h2, e2⟩
  have HB : Aside ((l.any (badP n3) || ms.any badM) = true) := hbad
  clear hQ hm h1 h2 e1 e2 hbad
  go_enter Try.func9, Try.ntmps9
  go_wp2
  go_loopw [14] (fun i wr => ∃ k : Nat, k ≤ n1 ∧ i = .int .i64 k ∧ wr = w ∧ Aside (∀ (j : Nat) y, j < k → l[j]? = some y → badP n3 y = false)) (fun i _ => n1 - (RowKit.intOf i).toNat)
  case atStart => exact ⟨0, Nat.zero_le _, rfl, rfl, fun j y hj => absurd hj (Nat.not_lt_zero _)⟩
  case round =>
    obtain ⟨k, hk, rfl, rfl, HA⟩ := hrel
    by_cases hlt : k < n1
    · obtain ⟨y, hy⟩ : ∃ y, l[k]? = some y := ⟨_, List.getElem?_eq_getElem (by rw [← H1.out.2]; exact hlt)⟩
      obtain ⟨b, off, rfl, hbw, hc⟩ : ∃ b off, a1 = some ⟨b, off, none⟩ ∧ b < wr.heap.size ∧ ∀ j, j < l.length → wr.cell? ⟨b, off + j, none⟩ = some (.int .i64 (l.getD j 0)) := by
        rcases H1.out.1 with h0 | h
        · rw [h0] at hy; simp at hy
        · exact h
      have y0 := hc k (by rw [← H1.out.2]; exact hlt)
      rw [show l.getD k 0 = y by rw [List.getD_eq_getElem?_getD, hy]; rfl] at y0
      have HY : Aside (l[k]? = some y) := hy
      clear hc hy
      rcases bool2 (decide (y < 0)) with q1 | q1
      · go_wp2
        first | exact hq | (go_ret; exact hq)
      · rcases bool2 (decide ((n3 : Int) ≤ y)) with q2 | q2
        · go_wp2
          first | exact hq | (go_ret; exact hq)
        · have hby : Aside (badP n3 y = false) := by show badP n3 y = false; unfold badP; rw [q1, q2]; rfl
          go_wp2
          refine ⟨⟨k + 1, by omega, by go_num, (by first | rfl | trivial), (show Aside _ from fun j z hj hz => ?_)⟩, by simp [RowKit.intOf]; omega⟩
          by_cases e : j = k
          · subst e
            have := HY.out
            rw [hz] at this; injection this with this; subst this
            exact hby.out
          · exact HA.out j z (by omega) hz
    · have hkn : k = n1 := by omega
      subst hkn
      have hl : l.any (badP n3) = false := by
        rw [List.any_eq_false]
        intro x hx
        obtain ⟨j, hj⟩ := List.mem_iff_getElem?.1 hx
        rw [HA.out j x (by have := (List.getElem?_eq_some_iff.1 hj).1; have := H1.out.2; omega) hj]; decide
      have HM : Aside (ms.any badM = true) := by have := HB.out; rw [hl, Bool.false_or] at this; exact this
      clear hl HA
      go_wp2
      go_loopw [15] (fun i wr' => ∃ k : Nat, k ≤ n2 ∧ i = .int .i64 k ∧ wr' = wr ∧ Aside (∀ (j : Nat) y, j < k → ms[j]? = some y → badM y = false)) (fun i _ => n2 - (RowKit.intOf i).toNat)
      case atStart => exact ⟨0, Nat.zero_le _, rfl, rfl, fun j y hj => absurd hj (Nat.not_lt_zero _)⟩
      case round =>
        obtain ⟨k, hk, rfl, rfl, HA⟩ := hrel
        by_cases hlt : k < n2
        · obtain ⟨y, hy⟩ : ∃ y, ms[k]? = some y := ⟨_, List.getElem?_eq_getElem (by rw [← H2.out.2]; exact hlt)⟩
          have hgd : ms.getD k default = y := by rw [List.getD_eq_getElem?_getD, hy]; rfl
          obtain ⟨b, off, rfl, hbw, hc⟩ : ∃ b off, a2 = some ⟨b, off, none⟩ ∧ b < wr.heap.size ∧ ∀ j, j < ms.length * 2 → wr.cell? ⟨b, off + j, none⟩ = some (md.val ms j) := by
            rcases H2.out.1 with h0 | h
            · rw [h0] at hy; simp at hy
            · exact h
          obtain ⟨y0, y1⟩ := md.six ms k b off wr (by rw [← H2.out.2]; exact hlt) hc
          rw [hgd] at y0 y1
          have HY : Aside (ms[k]? = some y) := hy
          clear hc hy hgd
          obtain ⟨yk, yv⟩ := y
          simp only at y0 y1
          rcases bool2 (decide (yk < 0)) with q1 | q1
          · go_wp2
            first | exact hq | (go_ret; exact hq)
          · rcases bool2 (decide (2 < yk)) with q2 | q2
            · go_wp2
              first | exact hq | (go_ret; exact hq)
            · rcases bool2 (decide (yv < 0)) with q3 | q3
              · go_wp2
                first | exact hq | (go_ret; exact hq)
              · rcases bool2 (decide (255 < yv)) with q4 | q4
                · go_wp2
                  first | exact hq | (go_ret; exact hq)
                · have hby : Aside (badM ⟨yk, yv⟩ = false) := by show badM ⟨yk, yv⟩ = false; unfold badM; simp only [q1, q2, q3, q4]; rfl
                  go_wp2
                  refine ⟨⟨k + 1, by omega, by go_num, (by first | rfl | trivial), (show Aside _ from fun j z hj hz => ?_)⟩, by simp [RowKit.intOf]; omega⟩
                  by_cases e : j = k
                  · subst e
                    have := HY.out
                    rw [hz] at this; injection this with this; subst this
                    exact hby.out
                  · exact HA.out j z (by omega) hz
        · exfalso
          have hl : ms.any badM = false := by
            rw [List.any_eq_false]
            intro x hx
            obtain ⟨j, hj⟩ := List.mem_iff_getElem?.1 hx
            rw [HA.out j x (by have := (List.getElem?_eq_some_iff.1 hj).1; have := H2.out.2; omega) hj]; decide
          have := HM.out
          rw [hl] at this
          cases this
end Go.Proofs.Ytoheklommpochaa.ls
