/- MarksSlides: its walk (the kit's), callees by their contracts. -/
import Derived.Test.YtboadccdacigeaaMs
import Derived.Test.YtboadccdacigeaaRxAwake
namespace Go.Proofs.Ytboadccdacigeaa.sl
open Go.RowKit Go.Proofs.Ytboadccdacigeaa Go.Proofs.Ytboadccdacigeaa.pi
open Go.RX (Garb)
set_option linter.unusedVariables false
/-- A list that came in. -/
def In6 (w : World) (A : Option Addr) (n : Nat) (z : List R6) : Prop := n = 0 ∨ ∃ b off, A = some ⟨b, off, none⟩ ∧ Row w b off n z
/-- Blocks below B, and those from C on that are there, are as they were. -/
structure Away (B C : Nat) (w w' : World) : Prop where
  os : w'.os = w.os
  tape : w'.tape = w.tape
  output : w'.output = w.output
  size : w.heap.size ≤ w'.heap.size
  block : ∀ k, k < w.heap.size → (k < B ∨ C ≤ k) → w'.heap[k]? = w.heap[k]?
/-- A list of the call's own, in a block from B on. -/
def Got (w : World) (B : Nat) (v : Value) (n : Nat) (z : List R6) : Prop :=
  (n = 0 ∧ ∃ A c, v = .slice A 0 c) ∨ ∃ g cap, ∃ cur : Array Value, v = .slice (some ⟨g, 0, none⟩) n cap ∧ B ≤ g ∧ w.heap[g]? = some (.cells cur 30 (0, 0)) ∧ ∀ j, j < n * 6 → cur[j]? = some (val z j)
theorem Got.below {w w' : World} {B n : Nat} {v : Value} {z : List R6} (h : Got w B v n z) (hb : Below w.heap.size w w') : Got w' B v n z := by
  rcases h with h | ⟨g, cap, cur, h1, h2, h3, h4⟩
  · exact .inl h
  · exact .inr ⟨g, cap, cur, h1, h2, by rw [hb.block g (lt_of_some h3)]; exact h3, h4⟩
theorem Got.away {w w' : World} {B B1 C n : Nat} {v : Value} {z : List R6} (h : Got w B v n z) (hb : Away B1 C w w') (hc : C ≤ B) : Got w' B v n z := by
  rcases h with h | ⟨g, cap, cur, h1, h2, h3, h4⟩
  · exact .inl h
  · exact .inr ⟨g, cap, cur, h1, h2, by rw [hb.block g (lt_of_some h3) (.inr (by omega))]; exact h3, h4⟩
theorem In6.below {w w' : World} {A : Option Addr} {n : Nat} {z : List R6} (h : In6 w A n z) (hb : Below w.heap.size w w') : In6 w' A n z := by
  rcases h with h | ⟨b, off, rfl, h⟩
  · exact .inl h
  · exact .inr ⟨b, off, rfl, h.below hb⟩
/-- The lent list. -/
def Lent (w : World) (g cap n : Nat) (z : List R6) : Prop := n + 2 ≤ cap ∧ ∃ cur : Array Value, w.heap[g]? = some (.cells cur 30 (0, 0)) ∧ (∀ j, j < n * 6 → cur[j]? = some (val z j)) ∧ ∀ i, i < 12 → cur[n * 6 + i]? = marks2[i]?
theorem Lent.below {w w' : World} {g cap n : Nat} {z : List R6} (h : Lent w g cap n z) (hb : Below w.heap.size w w') : Lent w' g cap n z := by
  obtain ⟨h1, cur, h2, h3⟩ := h
  exact ⟨h1, cur, by rw [hb.block g (lt_of_some h2)]; exact h2, h3⟩
theorem Lent.row {w : World} {g cap n : Nat} {z : List R6} (h : Lent w g cap n z) : Row w g 0 n z := by
  obtain ⟨h1, cur, h2, h3, _⟩ := h
  exact ⟨lt_of_some h2, fun j hj => by rw [Nat.zero_add, cell_of h2]; exact h3 j hj⟩
/-- In and lent. -/
structure St (w0 w : World) (A : Option Addr) (n : Nat) (z : List R6) (g cap : Nat) : Prop where
  b : Below w0.heap.size w0 w
  i : In6 w A n z
  l : Lent w g cap n z
theorem St.below {w0 w w' : World} {A : Option Addr} {n : Nat} {z : List R6} {g cap : Nat} (h : St w0 w A n z g cap) (hb : Below w.heap.size w w') : St w0 w' A n z g cap :=
  ⟨h.b.trans (hb.mono h.b.size), h.i.below hb, h.l.below hb⟩
theorem drewN_below (w : World) (q : Nat) : Below w.heap.size w (w.drewN q) := (Go.RX.Garb.drew w _).below
theorem lend6 {w : World} {A : Option Addr} {n c : Nat} {z : List R6} (h : In6 w A n z) (hb : (n + 2) * 48 ≤ 140737488355328) :
    Calls Try.prog 4 #[.slice A n c] w fun e w' => ∃ g cap, e = .returned (.slice (some ⟨g, 0, none⟩) n cap) ∧ St w w' A n z g cap ∧ g < w'.heap.size := by
  have hc : Calls Try.prog 11 #[.slice A n c] w (CopyPost w n z) := by
    rcases h with rfl | ⟨b, off, rfl, h⟩
    · exact copy_nil _ _ _ _
    · rcases Nat.eq_zero_or_pos n with h0 | h0
      · subst h0; exact copy_nil _ _ _ _
      · exact copy_some b off c n z w h0 hb h.2
  refine (lend_of hb ⟨A, c, rfl⟩ hc).mono ?_
  rintro e w' ⟨g, cap, rfl, ⟨h1, h2, cur, h3, h4, h5⟩, hg⟩
  exact ⟨g, cap, rfl, ⟨hg.below, h.below hg.below, h2, cur, h3, h4, h5⟩, lt_of_some h3⟩
theorem got_of {w w' : World} {v : Value} {n : Nat} {z : List R6} (h : Res w w' v n z) : Got w' w.heap.size v n z := h
theorem same6 {w : World} {B B' n : Nat} {v v' : Value} {z : List R6} (hn : n ≤ 9223372036854775807) (h : Got w B v n z) (h' : Got w B' v' n z) : Calls Try.prog 7 #[v, v'] w (TruePost w) := by
  rcases Nat.eq_zero_or_pos n with h0 | h0
  · subst h0
    obtain ⟨A, c, rfl⟩ : ∃ A c, v = .slice A 0 c := by
      rcases h with ⟨_, h⟩ | ⟨g, cap, _, h, _⟩
      · exact h
      · exact ⟨_, _, h⟩
    obtain ⟨A', c', rfl⟩ : ∃ A c, v' = .slice A 0 c := by
      rcases h' with ⟨_, h⟩ | ⟨g, cap, _, h, _⟩
      · exact h
      · exact ⟨_, _, h⟩
    exact same_nil _ _ _ _ _
  · rcases h with ⟨h, _⟩ | ⟨g, cap, cur, rfl, _, h1, h2⟩
    · omega
    · rcases h' with ⟨h, _⟩ | ⟨g', cap', cur', rfl, _, h1', h2'⟩
      · omega
      · exact same_ok g 0 g' 0 n cap cap' z w hn (fun j hj => by rw [Nat.zero_add, cell_of h1]; exact h2 j hj) (fun j hj => by rw [Nat.zero_add, cell_of h1']; exact h2' j hj)
theorem kept6 {w0 w : World} {A : Option Addr} {n c g cap : Nat} {z : List R6} (hb : (n + 2) * 48 ≤ 140737488355328) (h : St w0 w A n z g cap) : Calls Try.prog 8 #[.slice (some ⟨g, 0, none⟩) n cap, .slice A n c] w (TruePost w) := by
  obtain ⟨-, hi, hl⟩ := h
  have hr := hl.row
  obtain ⟨h1, cur, h2, h3, h4⟩ := hl
  refine kept_of (by omega) h1 (fun i hi => by rw [cell_of h2]; exact h4 i hi) ?_
  rcases hi with rfl | ⟨b, off, rfl, h⟩
  · exact same_nil _ _ _ _ _
  · exact same_ok g 0 b off n cap c z w (by omega) hr.2 h.2
theorem spoil_nil (A : Option Addr) (c : Nat) (w : World) : Calls Try.prog 9 #[.slice A 0 c] w fun e w' => e = .returned (.tuple #[]) ∧ w' = w := by
  generalize hQ : (fun (e : Ending) (w' : World) => e = .returned (.tuple #[]) ∧ w' = w) = Q0
  have hend : Q0 (.returned (.tuple #[])) w := by subst hQ; exact ⟨rfl, rfl⟩
  clear hQ
  go_enter Try.func9, Try.ntmps9
  go_wp2
  go_loopw [2] (fun i wr => i = .int .i64 0 ∧ wr = w) (fun i _ => 0)
  case atStart => exact ⟨rfl, rfl⟩
  case round =>
    obtain ⟨rfl, rfl⟩ := hrel
    go_wp2
    first | exact hend | (go_end0; exact hend)
theorem spoil6 {w : World} {B C n : Nat} {v : Value} {z : List R6} (hn : n ≤ 9223372036854775807) (h : Got w B v n z) (hC : ∀ g c m, v = .slice (some ⟨g, 0, none⟩) m c → 0 < m → g < C) :
    Calls Try.prog 9 #[v] w fun e w' => e = .returned (.tuple #[]) ∧ Away B C w w' := by
  have h0 : ∀ A c, Calls Try.prog 9 #[.slice A 0 c] w fun e w' => e = .returned (.tuple #[]) ∧ Away B C w w' := fun A c => (spoil_nil A c w).mono (by
    rintro e w' ⟨rfl, rfl⟩
    exact ⟨rfl, rfl, rfl, rfl, Nat.le_refl _, fun _ _ _ => rfl⟩)
  rcases h with ⟨rfl, A, c, rfl⟩ | ⟨g, cap, cur, rfl, h1, h2, h3⟩
  · exact h0 A c
  · rcases Nat.eq_zero_or_pos n with hz | hz
    · subst hz; exact h0 _ _
    · refine (spoilL hn h2 fun j hj => ⟨(z.getD j default).p, by rw [h3 _ (by omega), val_at z j 4 (by decide)]; rfl⟩).mono ?_
      rintro e w' ⟨rfl, hb, -⟩
      have := hC g cap n rfl hz
      exact ⟨rfl, hb.os, hb.tape, hb.output, hb.size, fun k hk hd => hb.block k hk (by omega)⟩
set_option maxRecDepth 100000 in
set_option maxHeartbeats 1000000 in
theorem doc_nil (A : Option Addr) (c : Nat) (z : List R6) (most bits now : Int) (w : World) :
    Calls Try.prog 6 #[.slice A 0 c, .int .i64 most, .int .i64 bits, .int .i64 now] w (SPost w 0 z) := by
  generalize hQ : SPost w 0 z = Q0
  have hend : Q0 (.returned (.slice (some ⟨w.heap.size, 0, none⟩) 0 0)) (w.alloc (.cells #[] 30)) := by
    subst hQ
    exact ⟨_, rfl, .inl ⟨rfl, _, _, rfl⟩, (alloc_garb w #[] 30).below⟩
  clear hQ
  have ha := app_nil A c
  by_cases hm : (0 : Int) < most
  · have hB : decide ((0 : Int) < most) = true := by simp [hm]
    go_enter Try.func6, Try.ntmps6
    go_wp2
    go_loopw [9, 10] (fun l i wr => l = .int .i64 (-1) ∧ i = .int .i64 0 ∧ wr = w) (fun _ i _ => 0)
    case atStart => exact ⟨rfl, rfl, rfl⟩
    case round =>
      obtain ⟨rfl, rfl, rfl⟩ := hrel
      go_wp2_with (at_builtin; refine Lib.wpList_append_run _ rfl _ _ _ _ rfl _ _ rfl rfl _ _ (ha _ _ _) ?_)
      exact hend
  · have hB : decide ((0 : Int) < most) = false := by simp [hm]
    go_enter Try.func6, Try.ntmps6
    go_wp2
    go_loopw [9, 10] (fun l i wr => l = .int .i64 (-1) ∧ i = .int .i64 0 ∧ wr = w) (fun _ i _ => 0)
    case atStart => exact ⟨rfl, rfl, rfl⟩
    case round =>
      obtain ⟨rfl, rfl, rfl⟩ := hrel
      go_wp2_with (at_builtin; refine Lib.wpList_append_run _ rfl _ _ _ _ rfl _ _ rfl rfl _ _ (ha _ _ _) ?_)
      exact hend
theorem Got.lt {w : World} {B n : Nat} {v : Value} {z : List R6} (h : Got w B v n z) : ∀ g c m, v = .slice (some ⟨g, 0, none⟩) m c → 0 < m → g < w.heap.size := by
  intro g c m hv hm
  rcases h with ⟨_, A, c', h⟩ | ⟨g', cap, cur, h, _, h2, _⟩
  · rw [h] at hv
    injection hv with _ h0 _
    omega
  · rw [h] at hv
    injection hv with h0 _ _
    injection h0 with h0
    injection h0 with h0 _ _
    rw [← h0]; exact lt_of_some h2
theorem Away.below {w0 w w' : World} {B C : Nat} (h : Away B C w w') (hb : Below w0.heap.size w0 w) (hB : w0.heap.size ≤ B) : Below w0.heap.size w0 w' :=
  ⟨h.os.trans hb.os, h.tape.trans hb.tape, h.output.trans hb.output, Nat.le_trans hb.size h.size, fun k hk => by
    rw [h.block k (Nat.lt_of_lt_of_le hk hb.size) (.inl (by omega))]; exact hb.block k hk⟩
theorem St.away {w0 w w' : World} {A : Option Addr} {n B C : Nat} {z : List R6} {g cap : Nat} (h : St w0 w A n z g cap) (hi : In6 w0 A n z) (ha : Away B C w w') (hB : w0.heap.size ≤ B) (hg : g < B) : St w0 w' A n z g cap := by
  have hb := ha.below h.b hB
  obtain ⟨h1, cur, h2, h3⟩ := h.l
  exact ⟨hb, hi.below hb, h1, cur, by rw [ha.block g (lt_of_some h2) (.inl hg)]; exact h2, h3⟩
/-- Both Slides give the same list. -/
def Pkg (n : Nat) (z : List R6) (most bits now : Int) (N : Nat) (L : List R6) : Prop := ∀ (w : World) (g cap : Nat), Row w g 0 n z → Calls Try.prog 5 #[.slice (some ⟨g, 0, none⟩) n cap, .int .i64 most, .int .i64 bits, .int .i64 now] w (SPost w N L)
def Doc (A : Option Addr) (n c : Nat) (z : List R6) (most bits now : Int) (N : Nat) (L : List R6) : Prop := ∀ w, In6 w A n z → Calls Try.prog 6 #[.slice A n c, .int .i64 most, .int .i64 bits, .int .i64 now] w (SPost w N L)
set_option maxRecDepth 100000 in
set_option maxHeartbeats 1000000 in
theorem walk0 (A : Option Addr) (n c : Nat) (z : List R6) (most bits now : Int) (w : World) (hbig : (n + 2) * 48 ≤ 140737488355328) (h : In6 w A n z) (N : Nat) (L : List R6) (hN : N ≤ n) (P1 : Pkg n z most bits now N L) (P2 : Doc A n c z most bits now N L) :
    Calls Try.prog 3 #[.slice A n c, .int .i64 most, .int .i64 bits, .int .i64 now] w fun e w' => e = .returned (.bool true) ∧ Below w.heap.size w w' := by
  have hN2 : N ≤ 9223372036854775807 := by omega
  have H := Lib.hid (show In6 w A n z ∧ (n + 2) * 48 ≤ 140737488355328 from ⟨h, hbig⟩)
  clear hN hbig
  go_enter Try.func3, Try.ntmps3
  go_wp2_with (first
    | (go_at_call 4; refine (lend6 h H.out.2).mono ?_; rintro e w1 ⟨gx, kx, rfl, S1, q1⟩; clear h)
    | (go_at_call 5; refine (P1 _ _ _ S1.l.row).mono ?_; rintro e w2 ⟨v1, rfl, r1, b1⟩; have S2 := S1.below b1; have G2 : Got w2 w1.heap.size v1 N L := r1; have hC := G2.lt; have m1 := b1.size; have m0 := S1.b.size; clear S1 r1 b1)
    | (go_at_call 5; refine (P1 _ _ _ S2.l.row).mono ?_; rintro e w3 ⟨v2, rfl, r2, b2⟩; have S3 := S2.below b2; have G3 := G2.below b2; have K3 : Got w3 w2.heap.size v2 N L := r2; have m2 := b2.size; clear S2 r2 b2 G2 P1)
    | (go_at_call 6; refine (P2 _ S3.i).mono ?_; rintro e w4 ⟨v3, rfl, r3, b3⟩; have S4 := S3.below b3; have G4 := G3.below b3; have K4 := K3.below b3; have D4 : Got w4 w3.heap.size v3 N L := r3; clear S3 r3 b3 G3 K3 P2)
    | (go_at_call 7; refine (same6 hN2 G4 D4).mono ?_; rintro e w5 ⟨rfl, k5, e5⟩; have d := drewN_below w4 k5; rw [← e5] at d; have S5 := S4.below d; have G5 := G4.below d; have K5 := K4.below d; have D5 := D4.below d; clear S4 e5 G4 K4 D4 d)
    | (go_at_call 8; refine (kept6 H.out.2 S5).mono ?_; rintro e w6 ⟨rfl, k6, e6⟩; have d := drewN_below w5 k6; rw [← e6] at d; have S6 := S5.below d; have G6 := G5.below d; have K6 := K5.below d; have D6 := D5.below d; clear S5 e6 G5 K5 D5 d)
    | (go_at_call 9; refine (spoil6 hN2 G6 hC).mono ?_; rintro e w7 ⟨rfl, a7⟩; have S7 := S6.away H.out.1 a7 m0 q1; have K7 := K6.away a7 (Nat.le_refl _); have D7 := D6.away a7 m2; clear S6 G6 K6 D6 a7 hC)
    | (go_at_call 7; refine (same6 hN2 K7 D7).mono ?_; rintro e w8 ⟨rfl, k8, e8⟩; have d := drewN_below w7 k8; rw [← e8] at d; have S8 := S7.below d; clear S7 e8 K7 D7 d)
    | (go_at_call 8; refine (kept6 H.out.2 S8).mono ?_; rintro e w9 ⟨rfl, k9, e9⟩; have d := drewN_below w8 k9; rw [← e9] at d; have S9 := S8.below d; clear S8 e9 d)
    | (go_at_call 10; refine (awake_is _).mono ?_; rintro e w10 ⟨rfl, g10⟩; have S10 := S9.below g10.below; clear S9 g10))
  go_ret
  exact ⟨rfl, S10.b⟩
theorem main (A : Option Addr) (n c : Nat) (z : List R6) (most bits now : Int) (w : World) (hz : ∀ r ∈ z, R6.ok r) (hn : In64 now) (hb : In64 bits) (hbig : (n + 2) * 48 ≤ 140737488355328) (h : In6 w A n z) :
    Calls Try.prog 3 #[.slice A n c, .int .i64 most, .int .i64 bits, .int .i64 now] w fun e w' => e = .returned (.bool true) ∧ Below w.heap.size w w' := by
  refine walk0 A n c z most bits now w hbig h (ansN z n most now bits) (ansL z n most now bits) (by unfold ansN; split <;> omega)
    (fun w g cap hr => pkg_ok g 0 n cap z most bits now w hz hn hb hbig hr) (fun w hi => ?_)
  rcases hi with rfl | ⟨b, off, rfl, hi⟩
  · have h0 : bst z now bits 0 < 0 := by simp [bst]
    have e1 : ansN z 0 most now bits = 0 := by unfold ansN; rw [if_pos (.inr h0)]
    have e2 : ansL z 0 most now bits = z := by unfold ansL; rw [if_pos (.inr h0)]
    rw [e1, e2]
    exact doc_nil A c z most bits now w
  · exact doc_ok b off n c z most bits now w hz hn hb hbig hi
end Go.Proofs.Ytboadccdacigeaa.sl
