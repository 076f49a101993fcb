/- ListsModifies: its walk, callees by their contracts. -/
import Derived.Test.YtoheklommpochaaMs
import Derived.Test.YtoheklommpochaaRxAwake
namespace Go.Proofs.Ytoheklommpochaa.ls
open Go.RowKit Go.Lib Go.Proofs.Ytoheklommpochaa Go.Proofs.Ytoheklommpochaa.pi
open Go.RX (Garb)
set_option linter.unusedVariables false
set_option linter.unusedSimpArgs false
/-- Both Modifies give this. -/
theorem mod_all {ga : Addr} {n1 c1 : Nat} {a2 : Option Addr} {n2 c2 : Nat} {a3 : Option Addr} {n3 c3 : Nat} {now bits active : Int} {l : List Int} {ms : List md.R2} {z : List rf.R6}
    (hn : In64 now) (hb : In64 bits) (hok : ∀ r ∈ z, R6.ok r) (e1 : n1 = l.length) (b1 : (n1 + 100) * 8 ≤ 140737488355328) (e2 : n2 = ms.length) (b2 : n2 ≤ 9223372036854775807) (e3 : n3 = z.length) (b3 : n3 ≤ 9223372036854775807) (w : World)
    (h1 : IRow w (some ga) l) (h2 : MRow w a2 ms) (h3 : RRow w a3 z) :
    Calls Try.prog 8 #[.slice (some ga) n1 c1, .slice a2 n2 c2, .slice a3 n3 c3, .int .i64 now, .int .i64 bits, .int .i64 active] w (MPost w (ansM l ms z now bits active).1 (ansM l ms z now bits active).2) := by
  rcases bool2 (many active n2) with hm | hm
  · have : ansM l ms z now bits active = ([], 1802) := by unfold ansM; rw [if_pos (by rw [← e2, hm])]
    rw [this]; exact mod_many hm b2
  · rcases bool2 (l.any (badP n3) || ms.any badM) with hbad | hbad
    · have : ansM l ms z now bits active = ([], 1801) := by unfold ansM; rw [if_neg (by rw [← e2, hm]; decide), if_pos (by rw [← e3, hbad])]
      rw [this]; exact mod_bad hm hbad h1 e1 (by omega) h2 e2 b2
    · exact mod_main hm hbad hn hb hok h1 e1 b1 h2 e2 b2 h3 e3 b3
theorem ref_all {a1 : Option Addr} {n1 c1 : Nat} {a2 : Option Addr} {n2 c2 : Nat} {a3 : Option Addr} {n3 c3 : Nat} {now bits active : Int} {l : List Int} {ms : List md.R2} {z : List rf.R6}
    (hn : In64 now) (hb : In64 bits) (hok : ∀ r ∈ z, R6.ok r) (e1 : n1 = l.length) (b1 : (n1 + 100) * 8 ≤ 140737488355328) (e2 : n2 = ms.length) (b2 : n2 ≤ 9223372036854775807) (e3 : n3 = z.length) (b3 : n3 ≤ 9223372036854775807) (w : World)
    (h1 : IRow w a1 l) (h2 : MRow w a2 ms) (h3 : RRow w a3 z) :
    Calls Try.prog 9 #[.slice a1 n1 c1, .slice a2 n2 c2, .slice a3 n3 c3, .int .i64 now, .int .i64 bits, .int .i64 active] w (MPost w (ansM l ms z now bits active).1 (ansM l ms z now bits active).2) := by
  rcases bool2 (many active n2) with hm | hm
  · have : ansM l ms z now bits active = ([], 1802) := by unfold ansM; rw [if_pos (by rw [← e2, hm])]
    rw [this]; exact ref_many hm b2
  · rcases bool2 (l.any (badP n3) || ms.any badM) with hbad | hbad
    · have : ansM l ms z now bits active = ([], 1801) := by unfold ansM; rw [if_neg (by rw [← e2, hm]; decide), if_pos (by rw [← e3, hbad])]
      rw [this]; exact ref_bad hm hbad h1 e1 (by omega) h2 e2 b2 b3
    · exact ref_main hm hbad hn hb hok h1 e1 b1 h2 e2 b2 h3 e3 b3
/-- A list that came out, in a block from B on. -/
def GotI (w : World) (B : Nat) (v : Value) (L : List Int) : Prop := (L = [] ∧ ∃ A c, v = .slice A 0 c) ∨ ∃ g cap, v = .slice (some ⟨g, 0, none⟩) L.length cap ∧ B ≤ g ∧ OwnI w g cap L
theorem GotI.garb {w w' : World} {B : Nat} {v : Value} {L : List Int} (h : GotI w B v L) (hg : Garb w w') : GotI w' B v L := by
  rcases h with h | ⟨g, cap, h1, h2, h3⟩
  · exact .inl h
  · exact .inr ⟨g, cap, h1, h2, h3.garb hg⟩
/-- Blocks below B, and those from C on that are there, are as they were. -/
structure Away (B C : Nat) (w w' : World) : Prop where
  os : w'.os = w.os
  tape : w'.tape = w.tape
  output : w'.output = w.output
  size : w.heap.size ≤ w'.heap.size
  block : ∀ k, k < w.heap.size → (k < B ∨ C ≤ k) → w'.heap[k]? = w.heap[k]?
theorem GotI.away {w w' : World} {B B1 C : Nat} {v : Value} {L : List Int} (h : GotI w B v L) (hb : Away B1 C w w') (hc : C ≤ B) : GotI w' B v L := by
  rcases h with h | ⟨g, cap, h1, h2, h3⟩
  · exact .inl h
  · exact .inr ⟨g, cap, h1, h2, h3.of_block (hb.block g h3.lt (.inr (by omega)))⟩
theorem Away.below {w0 w w' : World} {B C : Nat} (h : Away B C w w') (hb : Below w0.heap.size w0 w) (hB : w0.heap.size ≤ B) : Below w0.heap.size w0 w' :=
  ⟨h.os.trans hb.os, h.tape.trans hb.tape, h.output.trans hb.output, Nat.le_trans hb.size h.size, fun k hk => by
    rw [h.block k (Nat.lt_of_lt_of_le hk hb.size) (.inl (by omega))]; exact hb.block k hk⟩
theorem GotI.row {w : World} {B : Nat} {v : Value} {L : List Int} (h : GotI w B v L) : ∃ A c, v = .slice A L.length c ∧ Row0 w A L.length L := by
  rcases h with ⟨rfl, A, c, rfl⟩ | ⟨g, cap, rfl, h2, h3⟩
  · exact ⟨A, c, rfl, .inl rfl⟩
  · exact ⟨_, cap, rfl, h3.row⟩
theorem sameI {w : World} {B B' : Nat} {v v' : Value} {L : List Int} (hn : L.length ≤ 9223372036854775807) (h : GotI w B v L) (h' : GotI w B' v' L) : Calls Try.prog 10 #[v, v'] w fun e w' => e = .returned (.bool true) ∧ ∃ q, w' = w.drewN q := by
  obtain ⟨A, c, rfl, r⟩ := h.row
  obtain ⟨A', c', rfl, r'⟩ := h'.row
  exact sameL hn r r'
theorem GotI.lt {w : World} {B : Nat} {v : Value} {L : List Int} (h : GotI w B v L) : ∀ g c m, v = .slice (some ⟨g, 0, none⟩) m c → 0 < m → g < w.heap.size := by
  intro g c m hv hm
  rcases h with ⟨_, A, c', h⟩ | ⟨g', cap, h, _, h3⟩
  · rw [h] at hv
    injection hv with _ h0 _
    omega
  · rw [h] at hv
    injection hv with h0 _ _
    injection h0 with h0
    injection h0 with h0 _ _
    rw [← h0]; exact h3.lt
theorem spoil_nil (A : Option Addr) (c : Nat) (w : World) : Calls Try.prog 15 #[.slice A 0 c] w fun e w' => e = .returned (.tuple #[]) ∧ w' = w := by
  generalize hQ : (fun (e : Ending) (w' : World) => e = .returned (.tuple #[]) ∧ w' = w) = Q0
  have hend : Q0 (.returned (.tuple #[])) w := by subst hQ; exact ⟨rfl, rfl⟩
  clear hQ
  go_enter Try.func15, Try.ntmps15
  go_wp2
  go_loopw [2] (fun i wr => i = .int .i64 0 ∧ wr = w) (fun i _ => 0)
  case atStart => exact ⟨rfl, rfl⟩
  case round =>
    obtain ⟨rfl, rfl⟩ := hrel
    go_wp2
    first | exact hend | (go_end0; exact hend)
theorem spoilI {w : World} {B C : Nat} {v : Value} {L : List Int} (hn : L.length ≤ 9223372036854775807) (h : GotI w B v L) (hC : ∀ g c m, v = .slice (some ⟨g, 0, none⟩) m c → 0 < m → g < C) :
    Calls Try.prog 15 #[v] w fun e w' => e = .returned (.tuple #[]) ∧ Away B C w w' := by
  have h0 : ∀ A c, Calls Try.prog 15 #[.slice A 0 c] w fun e w' => e = .returned (.tuple #[]) ∧ Away B C w w' := fun A c => (spoil_nil A c w).mono (by
    rintro e w' ⟨rfl, rfl⟩
    exact ⟨rfl, rfl, rfl, rfl, Nat.le_refl _, fun _ _ _ => rfl⟩)
  rcases h with ⟨rfl, A, c, rfl⟩ | ⟨g, cap, rfl, h1, cur, h2, h3, h4, h5⟩
  · exact h0 A c
  · rcases Nat.eq_zero_or_pos L.length with hz | hz
    · rw [hz]; exact h0 _ _
    · refine (spoilL hn h2 fun j hj => ⟨L.getD j 0, h5 j hj⟩).mono ?_
      rintro e w' ⟨rfl, hb, -⟩
      have := hC g cap _ rfl hz
      exact ⟨rfl, hb.os, hb.tape, hb.output, hb.size, fun k hk hd => hb.block k hk (by omega)⟩
/-- Lent rows. -/
def LentM (w : World) (g cap : Nat) (l : List md.R2) : Prop := l.length + 2 ≤ cap ∧ ∃ cur : Array Value, w.heap[g]? = some (.cells cur 48 (0, 0)) ∧ (∀ j, j < l.length * 2 → cur[j]? = some (md.val l j)) ∧ ∀ i, i < 4 → cur[l.length * 2 + i]? = md.marks2[i]?
def LentR (w : World) (g cap : Nat) (l : List rf.R6) : Prop := l.length + 2 ≤ cap ∧ ∃ cur : Array Value, w.heap[g]? = some (.cells cur 45 (0, 0)) ∧ (∀ j, j < l.length * 6 → cur[j]? = some (rf.val l j)) ∧ ∀ i, i < 12 → cur[l.length * 6 + i]? = rf.marks2[i]?
theorem LentM.garb {w w' : World} {g cap : Nat} {l : List md.R2} (h : LentM w g cap l) (hg : Garb w w') : LentM w' g cap l := by
  obtain ⟨h1, cur, h2, h3⟩ := h
  exact ⟨h1, cur, by rw [hg.below.block g (lt_of_some h2)]; exact h2, h3⟩
theorem LentR.garb {w w' : World} {g cap : Nat} {l : List rf.R6} (h : LentR w g cap l) (hg : Garb w w') : LentR w' g cap l := by
  obtain ⟨h1, cur, h2, h3⟩ := h
  exact ⟨h1, cur, by rw [hg.below.block g (lt_of_some h2)]; exact h2, h3⟩
theorem LentM.row {w : World} {g cap : Nat} {l : List md.R2} (h : LentM w g cap l) : MRow w (some ⟨g, 0, none⟩) l := by
  obtain ⟨h1, cur, h2, h3, _⟩ := h
  exact .inr ⟨g, 0, rfl, lt_of_some h2, fun j hj => by rw [Nat.zero_add, cell_of h2]; exact h3 j hj⟩
theorem LentR.row {w : World} {g cap : Nat} {l : List rf.R6} (h : LentR w g cap l) : RRow w (some ⟨g, 0, none⟩) l := by
  obtain ⟨h1, cur, h2, h3, _⟩ := h
  exact .inr ⟨g, 0, rfl, lt_of_some h2, fun j hj => by rw [Nat.zero_add, cell_of h2]; exact h3 j hj⟩
theorem LentNow.irow {w : World} {g cap : Nat} {l : List Int} (h : LentNow w g cap l.length l) : IRow w (some ⟨g, 0, none⟩) l := h.row.irow
theorem lendM {w : World} {A : Option Addr} {n c : Nat} {l : List md.R2} (h : MRow w A l) (hn : n = l.length) (hb : (n + 2) * 16 ≤ 140737488355328) :
    Calls Try.prog 6 #[.slice A n c] w fun e w' => ∃ g cap, e = .returned (.slice (some ⟨g, 0, none⟩) n cap) ∧ LentM w' g cap l ∧ Garb w w' := by
  subst hn
  have hc : Calls Try.prog 20 #[.slice A l.length c] w (md.CopyPost w l.length l) := by
    rcases h with rfl | ⟨b, off, rfl, _, h⟩
    · exact md.copy_nil _ _ _ _
    · rcases Nat.eq_zero_or_pos l.length with h0 | h0
      · rw [h0]; exact md.copy_nil _ _ _ _
      · exact md.copy_some b off c _ l w h0 hb h
  refine (md.lend_of hb ⟨A, c, rfl⟩ hc).mono ?_
  rintro e w' ⟨g, cap, rfl, ⟨h1, h2, cur, h3, h4, h5⟩, hg⟩
  exact ⟨g, cap, rfl, ⟨h2, cur, h3, h4, h5⟩, hg⟩
theorem lendR {w : World} {A : Option Addr} {n c : Nat} {l : List rf.R6} (h : RRow w A l) (hn : n = l.length) (hb : (n + 2) * 48 ≤ 140737488355328) :
    Calls Try.prog 7 #[.slice A n c] w fun e w' => ∃ g cap, e = .returned (.slice (some ⟨g, 0, none⟩) n cap) ∧ LentR w' g cap l ∧ Garb w w' := by
  subst hn
  have hc : Calls Try.prog 21 #[.slice A l.length c] w (rf.CopyPost w l.length l) := by
    rcases h with rfl | ⟨b, off, rfl, _, h⟩
    · exact rf.copy_nil _ _ _ _
    · rcases Nat.eq_zero_or_pos l.length with h0 | h0
      · rw [h0]; exact rf.copy_nil _ _ _ _
      · exact rf.copy_some b off c _ l w h0 hb h
  refine (rf.lend_of hb ⟨A, c, rfl⟩ hc).mono ?_
  rintro e w' ⟨g, cap, rfl, ⟨h1, h2, cur, h3, h4, h5⟩, hg⟩
  exact ⟨g, cap, rfl, ⟨h2, cur, h3, h4, h5⟩, hg⟩
theorem keptM {w : World} {A : Option Addr} {n c g cap : Nat} {l : List md.R2} (hn : n = l.length) (hb : (n + 2) * 16 ≤ 140737488355328) (h : MRow w A l) (hl : LentM w g cap l) : Calls Try.prog 13 #[.slice (some ⟨g, 0, none⟩) n cap, .slice A n c] w (md.TruePost w) := by
  subst hn
  obtain ⟨h1, cur, h2, h3, h4⟩ := hl
  refine md.kept_of (by omega) h1 (fun i hi => by rw [cell_of h2]; exact h4 i hi) ?_
  rcases h with rfl | ⟨b, off, rfl, _, h⟩
  · exact md.same_nil _ _ _ _ _
  · exact md.same_ok g 0 b off _ cap c l w (by omega) (fun j hj => by rw [Nat.zero_add, cell_of h2]; exact h3 j hj) h
theorem keptR {w : World} {A : Option Addr} {n c g cap : Nat} {l : List rf.R6} (hn : n = l.length) (hb : (n + 2) * 48 ≤ 140737488355328) (h : RRow w A l) (hl : LentR w g cap l) : Calls Try.prog 14 #[.slice (some ⟨g, 0, none⟩) n cap, .slice A n c] w (rf.TruePost w) := by
  subst hn
  obtain ⟨h1, cur, h2, h3, h4⟩ := hl
  refine rf.kept_of (by omega) h1 (fun i hi => by rw [cell_of h2]; exact h4 i hi) ?_
  rcases h with rfl | ⟨b, off, rfl, _, h⟩
  · exact rf.same_nil _ _ _ _ _
  · exact rf.same_ok g 0 b off _ cap c l w (by omega) (fun j hj => by rw [Nat.zero_add, cell_of h2]; exact h3 j hj) h
theorem ansM_len (l : List Int) (ms : List md.R2) (z : List rf.R6) (now bits active : Int) : (ansM l ms z now bits active).1.length ≤ 8 := by
  unfold ansM
  rcases bool2 (many active ms.length) with hm | hm
  · rw [if_pos hm]; exact Nat.zero_le _
  · rw [if_neg (by rw [hm]; decide)]
    obtain ⟨m1, m2, m3⟩ := many_false hm
    have a1 : ¬ 8 < active := by simpa using m2
    split
    · exact Nat.zero_le _
    · generalize msteps z now bits ms 0 ⟨l, now⟩ = R
      cases R with
      | none => exact Nat.zero_le _
      | some s =>
        unfold ansR
        simp only
        split
        · exact Nat.zero_le _
        · show (s.out.take active.toNat).length ≤ 8
          rw [List.length_take]
          omega
/-- In and lent. -/
structure St (w0 w : World) (a1 : Option Addr) (n1 c1 : Nat) (l : List Int) (a2 : Option Addr) (ms : List md.R2) (a3 : Option Addr) (z : List rf.R6) (g1 k1 g2 k2 g3 k3 : Nat) : Prop where
  g : Garb w0 w
  r1 : RowIs w a1 n1 c1 l
  r2 : MRow w a2 ms
  r3 : RRow w a3 z
  l1 : LentNow w g1 k1 n1 l
  l2 : LentM w g2 k2 ms
  l3 : LentR w g3 k3 z
theorem St.garb {w0 w w' : World} {a1 : Option Addr} {n1 c1 : Nat} {l : List Int} {a2 : Option Addr} {ms : List md.R2} {a3 : Option Addr} {z : List rf.R6} {g1 k1 g2 k2 g3 k3 : Nat} (h : St w0 w a1 n1 c1 l a2 ms a3 z g1 k1 g2 k2 g3 k3) (hg : Garb w w') : St w0 w' a1 n1 c1 l a2 ms a3 z g1 k1 g2 k2 g3 k3 :=
  ⟨h.g.trans hg, h.r1.garb hg, h.r2.garb hg, h.r3.garb hg, h.l1.garb hg, h.l2.garb hg, h.l3.garb hg⟩
theorem St.i1 {w0 w : World} {a1 : Option Addr} {n1 c1 : Nat} {l : List Int} {a2 : Option Addr} {ms : List md.R2} {a3 : Option Addr} {z : List rf.R6} {g1 k1 g2 k2 g3 k3 : Nat} (h : St w0 w a1 n1 c1 l a2 ms a3 z g1 k1 g2 k2 g3 k3) (e : n1 = l.length) : IRow w (some ⟨g1, 0, none⟩) l ∧ IRow w a1 l := by
  subst e
  exact ⟨h.l1.row.irow, h.r1.row.irow⟩
theorem asd {P : Prop} (h : P) : Aside P := h
theorem drewNG (w : World) (q : Nat) : Garb w (w.drewN q) := Go.RX.Garb.drew w _
set_option maxRecDepth 100000 in
set_option maxHeartbeats 2000000 in
theorem walk0 {a1 : Option Addr} {n1 c1 : Nat} {a2 : Option Addr} {n2 c2 : Nat} {a3 : Option Addr} {n3 c3 : Nat} {now bits active : Int} {l : List Int} {ms : List md.R2} {z : List rf.R6} {w : World} {L : List Int} {code : Int}
    (P1 : Aside (∀ (g1 k1 g2 k2 g3 k3 : Nat) (w' : World), IRow w' (some ⟨g1, 0, none⟩) l → MRow w' (some ⟨g2, 0, none⟩) ms → RRow w' (some ⟨g3, 0, none⟩) z → Calls Try.prog 8 #[.slice (some ⟨g1, 0, none⟩) n1 k1, .slice (some ⟨g2, 0, none⟩) n2 k2, .slice (some ⟨g3, 0, none⟩) n3 k3, .int .i64 now, .int .i64 bits, .int .i64 active] w' (MPost w' L code)))
    (P2 : Aside (∀ (w' : World), IRow w' a1 l → MRow w' a2 ms → RRow w' a3 z → Calls Try.prog 9 #[.slice a1 n1 c1, .slice a2 n2 c2, .slice a3 n3 c3, .int .i64 now, .int .i64 bits, .int .i64 active] w' (MPost w' L code)))
    (hL : L.length ≤ 8) (e1 : Aside (n1 = l.length)) (e2 : Aside (n2 = ms.length)) (e3 : Aside (n3 = z.length)) (b2 : Aside ((n2 + 2) * 16 ≤ 140737488355328)) (b3 : Aside ((n3 + 2) * 48 ≤ 140737488355328))
    (h1 : Aside (RowIs w a1 n1 c1 l)) (h2 : Aside (MRow w a2 ms)) (h3 : Aside (RRow w a3 z)) :
    Calls Try.prog 3 #[.slice a1 n1 c1, .slice a2 n2 c2, .slice a3 n3 c3, .int .i64 now, .int .i64 bits, .int .i64 active] w fun e w' => e = .returned (.bool true) ∧ Below w.heap.size w w' := by
  generalize hQ : (fun (e : Ending) (w' : World) => e = .returned (.bool true) ∧ Below w.heap.size w w') = Q0
  have hend : Aside (∀ w', Below w.heap.size w w' → Q0 (.returned (.bool true)) w') := fun w' h => by subst hQ; exact ⟨rfl, h⟩
  clear hQ
  have hL2 : L.length ≤ 9223372036854775807 := by omega
  go_enter Try.func3, Try.ntmps3
  go_wp2_with (first
    | (go_at_call 5; refine (lendL h1.out).mono ?_; rintro e w1 ⟨x1, k1, rfl, ⟨L1, q1⟩, gb1⟩)
    | (go_at_call 6; refine (lendM (h2.out.garb gb1) e2.out b2.out).mono ?_; rintro e w2 ⟨x2, k2, rfl, L2, gb2⟩)
    | (go_at_call 7; refine (lendR ((h3.out.garb gb1).garb gb2) e3.out b3.out).mono ?_; rintro e w3 ⟨x3, k3, rfl, L3, gb3⟩; have S3 : Aside (St w w3 a1 n1 c1 l a2 ms a3 z x1 k1 x2 k2 x3 k3) := ⟨(gb1.trans gb2).trans gb3, ((h1.out.garb gb1).garb gb2).garb gb3, ((h2.out.garb gb1).garb gb2).garb gb3, ((h3.out.garb gb1).garb gb2).garb gb3, (L1.garb gb2).garb gb3, L2.garb gb3, L3⟩; have m0 := S3.out.g.below.size; clear L1 L2 L3 gb1 gb2 gb3 q1)
    | (go_at_call 8; refine (P1.out _ _ _ _ _ _ _ (S3.out.i1 e1.out).1 S3.out.l2.row S3.out.l3.row).mono ?_; rintro e w4 ⟨va, rfl, ra, gb4⟩; have S4 := asd (S3.out.garb gb4); have Ga : Aside (GotI w4 w3.heap.size va L) := ra; have hC := asd (Ga.out.lt); have m1 := gb4.below.size; clear S3 ra gb4)
    | (go_at_call 8; refine (P1.out _ _ _ _ _ _ _ (S4.out.i1 e1.out).1 S4.out.l2.row S4.out.l3.row).mono ?_; rintro e w5 ⟨vb, rfl, rb, gb5⟩; have S5 := asd (S4.out.garb gb5); have Ga5 := asd (Ga.out.garb gb5); have Gb : Aside (GotI w5 w4.heap.size vb L) := rb; have m2 := gb5.below.size; clear S4 rb gb5 Ga P1)
    | (go_at_call 9; refine (P2.out _ (S5.out.i1 e1.out).2 S5.out.r2 S5.out.r3).mono ?_; rintro e w6 ⟨vc, rfl, rc, gb6⟩; have S6 := asd (S5.out.garb gb6); have Ga6 := asd (Ga5.out.garb gb6); have Gb6 := asd (Gb.out.garb gb6); have Gc : Aside (GotI w6 w5.heap.size vc L) := rc; clear S5 rc gb6 Ga5 Gb P2)
    | (go_at_call 10; refine (sameI hL2 Ga6.out Gc.out).mono ?_; rintro e w7 ⟨rfl, q7, e7⟩; have d := drewNG w6 q7; rw [← e7] at d; have S7 := asd (S6.out.garb d); have Ga7 := asd (Ga6.out.garb d); have Gb7 := asd (Gb6.out.garb d); have Gc7 := asd (Gc.out.garb d); clear S6 Ga6 Gb6 Gc e7 d)
    | (go_at_call 11; refine (num_ok _ _).mono ?_; rintro e w' ⟨rfl, e'⟩; have e'' := e'.symm; clear e'; subst e'')
    | (go_at_call 12; refine (keptL S7.out.r1 S7.out.l1).mono ?_; rintro e w8 ⟨rfl, q8, e8⟩; have d := drewNG w7 q8; rw [← e8] at d; have S8 := asd (S7.out.garb d); have Ga8 := asd (Ga7.out.garb d); have Gb8 := asd (Gb7.out.garb d); have Gc8 := asd (Gc7.out.garb d); clear S7 Ga7 Gb7 Gc7 e8 d)
    | (go_at_call 13; refine (keptM e2.out b2.out S8.out.r2 S8.out.l2).mono ?_; rintro e w9 ⟨rfl, q9, e9⟩; have d := drewNG w8 q9; rw [← e9] at d; have S9 := asd (S8.out.garb d); have Ga9 := asd (Ga8.out.garb d); have Gb9 := asd (Gb8.out.garb d); have Gc9 := asd (Gc8.out.garb d); clear S8 Ga8 Gb8 Gc8 e9 d)
    | (go_at_call 14; refine (keptR e3.out b3.out S9.out.r3 S9.out.l3).mono ?_; rintro e w10 ⟨rfl, q10, e10⟩; have d := drewNG w9 q10; rw [← e10] at d; have Sx := asd (S9.out.garb d); have Gax := asd (Ga9.out.garb d); have Gbx := asd (Gb9.out.garb d); have Gcx := asd (Gc9.out.garb d); clear S9 Ga9 Gb9 Gc9 e10 d)
    | (go_at_call 15; refine (spoilI hL2 Gax.out hC.out).mono ?_; rintro e w11 ⟨rfl, aw⟩; have Gby := asd (Gbx.out.away aw (Nat.le_refl _)); have Gcy := asd (Gcx.out.away aw m2); have By := aw.below Sx.out.g.below m0; clear Sx Gax Gbx Gcx aw hC)
    | (go_at_call 10; refine (sameI hL2 Gby.out Gcy.out).mono ?_; rintro e w12 ⟨rfl, q12, e12⟩; have d := drewNG w11 q12; rw [← e12] at d; have Bz := By.trans (d.below.mono By.size); clear Gby Gcy e12 d By)
    | (go_at_call 16; refine (awake_is _).mono ?_; rintro e w13 ⟨rfl, g13⟩; have Bu := Bz.trans (g13.below.mono Bz.size); clear Bz g13))
  have hq := hend.out _ Bu
  first | exact hq | (go_ret; exact hq)
theorem main {a1 : Option Addr} {n1 c1 : Nat} {a2 : Option Addr} {n2 c2 : Nat} {a3 : Option Addr} {n3 c3 : Nat} {now bits active : Int} {l : List Int} {ms : List md.R2} {z : List rf.R6} {w : World}
    (hn : In64 now) (hb : In64 bits) (hok : ∀ r ∈ z, R6.ok r) (e1 : n1 = l.length) (b1 : (n1 + 100) * 8 ≤ 140737488355328) (e2 : n2 = ms.length) (b2 : (n2 + 2) * 16 ≤ 140737488355328) (e3 : n3 = z.length) (b3 : (n3 + 2) * 48 ≤ 140737488355328)
    (h1 : RowIs w a1 n1 c1 l) (h2 : MRow w a2 ms) (h3 : RRow w a3 z) :
    Calls Try.prog 3 #[.slice a1 n1 c1, .slice a2 n2 c2, .slice a3 n3 c3, .int .i64 now, .int .i64 bits, .int .i64 active] w fun e w' => e = .returned (.bool true) ∧ Below w.heap.size w w' :=
  walk0 (L := (ansM l ms z now bits active).1) (code := (ansM l ms z now bits active).2) (fun g1 k1 g2 k2 g3 k3 w' i1 i2 i3 => mod_all hn hb hok e1 b1 e2 (by omega) e3 (by omega) w' i1 i2 i3) (fun w' i1 i2 i3 => ref_all hn hb hok e1 b1 e2 (by omega) e3 (by omega) w' i1 i2 i3)
    (ansM_len _ _ _ _ _ _) e1 e2 e3 b2 b3 h1 h2 h3
end Go.Proofs.Ytoheklommpochaa.ls
