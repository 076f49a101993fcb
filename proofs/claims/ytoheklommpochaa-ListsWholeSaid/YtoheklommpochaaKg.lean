/- First; Grow, Concat, Equal of lists of numbers. -/
import Derived.Test.YtoheklommpochaaKf
namespace Go.Proofs.Ytoheklommpochaa.ls
open Go.RowKit Go.Lib Go.Proofs.Ytoheklommpochaa Go.Proofs.Ytoheklommpochaa.pi
open Go.RX (Garb)
set_option linter.unusedVariables false
set_option linter.unusedSimpArgs false
attribute [local go_sem ↓] Go.wp_at_zero Go.wp_at_succ
theorem falling_ok {w : World} {A : Option Addr} {n c f k : Nat} {fb kb : Array Value} {p : rf.R6 → Bool} {z : List rf.R6} {bad : Nat → Prop} (ef : ∀ args w, (callFunc f args).run Try.prog w = .ok (.enter f args) w) (ek : ∀ args w, (callFunc k args).run Try.prog w = .ok (.enter k args) w)
    (hA : ∀ b off, AskG f fb p w b off z) (hkey : ∀ b off, KeyG k kb w b off z bad) (hbad : ∀ rb, w.heap.size ≤ rb → ¬ bad rb) (hp : PicsO w A z) (hn : n = z.length) (hsz : n ≤ 2932031007403) :
    Calls Try.prog 41 #[.slice A n c, .func (.func f) #[] fb, .func (.func k) #[] kb] w (SoPost w p z) := by
  rcases hp with rfl | ⟨b, off, rfl, hp⟩
  · subst hn; exact falling_none A c _ k kb p w
  · exact falling_some ef ek (hA b off) (hkey b off) hbad hp hn hsz
/-- The short, the long ones. -/
def shorts (z : List rf.R6) : List Int := places (fun r => r.m == 1) z z.length
def longsL (z : List rf.R6) : List Int := places (fun r => r.m == 2) z z.length
structure Bx2 (w w3 : World) (h0 : Nat) (x y : Int) : Prop where
  g : Garb w w3
  x0 : w3.cell? ⟨h0, 0, none⟩ = some (.int .i64 x)
  x1 : w3.cell? ⟨h0 + 1, 0, none⟩ = some (.int .i64 y)
  sz : w3.heap.size = h0 + 2
theorem bx2 (w : World) (x y : Int) : Bx2 w ((w.alloc (.cells #[.int .i64 x] 3)).alloc (.cells #[.int .i64 y] 3)) w.heap.size x y := by
  have g1 := alloc_garb w #[.int .i64 x] 3
  have k1 : (w.alloc (.cells #[.int .i64 x] 3)).cell? ⟨w.heap.size, 0, none⟩ = some (.int .i64 x) := by rw [cell_of (heap_alloc_new w _)]; rfl
  have s1 : (w.alloc (.cells #[.int .i64 x] 3)).heap.size = w.heap.size + 1 := by show (w.heap.push _).size = _; simp
  generalize w.alloc (.cells #[.int .i64 x] 3) = W1 at *
  have g2 := alloc_garb W1 #[.int .i64 y] 3
  have k2 : (W1.alloc (.cells #[.int .i64 y] 3)).cell? ⟨w.heap.size + 1, 0, none⟩ = some (.int .i64 y) := by rw [← s1, cell_of (heap_alloc_new W1 _)]; rfl
  have s2 : (W1.alloc (.cells #[.int .i64 y] 3)).heap.size = w.heap.size + 2 := by show (W1.heap.push _).size = _; simp [s1]
  exact ⟨g1.trans g2, keep1 g2 k1, k2, s2⟩
def FPost (w : World) (P : List Int) (e : Ending) (w' : World) : Prop := ∃ v L, e = .returned v ∧ Lst w.heap.size w' v L ∧ L.Perm P ∧ Garb w w'
set_option maxHeartbeats 4000000 in
set_option maxRecDepth 100000 in
theorem first_ok {w : World} {A : Option Addr} {n c : Nat} {now bits : Int} {z : List rf.R6} (hnow : In64 now) (hbits : In64 bits) (hp : PicsO w A z) (hn : n = z.length) (hsz : n ≤ 2932031007403) :
    Calls Try.prog 17 #[.slice A n c, .int .i64 now, .int .i64 bits] w (FPost w (shorts z ++ longsL z)) := by
  generalize hQ : FPost w (shorts z ++ longsL z) = Q0
  have hend : Aside (∀ v L w', Lst w.heap.size w' v L → L.Perm (shorts z ++ longsL z) → Garb w w' → Q0 (.returned v) w') := fun v L w' h1 h2 h3 => by subst hQ; exact ⟨v, L, rfl, h1, h2, h3⟩
  have B := bx2 w now bits
  obtain ⟨W3, hW3⟩ : ∃ W3, W3 = (w.alloc (.cells #[.int .i64 now] 3)).alloc (.cells #[.int .i64 bits] 3) := ⟨_, rfl⟩
  rw [← hW3] at B
  have hF : Aside (Calls Try.prog 41 #[.slice A n c, .func (.func 32) #[] #[], .func (.func 42) #[] #[.pointer (some ⟨w.heap.size, 0, none⟩), .pointer (some ⟨w.heap.size + 1, 0, none⟩)]] W3 (fun e w' => ∃ v L, e = .returned v ∧ Lst W3.heap.size w' v L ∧ L.Perm (shorts z) ∧ Garb W3 w')) :=
    falling_ok (c := c) e32 e42 (fun b off => a32 W3 b off z) (fun b off => k42 hnow hbits B.x0 B.x1) (fun rb h => by have := B.sz; omega) (hp.garb B.g) hn hsz
  have hL : Aside (∀ w', Garb W3 w' → Calls Try.prog 43 #[.slice A n c] w' (fun e w2 => ∃ v L, e = .returned v ∧ Lst w'.heap.size w2 v L ∧ L.Perm (longsL z) ∧ Garb w' w2)) := fun w' g => longs_ok ((hp.garb B.g).garb g) hn hsz
  have HB := asd B
  have HN := asd hn
  clear hQ B hp hn
  go_enter Try.func17, Try.ntmps17
  go_upto_region 1 with (fail)
  rw [← hW3]
  clear hW3
  go_wp2_with (first
    | (go_at_call 41; refine hF.out.mono ?_; rintro e w4 ⟨v, L, rfl, hl, hpm, hg⟩; clear hF; have HL1 := asd hl; clear hl; have HG := asd hg; clear hg; have HP1 := asd hpm; clear hpm)
    | (go_at_call 43; refine (hL.out _ HG.out).mono ?_; rintro e w5 ⟨v2, L2, rfl, hl2, hpm2, hg2⟩; clear hL; obtain ⟨A2, c2, rfl, hr2⟩ := hl2.row; obtain ⟨v3, W6, ha, hl3, hg3⟩ := lapp (c := c2) (HG.out.trans hg2) (HL1.out.garb hg2) hr2 rfl (by have h1 := HP1.out.length_eq; have h2 := hpm2.length_eq; have h3 := places_len (fun r => r.m == 1) z z.length; have h4 := places_len (fun r => r.m == 2) z z.length; unfold shorts at h1; unfold longsL at h2; have := HN.out; omega); clear hr2 hl2)
    | (at_builtin; refine Lib.wpList_append_run _ rfl _ _ _ _ rfl _ _ rfl rfl _ _ (ha _) ?_))
  have hq := hend.out v3 _ W6 (hl3.mono HB.out.g.below.size) (HP1.out.append hpm2) (HB.out.g.trans hg3)
  first | exact hq | (go_ret; exact hq)
set_option maxHeartbeats 2000000 in
set_option maxRecDepth 100000 in
/-- slices.Grow of nothing. -/
theorem grow_ok (n : Nat) (hn : n * 8 ≤ 140737488355328) (w : World) : Calls Try.prog 58 #[.slice none 0 0, .int .i64 n] w fun e w' => ∃ v, e = .returned v ∧ Lst w.heap.size w' v [] ∧ Garb w w' := by
  obtain ⟨i0, hi, hz0, hz1, hz2⟩ := info_parts info3
  generalize hQ : (fun (e : Ending) (w' : World) => ∃ v, e = .returned v ∧ Lst w.heap.size w' v [] ∧ Garb w w') = Q0
  have hend : Aside (∀ v w', Lst w.heap.size w' v [] → Garb w w' → Q0 (.returned v) w') := fun v w' h1 h2 => by subst hQ; exact ⟨v, rfl, h1, h2⟩
  clear hQ
  rcases Nat.eq_zero_or_pos n with h0 | h0
  · subst h0
    have hq := hend.out (.slice none 0 0) w (.inl ⟨rfl, rfl⟩) (Garb.refl w)
    clear hi hz0 hz1 hz2
    go_enter Try.func58, Try.ntmps58
    go_wp2
    first | exact hq | (go_ret; exact hq)
  · have hrun := fun ty => Lib.run_append_nil_zeros (P := Try.prog) w 22 3 ty 3 i0 (.int .i64 0) .i64 .i64 Try.underlying22 Try.underlying3 hi hz0 n h0 (by rw [hz1]; decide) (by omega) (by rw [hz2]; omega)
    have hcn : n ≤ grownCap w n 0 3 := Nat.le_add_right _ _
    generalize grownCap w n 0 3 = cap at hrun hcn
    obtain ⟨cs, hcs⟩ : ∃ cs : Array Value, cs = Builtin.zeroCells (Value.int .i64 0).cells n ++ Builtin.zeroCells (Value.int .i64 0).cells (cap - n) := ⟨_, rfl⟩
    rw [← hcs] at hrun
    have hsz : cs.size = cap := by rw [hcs, show (Value.int IntKind.i64 0).cells = #[.int .i64 0] from rfl]; simp [Builtin.zeroCells]; omega
    have hnew : (w.drew.alloc (.cells cs 3)).heap[w.heap.size]? = some (.cells cs 3 (0, 0)) := heap_alloc_new w.drew (.cells cs 3)
    have hq := hend.out (.slice (some ⟨w.heap.size, 0, none⟩) 0 cap) (w.drew.alloc (.cells cs 3)) (.inr ⟨w.heap.size, cap, rfl, Nat.le_refl _, cs, hnew, by omega, Nat.zero_le _, fun j hj => by simp at hj⟩) ((Garb.drew w _).trans (alloc_garb _ _ _))
    have hz : (0 : Int) < (n : Int) := by omega
    have hn63 : (n : Int) ≤ 9223372036854775807 := by omega
    clear hi hz0 hz1 hz2 hcs hsz hnew
    go_enter Try.func58, Try.ntmps58
    go_wp2_with (at_builtin; refine Lib.wpList_append_run _ rfl _ _ _ _ rfl _ _ rfl rfl _ _ (hrun _) ?_)
    first | exact hq | (go_ret; exact hq)
end Go.Proofs.Ytoheklommpochaa.ls
