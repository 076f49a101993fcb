/- sorted of none, falling, longs, First. -/
import Derived.Test.YtoheklommpochaaKe
namespace Go.Proofs.Ytoheklommpochaa.ls
open Go.RowKit Go.Lib Go.Proofs.Ytoheklommpochaa Go.Proofs.Ytoheklommpochaa.pi
open Go.RX (Garb)
set_option linter.unusedVariables false
set_option linter.unusedSimpArgs false
attribute [local go_sem ↓] Go.wp_at_zero Go.wp_at_succ
theorem AskG.garb {f : Nat} {fb : Array Value} {p : rf.R6 → Bool} {w w' : World} {b off : Nat} {z : List rf.R6} (h : AskG f fb p w b off z) (g : Garb w w') : AskG f fb p w' b off z := fun W g' => h W (g.trans g')
theorem KeyG.garb {f : Nat} {fb : Array Value} {w w' : World} {b off : Nat} {z : List rf.R6} {bad : Nat → Prop} (h : KeyG f fb w b off z bad) (g : Garb w w') : KeyG f fb w' b off z bad := fun W rb hk hs => h W rb (fun q hq hqn => by rw [hk q (Nat.lt_of_lt_of_le hq g.below.size) hqn, g.below.block q hq]) (Nat.le_trans g.below.size hs)
def PicsO (w : World) (A : Option Addr) (z : List rf.R6) : Prop := z = [] ∨ ∃ b off, A = some ⟨b, off, none⟩ ∧ Pics w b off z
theorem PicsO.garb {w w' : World} {A : Option Addr} {z : List rf.R6} (h : PicsO w A z) (g : Garb w w') : PicsO w' A z := by
  rcases h with h | ⟨b, off, e, h⟩
  · exact .inl h
  · exact .inr ⟨b, off, e, h.garb g⟩
set_option maxHeartbeats 2000000 in
theorem sorted_none (A : Option Addr) (c : Nat) (fv : Value) (k : Nat) (kb : Array Value) (p : rf.R6 → Bool) (w : World) : Calls Try.prog 46 #[.slice A 0 c, fv, .func (.func k) #[] kb] w (SoPost w p []) := by
  generalize hQ : SoPost w p [] = Q0
  have hend : Aside (∀ w', Garb w w' → Q0 (.returned (.slice none 0 0)) w') := fun w' h => by subst hQ; exact ⟨_, [], rfl, .inl ⟨rfl, rfl⟩, List.Perm.refl _, h⟩
  have B := bx w A 0 c k kb
  obtain ⟨W3, hW3⟩ : ∃ W3, W3 = (w.alloc (.cells #[.slice A 0 c] 24)).alloc (.cells #[.func (.func k) #[] kb] 63) := ⟨_, rfl⟩
  rw [← hW3] at B
  have cB := B.x0
  have hq := hend.out W3 B.g
  clear hQ B
  go_enter Try.func46, Try.ntmps46
  go_upto_region 2 with (fail)
  rw [← hW3]
  clear hW3
  go_wp2
  go_loopw [7, 11] (fun o i wr => o = .slice none 0 0 ∧ i = .int .i64 0 ∧ W3 = wr) (fun _ i _ => 0)
  case atStart => exact ⟨rfl, rfl, rfl⟩
  case round =>
    obtain ⟨rfl, rfl, hw⟩ := hrel
    have hw' := hw.symm
    clear hw
    subst hw'
    go_wp2_with (go_at_call 53; refine (sortStable_none none 0 _ _).mono ?_; rintro e w2 ⟨rfl, h2⟩; have h2' := h2.symm; clear h2; subst h2')
    first | exact hq | (go_ret; exact hq)
theorem sorted_ok {w : World} {A : Option Addr} {n c f k : Nat} {fb kb : Array Value} {p : rf.R6 → Bool} {z : List rf.R6} {bad : Nat → Prop} (ef : ∀ args w, (callFunc f args).run Try.prog w = .ok (.enter f args) w) (ek : ∀ args w, (callFunc k args).run Try.prog w = .ok (.enter k args) w)
    (hA : ∀ b off, AskG f fb p w b off z) (hkey : ∀ b off, KeyG k kb w b off z bad) (hbad : ∀ rb, w.heap.size ≤ rb → ¬ bad rb) (hp : PicsO w A z) (hn : n = z.length) (hsz : n ≤ 2932031007403) :
    Calls Try.prog 46 #[.slice A n c, .func (.func f) #[] fb, .func (.func k) #[] kb] w (SoPost w p z) := by
  rcases hp with rfl | ⟨b, off, rfl, hp⟩
  · subst hn; exact sorted_none A c _ k kb p w
  · exact sorted_some ef ek (hA b off) (hkey b off) hbad hp hn hsz
set_option maxHeartbeats 2000000 in
theorem longs_ok {w : World} {A : Option Addr} {n c : Nat} {z : List rf.R6} (hp : PicsO w A z) (hn : n = z.length) (hsz : n ≤ 2932031007403) :
    Calls Try.prog 43 #[.slice A n c] w (SoPost w (fun r => r.m == 2) z) := by
  have hc := sorted_ok (c := c) e28 e56 (fun b off => a28 w b off z) (fun b off => k56 w b off z (fun _ => False)) (fun _ _ h => h) hp hn hsz
  generalize hQ : SoPost w (fun r => r.m == 2) z = Q0
  have hend : Aside (∀ v L w', Lst w.heap.size w' v L → L.Perm (places (fun r => r.m == 2) z z.length) → Garb w w' → Q0 (.returned v) w') := fun v L w' h1 h2 h3 => by subst hQ; exact ⟨v, L, rfl, h1, h2, h3⟩
  have hc := asd hc
  clear hQ hp hn
  go_enter Try.func43, Try.ntmps43
  go_wp2_with (go_at_call 46; refine hc.out.mono ?_; rintro e w4 ⟨v, L, rfl, hl, hpm, hg⟩)
  have hq := hend.out v L w4 hl hpm hg
  first | exact hq | (go_ret; exact hq)
set_option maxHeartbeats 4000000 in
set_option maxRecDepth 100000 in
theorem falling_some {w : World} {b off n c f k : Nat} {fb kb : Array Value} {p : rf.R6 → Bool} {z : List rf.R6} {bad : Nat → Prop} (ef : ∀ args w, (callFunc f args).run Try.prog w = .ok (.enter f args) w) (ek : ∀ args w, (callFunc k args).run Try.prog w = .ok (.enter k args) w)
    (hA : AskG f fb p w b off z) (hkey : KeyG k kb w b off z bad) (hbad : ∀ rb, w.heap.size ≤ rb → ¬ bad rb) (hp : Pics w b off z) (hn : n = z.length) (hsz : n ≤ 2932031007403) :
    Calls Try.prog 41 #[.slice (some ⟨b, off, none⟩) n c, .func (.func f) #[] fb, .func (.func k) #[] kb] w (SoPost w p z) := by
  generalize hQ : SoPost w p z = Q0
  have hend : Aside (∀ v L w', Lst w.heap.size w' v L → L.Perm (places p z z.length) → Garb w w' → Q0 (.returned v) w') := fun v L w' h1 h2 h3 => by subst hQ; exact ⟨v, L, rfl, h1, h2, h3⟩
  have B := bx w (some ⟨b, off, none⟩) n c k kb
  obtain ⟨W3, hW3⟩ : ∃ W3, W3 = (w.alloc (.cells #[.slice (some ⟨b, off, none⟩) n c] 24)).alloc (.cells #[.func (.func k) #[] kb] 63) := ⟨_, rfl⟩
  rw [← hW3] at B
  have hS := asd (sorted_some (c := c) ef ek (hA.garb B.g) (hkey.garb B.g) (fun rb h => hbad rb (Nat.le_trans B.g.below.size h)) (hp.garb B.g) hn hsz)
  have hS2 : Aside (∀ w4 v L, Lst W3.heap.size w4 v L → L.Perm (places p z z.length) → Garb W3 w4 → Calls Try.prog 53 #[v, .func (.func 54) #[] #[.pointer (some ⟨w.heap.size + 1, 0, none⟩), .pointer (some ⟨w.heap.size, 0, none⟩)]] w4 fun e w' => e = .returned (.tuple #[]) ∧ ∃ L', Lst W3.heap.size w' v L' ∧ L'.Perm L ∧ Garb W3 w') := fun w4 v L hl hpm hg =>
    sortL (n := 2932031007403) (ok := fun x => 0 ≤ x ∧ x < (n : Int)) e54 hg hl (fun rb hB _ => by
      have h1 := B.sz
      have hlt := hp.lt
      have G0 := B.g.trans hg
      exact cmp_ok (.inl rfl) ek (hkey.garb G0) (keep1 hg B.x1) (keep1 hg B.x0) (hp.garb G0) hn (by omega) (by omega) (by omega) (by omega) (hbad rb (by omega)))
      (fun x hx => by have := places_bd (hpm.mem_iff.1 hx); rw [← hn] at this; exact this) (by rw [hpm.length_eq, ← hn]; exact Nat.le_trans (places_len p z n) hsz) (by omega)
  have HB := asd B
  have cB0 := B.x0
  have cB1 := B.x1
  clear hQ B hA hkey hp hn hbad
  go_enter Try.func41, Try.ntmps41
  go_upto_region 1 with (fail)
  rw [← hW3]
  clear hW3
  go_wp2_with (first
    | (go_at_call 46; refine hS.out.mono ?_; rintro e w4 ⟨v, L, rfl, hl, hpm, hg⟩)
    | (go_at_call 53; refine (hS2.out _ v L hl hpm hg).mono ?_; rintro e w5 ⟨rfl, L2, hl2, hp2, hg2⟩))
  have hq := hend.out v L2 w5 (hl2.mono HB.out.g.below.size) (hp2.trans hpm) (HB.out.g.trans hg2)
  first | exact hq | (go_ret; exact hq)
set_option maxHeartbeats 2000000 in
theorem falling_none (A : Option Addr) (c : Nat) (fv : Value) (k : Nat) (kb : Array Value) (p : rf.R6 → Bool) (w : World) : Calls Try.prog 41 #[.slice A 0 c, fv, .func (.func k) #[] kb] w (SoPost w p []) := by
  generalize hQ : SoPost w p [] = Q0
  have hend : Aside (∀ v w', Lst w.heap.size w' v [] → Garb w w' → Q0 (.returned v) w') := fun v w' hl h => by subst hQ; exact ⟨v, [], rfl, hl, List.Perm.refl _, h⟩
  have B := bx w A 0 c k kb
  obtain ⟨W3, hW3⟩ : ∃ W3, W3 = (w.alloc (.cells #[.slice A 0 c] 24)).alloc (.cells #[.func (.func k) #[] kb] 63) := ⟨_, rfl⟩
  rw [← hW3] at B
  have hS := asd (sorted_none A c fv k kb p W3)
  have HB := asd B
  have cB0 := B.x0
  have cB1 := B.x1
  clear hQ B
  go_enter Try.func41, Try.ntmps41
  go_upto_region 1 with (fail)
  rw [← hW3]
  clear hW3
  go_wp2_with (first
    | (go_at_call 46; refine hS.out.mono ?_; rintro e w4 ⟨v, L, rfl, hl, hpm, hg⟩; have hL : L = [] := List.eq_nil_of_length_eq_zero (by have := hpm.length_eq; simpa [places] using this); subst hL; have HL := asd hl; obtain ⟨A', c', rfl, -⟩ := hl.row; clear hl)
    | (go_at_call 53; refine (sortStable_none _ _ _ _).mono ?_; rintro e w2 ⟨rfl, h2⟩; have h2' := h2.symm; clear h2; subst h2'))
  have hq := hend.out _ _ (HL.out.mono HB.out.g.below.size) (HB.out.g.trans hg)
  first | exact hq | (go_ret; exact hq)
end Go.Proofs.Ytoheklommpochaa.ls
