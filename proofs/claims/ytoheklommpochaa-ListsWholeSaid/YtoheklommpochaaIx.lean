/- slices.IndexFunc, slices.ContainsFunc, with any function value that only reads. -/
import Derived.Test.YtoheklommpochaaBa
import Derived.Test.YtoheklommpochaaWr
import Derived.Lib.Walk
import Derived.Lib.Hide
import Derived.Shelf.Abstract
import Derived.Deep.LoopGhost
namespace Go.Proofs.Ytoheklommpochaa.ls
open Go.RowKit Go.Lib Go.Proofs.Ytoheklommpochaa Go.Proofs.Ytoheklommpochaa.pi
open Go.RX (Garb)
set_option linter.unusedVariables false
set_option linter.unusedSimpArgs false
/-- The place of the first that p takes, or -1. -/
def idxFrom {α : Type} (p : α → Bool) : List α → Nat → Int
  | [], _ => -1
  | x :: r, i => if p x = true then (i : Int) else idxFrom p r (i + 1)
def idx {α : Type} (p : α → Bool) (l : List α) : Int := idxFrom p l 0
theorem idxFrom_hit {α : Type} {p : α → Bool} : ∀ (l : List α) (i k : Nat) (x : α), l[k]? = some x → p x = true → (∀ (j : Nat) y, j < k → l[j]? = some y → p y = false) → idxFrom p l i = ((i + k : Nat) : Int)
  | [], _, _, _, h, _, _ => by simp at h
  | y :: r, i, 0, x, h, hp, _ => by
    obtain rfl : y = x := by simpa using h
    simp [idxFrom, hp]
  | y :: r, i, k + 1, x, h, hp, ha => by
    have h0 : p y = false := ha 0 y (by omega) rfl
    have h1 : r[k]? = some x := by simpa using h
    have := idxFrom_hit r (i + 1) k x h1 hp (fun j z hj hz => ha (j + 1) z (by omega) (by simpa using hz))
    unfold idxFrom
    rw [h0, if_neg (by decide), this]; congr 1; omega
theorem idxFrom_miss {α : Type} {p : α → Bool} : ∀ (l : List α) (i : Nat), (∀ (j : Nat) y, l[j]? = some y → p y = false) → idxFrom p l i = -1
  | [], _, _ => rfl
  | y :: r, i, ha => by
    have h0 : p y = false := ha 0 y rfl
    unfold idxFrom
    rw [h0, if_neg (by decide)]
    exact idxFrom_miss r (i + 1) (fun j z hz => ha (j + 1) z (by simpa using hz))
theorem idx_hit {α : Type} {p : α → Bool} {l : List α} {k : Nat} {x : α} (h : l[k]? = some x) (hp : p x = true) (ha : ∀ (j : Nat) y, j < k → l[j]? = some y → p y = false) : idx p l = (k : Int) := by
  unfold idx; rw [idxFrom_hit l 0 k x h hp ha, Nat.zero_add]
theorem idx_miss {α : Type} {p : α → Bool} {l : List α} (ha : ∀ (j : Nat) y, l[j]? = some y → p y = false) : idx p l = -1 := idxFrom_miss l 0 ha
theorem idx_cases {α : Type} (p : α → Bool) (l : List α) : (idx p l = -1 ∧ ∀ (j : Nat) y, l[j]? = some y → p y = false) ∨ ∃ (k : Nat) (x : α), idx p l = (k : Int) ∧ k < l.length ∧ l[k]? = some x ∧ p x = true ∧ ∀ (j : Nat) y, j < k → l[j]? = some y → p y = false := by
  have key : ∀ (l : List α) (i : Nat), (idxFrom p l i = -1 ∧ ∀ (j : Nat) y, l[j]? = some y → p y = false) ∨ ∃ (k : Nat) (x : α), idxFrom p l i = ((i + k : Nat) : Int) ∧ k < l.length ∧ l[k]? = some x ∧ p x = true ∧ ∀ (j : Nat) y, j < k → l[j]? = some y → p y = false := by
    intro l
    induction l with
    | nil => intro i; exact .inl ⟨rfl, fun j y h => by simp at h⟩
    | cons a r ih =>
      intro i
      cases h : p a with
      | true => exact .inr ⟨0, a, by simp [idxFrom, h], by simp, rfl, h, fun j y hj => absurd hj (Nat.not_lt_zero _)⟩
      | false =>
        have e : idxFrom p (a :: r) i = idxFrom p r (i + 1) := by rw [idxFrom, h, if_neg (by decide)]
        rcases ih (i + 1) with ⟨e1, ha⟩ | ⟨k, x, e1, hk, hx, hp, ha⟩
        · refine .inl ⟨by rw [e, e1], fun j y hj => ?_⟩
          cases j with
          | zero => obtain rfl : a = y := by simpa using hj
                    exact h
          | succ j => exact ha j y (by simpa using hj)
        · refine .inr ⟨k + 1, x, by rw [e, e1]; congr 1; omega, by simpa using hk, by simpa using hx, hp, fun j y hj hy => ?_⟩
          cases j with
          | zero => obtain rfl : a = y := by simpa using hy
                    exact h
          | succ j => exact ha j y (by omega) (by simpa using hy)
  have := key l 0
  simpa [idx] using this
/-- A function value that tells p, and leaves all that was there. -/
def PredG {α : Type} (g : Nat) (lb : Array Value) (ev : α → Value) (p : α → Bool) (ok : α → Prop) (w : World) : Prop :=
  ∀ (W : World) (x : α), Garb w W → ok x → Calls Try.prog g (#[ev x] ++ lb) W fun e w' => e = .returned (.bool (p x)) ∧ Garb W w'
def MRow (w : World) (A : Option Addr) (l : List md.R2) : Prop := l = [] ∨ ∃ b off, A = some ⟨b, off, none⟩ ∧ b < w.heap.size ∧ ∀ j, j < l.length * 2 → w.cell? ⟨b, off + j, none⟩ = some (md.val l j)
def RRow (w : World) (A : Option Addr) (l : List rf.R6) : Prop := l = [] ∨ ∃ b off, A = some ⟨b, off, none⟩ ∧ b < w.heap.size ∧ ∀ j, j < l.length * 6 → w.cell? ⟨b, off + j, none⟩ = some (rf.val l j)
def IRow (w : World) (A : Option Addr) (l : List Int) : Prop := l = [] ∨ ∃ b off, A = some ⟨b, off, none⟩ ∧ b < w.heap.size ∧ ∀ j, j < l.length → w.cell? ⟨b, off + j, none⟩ = some (.int .i64 (l.getD j 0))
def mv (r : md.R2) : Value := .agg #[.int .i64 r.k, .int .i64 r.v]
def iv0 (x : Int) : Value := .int .i64 x
theorem IRow.garb {w w' : World} {A : Option Addr} {l : List Int} (h : IRow w A l) (hg : Garb w w') : IRow w' A l := by
  rcases h with h | ⟨b, off, e, hb, hc⟩
  · exact .inl h
  · exact .inr ⟨b, off, e, Nat.lt_of_lt_of_le hb hg.below.size, fun j hj => by rw [World.cell?_of_block (w := w) (hg.below.block b hb)]; exact hc j hj⟩
theorem IRow.below {w w' : World} {A : Option Addr} {l : List Int} (h : IRow w A l) (hg : Below w.heap.size w w') : IRow w' A l := by
  rcases h with h | ⟨b, off, e, hb, hc⟩
  · exact .inl h
  · exact .inr ⟨b, off, e, Nat.lt_of_lt_of_le hb hg.size, fun j hj => by rw [World.cell?_of_block (w := w) (hg.block b hb)]; exact hc j hj⟩
theorem MRow.garb {w w' : World} {A : Option Addr} {l : List md.R2} (h : MRow w A l) (hg : Garb w w') : MRow w' A l := by
  rcases h with h | ⟨b, off, e, hb, hc⟩
  · exact .inl h
  · exact .inr ⟨b, off, e, Nat.lt_of_lt_of_le hb hg.below.size, fun j hj => by rw [World.cell?_of_block (w := w) (hg.below.block b hb)]; exact hc j hj⟩
theorem MRow.below {w w' : World} {A : Option Addr} {l : List md.R2} (h : MRow w A l) (hg : Below w.heap.size w w') : MRow w' A l := by
  rcases h with h | ⟨b, off, e, hb, hc⟩
  · exact .inl h
  · exact .inr ⟨b, off, e, Nat.lt_of_lt_of_le hb hg.size, fun j hj => by rw [World.cell?_of_block (w := w) (hg.block b hb)]; exact hc j hj⟩
theorem RRow.garb {w w' : World} {A : Option Addr} {l : List rf.R6} (h : RRow w A l) (hg : Garb w w') : RRow w' A l := by
  rcases h with h | ⟨b, off, e, hb, hc⟩
  · exact .inl h
  · exact .inr ⟨b, off, e, Nat.lt_of_lt_of_le hb hg.below.size, fun j hj => by rw [World.cell?_of_block (w := w) (hg.below.block b hb)]; exact hc j hj⟩
theorem RRow.below {w w' : World} {A : Option Addr} {l : List rf.R6} (h : RRow w A l) (hg : Below w.heap.size w w') : RRow w' A l := by
  rcases h with h | ⟨b, off, e, hb, hc⟩
  · exact .inl h
  · exact .inr ⟨b, off, e, Nat.lt_of_lt_of_le hb hg.size, fun j hj => by rw [World.cell?_of_block (w := w) (hg.block b hb)]; exact hc j hj⟩
theorem idxI_nil (A : Option Addr) (c : Nat) (fv : Value) (w : World) : Calls Try.prog 50 #[.slice A 0 c, fv] w fun e w' => e = .returned (.int .i64 (-1)) ∧ w' = w := by
  go_enter Try.func50, Try.ntmps50
  go_wp2
  go_loopw [5, 8] (fun _ i wr => i = .int .i64 0 ∧ wr = w) (fun _ i _ => 0)
  case atStart => exact ⟨rfl, rfl⟩
  case round =>
    obtain ⟨rfl, rfl⟩ := hrel
    go_wp2
    go_ret
    exact ⟨rfl, rfl⟩
set_option maxHeartbeats 2000000 in
/-- slices.IndexFunc. -/
theorem idxI_ok {g : Nat} {lb : Array Value} {p : Int → Bool} {ok : Int → Prop} (eg : ∀ args w, (callFunc g args).run Try.prog w = .ok (.enter g args) w) {A : Option Addr} {n c : Nat} {l : List Int} {w : World} (hp : PredG g lb iv0 p ok w) (hok : ∀ x ∈ l, ok x) (hn : n = l.length) (hbig : n ≤ 9223372036854775807) (hrow : IRow w A l) :
    Calls Try.prog 50 #[.slice A n c, .func (.func g) #[] lb] w fun e w' => e = .returned (.int .i64 (idx p l)) ∧ Garb w w' := by
  subst hn
  rcases hrow with rfl | ⟨b, off, rfl, hb, hc⟩
  · refine (idxI_nil A c _ w).mono ?_
    rintro e w' ⟨rfl, rfl⟩
    exact ⟨rfl, Garb.refl _⟩
  generalize hQ : (fun (e : Ending) (w' : World) => e = .returned (.int .i64 (idx p l)) ∧ Garb w w') = Q0
  have hend : Aside (∀ w', Garb w w' → Q0 (.returned (.int .i64 (idx p l))) w') := fun w' h => by subst hQ; exact ⟨rfl, h⟩
  have HC : Aside _ := hc
  have HP : Aside _ := hp
  have HK : Aside _ := hok
  clear hQ hc hp hok
  generalize hnl : l.length = n at *
  go_enter Try.func50, Try.ntmps50
  go_wp2
  go_loopg [5, 8] n (fun gg _ i wr => ∃ kk : Nat, kk ≤ n ∧ n - kk ≤ gg ∧ i = .int .i64 kk ∧ Aside (Garb w wr) ∧ Aside (∀ j y, j < kk → l[j]? = some y → p y = false))
  case atStart => exact ⟨0, Nat.zero_le _, by omega, rfl, Garb.refl w, fun j y hj => absurd hj (Nat.not_lt_zero _)⟩
  case round =>
    obtain ⟨kk, hkk, hgg, rfl, G, HA⟩ := hrel
    by_cases hlt : kk < n
    · have hltz : (kk : Int) < (n : Int) := by omega
      obtain ⟨y, hy⟩ : ∃ y, l[kk]? = some y := ⟨_, List.getElem?_eq_getElem (by omega)⟩
      have hgd : l.getD kk 0 = y := by rw [List.getD_eq_getElem?_getD, hy]; rfl
      have hc' : ∀ j, j < n → wr.cell? ⟨b, off + j, none⟩ = some (.int .i64 (l.getD j 0)) := fun j hj => by
        rw [World.cell?_of_block (w := w) (G.out.below.block b hb)]; exact HC.out j hj
      have y0 : wr.cell? ⟨b, off + kk, none⟩ = some (.int .i64 (l.getD kk 0)) := hc' kk hlt
      rw [hgd] at y0
      have hcall := HP.out wr y G.out (HK.out y (List.mem_of_getElem? hy))
      have HY : Aside (l[kk]? = some y) := hy
      clear hc' hgd hy
      simp only [iv0] at hcall
      cases hq : p y with
      | true =>
        rw [hq] at hcall
        have HQ : Aside (p y = true) := hq
        clear hq
        go_wp2_with (go_at_fn g; refine hcall.mono ?_; rintro e w' ⟨rfl, g'⟩)
        rw [← idx_hit HY.out HQ.out HA.out]
        first | exact hend.out _ (G.out.trans g') | (go_ret; exact hend.out _ (G.out.trans g'))
      | false =>
        rw [hq] at hcall
        have HQ : Aside (p y = false) := hq
        clear hq
        go_wp2_with (go_at_fn g; refine hcall.mono ?_; rintro e w' ⟨rfl, g'⟩)
        go_roundg (n - (kk + 1))
        case measure => omega
        case rel =>
          refine ⟨kk + 1, by omega, Nat.le_refl _, by go_num, G.out.trans g', (show Aside _ from fun j z hj hz => ?_)⟩
          by_cases e : j = kk
          · subst e
            have := HY.out
            rw [hz] at this
            injection this with this
            subst this
            exact HQ.out
          · exact HA.out j z (by omega) hz
    · have hltz : ¬ (kk : Int) < (n : Int) := by omega
      have hkn : kk = n := by omega
      subst hkn
      go_wp2
      have e1 := idx_miss (p := p) (l := l) (fun j y hj => HA.out j y (by have := (List.getElem?_eq_some_iff.1 hj).1; omega) hj)
      have h2 := hend.out wr G.out
      rw [e1] at h2
      first | exact h2 | (go_ret; exact h2)
/-- slices.ContainsFunc. -/
theorem hasI_ok {g : Nat} {lb : Array Value} {p : Int → Bool} {ok : Int → Prop} (eg : ∀ args w, (callFunc g args).run Try.prog w = .ok (.enter g args) w) {A : Option Addr} {n c : Nat} {l : List Int} {w : World} (hp : PredG g lb iv0 p ok w) (hok : ∀ x ∈ l, ok x) (hn : n = l.length) (hbig : n ≤ 9223372036854775807) (hrow : IRow w A l) :
    Calls Try.prog 22 #[.slice A n c, .func (.func g) #[] lb] w fun e w' => e = .returned (.bool (l.any p)) ∧ Garb w w' := by
  have hc := idxI_ok (c := c) eg hp hok hn hbig hrow
  have hd : decide (0 ≤ idx p l) = l.any p := by
    rcases idx_cases p l with ⟨e, ha⟩ | ⟨k, x, e, hk, hx, hpx, ha⟩
    · rw [e]
      have : l.any p = false := by
        rw [List.any_eq_false]
        intro x hx
        obtain ⟨j, hj⟩ := List.mem_iff_getElem?.1 hx
        rw [ha j x hj]; decide
      rw [this]; rfl
    · rw [e]
      have : l.any p = true := List.any_eq_true.2 ⟨x, List.mem_of_getElem? hx, hpx⟩
      rw [this]; simp
  rw [← hd]
  clear hd hp hok hrow hn
  generalize idx p l = i at hc ⊢
  go_enter Try.func22, Try.ntmps22
  go_wp2_with (go_at_call 50; refine hc.mono ?_; rintro e w' ⟨rfl, g'⟩)
  first | exact ⟨rfl, g'⟩ | (go_ret; exact ⟨rfl, g'⟩)
theorem idxM_nil (A : Option Addr) (c : Nat) (fv : Value) (w : World) : Calls Try.prog 51 #[.slice A 0 c, fv] w fun e w' => e = .returned (.int .i64 (-1)) ∧ w' = w := by
  go_enter Try.func51, Try.ntmps51
  go_wp2
  go_loopw [5, 8] (fun _ i wr => i = .int .i64 0 ∧ wr = w) (fun _ i _ => 0)
  case atStart => exact ⟨rfl, rfl⟩
  case round =>
    obtain ⟨rfl, rfl⟩ := hrel
    go_wp2
    go_ret
    exact ⟨rfl, rfl⟩
set_option maxHeartbeats 2000000 in
/-- slices.IndexFunc. -/
theorem idxM_ok {g : Nat} {lb : Array Value} {p : md.R2 → Bool} {ok : md.R2 → Prop} (eg : ∀ args w, (callFunc g args).run Try.prog w = .ok (.enter g args) w) {A : Option Addr} {n c : Nat} {l : List md.R2} {w : World} (hp : PredG g lb mv p ok w) (hok : ∀ x ∈ l, ok x) (hn : n = l.length) (hbig : n ≤ 9223372036854775807) (hrow : MRow w A l) :
    Calls Try.prog 51 #[.slice A n c, .func (.func g) #[] lb] w fun e w' => e = .returned (.int .i64 (idx p l)) ∧ Garb w w' := by
  subst hn
  rcases hrow with rfl | ⟨b, off, rfl, hb, hc⟩
  · refine (idxM_nil A c _ w).mono ?_
    rintro e w' ⟨rfl, rfl⟩
    exact ⟨rfl, Garb.refl _⟩
  generalize hQ : (fun (e : Ending) (w' : World) => e = .returned (.int .i64 (idx p l)) ∧ Garb w w') = Q0
  have hend : Aside (∀ w', Garb w w' → Q0 (.returned (.int .i64 (idx p l))) w') := fun w' h => by subst hQ; exact ⟨rfl, h⟩
  have HC : Aside _ := hc
  have HP : Aside _ := hp
  have HK : Aside _ := hok
  clear hQ hc hp hok
  generalize hnl : l.length = n at *
  go_enter Try.func51, Try.ntmps51
  go_wp2
  go_loopg [5, 8] n (fun gg _ i wr => ∃ kk : Nat, kk ≤ n ∧ n - kk ≤ gg ∧ i = .int .i64 kk ∧ Aside (Garb w wr) ∧ Aside (∀ j y, j < kk → l[j]? = some y → p y = false))
  case atStart => exact ⟨0, Nat.zero_le _, by omega, rfl, Garb.refl w, fun j y hj => absurd hj (Nat.not_lt_zero _)⟩
  case round =>
    obtain ⟨kk, hkk, hgg, rfl, G, HA⟩ := hrel
    by_cases hlt : kk < n
    · have hltz : (kk : Int) < (n : Int) := by omega
      obtain ⟨y, hy⟩ : ∃ y, l[kk]? = some y := ⟨_, List.getElem?_eq_getElem (by omega)⟩
      have hgd : l.getD kk default = y := by rw [List.getD_eq_getElem?_getD, hy]; rfl
      have hc' : ∀ j, j < n * 2 → wr.cell? ⟨b, off + j, none⟩ = some (md.val l j) := fun j hj => by
        rw [World.cell?_of_block (w := w) (G.out.below.block b hb)]; exact HC.out j hj
      obtain ⟨y0, y1⟩ := md.six l kk b off wr hlt hc'
      rw [hgd] at y0 y1
      have hcall := HP.out wr y G.out (HK.out y (List.mem_of_getElem? hy))
      have HY : Aside (l[kk]? = some y) := hy
      clear hc' hgd hy
      simp only [mv] at hcall
      cases hq : p y with
      | true =>
        rw [hq] at hcall
        have HQ : Aside (p y = true) := hq
        clear hq
        obtain ⟨yk, yv⟩ := y
        go_wp2_with (go_at_fn g; refine hcall.mono ?_; rintro e w' ⟨rfl, g'⟩)
        rw [← idx_hit HY.out HQ.out HA.out]
        first | exact hend.out _ (G.out.trans g') | (go_ret; exact hend.out _ (G.out.trans g'))
      | false =>
        rw [hq] at hcall
        have HQ : Aside (p y = false) := hq
        clear hq
        obtain ⟨yk, yv⟩ := y
        go_wp2_with (go_at_fn g; refine hcall.mono ?_; rintro e w' ⟨rfl, g'⟩)
        go_roundg (n - (kk + 1))
        case measure => omega
        case rel =>
          refine ⟨kk + 1, by omega, Nat.le_refl _, by go_num, G.out.trans g', (show Aside _ from fun j z hj hz => ?_)⟩
          by_cases e : j = kk
          · subst e
            have := HY.out
            rw [hz] at this
            injection this with this
            subst this
            exact HQ.out
          · exact HA.out j z (by omega) hz
    · have hltz : ¬ (kk : Int) < (n : Int) := by omega
      have hkn : kk = n := by omega
      subst hkn
      go_wp2
      have e1 := idx_miss (p := p) (l := l) (fun j y hj => HA.out j y (by have := (List.getElem?_eq_some_iff.1 hj).1; omega) hj)
      have h2 := hend.out wr G.out
      rw [e1] at h2
      first | exact h2 | (go_ret; exact h2)
/-- slices.ContainsFunc. -/
theorem hasM_ok {g : Nat} {lb : Array Value} {p : md.R2 → Bool} {ok : md.R2 → Prop} (eg : ∀ args w, (callFunc g args).run Try.prog w = .ok (.enter g args) w) {A : Option Addr} {n c : Nat} {l : List md.R2} {w : World} (hp : PredG g lb mv p ok w) (hok : ∀ x ∈ l, ok x) (hn : n = l.length) (hbig : n ≤ 9223372036854775807) (hrow : MRow w A l) :
    Calls Try.prog 24 #[.slice A n c, .func (.func g) #[] lb] w fun e w' => e = .returned (.bool (l.any p)) ∧ Garb w w' := by
  have hc := idxM_ok (c := c) eg hp hok hn hbig hrow
  have hd : decide (0 ≤ idx p l) = l.any p := by
    rcases idx_cases p l with ⟨e, ha⟩ | ⟨k, x, e, hk, hx, hpx, ha⟩
    · rw [e]
      have : l.any p = false := by
        rw [List.any_eq_false]
        intro x hx
        obtain ⟨j, hj⟩ := List.mem_iff_getElem?.1 hx
        rw [ha j x hj]; decide
      rw [this]; rfl
    · rw [e]
      have : l.any p = true := List.any_eq_true.2 ⟨x, List.mem_of_getElem? hx, hpx⟩
      rw [this]; simp
  rw [← hd]
  clear hd hp hok hrow hn
  generalize idx p l = i at hc ⊢
  go_enter Try.func24, Try.ntmps24
  go_wp2_with (go_at_call 51; refine hc.mono ?_; rintro e w' ⟨rfl, g'⟩)
  first | exact ⟨rfl, g'⟩ | (go_ret; exact ⟨rfl, g'⟩)
theorem idxR_nil (A : Option Addr) (c : Nat) (fv : Value) (w : World) : Calls Try.prog 34 #[.slice A 0 c, fv] w fun e w' => e = .returned (.int .i64 (-1)) ∧ w' = w := by
  go_enter Try.func34, Try.ntmps34
  go_wp2
  go_loopw [5, 8] (fun _ i wr => i = .int .i64 0 ∧ wr = w) (fun _ i _ => 0)
  case atStart => exact ⟨rfl, rfl⟩
  case round =>
    obtain ⟨rfl, rfl⟩ := hrel
    go_wp2
    go_ret
    exact ⟨rfl, rfl⟩
set_option maxHeartbeats 2000000 in
/-- slices.IndexFunc. -/
theorem idxR_ok {g : Nat} {lb : Array Value} {p : rf.R6 → Bool} {ok : rf.R6 → Prop} (eg : ∀ args w, (callFunc g args).run Try.prog w = .ok (.enter g args) w) {A : Option Addr} {n c : Nat} {l : List rf.R6} {w : World} (hp : PredG g lb sv6 p ok w) (hok : ∀ x ∈ l, ok x) (hn : n = l.length) (hbig : n ≤ 9223372036854775807) (hrow : RRow w A l) :
    Calls Try.prog 34 #[.slice A n c, .func (.func g) #[] lb] w fun e w' => e = .returned (.int .i64 (idx p l)) ∧ Garb w w' := by
  subst hn
  rcases hrow with rfl | ⟨b, off, rfl, hb, hc⟩
  · refine (idxR_nil A c _ w).mono ?_
    rintro e w' ⟨rfl, rfl⟩
    exact ⟨rfl, Garb.refl _⟩
  generalize hQ : (fun (e : Ending) (w' : World) => e = .returned (.int .i64 (idx p l)) ∧ Garb w w') = Q0
  have hend : Aside (∀ w', Garb w w' → Q0 (.returned (.int .i64 (idx p l))) w') := fun w' h => by subst hQ; exact ⟨rfl, h⟩
  have HC : Aside _ := hc
  have HP : Aside _ := hp
  have HK : Aside _ := hok
  clear hQ hc hp hok
  generalize hnl : l.length = n at *
  go_enter Try.func34, Try.ntmps34
  go_wp2
  go_loopg [5, 8] n (fun gg _ i wr => ∃ kk : Nat, kk ≤ n ∧ n - kk ≤ gg ∧ i = .int .i64 kk ∧ Aside (Garb w wr) ∧ Aside (∀ j y, j < kk → l[j]? = some y → p y = false))
  case atStart => exact ⟨0, Nat.zero_le _, by omega, rfl, Garb.refl w, fun j y hj => absurd hj (Nat.not_lt_zero _)⟩
  case round =>
    obtain ⟨kk, hkk, hgg, rfl, G, HA⟩ := hrel
    by_cases hlt : kk < n
    · have hltz : (kk : Int) < (n : Int) := by omega
      obtain ⟨y, hy⟩ : ∃ y, l[kk]? = some y := ⟨_, List.getElem?_eq_getElem (by omega)⟩
      have hgd : l.getD kk default = y := by rw [List.getD_eq_getElem?_getD, hy]; rfl
      have hc' : ∀ j, j < n * 6 → wr.cell? ⟨b, off + j, none⟩ = some (rf.val l j) := fun j hj => by
        rw [World.cell?_of_block (w := w) (G.out.below.block b hb)]; exact HC.out j hj
      obtain ⟨y0, y1, y2, y3, y4, y5⟩ := rf.six l kk b off wr hlt hc'
      rw [hgd] at y0 y1 y2 y3 y4 y5
      have hcall := HP.out wr y G.out (HK.out y (List.mem_of_getElem? hy))
      have HY : Aside (l[kk]? = some y) := hy
      clear hc' hgd hy
      simp only [sv6] at hcall
      cases hq : p y with
      | true =>
        rw [hq] at hcall
        have HQ : Aside (p y = true) := hq
        clear hq
        obtain ⟨yi, yf, yl, ym, yp, yo⟩ := y
        go_wp2_with (go_at_fn g; refine hcall.mono ?_; rintro e w' ⟨rfl, g'⟩)
        rw [← idx_hit HY.out HQ.out HA.out]
        first | exact hend.out _ (G.out.trans g') | (go_ret; exact hend.out _ (G.out.trans g'))
      | false =>
        rw [hq] at hcall
        have HQ : Aside (p y = false) := hq
        clear hq
        obtain ⟨yi, yf, yl, ym, yp, yo⟩ := y
        go_wp2_with (go_at_fn g; refine hcall.mono ?_; rintro e w' ⟨rfl, g'⟩)
        go_roundg (n - (kk + 1))
        case measure => omega
        case rel =>
          refine ⟨kk + 1, by omega, Nat.le_refl _, by go_num, G.out.trans g', (show Aside _ from fun j z hj hz => ?_)⟩
          by_cases e : j = kk
          · subst e
            have := HY.out
            rw [hz] at this
            injection this with this
            subst this
            exact HQ.out
          · exact HA.out j z (by omega) hz
    · have hltz : ¬ (kk : Int) < (n : Int) := by omega
      have hkn : kk = n := by omega
      subst hkn
      go_wp2
      have e1 := idx_miss (p := p) (l := l) (fun j y hj => HA.out j y (by have := (List.getElem?_eq_some_iff.1 hj).1; omega) hj)
      have h2 := hend.out wr G.out
      rw [e1] at h2
      first | exact h2 | (go_ret; exact h2)
end Go.Proofs.Ytoheklommpochaa.ls
