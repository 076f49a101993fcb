/- The stable sort: a row of places that is turned in place; swapRange. -/
import Derived.Test.YtoheklommpochaaDf
import Derived.Sort.WalkA
import Derived.Sort.WalkB2
import Derived.Sort.WalkB12
namespace Go.Proofs.Ytoheklommpochaa.ls
open Go.RowKit Go.Lib Go.Proofs.Ytoheklommpochaa Go.Proofs.Ytoheklommpochaa.pi
open Go.RX (Garb)
set_option linter.unusedVariables false
set_option linter.unusedSimpArgs false
attribute [local go_sem ↓] Go.wp_at_zero Go.wp_at_succ
theorem asd {P : Prop} (h : P) : Aside P := h
/-- The row rb holds a permutation of L0; all else is as it was. -/
structure SW (w W : World) (rb cap : Nat) (L0 L : List Int) : Prop where
  but : But w W rb
  own : OwnI W rb cap L
  perm : L.Perm L0
  lt : rb < w.heap.size
theorem but_garb {w w1 w2 : World} {g : Nat} (h : But w w1 g) (h' : Garb w1 w2) (hg : g < w.heap.size) : But w w2 g := by
  refine ⟨h'.below.os.trans h.os, h'.below.tape.trans h.tape, h'.below.output.trans h.output, Nat.le_trans h.size h'.below.size, fun k hk hne => ?_, fun b hb c e fr hx => ?_⟩
  · rw [h'.below.block k (Nat.lt_of_lt_of_le hk h.size)]; exact h.block k hk hne
  · rcases Nat.lt_or_ge b w1.heap.size with hlt | hge
    · rw [h'.below.block b hlt] at hx; exact h.soft b hb c e fr hx
    · exact h'.soft b hge c e fr hx
theorem SW.garb {w W W' : World} {rb cap : Nat} {L0 L : List Int} (h : SW w W rb cap L0 L) (hg : Garb W W') : SW w W' rb cap L0 L := ⟨but_garb h.but hg h.lt, h.own.garb hg, h.perm, h.lt⟩
theorem SW.len {w W : World} {rb cap : Nat} {L0 L : List Int} (h : SW w W rb cap L0 L) : L.length = L0.length := h.perm.length_eq
theorem SW.cell {w W : World} {rb cap : Nat} {L0 L : List Int} (h : SW w W rb cap L0 L) {i : Nat} (hi : i < L0.length) : ∃ x, L[i]? = some x ∧ W.cell? ⟨rb, i, none⟩ = some (.int .i64 x) := by
  have hl := h.len
  obtain ⟨cur, h1, h2, h3, h4⟩ := h.own
  refine ⟨L[i]'(by omega), List.getElem?_eq_getElem (by omega), ?_⟩
  rw [cell_of h1, h4 i (by omega), List.getD_eq_getElem?_getD, List.getElem?_eq_getElem (by omega)]; rfl
theorem SW.frozen {w W : World} {rb cap : Nat} {L0 L : List Int} (h : SW w W rb cap L0 L) (i : Nat) : W.frozen? ⟨rb, i, none⟩ = false := by
  obtain ⟨cur, h1, h2, h3, h4⟩ := h.own
  simp [World.frozen?, h1]
theorem SW.cell2 {w W : World} {rb cap : Nat} {L0 L : List Int} (h : SW w W rb cap L0 L) {i j : Nat} (hi : i < L0.length) (hj : j < L0.length) (v : Value) : ∃ u, (W.setCell ⟨rb, i, none⟩ v).cell? ⟨rb, j, none⟩ = some u := by
  obtain ⟨x, -, hx⟩ := h.cell hi
  obtain ⟨y, -, hy⟩ := h.cell hj
  by_cases e : i = j
  · subst e; exact ⟨v, World.cell?_setCell_same _ _ _ hx⟩
  · exact ⟨_, (World.cell?_setCell_other _ _ _ _ (by intro e'; simp only [Addr.mk.injEq] at e'; omega)).trans hy⟩
/-- An exchange. -/
theorem SW.swap {w W : World} {rb cap : Nat} {L0 L : List Int} (h : SW w W rb cap L0 L) {i j : Nat} (hi : i < L0.length) (hj : j < L0.length) {x y : Int} (hx : L[i]? = some x) (hy : L[j]? = some y) :
    SW w ((W.setCell ⟨rb, i, none⟩ (.int .i64 y)).setCell ⟨rb, j, none⟩ (.int .i64 x)) rb cap L0 ((L.set i y).set j x) := by
  have hl := h.len
  obtain ⟨cur, h1, h2, h3, h4⟩ := h.own
  have s1 := heap_setCell_same W rb i cur 3 (.int .i64 y) h1
  have s2 := heap_setCell_same (W.setCell ⟨rb, i, none⟩ (.int .i64 y)) rb j _ 3 (.int .i64 x) s1
  refine ⟨⟨h.but.os, h.but.tape, h.but.output, by simpa [World.setCell] using h.but.size, fun k hk hne => ?_, fun b hb c e fr hq => ?_⟩, ⟨_, s2, by simpa using h2, by simpa using h3, fun t ht => ?_⟩, ?_, h.lt⟩
  · rw [heap_setCell_other _ ⟨rb, j, none⟩ k _ hne, heap_setCell_other _ ⟨rb, i, none⟩ k _ hne]; exact h.but.block k hk hne
  · have hqb : b ≠ rb := by have := h.lt; omega
    rw [heap_setCell_other _ ⟨rb, j, none⟩ b _ hqb, heap_setCell_other _ ⟨rb, i, none⟩ b _ hqb] at hq; exact h.but.soft b hb c e fr hq
  · rw [List.length_set, List.length_set] at ht
    rw [Array.getElem?_setIfInBounds, Array.getElem?_setIfInBounds]
    simp only [List.getD_eq_getElem?_getD, List.getElem?_set, List.length_set, Array.size_setIfInBounds]
    by_cases e1 : j = t
    · subst e1
      rw [if_pos rfl, if_pos rfl, if_pos (by omega), if_pos (by omega)]; rfl
    · rw [if_neg e1, if_neg e1]
      by_cases e2 : i = t
      · subst e2
        rw [if_pos rfl, if_pos rfl, if_pos (by omega), if_pos (by omega)]; rfl
      · rw [if_neg e2, if_neg e2, ← List.getD_eq_getElem?_getD]; exact h4 t ht
  · have e1 : L[i]'(by omega) = x := by have := List.getElem?_eq_getElem (l := L) (i := i) (by omega); rw [hx] at this; injection this with this; exact this.symm
    have e2 : L[j]'(by omega) = y := by have := List.getElem?_eq_getElem (l := L) (i := j) (by omega); rw [hy] at this; injection this with this; exact this.symm
    have := List.set_set_perm (i := i) (j := j) (show i < L.length by omega) (show j < L.length by omega)
    rw [e1, e2] at this
    exact this.trans h.perm
theorem SW.drew {w W : World} {rb cap : Nat} {L0 L : List Int} (h : SW w W rb cap L0 L) : SW w W.drew rb cap L0 L := h.garb (Garb.drew W _)
def SPost (w : World) (rb cap : Nat) (L0 : List Int) (e : Ending) (w' : World) : Prop := e = .returned (.tuple #[]) ∧ ∃ L, SW w w' rb cap L0 L
set_option maxHeartbeats 4000000 in
set_option maxRecDepth 1000000 in
theorem swapRange_ok {w W : World} {rb cap n a b k : Nat} {L0 L : List Int} {fv : Value} (S : SW w W rb cap L0 L) (hn : n = L0.length) (hsz : n < 4611686018427387904) (ha : a + k ≤ n) (hb : b + k ≤ n) :
    Calls Try.prog 64 #[.slice (some ⟨rb, 0, none⟩) n cap, .int .i64 a, .int .i64 b, .int .i64 k, fv] W (SPost w rb cap L0) := by
  generalize hQ : SPost w rb cap L0 = Q0
  have hend : Aside (∀ W' L', SW w W' rb cap L0 L' → Q0 (.returned (.tuple #[])) W') := fun W' L' h => by subst hQ; exact ⟨rfl, L', h⟩
  have HN : Aside (n = L0.length) := hn
  have S0 : Aside (SW w W rb cap L0 L) := S
  clear hQ hn S
  have mixed : Try.prog.follows .mixedOrders = true := by kernel_rfl
  go_enter Try.func64, Try.ntmps64
  go_wp2
  go_loopg [10] k (fun gg i wr => ∃ (j : Nat) (L' : List Int), j ≤ k ∧ k - j ≤ gg ∧ i = .int .i64 j ∧ Aside (SW w wr rb cap L0 L'))
  case atStart => exact ⟨0, L, Nat.zero_le _, by omega, rfl, S0⟩
  case round =>
    obtain ⟨j, L', hj, hgg, rfl, S1⟩ := hrel
    clear S0
    by_cases hlt : j < k
    · obtain ⟨iN, hiN⟩ : ∃ q, q = a + j := ⟨_, rfl⟩
      obtain ⟨jN, hjN⟩ : ∃ q, q = b + j := ⟨_, rfl⟩
      have ea : ((a : Int) + (j : Int)).toNat = iN := by omega
      have pa : (0 : Int) ≤ (a : Int) + (j : Int) := by omega
      have ba : (a : Int) + (j : Int) < (n : Int) := by omega
      have ra : IntKind.i64.wrap ((a : Int) + (j : Int)) = (a : Int) + (j : Int) := by rw [IntKind.wrap_i64]; omega
      have ec : ((b : Int) + (j : Int)).toNat = jN := by omega
      have pc : (0 : Int) ≤ (b : Int) + (j : Int) := by omega
      have bc : (b : Int) + (j : Int) < (n : Int) := by omega
      have rc : IntKind.i64.wrap ((b : Int) + (j : Int)) = (b : Int) + (j : Int) := by rw [IntKind.wrap_i64]; omega
      have hi1 : iN < L0.length := by rw [← HN.out]; omega
      have hj1 : jN < L0.length := by rw [← HN.out]; omega
      obtain ⟨x, hx, cx⟩ := S1.out.cell hi1
      obtain ⟨y, hy, cy⟩ := S1.out.cell hj1
      have fx := S1.out.frozen iN
      have fy := S1.out.frozen jN
      obtain ⟨u, cu⟩ := S1.out.cell2 hi1 hj1 (.int .i64 y)
      have S2 : Aside (SW w ((wr.setCell ⟨rb, iN, none⟩ (.int .i64 y)).setCell ⟨rb, jN, none⟩ (.int .i64 x)).drew rb cap L0 ((L'.set iN y).set jN x)) := (S1.out.swap hi1 hj1 hx hy).drew
      have hltz : (j : Int) < (k : Int) := by omega
      clear S1 hx hy hi1 hj1 hiN hjN
      go_wp2_with fail
      go_big_region_o
      generalize ((wr.setCell ⟨rb, iN, none⟩ (.int .i64 y)).setCell ⟨rb, jN, none⟩ (.int .i64 x)).drew = w3 at S2 ⊢
      clear cx cy fx fy cu ea ec
      go_wp2
      go_roundg (k - (j + 1))
      case measure => omega
      case rel => exact ⟨j + 1, _, by omega, Nat.le_refl _, by go_num, S2⟩
    · have hltz : ¬ (j : Int) < (k : Int) := by omega
      have hq := hend.out _ _ S1.out
      go_wp2
      first | exact hq | (go_end0; exact hq) | (go_ret; exact hq)
end Go.Proofs.Ytoheklommpochaa.ls
