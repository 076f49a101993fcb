/- A list of pictures without one of them: the document's helper, for any length. -/
import Derived.Test.YtboadccdacigeaaPi
import Derived.Deep.RegionHeld3
import Derived.StillTactics
import Derived.Deep.DeepCutAuto
import Derived.Lib.Hide
namespace Go.Proofs.Ytboadccdacigeaa.sl
open Go.RowKit Go.Proofs.Ytboadccdacigeaa Go.Proofs.Ytboadccdacigeaa.pi
open Go.RX (Garb)
set_option linter.unusedVariables false
/-- What is known of a list of pictures. -/
def Row (w : World) (b off n : Nat) (z : List R6) : Prop := b < w.heap.size ∧ ∀ j, j < n * 6 → w.cell? ⟨b, off + j, none⟩ = some (val z j)
theorem Row.below {w w' : World} {b off n : Nat} {z : List R6} (h : Row w b off n z) (hg : Below w.heap.size w w') : Row w' b off n z :=
  ⟨Nat.lt_of_lt_of_le h.1 hg.size, fun j hj => by rw [World.cell?_of_block (w := w) (hg.block b h.1)]; exact h.2 j hj⟩
/-- The first k pictures but the one at m. -/
def rest (z : List R6) (m : Nat) : Nat → List R6
  | 0 => []
  | k + 1 => if k = m then rest z m k else rest z m k ++ [z.getD k default]
theorem rest_len (z : List R6) (m : Nat) : ∀ k, (rest z m k).length = if m < k then k - 1 else k
  | 0 => rfl
  | k + 1 => by
    have := rest_len z m k
    unfold rest
    split
    · rw [this]; split <;> split <;> omega
    · rw [List.length_append, this]; simp only [List.length_singleton]; split <;> split <;> omega
theorem rest_le (z : List R6) (m k : Nat) : (rest z m k).length ≤ k := by rw [rest_len]; split <;> omega
def encs (z : List R6) : List Value := z.flatMap enc
/-- A list of the call's own. -/
def Own (w wr : World) (z : List R6) (v : Value) : Prop := wr.ownsRow w.heap.size 30 6 v z.length (encs z) ∧ Below w.heap.size w wr
theorem own_one {w wr : World} {z : List R6} {v : Value} (h : Own w wr z v) (r : R6) (hb : (z.length + 1) * 48 ≤ 140737488355328) :
    ∃ v' w', (Builtin.append_ #[22, 22] 22 #[v, .slice (some ⟨wr.heap.size, 0, none⟩) 1 1]).run Try.prog (wr.alloc (.cells #[.int .i64 r.i, .int .i64 r.f, .int .i64 r.l, .int .i64 r.m, .int .i64 r.p, .bool r.o] 30)) = .ok v' w' ∧ Own w w' (z ++ [r]) v' := by
  obtain ⟨i0, hi, hz0, hz1, hz2⟩ := info_parts info30
  obtain ⟨h1, h2⟩ := h
  have hnew := heap_alloc_new wr (.cells #[.int .i64 r.i, .int .i64 r.f, .int .i64 r.l, .int .i64 r.m, .int .i64 r.p, .bool r.o] 30)
  have ho := h1.alloc (.cells #[.int .i64 r.i, .int .i64 r.f, .int .i64 r.l, .int .i64 r.m, .int .i64 r.p, .bool r.o] 30)
  have hs : (wr.alloc (.cells #[.int .i64 r.i, .int .i64 r.f, .int .i64 r.l, .int .i64 r.m, .int .i64 r.p, .bool r.o] 30)).heap.size = wr.heap.size + 1 := by show (wr.heap.push _).size = _; simp
  have hbl : Below w.heap.size w (wr.alloc (.cells #[.int .i64 r.i, .int .i64 r.f, .int .i64 r.l, .int .i64 r.m, .int .i64 r.p, .bool r.o] 30)) := h2.trans ⟨rfl, rfl, rfl, by omega, fun k hk => Below.heap_alloc _ _ _ (Nat.lt_of_lt_of_le hk h2.size)⟩
  have hsz := h2.size
  generalize (wr.alloc (.cells #[.int .i64 r.i, .int .i64 r.f, .int .i64 r.l, .int .i64 r.m, .int .i64 r.p, .bool r.o] 30)) = W at *
  obtain ⟨v', w', k1, k2, k3, -⟩ := run_append_own (P := Try.prog) (w := W) (ty := 22) w.heap.size 22 30 i0 _ 6 48 Try.underlying22 hi hz0 hz1 hz2 rfl (by decide) v _ _ ho ⟨wr.heap.size, 0, none⟩ 1 1 (enc r) rfl
    (fun j u hj => by rw [add_at, Nat.zero_add, cell_of hnew, ← Array.getElem?_toList]; exact hj)
    (fun u hu => by
      simp only [enc, List.mem_cons, List.not_mem_nil, or_false] at hu
      rcases hu with rfl | rfl | rfl | rfl | rfl | rfl <;> rfl) (by unfold maxLen; omega) hb (by omega)
  refine ⟨v', w', k1, ?_, ⟨k3.os.trans hbl.os, k3.tape.trans hbl.tape, k3.output.trans hbl.output, Nat.le_trans hbl.size k3.size, fun k hk => ?_⟩⟩
  · have e : encs (z ++ [r]) = encs z ++ enc r := by simp [encs]
    rw [e, List.length_append]; exact k2
  · rw [k3.block k (by omega) (fun hh => ?_)]
    · exact hbl.block k hk
    · have := ho.lt k hh.symm
      omega
def WPost (w : World) (z : List R6) (e : Ending) (w' : World) : Prop := ∃ v, e = .returned v ∧ Own w w' z v
set_option maxRecDepth 100000 in
set_option maxHeartbeats 1000000 in
theorem wout_ok (b off n c m : Nat) (z : List R6) (w : World) (hm : m < n) (hrow : Row w b off n z) (hb : (n + 2) * 48 ≤ 140737488355328) :
    Calls Try.prog 16 #[.slice (some ⟨b, off, none⟩) n c, .int .i64 m] w (WPost w (rest z m n)) := by
  generalize hQ : WPost w (rest z m n) = Q0
  have hend : ∀ v wr, Own w wr (rest z m n) v → Q0 (.returned v) wr := fun v wr h => by subst hQ; exact ⟨v, rfl, h⟩
  clear hQ
  have H := Lib.hid (show (∀ v wr, Own w wr (rest z m n) v → Q0 (.returned v) wr) ∧ Row w b off n z from ⟨hend, hrow⟩)
  have h0 : Own w w (rest z m 0) (.slice none 0 0) := ⟨World.ownsRow_nil w _ _ _, Below.refl _ _⟩
  clear hend hrow
  have hn63 : (n : Int) ≤ 9223372036854775807 := by omega
  go_enter Try.func16, Try.ntmps16
  go_wp2
  go_loopw [5, 6] (fun v i wr => ∃ k : Nat, k ≤ n ∧ i = .int .i64 k ∧ Own w wr (rest z m k) v) (fun _ i _ => n - (intOf i).toNat)
  case atStart => exact ⟨0, Nat.zero_le _, rfl, h0⟩
  case round =>
    obtain ⟨k, hk, rfl, ho⟩ := hrel
    by_cases hlt : k < n
    · have hr := (H.out.2).below ho.2
      obtain ⟨x0, x1, x2, x3, x4, x5⟩ := six z k b off wr hlt hr.2
      by_cases hkm : k = m
      · have ho2 := ho
        rw [show rest z m k = rest z m (k + 1) from by rw [rest, if_pos hkm]] at ho2
        subst hkm
        clear ho hr h0
        go_wp2
        exact ⟨⟨k + 1, by omega, rfl, ho2⟩, by simp [intOf]; omega⟩
      · obtain ⟨v2, w2, hap, hown⟩ := own_one ho (z.getD k default) (by have := rest_le z m k; omega)
        have ho2 : Own w w2 (rest z m (k + 1)) v2 := by rw [rest, if_neg hkm]; exact hown
        clear hown ho hr h0
        generalize z.getD k default = r at *
        go_wp2_with (at_builtin; refine Lib.wpList_append_run _ rfl _ _ _ _ rfl _ _ rfl rfl _ _ hap ?_)
        exact ⟨⟨k + 1, by omega, rfl, ho2⟩, by simp [intOf]; omega⟩
    · have hkn : k = n := by omega
      subst hkn
      have hq := H.out.1 _ _ ho
      clear ho h0 H
      go_wp2
      exact hq
end Go.Proofs.Ytboadccdacigeaa.sl
