/- Lists of Refs, lent and looked at: contracts for any length. -/
import Derived.Test.YtoheklommpochaaRows
import Derived.Test.YtoheklommpochaaRxL
import Derived.Test.YtoheklommpochaaLend
import Derived.WalkKit
import Derived.WalkSpells
import Derived.BigQuiet
import Derived.Deep.QuietTactic
import Derived.Laws.OwnMore
import Derived.Lib.AppendZeros
import Derived.Lib.SliceRun
namespace Go.Proofs.Ytoheklommpochaa.rf
open Go.RowKit Go.Proofs.Ytoheklommpochaa
set_option linter.unusedVariables false
set_option linter.unusedSimpArgs false
/-- A row of numbers. -/
structure R6 where
  i : Int
  f : Int
  l : Int
  m : Int
  p : Int
  o : Bool
  deriving Inhabited
def enc (r : R6) : List Value := [.int .i64 r.i, .int .i64 r.f, .int .i64 r.l, .int .i64 r.m, .int .i64 r.p, .bool r.o]
/-- The j-th cell. -/
def val (z : List R6) (j : Nat) : Value := (enc (z.getD (j / 6) default)).getD (j % 6) undef
def refs (z : List R6) (n : Nat) : List Value := (List.range (n * 6)).map (val z)
theorem refs_len (z : List R6) (n : Nat) : (refs z n).length = n * 6 := by simp [refs]
theorem refs_get {z : List R6} {n j : Nat} {u : Value} (h : (refs z n)[j]? = some u) : j < n * 6 ∧ u = val z j := by
  have hl : j < n * 6 := by
    rcases Nat.lt_or_ge j (n * 6) with h' | h'
    · exact h'
    · rw [List.getElem?_eq_none (by rw [refs_len]; exact h')] at h; cases h
  refine ⟨hl, ?_⟩
  unfold refs at h
  rw [List.getElem?_map, List.getElem?_range hl] at h
  injection h with h; exact h.symm
theorem refs_at (z : List R6) {n j : Nat} (h : j < n * 6) : (refs z n)[j]? = some (val z j) := by
  unfold refs
  rw [List.getElem?_map, List.getElem?_range h]; rfl
theorem val_at (z : List R6) (k i : Nat) (hi : i < 6) : val z (k * 6 + i) = (enc (z.getD k default)).getD i undef := by
  unfold val
  rw [show (k * 6 + i) / 6 = k by omega, show (k * 6 + i) % 6 = i by omega]
theorem val_one (z : List R6) (j : Nat) : (val z j).oneCell' = true := by
  have h : j % 6 < 6 := Nat.mod_lt _ (by decide)
  unfold val
  generalize j % 6 = k at h
  generalize z.getD (j / 6) default = r
  match k, h with
  | 0, _ => rfl
  | 1, _ => rfl
  | 2, _ => rfl
  | 3, _ => rfl
  | 4, _ => rfl
  | 5, _ => rfl
theorem info30 : (Try.prog.info? 45).map (fun i => (i.zero, i.size, i.bytes)) = some (some (.agg #[.int .i64 0, .int .i64 0, .int .i64 0, .int .i64 0, .int .i64 0, .bool false]), 6, 48) := by kernel_rfl
/-- A row of the call's own that begins with these cells. -/
def RowAt (w w' : World) (g cap n : Nat) (z : List R6) : Prop := w.heap.size ≤ g ∧ n ≤ cap ∧ ∃ cur : Array Value, w'.heap[g]? = some (.cells cur 45 (0, 0)) ∧ cur.size = cap * 6 ∧ ∀ j, j < n * 6 → cur[j]? = some (val z j)
theorem zero_size (k : Nat) : (Builtin.zeroCells #[.int .i64 0, .int .i64 0, .int .i64 0, .int .i64 0, .int .i64 0, .bool false] k).size = k * 6 := by simp [Builtin.zeroCells]
/-- Onto an empty row. -/
theorem app_nil (A : Option Addr) (c : Nat) (w : World) (h ty : Nat) : (Builtin.append_ #[24, 24] ty #[.slice (some ⟨h, 0, none⟩) 0 0, .slice A 0 c]).run Try.prog w = .ok (.slice (some ⟨h, 0, none⟩) 0 0) w := by
  obtain ⟨i0, hi, hz0, hz1, hz2⟩ := info_parts info30
  cases A <;> simp [Builtin.append_, run_underlying Try.underlying24, sizeOf, typeInfo, hi, Builtin.lenOf, Builtin.firstCells, storeCells, loadCells, loadCellsFrom]
theorem copy_start (z : List R6) (w : World) : RowAt w (w.alloc (.cells #[] 45)) w.heap.size 0 0 z ∧ Go.RX.Garb w (w.alloc (.cells #[] 45)) :=
  ⟨⟨Nat.le_refl _, Nat.le_refl _, #[], heap_alloc_new w _, rfl, fun j hj => by omega⟩, But.garb (Go.RX.Garb.refl w) ((But.refl w w.heap.size).alloc #[] 45) (Nat.le_refl _) (fun c e fr h => by
    rw [heap_alloc_new] at h
    simp only [Option.some.injEq, Obj.cells.injEq] at h
    exact h.2.2.symm)⟩
/-- A list onto an empty row: what comes out. -/
theorem copy_run (b off c n : Nat) (z : List R6) (w : World) (hn : 0 < n) (hb : (n + 2) * 48 ≤ 140737488355328) (h1 : ∀ j, j < n * 6 → w.cell? ⟨b, off + j, none⟩ = some (val z j)) :
    ∃ g cap w', (∀ ty : Nat, (Builtin.append_ #[24, 24] ty #[.slice (some ⟨w.heap.size, 0, none⟩) 0 0, .slice (some ⟨b, off, none⟩) n c]).run Try.prog (w.alloc (.cells #[] 45)) = .ok (.slice (some ⟨g, 0, none⟩) n cap) w') ∧ RowAt w w' g cap n z ∧ Go.RX.Garb w w' := by
  obtain ⟨i0, hi, hz0, hz1, hz2⟩ := info_parts info30
  have k1 : (refs z n).length = n * i0.size := by rw [hz1, refs_len]
  have k2 : Builtin.nextslicecap (0 + n) 0 * i0.bytes ≤ 281474976710656 := by rw [hz2]; exact growslice_fits (by omega) (by omega)
  have k3 : 0 < 0 + n := by omega
  have k4 : ((0 + n : Nat) : Int) ≤ 9223372036854775807 := by omega
  have hrun := fun ty => run_append_grow (P := Try.prog) (w.alloc (.cells #[] 45)) 24 ty 45 i0 _ Try.underlying24 hi hz0 ⟨w.heap.size, 0, none⟩ 0 0 [] (by simp) (by simp) ⟨b, off, none⟩ n c (refs z n) k1 (fun j u hj => by
    obtain ⟨hl, rfl⟩ := refs_get hj
    have := h1 j hl
    rw [add_at, World.cell?_of_block (w := w) (Below.heap_alloc _ _ _ (World.block_lt_of_cell? w _ this))]; exact this) k3 k4 k2
  have hcn : 0 + n ≤ grownCap (w.alloc (.cells #[] 45)) (0 + n) 0 45 := Nat.le_add_right _ _
  generalize grownCap (w.alloc (.cells #[] 45)) (0 + n) 0 45 = cap at hrun hcn
  obtain ⟨cs, hcs⟩ : ∃ cs : Array Value, cs = [].toArray ++ (refs z n).toArray ++ Builtin.zeroCells (Value.agg #[.int .i64 0, .int .i64 0, .int .i64 0, .int .i64 0, .int .i64 0, .bool false]).cells (cap - (0 + n)) := ⟨_, rfl⟩
  rw [← hcs] at hrun
  have hl0 := refs_len z n
  have hget : ∀ j : Nat, cs[j]? = (refs z n ++ (Builtin.zeroCells (Value.agg #[.int .i64 0, .int .i64 0, .int .i64 0, .int .i64 0, .int .i64 0, .bool false]).cells (cap - (0 + n))).toList)[j]? := fun j => by
    rw [hcs, ← Array.getElem?_toList]; simp
  have hsz : cs.size = cap * 6 := by
    rw [hcs]
    have := zero_size (cap - (0 + n))
    have e : (Value.agg #[.int .i64 0, .int .i64 0, .int .i64 0, .int .i64 0, .int .i64 0, .bool false]).cells = #[.int .i64 0, .int .i64 0, .int .i64 0, .int .i64 0, .int .i64 0, .bool false] := rfl
    rw [e]
    simp only [Array.size_append, this, List.size_toArray, hl0, List.length_nil]
    omega
  clear hcs
  have hnew := heap_alloc_new (w.alloc (.cells #[] 45)).drew (.cells cs 45)
  have hB : But w ((w.alloc (.cells #[] 45)).drew.alloc (.cells cs 45)) (w.heap.size + 1) := ((But.refl w (w.heap.size + 1)).alloc #[] 45).drew.alloc cs 45
  have hs1 : (w.alloc (.cells #[] 45)).drew.heap.size = w.heap.size + 1 := by show (w.heap.push _).size = _; simp
  rw [hs1] at hnew
  generalize hW : (w.alloc (.cells #[] 45)).drew.alloc (.cells cs 45) = W at hrun hB hnew
  have hs2 : (w.alloc (.cells #[] 45)).heap.size = w.heap.size + 1 := hs1
  rw [hs2, Nat.zero_add] at hrun
  refine ⟨w.heap.size + 1, cap, W, hrun, ⟨Nat.le_succ _, by omega, cs, hnew, hsz, fun j hj => ?_⟩, But.garb (Go.RX.Garb.refl w) hB (Nat.le_succ _) fun c e fr h => ?_⟩
  · rw [hget, List.getElem?_append_left (by omega)]; exact refs_at z hj
  · rw [hnew] at h
    simp only [Option.some.injEq, Obj.cells.injEq] at h
    exact h.2.2.symm
def CopyPost (w : World) (n : Nat) (z : List R6) (e : Ending) (w' : World) : Prop := ∃ g cap, e = .returned (.slice (some ⟨g, 0, none⟩) n cap) ∧ RowAt w w' g cap n z ∧ Go.RX.Garb w w'
theorem copy_nil (A : Option Addr) (c : Nat) (z : List R6) (w : World) : Calls Try.prog 21 #[.slice A 0 c] w (CopyPost w 0 z) := by
  have hend : CopyPost w 0 z (.returned (.slice (some ⟨w.heap.size, 0, none⟩) 0 0)) (w.alloc (.cells #[] 45)) := ⟨_, _, rfl, copy_start z w⟩
  have ha := app_nil A c
  go_enter Try.func21, Try.ntmps21
  go_wp2_with (at_builtin; refine Lib.wpList_append_run _ rfl _ _ _ _ rfl _ _ rfl rfl _ _ (ha _ _ _) ?_)
  first | exact hend | (go_ret; exact hend)
theorem copy_some (b off c n : Nat) (z : List R6) (w : World) (hn : 0 < n) (hb : (n + 2) * 48 ≤ 140737488355328) (h1 : ∀ j, j < n * 6 → w.cell? ⟨b, off + j, none⟩ = some (val z j)) :
    Calls Try.prog 21 #[.slice (some ⟨b, off, none⟩) n c] w (CopyPost w n z) := by
  obtain ⟨g, cap, W, ha, hrow, hgb⟩ := copy_run b off c n z w hn hb h1
  have hend : CopyPost w n z (.returned (.slice (some ⟨g, 0, none⟩) n cap)) W := ⟨_, _, rfl, hrow, hgb⟩
  clear hrow hgb h1
  go_enter Try.func21, Try.ntmps21
  go_wp2_with (at_builtin; refine Lib.wpList_append_run _ rfl _ _ _ _ rfl _ _ rfl rfl _ _ (ha _) ?_)
  first | exact hend | (go_ret; exact hend)
def marks2 : List Value := [.int .i64 77777, .int .i64 0, .int .i64 0, .int .i64 0, .int .i64 0, .bool false, .int .i64 77777, .int .i64 0, .int .i64 0, .int .i64 0, .int .i64 0, .bool false]
/-- A row of the call's own: these pictures and the marked room. -/
def LentAt (w w' : World) (g cap n : Nat) (z : List R6) : Prop := w.heap.size ≤ g ∧ n + 2 ≤ cap ∧ ∃ cur : Array Value, w'.heap[g]? = some (.cells cur 45 (0, 0)) ∧ (∀ j, j < n * 6 → cur[j]? = some (val z j)) ∧ ∀ i, i < 12 → cur[n * 6 + i]? = marks2[i]?
theorem app2 (w0 w : World) (g cap n : Nat) (z : List R6) (hrow : RowAt w0 w g cap n z) (hg : Go.RX.Garb w0 w) (hb : (n + 2) * 48 ≤ 140737488355328) :
    ∃ v' w', (∀ ty : Nat, (Builtin.append_ #[24, 24] ty #[.slice (some ⟨g, 0, none⟩) n cap, .slice (some ⟨w.heap.size, 0, none⟩) 2 2]).run Try.prog (w.alloc (.cells #[.int .i64 77777, .int .i64 0, .int .i64 0, .int .i64 0, .int .i64 0, .bool false, .int .i64 77777, .int .i64 0, .int .i64 0, .int .i64 0, .int .i64 0, .bool false] 45)) = .ok v' w') ∧
      ∃ g' cap', v' = .slice (some ⟨g', 0, none⟩) (n + 2) cap' ∧ Go.RX.Garb w0 w' ∧ LentAt w0 w' g' cap' n z := by
  obtain ⟨i0, hi, hz0, hz1, hz2⟩ := info_parts info30
  obtain ⟨r1, r2, cur, r3, r4, r5⟩ := hrow
  have hlt := lt_of_some r3
  have hne : g ≠ w.heap.size := Nat.ne_of_lt hlt
  have hm12 : marks2.length = 12 := rfl
  obtain ⟨w2, hw2⟩ : ∃ w2, w2 = w.alloc (.cells #[.int .i64 77777, .int .i64 0, .int .i64 0, .int .i64 0, .int .i64 0, .bool false, .int .i64 77777, .int .i64 0, .int .i64 0, .int .i64 0, .int .i64 0, .bool false] 45) := ⟨_, rfl⟩
  rw [← hw2]
  have hnew : w2.heap[w.heap.size]? = some (.cells #[.int .i64 77777, .int .i64 0, .int .i64 0, .int .i64 0, .int .i64 0, .bool false, .int .i64 77777, .int .i64 0, .int .i64 0, .int .i64 0, .int .i64 0, .bool false] 45 (0, 0)) := by rw [hw2]; exact heap_alloc_new w _
  have hold : w2.heap[g]? = some (.cells cur 45 (0, 0)) := by rw [hw2, Below.heap_alloc _ _ _ hlt]; exact r3
  have hs2 : w2.heap.size = w.heap.size + 1 := by rw [hw2]; show (w.heap.push _).size = _; simp
  have hbut : But w w2 g := by rw [hw2]; exact (But.refl w g).alloc _ _
  have hnews : ∀ (j : Nat) u, marks2[j]? = some u → w2.cell? ((⟨w.heap.size, 0, none⟩ : Addr).add j) = some u := fun j u hj => by
    rw [add_at, Nat.zero_add, cell_of hnew, ← hj]
    rw [← Array.getElem?_toList]; rfl
  by_cases hroom : n + 2 ≤ cap
  · have h1 : ∀ v ∈ marks2, v.oneCell' = true := fun v hv => by
      simp only [marks2, List.mem_cons, List.not_mem_nil, or_false] at hv
      rcases hv with rfl | rfl | rfl | rfl | rfl | rfl | rfl | rfl | rfl | rfl | rfl | rfl <;> rfl
    have hst := Go.RX.run_storeCells (P := Try.prog) marks2 hold (n * 6) 0 (by rw [hm12]; omega) h1
    obtain ⟨w3, hw3⟩ : ∃ w3, w3 = { w2 with heap := w2.heap.setIfInBounds g (.cells (Go.RX.splice cur (n * 6 + 0) marks2) 45 (0, 0)) } := ⟨_, rfl⟩
    rw [← hw3] at hst
    have h3 : w3.heap[g]? = some (.cells (Go.RX.splice cur (n * 6) marks2) 45 (0, 0)) := by
      rw [hw3]
      show (w2.heap.setIfInBounds g _)[g]? = _
      rw [Array.getElem?_setIfInBounds_self_of_lt (by omega)]; rfl
    have ho : ∀ k, k ≠ g → w3.heap[k]? = w2.heap[k]? := fun k hk => by
      rw [hw3]
      show (w2.heap.setIfInBounds g _)[k]? = _
      rw [Array.getElem?_setIfInBounds, if_neg (Ne.symm hk)]
    have hs3 : w3.heap.size = w2.heap.size := by rw [hw3]; show (w2.heap.setIfInBounds g _).size = _; simp
    have hb3 : But w w3 g := by
      refine ⟨by rw [hw3]; exact hbut.os, by rw [hw3]; exact hbut.tape, by rw [hw3]; exact hbut.output, by rw [hs3]; exact hbut.size, fun k hk hne => by rw [ho k hne]; exact hbut.block k hk hne, fun b hb c e fr hx => ?_⟩
      have hbg : b ≠ g := fun q => by subst q; exact absurd hlt (Nat.not_lt.2 hb)
      rw [ho b hbg] at hx; exact hbut.soft b hb c e fr hx
    have htk : (cur.toList.take (n * 6)).length = n * 6 := by simp; omega
    refine ⟨.slice (some ⟨g, 0, none⟩) (n + 2) cap, w3, fun ty => ?_, g, cap, rfl, But.garb hg hb3 r1 (fun c e fr h => by rw [h3] at h; simp only [Option.some.injEq, Obj.cells.injEq] at h; exact h.2.2.symm), r1, hroom, _, h3, ?_, ?_⟩
    · have hf := run_firstCells_some (P := Try.prog) w2 i0.size 2 ⟨w.heap.size, 0, none⟩ 2 2 marks2 (by rw [hz1]; rfl) hnews
      rw [Go.RX.run_append_room (P := Try.prog) (w := w2) (ts := #[24, 24]) (t := 24) (xt := 24) (n := 2) rfl rfl Try.underlying24 Try.underlying24 hi hroom (by rfl) hf]
      simp only [hz1]
      rw [add_at, Nat.zero_add, hst]; rfl
    · intro j hj
      unfold Go.RX.splice
      rw [List.getElem?_toArray, List.append_assoc, List.getElem?_append_left (by omega), List.getElem?_take, if_pos hj, Array.getElem?_toList]; exact r5 j hj
    · intro i hi
      unfold Go.RX.splice
      rw [List.getElem?_toArray, List.append_assoc, List.getElem?_append_right (by omega), htk, Nat.add_sub_cancel_left, List.getElem?_append_left (by rw [hm12]; exact hi)]
  · have k0 : (refs z n).length = n * i0.size := by rw [hz1, refs_len]
    have k1 : ∀ j u, (refs z n)[j]? = some u → w2.cell? ((⟨g, 0, none⟩ : Addr).add j) = some u := fun j u hj => by
      obtain ⟨hl, rfl⟩ := refs_get hj
      rw [add_at, Nat.zero_add, cell_of hold]; exact r5 j hl
    have k2 : marks2.length = 2 * i0.size := by rw [hz1]; rfl
    have k3 : cap < n + 2 := by omega
    have k4 : Builtin.nextslicecap (n + 2) cap * i0.bytes ≤ 281474976710656 := by rw [hz2]; exact growslice_fits k3 hb
    have k5 : ((n + 2 : Nat) : Int) ≤ 9223372036854775807 := by omega
    have hrun := fun ty => run_append_grow (P := Try.prog) w2 24 ty 45 i0 _ Try.underlying24 hi hz0 ⟨g, 0, none⟩ n cap (refs z n) k0 k1 ⟨w.heap.size, 0, none⟩ 2 2 marks2 k2 hnews k3 k5 k4
    have hcn : n + 2 ≤ grownCap w2 (n + 2) cap 45 := Nat.le_add_right _ _
    generalize grownCap w2 (n + 2) cap 45 = cap' at hrun hcn
    obtain ⟨cs, hcs⟩ : ∃ cs : Array Value, cs = (refs z n).toArray ++ marks2.toArray ++ Builtin.zeroCells (Value.agg #[.int .i64 0, .int .i64 0, .int .i64 0, .int .i64 0, .int .i64 0, .bool false]).cells (cap' - (n + 2)) := ⟨_, rfl⟩
    rw [← hcs] at hrun
    have hl0 := refs_len z n
    have hget : ∀ j : Nat, cs[j]? = (refs z n ++ (marks2 ++ (Builtin.zeroCells (Value.agg #[.int .i64 0, .int .i64 0, .int .i64 0, .int .i64 0, .int .i64 0, .bool false]).cells (cap' - (n + 2))).toList))[j]? := fun j => by
      rw [hcs, ← Array.getElem?_toList]; simp
    clear hcs
    have hB : But w (w2.drew.alloc (.cells cs 45)) g := hbut.drew.alloc cs 45
    have hnew3 : (w2.drew.alloc (.cells cs 45)).heap[w2.heap.size]? = some (.cells cs 45 (0, 0)) := heap_alloc_new w2.drew (.cells cs 45)
    have hold3 : (w2.drew.alloc (.cells cs 45)).heap[g]? = some (.cells cur 45 (0, 0)) := by
      rw [Below.heap_alloc _ _ _ (show g < w2.drew.heap.size from by show g < w2.heap.size; omega)]; exact hold
    generalize w2.drew.alloc (.cells cs 45) = W at hrun hB hnew3 hold3
    refine ⟨_, W, hrun, w2.heap.size, cap', rfl, But.garb hg hB r1 (fun c e fr h => by rw [hold3] at h; simp only [Option.some.injEq, Obj.cells.injEq] at h; exact h.2.2.symm), ?_, hcn, cs, hnew3, ?_, ?_⟩
    · have := hg.below.size; omega
    · intro j hj
      rw [hget, List.getElem?_append_left (by omega)]; exact refs_at z hj
    · intro i hi
      rw [hget, List.getElem?_append_right (by omega), hl0, Nat.add_sub_cancel_left, List.getElem?_append_left (by rw [hm12]; exact hi)]
def LendPost (w : World) (n : Nat) (z : List R6) (e : Ending) (w' : World) : Prop := ∃ g cap, e = .returned (.slice (some ⟨g, 0, none⟩) n cap) ∧ LentAt w w' g cap n z ∧ Go.RX.Garb w w'
/-- LendRefs. -/
theorem lend_of {n : Nat} {z : List R6} {v : Value} {w : World} (hb : (n + 2) * 48 ≤ 140737488355328) (hv : ∃ A c, v = .slice A n c) (hc : Calls Try.prog 21 #[v] w (CopyPost w n z)) :
    Calls Try.prog 7 #[v] w (LendPost w n z) := by
  obtain ⟨A, c, rfl⟩ := hv
  have hbig : n ≤ 9223372036854775807 := by omega
  go_enter Try.func7, Try.ntmps7
  go_wp2_with (first
    | (go_at_call 21; refine hc.mono ?_; rintro e w1 ⟨g, cap, rfl, hrow, hgb⟩; obtain ⟨v', w3, hrun, g', cap', rfl, hgb', hlent⟩ := app2 w w1 g cap n z hrow hgb hb; have hn2 := hlent.2.1; have hend : LendPost w n z (.returned (.slice (some ⟨g', 0, none⟩) n cap')) w3 := ⟨_, _, rfl, hlent, hgb'⟩; clear hrow hgb hlent hgb' hc)
    | (at_builtin; refine Lib.wpList_append_run _ rfl _ _ _ _ rfl _ _ rfl rfl _ _ (hrun _) ?_))
  first | exact hend | (go_ret; exact hend)
theorem six (z : List R6) (k b off : Nat) (w : World) {n : Nat} (hk : k < n) (h : ∀ j, j < n * 6 → w.cell? ⟨b, off + j, none⟩ = some (val z j)) :
    w.cell? ⟨b, off + k * 6, none⟩ = some (.int .i64 (z.getD k default).i) ∧ w.cell? ⟨b, off + k * 6 + 1, none⟩ = some (.int .i64 (z.getD k default).f) ∧ w.cell? ⟨b, off + k * 6 + 2, none⟩ = some (.int .i64 (z.getD k default).l) ∧ w.cell? ⟨b, off + k * 6 + 3, none⟩ = some (.int .i64 (z.getD k default).m) ∧ w.cell? ⟨b, off + k * 6 + 4, none⟩ = some (.int .i64 (z.getD k default).p) ∧ w.cell? ⟨b, off + k * 6 + 5, none⟩ = some (.bool (z.getD k default).o) := by
  have key : ∀ i, i < 6 → w.cell? ⟨b, off + k * 6 + i, none⟩ = some ((enc (z.getD k default)).getD i undef) := fun i hi => by
    rw [← val_at z k i hi, Nat.add_assoc]; exact h _ (by omega)
  exact ⟨key 0 (by decide), key 1 (by decide), key 2 (by decide), key 3 (by decide), key 4 (by decide), key 5 (by decide)⟩
def TruePost (w : World) (e : Ending) (w' : World) : Prop := e = .returned (.bool true) ∧ ∃ q, w' = w.drewN q
set_option maxHeartbeats 1000000 in
theorem same_ok (b off b' off' n c c' : Nat) (z : List R6) (w : World) (hbig : n ≤ 9223372036854775807)
    (h1 : ∀ j, j < n * 6 → w.cell? ⟨b, off + j, none⟩ = some (val z j)) (h2 : ∀ j, j < n * 6 → w.cell? ⟨b', off' + j, none⟩ = some (val z j)) :
    Calls Try.prog 40 #[.slice (some ⟨b, off, none⟩) n c, .slice (some ⟨b', off', none⟩) n c'] w (TruePost w) := by
  go_enter Try.func40, Try.ntmps40
  go_wp2
  go_loopw [5] (fun i wr => ∃ k : Nat, k ≤ n ∧ i = .int .i64 k ∧ ∃ q, wr = w.drewN q) (fun i _ => n - (intOf i).toNat)
  case atStart => exact ⟨0, Nat.zero_le _, rfl, 0, rfl⟩
  case round =>
    obtain ⟨k, hk, rfl, q, rfl⟩ := hrel
    by_cases hlt : k < n
    · obtain ⟨a0, a1, a2, a3, a4, a5⟩ := six z k b off w hlt h1
      obtain ⟨b0, b1, b2, b3, b4, b5⟩ := six z k b' off' w hlt h2
      clear h1 h2
      go_wp2
      go_quiet (fail)
      go_wp2
      refine ⟨⟨k + 1, by omega, by go_num, _, rfl⟩, by simp [intOf]; omega⟩
    · have hend : TruePost w (.returned (.bool true)) (w.drewN q) := ⟨rfl, q, rfl⟩
      clear h1 h2
      go_wp2
      first | exact hend | (go_ret; exact hend)
theorem same_nil (A B : Option Addr) (c c' : Nat) (w : World) : Calls Try.prog 40 #[.slice A 0 c, .slice B 0 c'] w (TruePost w) := by
  have hend : TruePost w (.returned (.bool true)) w := ⟨rfl, 0, rfl⟩
  go_enter Try.func40, Try.ntmps40
  go_wp2
  go_loopw [5] (fun i wr => i = .int .i64 0 ∧ wr = w) (fun i _ => 0)
  case atStart => exact ⟨rfl, rfl⟩
  case round =>
    obtain ⟨rfl, rfl⟩ := hrel
    go_wp2
    first | exact hend | (go_ret; exact hend)
set_option maxHeartbeats 1000000 in
theorem kept_of {n : Nat} {w : World} {g cap : Nat} {A : Option Addr} {c : Nat} (hbig : ((n + 2 : Nat) : Int) ≤ 9223372036854775807) (hn2 : n + 2 ≤ cap) (hm : ∀ i, i < 12 → w.cell? ⟨g, n * 6 + i, none⟩ = marks2[i]?)
    (hs : Calls Try.prog 40 #[.slice (some ⟨g, 0, none⟩) n cap, .slice A n c] w (TruePost w)) :
    Calls Try.prog 14 #[.slice (some ⟨g, 0, none⟩) n cap, .slice A n c] w (TruePost w) := by
  have hb1 : (n : Int) + 2 ≤ 9223372036854775807 := by omega
  have e0 : w.cell? ⟨g, n * 6, none⟩ = some (.int .i64 77777) := hm 0 (by decide)
  have e1 : w.cell? ⟨g, n * 6 + 1, none⟩ = some (.int .i64 0) := hm 1 (by decide)
  have e2 : w.cell? ⟨g, n * 6 + 2, none⟩ = some (.int .i64 0) := hm 2 (by decide)
  have e3 : w.cell? ⟨g, n * 6 + 3, none⟩ = some (.int .i64 0) := hm 3 (by decide)
  have e4 : w.cell? ⟨g, n * 6 + 4, none⟩ = some (.int .i64 0) := hm 4 (by decide)
  have e5 : w.cell? ⟨g, n * 6 + 5, none⟩ = some (.bool false) := hm 5 (by decide)
  have d : ∀ i, i < 6 → w.cell? ⟨g, (n + 1) * 6 + i, none⟩ = marks2[6 + i]? := fun i hi => by
    rw [show (n + 1) * 6 + i = n * 6 + (6 + i) by omega]; exact hm _ (by omega)
  have f0 : w.cell? ⟨g, (n + 1) * 6, none⟩ = some (.int .i64 77777) := d 0 (by decide)
  have f1 : w.cell? ⟨g, (n + 1) * 6 + 1, none⟩ = some (.int .i64 0) := d 1 (by decide)
  have f2 : w.cell? ⟨g, (n + 1) * 6 + 2, none⟩ = some (.int .i64 0) := d 2 (by decide)
  have f3 : w.cell? ⟨g, (n + 1) * 6 + 3, none⟩ = some (.int .i64 0) := d 3 (by decide)
  have f4 : w.cell? ⟨g, (n + 1) * 6 + 4, none⟩ = some (.int .i64 0) := d 4 (by decide)
  have f5 : w.cell? ⟨g, (n + 1) * 6 + 5, none⟩ = some (.bool false) := d 5 (by decide)
  clear hm d
  have hend : ∀ q, TruePost w (.returned (.bool true)) (w.drewN q) := fun q => ⟨rfl, q, rfl⟩
  go_enter Try.func14, Try.ntmps14
  go_wp2_with (first
    | (go_at_call 40; refine hs.mono ?_; rintro e w1 ⟨rfl, q, rfl⟩))
  all_goals first | exact hend _ | (go_ret; exact hend _)
end Go.Proofs.Ytoheklommpochaa.rf
