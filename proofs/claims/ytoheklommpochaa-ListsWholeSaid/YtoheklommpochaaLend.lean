/- Lists of any length, lent and looked at: contracts. -/
import Derived.Test.YtoheklommpochaaRows
import Derived.Test.YtoheklommpochaaRxL
import Derived.WalkKit
import Derived.WalkSpells
import Derived.BigQuiet
import Derived.Deep.QuietTactic
import Derived.Laws.OwnMore
import Derived.Lib.AppendZeros
namespace Go.Proofs.Ytoheklommpochaa
open Go.RowKit
set_option linter.unusedVariables false
set_option linter.unusedSimpArgs false
theorem same_ok (b off b' off' n c c' : Nat) (z : List Int) (w : World) (hbig : n ≤ 9223372036854775807)
    (h1 : ∀ j, j < n → w.cell? ⟨b, off + j, none⟩ = some (.int .i64 (z.getD j 0))) (h2 : ∀ j, j < n → w.cell? ⟨b', off' + j, none⟩ = some (.int .i64 (z.getD j 0))) :
    Calls Try.prog 10 #[.slice (some ⟨b, off, none⟩) n c, .slice (some ⟨b', off', none⟩) n c'] w fun e w' => e = .returned (.bool true) ∧ ∃ q, w' = w.drewN q := by
  go_enter Try.func10, Try.ntmps10
  go_wp2
  go_loopw [5] (fun i wr => ∃ k : Nat, k ≤ n ∧ i = .int .i64 k ∧ ∃ q, wr = w.drewN q) (fun i _ => n - (intOf i).toNat)
  case atStart => exact ⟨0, Nat.zero_le _, rfl, 0, rfl⟩
  case round =>
    obtain ⟨k, hk, rfl, q, rfl⟩ := hrel
    by_cases hlt : k < n
    · have g1 : (w.drewN q).cell? ⟨b, off + k, none⟩ = some (.int .i64 (z.getD k 0)) := by rw [World.cell?_drewN]; exact h1 k hlt
      have g2 : (w.drewN q).cell? ⟨b', off' + k, none⟩ = some (.int .i64 (z.getD k 0)) := by rw [World.cell?_drewN]; exact h2 k hlt
      go_wp2
      go_quiet (fail)
      go_wp2
      refine ⟨⟨k + 1, by omega, by go_num, _, rfl⟩, by simp [intOf]; omega⟩
    · go_wp2
      go_ret
      exact ⟨rfl, q, rfl⟩
theorem same_nil (A B : Option Addr) (c c' : Nat) (w : World) : Calls Try.prog 10 #[.slice A 0 c, .slice B 0 c'] w fun e w' => e = .returned (.bool true) ∧ ∃ q, w' = w.drewN q := by
  go_enter Try.func10, Try.ntmps10
  go_wp2
  go_loopw [5] (fun i wr => i = .int .i64 0 ∧ wr = w) (fun i _ => 0)
  case atStart => exact ⟨rfl, rfl⟩
  case round =>
    obtain ⟨rfl, rfl⟩ := hrel
    go_wp2
    go_ret
    exact ⟨rfl, 0, rfl⟩
theorem info3 : (Try.prog.info? 3).map (fun i => (i.zero, i.size, i.bytes)) = some (some (.int .i64 0), 1, 8) := by kernel_rfl
def ints (z : List Int) (n : Nat) : List Value := (List.range n).map fun j => Value.int .i64 (z.getD j 0)
theorem ints_len (z : List Int) (n : Nat) : (ints z n).length = n := by simp [ints]
theorem ints_get {z : List Int} {n j : Nat} {u : Value} (h : (ints z n)[j]? = some u) : j < n ∧ u = .int .i64 (z.getD j 0) := by
  have hl : j < n := by
    rcases Nat.lt_or_ge j n with h' | h'
    · exact h'
    · rw [List.getElem?_eq_none (by rw [ints_len]; exact h')] at h; cases h
  refine ⟨hl, ?_⟩
  unfold ints at h
  rw [List.getElem?_map, List.getElem?_range hl] at h
  injection h with h; exact h.symm
theorem ints_at (z : List Int) {n j : Nat} (h : j < n) : (ints z n)[j]? = some (.int .i64 (z.getD j 0)) := by
  unfold ints
  rw [List.getElem?_map, List.getElem?_range h]; rfl
theorem add_at (b o n : Nat) : (⟨b, o, none⟩ : Addr).add n = ⟨b, o + n, none⟩ := by
  unfold Addr.add; split
  · rename_i h; subst h; rfl
  · rfl
theorem grown_fit {n : Nat} (hb : (n + 2) * 8 ≤ 140737488355328) : ((0 + n : Nat) : Int) ≤ 9223372036854775807 ∧ ((n + 2 : Nat) : Int) ≤ 9223372036854775807 := by omega
/-- A row of the call's own that begins with these numbers. -/
def RowAt (w w' : World) (g cap n : Nat) (z : List Int) : Prop := w.heap.size ≤ g ∧ n ≤ cap ∧ ∃ cur : Array Value, w'.heap[g]? = some (.cells cur 3 (0, 0)) ∧ cur.size = cap ∧ ∀ j, j < n → cur[j]? = some (.int .i64 (z.getD j 0))
/-- All blocks but g as they were, new ones soft. -/
structure But (w w' : World) (g : Nat) : Prop where
  os : w'.os = w.os
  tape : w'.tape = w.tape
  output : w'.output = w.output
  size : w.heap.size ≤ w'.heap.size
  block : ∀ k, k < w.heap.size → k ≠ g → w'.heap[k]? = w.heap[k]?
  soft : ∀ b, w.heap.size ≤ b → ∀ c e fr, w'.heap[b]? = some (.cells c e fr) → fr = (0, 0)
theorem But.alloc {w w' : World} {g : Nat} (h : But w w' g) (c : Array Value) (e : TypeId) : But w (w'.alloc (.cells c e)) g := by
  have hh : (w'.alloc (.cells c e)).heap = w'.heap.push (.cells c e) := rfl
  refine ⟨h.os, h.tape, h.output, by rw [hh]; simp; have := h.size; omega, fun k hk hne => ?_, fun b hb c' e' fr hx => ?_⟩
  · rw [Below.heap_alloc _ _ _ (Nat.lt_of_lt_of_le hk h.size)]; exact h.block k hk hne
  · rw [hh, Array.getElem?_push] at hx
    split at hx
    · injection hx with hx; injection hx with _ _ hx; exact hx.symm
    · exact h.soft b hb c' e' fr hx
theorem But.refl (w : World) (g : Nat) : But w w g := ⟨rfl, rfl, rfl, Nat.le_refl _, fun _ _ _ => rfl, fun b hb c e fr h => by rw [Array.getElem?_eq_none hb] at h; cases h⟩
theorem But.drew {w w' : World} {g : Nat} (h : But w w' g) : But w w'.drew g := ⟨h.os, h.tape, h.output, h.size, h.block, h.soft⟩
theorem But.garb {w w1 w' : World} {g : Nat} (h : Go.RX.Garb w w1) (h' : But w1 w' g) (hg : w.heap.size ≤ g) (hs : ∀ c e fr, w'.heap[g]? = some (.cells c e fr) → fr = (0, 0)) : Go.RX.Garb w w' := by
  refine ⟨⟨h'.os.trans h.below.os, h'.tape.trans h.below.tape, h'.output.trans h.below.output, Nat.le_trans h.below.size h'.size, fun k hk => ?_⟩, fun b hb c e fr hx => ?_⟩
  · rw [h'.block k (Nat.lt_of_lt_of_le hk h.below.size) (by omega)]; exact h.below.block k hk
  · by_cases hbg : b = g
    · subst hbg; exact hs c e fr hx
    · rcases Nat.lt_or_ge b w1.heap.size with hlt | hge
      · rw [h'.block b hlt hbg] at hx; exact h.soft b hb c e fr hx
      · exact h'.soft b hge c e fr hx
theorem copy_nil (A : Option Addr) (c : Nat) (z : List Int) (w : World) : Calls Try.prog 19 #[.slice A 0 c] w fun e w' => ∃ g cap, e = .returned (.slice (some ⟨g, 0, none⟩) 0 cap) ∧ RowAt w w' g cap 0 z ∧ Go.RX.Garb w w' := by
  obtain ⟨i0, hi, hz0, hz1, hz2⟩ := info_parts info3
  have ha : ∀ (w : World) (h ty : Nat), (Builtin.append_ #[22, 22] ty #[.slice (some ⟨h, 0, none⟩) 0 0, .slice A 0 c]).run Try.prog w = .ok (.slice (some ⟨h, 0, none⟩) 0 0) w := fun w h ty => by
    cases A <;> simp [Builtin.append_, run_underlying Try.underlying22, sizeOf, typeInfo, hi, Builtin.lenOf, Builtin.firstCells, storeCells, loadCells, loadCellsFrom]
  clear hi hz0 hz1 hz2
  have hgb : Go.RX.Garb w (w.alloc (.cells #[] 3)) := But.garb (Go.RX.Garb.refl w) ((But.refl w w.heap.size).alloc #[] 3) (Nat.le_refl _) (fun c e fr h => by rw [heap_alloc_new] at h; injection h with h; injection h with _ _ h; exact h.symm)
  have hrow : RowAt w (w.alloc (.cells #[] 3)) w.heap.size 0 0 z := ⟨Nat.le_refl _, Nat.le_refl _, #[], heap_alloc_new w _, rfl, fun j hj => by omega⟩
  generalize hQ : (fun (e : Ending) (w' : World) => ∃ g cap, e = .returned (.slice (some ⟨g, 0, none⟩) 0 cap) ∧ RowAt w w' g cap 0 z ∧ Go.RX.Garb w w') = Q0
  have hend : Q0 (.returned (.slice (some ⟨w.heap.size, 0, none⟩) 0 0)) (w.alloc (.cells #[] 3)) := by subst hQ; exact ⟨_, _, rfl, hrow, hgb⟩
  clear hQ hgb hrow
  go_enter Try.func19, Try.ntmps19
  go_wp2_with (at_builtin; refine Lib.wpList_append_run _ rfl _ _ _ _ rfl _ _ rfl rfl _ _ (ha _ _ _) ?_)
  exact hend
theorem copy_some (b off c n : Nat) (z : List Int) (w : World) (hn : 0 < n) (hb : (n + 2) * 8 ≤ 140737488355328) (h1 : ∀ j, j < n → w.cell? ⟨b, off + j, none⟩ = some (.int .i64 (z.getD j 0))) :
    Calls Try.prog 19 #[.slice (some ⟨b, off, none⟩) n c] w fun e w' => ∃ g cap, e = .returned (.slice (some ⟨g, 0, none⟩) n cap) ∧ RowAt w w' g cap n z ∧ Go.RX.Garb w w' := by
  obtain ⟨i0, hi, hz0, hz1, hz2⟩ := info_parts info3
  have k1 : (ints z n).length = n * i0.size := by rw [hz1, ints_len]; omega
  have k2 : Builtin.nextslicecap (0 + n) 0 * i0.bytes ≤ 281474976710656 := by rw [hz2]; exact growslice_fits (by omega) (by omega)
  have k3 : 0 < 0 + n := by omega
  obtain ⟨cap, hcap⟩ : ∃ cap, cap = grownCap (w.alloc (.cells #[] 3)) n 0 3 := ⟨_, rfl⟩
  obtain ⟨cs, hcs⟩ : ∃ cs, cs = (ints z n).toArray ++ Builtin.zeroCells #[.int .i64 0] (cap - n) := ⟨_, rfl⟩
  have hcn : n ≤ cap := by rw [hcap]; exact Nat.le_add_right _ _
  have ha : ∀ ty : Nat, (Builtin.append_ #[22, 22] ty #[.slice (some ⟨w.heap.size, 0, none⟩) 0 0, .slice (some ⟨b, off, none⟩) n c]).run Try.prog (w.alloc (.cells #[] 3)) =
      .ok (.slice (some ⟨w.heap.size + 1, 0, none⟩) n cap) ((w.alloc (.cells #[] 3)).drew.alloc (.cells cs 3)) := fun ty => by
    have h := run_append_grow (w.alloc (.cells #[] 3)) 22 ty 3 i0 (.int .i64 0) Try.underlying22 hi hz0 ⟨w.heap.size, 0, none⟩ 0 0 [] (by simp) (by simp) ⟨b, off, none⟩ n c (ints z n) k1 (fun j u hj => by
      obtain ⟨hl, rfl⟩ := ints_get hj
      have := h1 j hl
      rw [add_at, World.cell?_of_block (w := w) (Below.heap_alloc _ _ _ (World.block_lt_of_cell? w _ this))]; exact this) k3 (grown_fit hb).1 k2
    rw [show (Value.int IntKind.i64 0).cells = #[.int .i64 0] from rfl] at h
    rw [hcs, hcap]
    simpa using h
  have hsz : cs.size = cap := by rw [hcs]; simp [ints_len, Builtin.zeroCells]; omega
  have hat : ∀ j, j < n → cs[j]? = some (.int .i64 (z.getD j 0)) := fun j hj => by
    rw [hcs, Array.getElem?_append, if_pos (by simp [ints_len]; omega), List.getElem?_toArray]; exact ints_at z hj
  have hnew : ((w.alloc (.cells #[] 3)).drew.alloc (.cells cs 3)).heap[w.heap.size + 1]? = some (.cells cs 3 (0, 0)) := by
    have := heap_alloc_new (w.alloc (.cells #[] 3)).drew (.cells cs 3)
    rwa [show (w.alloc (.cells #[] 3)).drew.heap.size = w.heap.size + 1 from by show (w.heap.push _).size = _; simp] at this
  have hB : But w ((w.alloc (.cells #[] 3)).drew.alloc (.cells cs 3)) (w.heap.size + 1) := ((But.refl w (w.heap.size + 1)).alloc #[] 3).drew.alloc cs 3
  have hgb : Go.RX.Garb w ((w.alloc (.cells #[] 3)).drew.alloc (.cells cs 3)) := by
    generalize (w.alloc (.cells #[] 3)).drew.alloc (.cells cs 3) = W at hB hnew
    refine But.garb (Go.RX.Garb.refl w) hB (Nat.le_succ _) fun c e fr h => ?_
    rw [hnew] at h
    simp only [Option.some.injEq, Obj.cells.injEq] at h
    exact h.2.2.symm
  have hrow : RowAt w ((w.alloc (.cells #[] 3)).drew.alloc (.cells cs 3)) (w.heap.size + 1) cap n z := ⟨Nat.le_succ _, hcn, cs, hnew, hsz, hat⟩
  generalize hQ : (fun (e : Ending) (w' : World) => ∃ g cap, e = .returned (.slice (some ⟨g, 0, none⟩) n cap) ∧ RowAt w w' g cap n z ∧ Go.RX.Garb w w') = Q0
  have hend : Q0 (.returned (.slice (some ⟨w.heap.size + 1, 0, none⟩) n cap)) ((w.alloc (.cells #[] 3)).drew.alloc (.cells cs 3)) := by subst hQ; exact ⟨_, _, rfl, hrow, hgb⟩
  clear hQ hgb hrow hnew hat hsz hcs hcap hi hz0 hz1 hz2 h1 hcn
  go_enter Try.func19, Try.ntmps19
  go_wp2_with (at_builtin; refine Lib.wpList_append_run _ rfl _ _ _ _ rfl _ _ rfl rfl _ _ (ha _) ?_)
  exact hend
/-- A row of the call's own: these numbers and the marked room. -/
def LentAt (w w' : World) (g cap n : Nat) (z : List Int) : Prop := w.heap.size ≤ g ∧ n + 2 ≤ cap ∧ ∃ cur : Array Value, w'.heap[g]? = some (.cells cur 3 (0, 0)) ∧ (∀ j, j < n → cur[j]? = some (.int .i64 (z.getD j 0))) ∧ cur[n]? = some (.int .i64 (-7777)) ∧ cur[n + 1]? = some (.int .i64 (-8888))
theorem lt_of_some {w : World} {g : Nat} {o : Obj} (h : w.heap[g]? = some o) : g < w.heap.size := by
  rcases Nat.lt_or_ge g w.heap.size with hb | hb
  · exact hb
  · rw [Array.getElem?_eq_none hb] at h; cases h
theorem cell_of {w : World} {g j : Nat} {c : Array Value} {e : TypeId} {fr : Nat × Nat} (h : w.heap[g]? = some (.cells c e fr)) : w.cell? ⟨g, j, none⟩ = c[j]? := by
  unfold World.cell?
  simp only [h]
  rfl
theorem app2 (w0 w : World) (g cap n : Nat) (z : List Int) (hrow : RowAt w0 w g cap n z) (hg : Go.RX.Garb w0 w) (hb : (n + 2) * 8 ≤ 140737488355328) :
    ∃ v' w', (∀ ty : Nat, (Builtin.append_ #[22, 22] ty #[.slice (some ⟨g, 0, none⟩) n cap, .slice (some ⟨w.heap.size, 0, none⟩) 2 2]).run Try.prog (w.alloc (.cells #[.int .i64 (-7777), .int .i64 (-8888)] 3)) = .ok v' w') ∧
      ∃ g' cap', v' = .slice (some ⟨g', 0, none⟩) (n + 2) cap' ∧ Go.RX.Garb w0 w' ∧ LentAt w0 w' g' cap' n z := by
  obtain ⟨i0, hi, hz0, hz1, hz2⟩ := info_parts info3
  obtain ⟨r1, r2, cur, r3, r4, r5⟩ := hrow
  have hlt := lt_of_some r3
  have hne : g ≠ w.heap.size := Nat.ne_of_lt hlt
  obtain ⟨w2, hw2⟩ : ∃ w2, w2 = w.alloc (.cells #[.int .i64 (-7777), .int .i64 (-8888)] 3) := ⟨_, rfl⟩
  rw [← hw2]
  have hnew : w2.heap[w.heap.size]? = some (.cells #[.int .i64 (-7777), .int .i64 (-8888)] 3 (0, 0)) := by rw [hw2]; exact heap_alloc_new w _
  have hold : w2.heap[g]? = some (.cells cur 3 (0, 0)) := by rw [hw2, Below.heap_alloc _ _ _ hlt]; exact r3
  have hs2 : w2.heap.size = w.heap.size + 1 := by rw [hw2]; show (w.heap.push _).size = _; simp
  have hbut : But w w2 g := by rw [hw2]; exact (But.refl w g).alloc _ _
  have hnews : ∀ (j : Nat) u, [Value.int .i64 (-7777), Value.int .i64 (-8888)][j]? = some u → w2.cell? ((⟨w.heap.size, 0, none⟩ : Addr).add j) = some u := fun j u hj => by
    rw [add_at, Nat.zero_add, cell_of hnew]
    rw [← hj]; simp
  by_cases hroom : n + 2 ≤ cap
  · have h1 : ∀ v ∈ [Value.int .i64 (-7777), Value.int .i64 (-8888)], v.oneCell' = true := fun v hv => by
      simp only [List.mem_cons, List.not_mem_nil, or_false] at hv
      rcases hv with rfl | rfl <;> rfl
    have hst := Go.RX.run_storeCells (P := Try.prog) [Value.int .i64 (-7777), Value.int .i64 (-8888)] hold n 0 (by simp; omega) h1
    obtain ⟨w3, hw3⟩ : ∃ w3, w3 = { w2 with heap := w2.heap.setIfInBounds g (.cells (Go.RX.splice cur (n + 0) [Value.int .i64 (-7777), Value.int .i64 (-8888)]) 3 (0, 0)) } := ⟨_, rfl⟩
    rw [← hw3] at hst
    have h3 : w3.heap[g]? = some (.cells (Go.RX.splice cur n [Value.int .i64 (-7777), Value.int .i64 (-8888)]) 3 (0, 0)) := by
      rw [hw3]
      show (w2.heap.setIfInBounds g _)[g]? = _
      rw [Array.getElem?_setIfInBounds_self_of_lt (by omega)]; rfl
    have ho : ∀ k, k ≠ g → w3.heap[k]? = w2.heap[k]? := fun k hk => by
      rw [hw3]
      show (w2.heap.setIfInBounds g _)[k]? = _
      rw [Array.getElem?_setIfInBounds, if_neg (Ne.symm hk)]
    have hs3 : w3.heap.size = w2.heap.size := by rw [hw3]; show (w2.heap.setIfInBounds g _).size = _; simp
    have hb3 : But w w3 g := by
      refine ⟨by rw [hw3]; exact hbut.os, by rw [hw3]; exact hbut.tape, by rw [hw3]; exact hbut.output, by rw [hs3]; exact hbut.size, fun k hk hne => by rw [ho k hne]; exact hbut.block k hk hne, fun b hb c e fr hx => ?_⟩
      have hbg : b ≠ g := fun q => by subst q; exact absurd hlt (Nat.not_lt.2 hb)
      rw [ho b hbg] at hx; exact hbut.soft b hb c e fr hx
    refine ⟨.slice (some ⟨g, 0, none⟩) (n + 2) cap, w3, fun ty => ?_, g, cap, rfl, But.garb hg hb3 r1 (fun c e fr h => by rw [h3] at h; simp only [Option.some.injEq, Obj.cells.injEq] at h; exact h.2.2.symm), r1, hroom, _, h3, ?_, ?_, ?_⟩
    · have hf := run_firstCells_some (P := Try.prog) w2 i0.size 2 ⟨w.heap.size, 0, none⟩ 2 2 [Value.int .i64 (-7777), Value.int .i64 (-8888)] (by rw [hz1]; rfl) hnews
      rw [Go.RX.run_append_room (P := Try.prog) (w := w2) (ts := #[22, 22]) (t := 22) (xt := 22) (n := 2) rfl rfl Try.underlying22 Try.underlying22 hi hroom (by rfl) hf]
      simp only [hz1, Nat.mul_one]
      rw [add_at, Nat.zero_add, hst]; rfl
    · intro j hj
      unfold Go.RX.splice
      rw [List.getElem?_toArray, List.append_assoc, List.getElem?_append_left (by simp; omega), List.getElem?_take, if_pos hj, Array.getElem?_toList]; exact r5 j hj
    · unfold Go.RX.splice
      rw [List.getElem?_toArray, List.append_assoc, List.getElem?_append_right (by simp; omega)]
      have : n - (cur.toList.take n).length = 0 := by simp; omega
      rw [this]; rfl
    · unfold Go.RX.splice
      rw [List.getElem?_toArray, List.append_assoc, List.getElem?_append_right (by simp; omega)]
      have : n + 1 - (cur.toList.take n).length = 1 := by simp; omega
      rw [this]; rfl
  · have k0 : (ints z n).length = n * i0.size := by rw [hz1, ints_len]; omega
    have k1 : ∀ j u, (ints z n)[j]? = some u → w2.cell? ((⟨g, 0, none⟩ : Addr).add j) = some u := fun j u hj => by
      obtain ⟨hl, rfl⟩ := ints_get hj
      rw [add_at, Nat.zero_add, cell_of hold]; exact r5 j hl
    have k2 : [Value.int .i64 (-7777), Value.int .i64 (-8888)].length = 2 * i0.size := by rw [hz1]; rfl
    have k3 : cap < n + 2 := by omega
    have k4 : Builtin.nextslicecap (n + 2) cap * i0.bytes ≤ 281474976710656 := by rw [hz2]; exact growslice_fits k3 hb
    have hrun := fun ty => run_append_grow (P := Try.prog) w2 22 ty 3 i0 (.int .i64 0) Try.underlying22 hi hz0 ⟨g, 0, none⟩ n cap (ints z n) k0 k1 ⟨w.heap.size, 0, none⟩ 2 2 [Value.int .i64 (-7777), Value.int .i64 (-8888)] k2 hnews k3 (grown_fit hb).2 k4
    have hcn : n + 2 ≤ grownCap w2 (n + 2) cap 3 := Nat.le_add_right _ _
    generalize grownCap w2 (n + 2) cap 3 = cap' at hrun hcn
    obtain ⟨cs, hcs⟩ : ∃ cs : Array Value, cs = (ints z n).toArray ++ [Value.int .i64 (-7777), Value.int .i64 (-8888)].toArray ++ Builtin.zeroCells (Value.int .i64 0).cells (cap' - (n + 2)) := ⟨_, rfl⟩
    rw [← hcs] at hrun
    have hl0 := ints_len z n
    have hget : ∀ j : Nat, cs[j]? = (ints z n ++ ([Value.int .i64 (-7777), Value.int .i64 (-8888)] ++ (Builtin.zeroCells (Value.int .i64 0).cells (cap' - (n + 2))).toList))[j]? := fun j => by
      rw [hcs, ← Array.getElem?_toList]; simp
    clear hcs
    have hB : But w (w2.drew.alloc (.cells cs 3)) g := hbut.drew.alloc cs 3
    have hnew3 : (w2.drew.alloc (.cells cs 3)).heap[w2.heap.size]? = some (.cells cs 3 (0, 0)) := heap_alloc_new w2.drew (.cells cs 3)
    have hold3 : (w2.drew.alloc (.cells cs 3)).heap[g]? = some (.cells cur 3 (0, 0)) := by
      rw [Below.heap_alloc _ _ _ (show g < w2.drew.heap.size from by show g < w2.heap.size; omega)]; exact hold
    generalize w2.drew.alloc (.cells cs 3) = W at hrun hB hnew3 hold3
    refine ⟨_, W, hrun, w2.heap.size, cap', rfl, But.garb hg hB r1 (fun c e fr h => by rw [hold3] at h; simp only [Option.some.injEq, Obj.cells.injEq] at h; exact h.2.2.symm), ?_, hcn, cs, hnew3, ?_, ?_, ?_⟩
    · have := hg.below.size; omega
    · intro j hj
      rw [hget, List.getElem?_append_left (by omega)]; exact ints_at z hj
    · rw [hget, List.getElem?_append_right (by omega), hl0, Nat.sub_self]; rfl
    · rw [hget, List.getElem?_append_right (by omega), hl0, Nat.add_sub_cancel_left]; rfl
/-- LendInts. -/
theorem lend_of {n : Nat} {z : List Int} {v : Value} {w : World} (hb : (n + 2) * 8 ≤ 140737488355328) (hv : ∃ A c, v = .slice A n c)
    (hc : Calls Try.prog 19 #[v] w fun e w' => ∃ g cap, e = .returned (.slice (some ⟨g, 0, none⟩) n cap) ∧ RowAt w w' g cap n z ∧ Go.RX.Garb w w') :
    Calls Try.prog 5 #[v] w fun e w' => ∃ g cap, e = .returned (.slice (some ⟨g, 0, none⟩) n cap) ∧ LentAt w w' g cap n z ∧ Go.RX.Garb w w' := by
  obtain ⟨A, c, rfl⟩ := hv
  have hbig : n ≤ 9223372036854775807 := by omega
  generalize hQ : (fun (e : Ending) (w' : World) => ∃ g cap, e = .returned (.slice (some ⟨g, 0, none⟩) n cap) ∧ LentAt w w' g cap n z ∧ Go.RX.Garb w w') = Q0
  have hend : ∀ g cap w', LentAt w w' g cap n z → Go.RX.Garb w w' → Q0 (.returned (.slice (some ⟨g, 0, none⟩) n cap)) w' := by subst hQ; exact fun g cap w' h h' => ⟨_, _, rfl, h, h'⟩
  clear hQ
  go_enter Try.func5, Try.ntmps5
  go_wp2_with (first
    | (go_at_call 19; refine hc.mono ?_; rintro e w1 ⟨g, cap, rfl, hrow, hgb⟩; obtain ⟨v', w3, hrun, g', cap', rfl, hgb', hlent⟩ := app2 w w1 g cap n z hrow hgb hb; have hn2 := hlent.2.1)
    | (at_builtin; refine Lib.wpList_append_run _ rfl _ _ _ _ rfl _ _ rfl rfl _ _ (hrun _) ?_))
  exact hend _ _ _ hlent hgb'
theorem kept_of {n : Nat} {w : World} {g cap : Nat} {A : Option Addr} {c : Nat} (hbig : ((n + 2 : Nat) : Int) ≤ 9223372036854775807) (hn2 : n + 2 ≤ cap) (c1 : w.cell? ⟨g, n, none⟩ = some (.int .i64 (-7777))) (c2 : w.cell? ⟨g, n + 1, none⟩ = some (.int .i64 (-8888)))
    (hs : Calls Try.prog 10 #[.slice (some ⟨g, 0, none⟩) n cap, .slice A n c] w fun e w' => e = .returned (.bool true) ∧ ∃ q, w' = w.drewN q) :
    Calls Try.prog 12 #[.slice (some ⟨g, 0, none⟩) n cap, .slice A n c] w fun e w' => e = .returned (.bool true) ∧ ∃ q, w' = w.drewN q := by
  have hb1 : (n : Int) + 2 ≤ 9223372036854775807 := by omega
  have hd1 : ∀ q, (w.drewN q).cell? ⟨g, n, none⟩ = some (.int .i64 (-7777)) := fun q => by rw [World.cell?_drewN]; exact c1
  have hd2 : ∀ q, (w.drewN q).cell? ⟨g, n + 1, none⟩ = some (.int .i64 (-8888)) := fun q => by rw [World.cell?_drewN]; exact c2
  clear c1 c2
  go_enter Try.func12, Try.ntmps12
  go_wp2_with (first
    | (go_at_call 10; refine hs.mono ?_; rintro e w1 ⟨rfl, q, rfl⟩; have e1 := hd1 q; have e2 := hd2 q))
  go_ret
  exact ⟨rfl, q, rfl⟩
/-! ### The same, told over rows -/
/-- n numbers lie at A. -/
def Row0 (w : World) (A : Option Addr) (n : Nat) (z : List Int) : Prop := n = 0 ∨ ∃ b off, A = some ⟨b, off, none⟩ ∧ b < w.heap.size ∧ ∀ j, j < n → w.cell? ⟨b, off + j, none⟩ = some (.int .i64 (z.getD j 0))
structure RowIs (w : World) (A : Option Addr) (n c : Nat) (z : List Int) : Prop where
  cap : n ≤ c
  fit : (n + 2) * 8 ≤ 140737488355328
  bd : ∀ x ∈ z, (-9223372036854775808 : Int) ≤ x ∧ x ≤ 9223372036854775807
  row : Row0 w A n z
/-- A row that was lent: the numbers, the marked room. -/
def LentNow (w : World) (g cap n : Nat) (z : List Int) : Prop := n + 2 ≤ cap ∧ ∃ cur : Array Value, w.heap[g]? = some (.cells cur 3 (0, 0)) ∧ (∀ j, j < n → cur[j]? = some (.int .i64 (z.getD j 0))) ∧ cur[n]? = some (.int .i64 (-7777)) ∧ cur[n + 1]? = some (.int .i64 (-8888))
theorem Row0.garb {w w' : World} {A : Option Addr} {n : Nat} {z : List Int} (h : Row0 w A n z) (hg : Go.RX.Garb w w') : Row0 w' A n z := by
  rcases h with h | ⟨b, off, e, hb, hc⟩
  · exact .inl h
  · exact .inr ⟨b, off, e, Nat.lt_of_lt_of_le hb hg.below.size, fun j hj => by rw [World.cell?_of_block (w := w) (hg.below.block b hb)]; exact hc j hj⟩
theorem RowIs.garb {w w' : World} {A : Option Addr} {n c : Nat} {z : List Int} (h : RowIs w A n c z) (hg : Go.RX.Garb w w') : RowIs w' A n c z := ⟨h.cap, h.fit, h.bd, h.row.garb hg⟩
theorem Row0.cut {w : World} {A : Option Addr} {n k : Nat} {z : List Int} (h : Row0 w A n z) (hk : k ≤ n) : Row0 w A k z := by
  rcases h with h | ⟨b, off, e, hb, hc⟩
  · exact .inl (by omega)
  · exact .inr ⟨b, off, e, hb, fun j hj => hc j (by omega)⟩
theorem RowIs.cut {w : World} {A : Option Addr} {n c k : Nat} {z : List Int} (h : RowIs w A n c z) (hk : k ≤ n) : RowIs w A k c z := ⟨Nat.le_trans hk h.cap, by have := h.fit; omega, h.bd, h.row.cut hk⟩
theorem RowIs.none (w : World) {z : List Int} (hz : ∀ x ∈ z, (-9223372036854775808 : Int) ≤ x ∧ x ≤ 9223372036854775807) : RowIs w none 0 0 z := ⟨Nat.le_refl _, by decide, hz, .inl rfl⟩
theorem LentNow.garb {w w' : World} {g cap n : Nat} {z : List Int} (h : LentNow w g cap n z) (hg : Go.RX.Garb w w') : LentNow w' g cap n z := by
  obtain ⟨h1, cur, h2, h3⟩ := h
  exact ⟨h1, cur, by rw [hg.below.block g (lt_of_some h2)]; exact h2, h3⟩
theorem LentNow.row {w : World} {g cap n : Nat} {z : List Int} (h : LentNow w g cap n z) : Row0 w (some ⟨g, 0, none⟩) n z := by
  obtain ⟨h1, cur, h2, h3, _⟩ := h
  exact .inr ⟨g, 0, rfl, lt_of_some h2, fun j hj => by rw [Nat.zero_add, cell_of h2]; exact h3 j hj⟩
theorem LentNow.rowIs {w : World} {g cap n c : Nat} {z : List Int} {A : Option Addr} (h : LentNow w g cap n z) (h' : RowIs w A n c z) : RowIs w (some ⟨g, 0, none⟩) n cap z := ⟨by have := h.1; omega, h'.fit, h'.bd, h.row⟩
theorem drewN_garb (w : World) (q : Nat) : Go.RX.Garb w (w.drewN q) := Go.RX.Garb.drew w _
theorem sameL {w : World} {A B : Option Addr} {n c c' : Nat} {z : List Int} (hn : n ≤ 9223372036854775807) (h1 : Row0 w A n z) (h2 : Row0 w B n z) : Calls Try.prog 10 #[.slice A n c, .slice B n c'] w fun e w' => e = .returned (.bool true) ∧ ∃ q, w' = w.drewN q := by
  rcases h1 with rfl | ⟨b, off, rfl, _, hc⟩
  · exact same_nil A B c c' w
  · rcases h2 with rfl | ⟨b', off', rfl, _, hc'⟩
    · exact same_nil _ B c c' w
    · exact same_ok b off b' off' n c c' z w hn hc hc'
theorem lendL {w : World} {A : Option Addr} {n c : Nat} {z : List Int} (h : RowIs w A n c z) : Calls Try.prog 5 #[.slice A n c] w fun e w' => ∃ g cap, e = .returned (.slice (some ⟨g, 0, none⟩) n cap) ∧ (LentNow w' g cap n z ∧ w.heap.size ≤ g) ∧ Go.RX.Garb w w' := by
  refine (lend_of (z := z) h.fit ⟨A, c, rfl⟩ ?_).mono ?_
  · rcases Nat.eq_zero_or_pos n with h0 | hn
    · have hh := h.cap
      subst h0
      exact copy_nil A c z w
    · rcases h.row with rfl | ⟨b, off, rfl, _, hc⟩
      · omega
      · exact copy_some b off c n z w hn h.fit hc
  · rintro e w' ⟨g, cap, rfl, ⟨h1, h2, cur, h3, h4⟩, hgb⟩
    exact ⟨g, cap, rfl, ⟨⟨h2, cur, h3, h4⟩, h1⟩, hgb⟩
theorem keptL {w : World} {A : Option Addr} {n c g cap : Nat} {z : List Int} (h : RowIs w A n c z) (h' : LentNow w g cap n z) : Calls Try.prog 12 #[.slice (some ⟨g, 0, none⟩) n cap, .slice A n c] w fun e w' => e = .returned (.bool true) ∧ ∃ q, w' = w.drewN q := by
  have hf := h.fit
  obtain ⟨h1, cur, h2, h3, h4, h5⟩ := id h'
  exact kept_of (by omega) h1 (by rw [cell_of h2]; exact h4) (by rw [cell_of h2]; exact h5) (sameL (by omega) h'.row h.row)
/-- SpoilInts: its row alone changes. -/
theorem spoilL {w : World} {b n c : Nat} {cur : Array Value} {el : TypeId} (hn : n ≤ 9223372036854775807) (hb : w.heap[b]? = some (.cells cur el (0, 0))) (hi : ∀ j, j < n → ∃ x : Int, cur[j]? = some (.int .i64 x)) :
    Calls Try.prog 15 #[.slice (some ⟨b, 0, none⟩) n c] w fun e w' => e = .returned (.tuple #[]) ∧ But w w' b ∧ (∀ c e fr, w'.heap[b]? = some (.cells c e fr) → fr = (0, 0)) := by
  have hlt := lt_of_some hb
  generalize hQ : (fun (e : Ending) (w' : World) => e = .returned (.tuple #[]) ∧ But w w' b ∧ (∀ c e fr, w'.heap[b]? = some (.cells c e fr) → fr = (0, 0))) = Q0
  have hend : ∀ w', (But w w' b ∧ ∃ cur : Array Value, w'.heap[b]? = some (.cells cur el (0, 0)) ∧ ∀ j, j < n → ∃ x : Int, cur[j]? = some (.int .i64 x)) → Q0 (.returned (.tuple #[])) w' := by
    subst hQ
    rintro w' ⟨h1, cur, h2, _⟩
    exact ⟨rfl, h1, fun c e fr h => by rw [h2] at h; simp only [Option.some.injEq, Obj.cells.injEq] at h; exact h.2.2.symm⟩
  clear hQ
  have h0 : But w w b ∧ ∃ cur : Array Value, w.heap[b]? = some (.cells cur el (0, 0)) ∧ ∀ j, j < n → ∃ x : Int, cur[j]? = some (.int .i64 x) := ⟨But.refl w b, cur, hb, hi⟩
  clear hb hi
  go_enter Try.func15, Try.ntmps15
  go_wp2
  go_loopw [2] (fun i wr => (∃ k : Nat, k ≤ n ∧ i = .int .i64 k) ∧ (But w wr b ∧ ∃ cur : Array Value, wr.heap[b]? = some (.cells cur el (0, 0)) ∧ ∀ j, j < n → ∃ x : Int, cur[j]? = some (.int .i64 x))) (fun i _ => n - (intOf i).toNat)
  case atStart => exact ⟨⟨0, Nat.zero_le _, rfl⟩, h0⟩
  case round =>
    obtain ⟨⟨k, hk, rfl⟩, hbut, cur, hc, hi⟩ := hrel
    by_cases hltk : k < n
    · obtain ⟨x, hx⟩ := hi k hltk
      have g1 : wr.cell? ⟨b, k, none⟩ = some (.int .i64 x) := by rw [cell_of hc]; exact hx
      have g2 : wr.frozen? ⟨b, k, none⟩ = false := by unfold World.frozen?; simp only [hc]; simp
      have nxt : ∀ y : Int, (But w (wr.setCell ⟨b, k, none⟩ (.int .i64 y)) b ∧ ∃ cur : Array Value, (wr.setCell ⟨b, k, none⟩ (.int .i64 y)).heap[b]? = some (.cells cur el (0, 0)) ∧ ∀ j, j < n → ∃ x : Int, cur[j]? = some (.int .i64 x)) := fun y => by
        have hlt' := lt_of_some hc
        have hs := heap_setCell_same wr b k cur el (.int .i64 y) hc
        refine ⟨⟨hbut.os, hbut.tape, hbut.output, by rw [show (wr.setCell ⟨b, k, none⟩ (.int .i64 y)).heap.size = wr.heap.size from by simp [World.setCell]]; exact hbut.size, fun q hq hne => ?_, fun q hq c e fr hx => ?_⟩, _, hs, fun j hj => ?_⟩
        · rw [heap_setCell_other wr ⟨b, k, none⟩ q _ hne]; exact hbut.block q hq hne
        · have hqb : q ≠ b := fun e => by subst e; omega
          rw [heap_setCell_other wr ⟨b, k, none⟩ q _ hqb] at hx; exact hbut.soft q hq c e fr hx
        · rw [Array.getElem?_setIfInBounds]
          split
          · rename_i e; subst e
            obtain ⟨x', hx'⟩ := hi k hj
            split
            · exact ⟨y, rfl⟩
            · rename_i hnl
              exact absurd hx' (by rw [Array.getElem?_eq_none (by omega)]; simp)
          · exact hi j hj
      clear hc hi hx hbut
      go_wp2
      refine ⟨⟨⟨k + 1, by omega, by go_num⟩, nxt _⟩, by simp [intOf]; omega⟩
    · have hres := hend wr ⟨hbut, cur, hc, hi⟩
      clear hbut hc hi
      go_wp2
      first | exact hres | (go_end0; exact hres)
theorem num_ok (a : Int) (w : World) : Calls Try.prog 11 #[.int .i64 a] w fun e w' => e = .returned (.int .i64 a) ∧ w' = w := by
  go_enter Try.func11, Try.ntmps11
  go_wp2
  go_ret
  exact ⟨rfl, rfl⟩
end Go.Proofs.Ytoheklommpochaa
