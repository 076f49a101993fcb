/- Lists of numbers in blocks of the call's own: append, Clone. -/
import Derived.Test.YtoheklommpochaaLendR
import Derived.Test.YtoheklommpochaaLendM
namespace Go.Proofs.Ytoheklommpochaa.ls
open Go.RowKit Go.Proofs.Ytoheklommpochaa
open Go.RX (Garb)
set_option linter.unusedVariables false
set_option linter.unusedSimpArgs false
/-- A list in a block of its own, with room up to cap. -/
def OwnI (w : World) (g cap : Nat) (l : List Int) : Prop :=
  ∃ cur : Array Value, w.heap[g]? = some (.cells cur 3 (0, 0)) ∧ cap ≤ cur.size ∧ l.length ≤ cap ∧ ∀ j, j < l.length → cur[j]? = some (.int .i64 (l.getD j 0))
theorem OwnI.lt {w : World} {g cap : Nat} {l : List Int} (h : OwnI w g cap l) : g < w.heap.size := by
  obtain ⟨_, h, _⟩ := h; exact lt_of_some h
theorem OwnI.cap {w : World} {g cap : Nat} {l : List Int} (h : OwnI w g cap l) : l.length ≤ cap := by
  obtain ⟨_, _, _, h, _⟩ := h; exact h
theorem OwnI.of_block {w w' : World} {g cap : Nat} {l : List Int} (h : OwnI w g cap l) (e : w'.heap[g]? = w.heap[g]?) : OwnI w' g cap l := by
  obtain ⟨cur, h1, h2⟩ := h
  exact ⟨cur, by rw [e]; exact h1, h2⟩
theorem OwnI.garb {w w' : World} {g cap : Nat} {l : List Int} (h : OwnI w g cap l) (hg : Garb w w') : OwnI w' g cap l := h.of_block (hg.below.block g h.lt)
theorem OwnI.but {w w' : World} {g b cap : Nat} {l : List Int} (h : OwnI w g cap l) (hb : But w w' b) (hne : g ≠ b) : OwnI w' g cap l := h.of_block (hb.block g h.lt hne)
theorem OwnI.row {w : World} {g cap : Nat} {l : List Int} (h : OwnI w g cap l) : Row0 w (some ⟨g, 0, none⟩) l.length l := by
  obtain ⟨cur, h1, h2, h3, h4⟩ := h
  exact .inr ⟨g, 0, rfl, lt_of_some h1, fun j hj => by rw [Nat.zero_add, cell_of h1]; exact h4 j hj⟩
theorem getD_append (l r : List Int) (j : Nat) : (l ++ r).getD j 0 = if j < l.length then l.getD j 0 else r.getD (j - l.length) 0 := by
  simp only [List.getD_eq_getElem?_getD]
  split
  · rename_i h; rw [List.getElem?_append_left h]
  · rename_i h; rw [List.getElem?_append_right (by omega)]
theorem But.step {w w1 w2 : World} {g : Nat} (h : But w w1 g) (h' : But w1 w2 g) (hg : g < w.heap.size) : But w w2 g := by
  refine ⟨h'.os.trans h.os, h'.tape.trans h.tape, h'.output.trans h.output, Nat.le_trans h.size h'.size, fun k hk hne => ?_, fun b hb c e fr hx => ?_⟩
  · rw [h'.block k (Nat.lt_of_lt_of_le hk h.size) hne]; exact h.block k hk hne
  · rcases Nat.lt_or_ge b w1.heap.size with hlt | hge
    · rw [h'.block b hlt (by omega)] at hx; exact h.soft b hb c e fr hx
    · exact h'.soft b hge c e fr hx
theorem but_set {w : World} {g : Nat} (hg : g < w.heap.size) (o : Obj) : But w { w with heap := w.heap.setIfInBounds g o } g := by
  refine ⟨rfl, rfl, rfl, by simp, fun k hk hne => ?_, fun b hb c e fr h => ?_⟩
  · show (w.heap.setIfInBounds g o)[k]? = _
    rw [Array.getElem?_setIfInBounds, if_neg (Ne.symm hne)]
  · have h : (w.heap.setIfInBounds g o)[b]? = _ := h
    rw [Array.getElem?_eq_none (by simpa using hb)] at h; cases h
theorem OwnI.soft {w : World} {g cap : Nat} {l : List Int} (h : OwnI w g cap l) : ∀ c e fr, w.heap[g]? = some (.cells c e fr) → fr = (0, 0) := by
  obtain ⟨cur, h1, _⟩ := h
  intro c e fr h
  rw [h1] at h; simp only [Option.some.injEq, Obj.cells.injEq] at h; exact h.2.2.symm
theorem alloc_garb (w : World) (c : Array Value) (e : TypeId) : Garb w (w.alloc (.cells c e)) :=
  But.garb (Garb.refl w) ((But.refl w w.heap.size).alloc c e) (Nat.le_refl _) (fun c e fr h => by rw [heap_alloc_new] at h; simp only [Option.some.injEq, Obj.cells.injEq] at h; exact h.2.2.symm)
/-- append onto a list of one's own: what comes out. -/
def AppTo (w : World) (g cap n : Nat) (src : Option Addr) (m c : Nat) (L : List Int) : Prop :=
  ∃ g' cap' w', (∀ ty : Nat, (Builtin.append_ #[22, 22] ty #[.slice (some ⟨g, 0, none⟩) n cap, .slice src m c]).run Try.prog w = .ok (.slice (some ⟨g', 0, none⟩) (n + m) cap') w') ∧ OwnI w' g' cap' L ∧ But w w' g ∧ (g' = g ∨ w.heap.size ≤ g') ∧ (∀ c e fr, w'.heap[g]? = some (.cells c e fr) → fr = (0, 0)) ∧ (cap < n + m → Garb w w' ∧ w.heap.size ≤ g')
theorem appL {w : World} {g cap n : Nat} {l : List Int} (hrow : OwnI w g cap l) {src : Option Addr} {m c : Nat} {r : List Int} (hsrc : Row0 w src m r) (hn : n = l.length) (hm : m = r.length) (hfit : (n + m + 2) * 8 ≤ 140737488355328) : AppTo w g cap n src m c (l ++ r) := by
  subst hn hm
  obtain ⟨i0, hi, hz0, hz1, hz2⟩ := info_parts info3
  have hsoft := hrow.soft
  obtain ⟨cur, h1, h2, h3, h4⟩ := hrow
  have hlt := lt_of_some h1
  have hl0 := ints_len r r.length
  have hl1 := ints_len l l.length
  have hnews : (Builtin.firstCells i0.size r.length (.slice src r.length c)).run Try.prog w = .ok (ints r r.length).toArray w := by
    rcases hsrc with h0 | ⟨b, off, rfl, hb, hc⟩
    · have : r = [] := List.eq_nil_of_length_eq_zero h0
      subst this
      cases src with
      | none => exact run_firstCells_none _ _ _ _ _
      | some a => exact run_firstCells_some w _ _ a _ _ [] (by simp) (fun j v h => by simp at h)
    · refine run_firstCells_some w _ _ _ _ _ _ (by rw [hz1, hl0]; omega) (fun j v h => ?_)
      obtain ⟨hj, rfl⟩ := ints_get h
      rw [add_at]; exact hc j hj
  have h1n : ∀ v ∈ ints r r.length, v.oneCell' = true := fun v hv => by
    unfold ints at hv
    obtain ⟨t, -, rfl⟩ := List.mem_map.1 hv
    rfl
  by_cases hroom : l.length + r.length ≤ cap
  · have hst := Go.RX.run_storeCells (P := Try.prog) (ints r r.length) h1 l.length 0 (by rw [hl0]; omega) h1n
    obtain ⟨w3, hw3⟩ : ∃ w3, w3 = { w with heap := w.heap.setIfInBounds g (.cells (Go.RX.splice cur (l.length + 0) (ints r r.length)) 3 (0, 0)) } := ⟨_, rfl⟩
    rw [← hw3] at hst
    have h3' : w3.heap[g]? = some (.cells (Go.RX.splice cur l.length (ints r r.length)) 3 (0, 0)) := by
      rw [hw3]
      show (w.heap.setIfInBounds g _)[g]? = _
      rw [Array.getElem?_setIfInBounds_self_of_lt hlt]; rfl
    have hb3 : But w w3 g := by rw [hw3]; exact but_set hlt _
    have hss : (Go.RX.splice cur l.length (ints r r.length)).size = cur.size := Go.RX.splice_size (by rw [hl0]; omega)
    have htk : (cur.toList.take l.length).length = l.length := by simp; omega
    refine ⟨g, cap, w3, fun ty => ?_, ⟨_, h3', by rw [hss]; exact h2, by rw [List.length_append]; exact hroom, fun j hj => ?_⟩, hb3, .inl rfl, fun c e fr h => by rw [h3'] at h; simp only [Option.some.injEq, Obj.cells.injEq] at h; exact h.2.2.symm, fun hx => absurd hx (by omega)⟩
    · rw [Go.RX.run_append_room (P := Try.prog) (w := w) (ts := #[22, 22]) (t := 22) (xt := 22) (n := r.length) rfl rfl Try.underlying22 Try.underlying22 hi hroom (by rfl) hnews]
      simp only [hz1, Nat.mul_one]
      rw [add_at, Nat.zero_add, hst]; rfl
    · rw [List.length_append] at hj
      rw [getD_append]
      unfold Go.RX.splice
      rw [List.getElem?_toArray, List.append_assoc]
      split
      · rename_i hjl
        rw [List.getElem?_append_left (by omega), List.getElem?_take, if_pos hjl, Array.getElem?_toList]; exact h4 j hjl
      · rename_i hjl
        rw [List.getElem?_append_right (by omega), htk, List.getElem?_append_left (by rw [hl0]; omega)]
        exact ints_at r (by omega)
  · have k1 : ∀ (j : Nat) v, (ints l l.length)[j]? = some v → w.cell? ((⟨g, 0, none⟩ : Addr).add j) = some v := fun j u hj => by
      obtain ⟨hl, rfl⟩ := ints_get hj
      rw [add_at, Nat.zero_add, cell_of h1]; exact h4 j hl
    have k3 : cap < l.length + r.length := by omega
    have k4 : Builtin.nextslicecap (l.length + r.length) cap * i0.bytes ≤ 281474976710656 := by rw [hz2]; exact growslice_fits k3 (by omega)
    have k5 : ((l.length + r.length : Nat) : Int) ≤ 9223372036854775807 := by omega
    obtain ⟨b, off, rfl, hb, hc⟩ : ∃ b off, src = some ⟨b, off, none⟩ ∧ b < w.heap.size ∧ ∀ j, j < r.length → w.cell? ⟨b, off + j, none⟩ = some (.int .i64 (r.getD j 0)) := by
      rcases hsrc with h0 | h
      · omega
      · exact h
    have hrun := fun ty => run_append_grow (P := Try.prog) w 22 ty 3 i0 (.int .i64 0) Try.underlying22 hi hz0 ⟨g, 0, none⟩ l.length cap (ints l l.length) (by rw [hz1, hl1]; omega) k1 ⟨b, off, none⟩ r.length c (ints r r.length) (by rw [hz1, hl0]; omega)
      (fun j v h => by obtain ⟨hj, rfl⟩ := ints_get h; rw [add_at]; exact hc j hj) k3 k5 k4
    have hcn : l.length + r.length ≤ grownCap w (l.length + r.length) cap 3 := Nat.le_add_right _ _
    generalize grownCap w (l.length + r.length) cap 3 = cap' at hrun hcn
    obtain ⟨cs, hcs⟩ : ∃ cs : Array Value, cs = (ints l l.length).toArray ++ (ints r r.length).toArray ++ Builtin.zeroCells (Value.int .i64 0).cells (cap' - (l.length + r.length)) := ⟨_, rfl⟩
    rw [← hcs] at hrun
    have hget : ∀ j : Nat, cs[j]? = (ints l l.length ++ (ints r r.length ++ (Builtin.zeroCells (Value.int .i64 0).cells (cap' - (l.length + r.length))).toList))[j]? := fun j => by
      rw [hcs, ← Array.getElem?_toList]; simp
    have hsz : cs.size = cap' := by
      rw [hcs, show (Value.int IntKind.i64 0).cells = #[.int .i64 0] from rfl]; simp [hl0, hl1, Builtin.zeroCells]; omega
    clear hcs
    have hB : But w (w.drew.alloc (.cells cs 3)) g := ((But.refl w g).drew).alloc cs 3
    have hnew3 : (w.drew.alloc (.cells cs 3)).heap[w.heap.size]? = some (.cells cs 3 (0, 0)) := heap_alloc_new w.drew (.cells cs 3)
    have hold3 : (w.drew.alloc (.cells cs 3)).heap[g]? = some (.cells cur 3 (0, 0)) := by
      rw [Below.heap_alloc _ _ _ (show g < w.drew.heap.size from hlt)]; exact h1
    have hGW : Garb w (w.drew.alloc (.cells cs 3)) := (Garb.drew w _).trans (alloc_garb _ _ _)
    generalize w.drew.alloc (.cells cs 3) = W at hrun hB hnew3 hold3 hGW
    refine ⟨w.heap.size, cap', W, hrun, ⟨cs, hnew3, by omega, by rw [List.length_append]; omega, fun j hj => ?_⟩, hB, .inr (Nat.le_refl _), fun c e fr h => by rw [hold3] at h; simp only [Option.some.injEq, Obj.cells.injEq] at h; exact h.2.2.symm, fun _ => ⟨hGW, Nat.le_refl _⟩⟩
    rw [List.length_append] at hj
    rw [hget, getD_append]
    split
    · rename_i hjl
      rw [List.getElem?_append_left (by omega)]; exact ints_at l hjl
    · rename_i hjl
      rw [List.getElem?_append_right (by omega), hl1, List.getElem?_append_left (by rw [hl0]; omega)]; exact ints_at r (by omega)
theorem own_new (w : World) (l : List Int) (cs : Array Value) (h : cs.toList = l.map (Value.int .i64)) : OwnI (w.alloc (.cells cs 3)) w.heap.size cs.size l := by
  have hl : l.length = cs.size := by rw [← Array.length_toList, h, List.length_map]
  refine ⟨cs, heap_alloc_new w _, Nat.le_refl _, by omega, fun j hj => ?_⟩
  rw [← Array.getElem?_toList, h, List.getElem?_map, List.getElem?_eq_getElem hj, List.getD_eq_getElem?_getD, List.getElem?_eq_getElem hj]; rfl
/-- A list that came out, in a block of its own. -/
def NewI (w w' : World) (v : Value) (l : List Int) : Prop := ∃ g cap, v = .slice (some ⟨g, 0, none⟩) l.length cap ∧ w.heap.size ≤ g ∧ OwnI w' g cap l
set_option maxHeartbeats 1000000 in
/-- slices.Clone of a list that is not nil. -/
theorem clone_ok {w : World} {a : Addr} {n c : Nat} {l : List Int} (hrow : Row0 w (some a) n l) (hn : n = l.length) (hfit : (n + 2) * 8 ≤ 140737488355328) :
    Calls Try.prog 26 #[.slice (some a) n c] w fun e w' => ∃ v, e = .returned v ∧ NewI w w' v l ∧ Garb w w' := by
  have h0 := own_new w [] #[] rfl
  have hg0 := alloc_garb w #[] 3
  have hrow' : Row0 (w.alloc (.cells #[] 3)) (some a) n l := hrow.garb hg0
  obtain ⟨g, cap, W, ha, ho, hb, hge, hs, -⟩ := appL (c := c) h0 hrow' rfl hn (by simp only [List.length_nil]; omega)
  have hW : Garb w W := But.garb hg0 hb (Nat.le_refl _) hs
  have hgs : w.heap.size ≤ g := by
    rcases hge with rfl | h
    · exact Nat.le_refl _
    · exact Nat.le_trans hg0.below.size h
  generalize hQ : (fun (e : Ending) (w' : World) => ∃ v, e = .returned v ∧ NewI w w' v l ∧ Garb w w') = Q0
  have hend : Q0 (.returned (.slice (some ⟨g, 0, none⟩) n cap)) W := by subst hQ; exact ⟨_, rfl, ⟨g, cap, by rw [hn], hgs, ho⟩, hW⟩
  have he : ∀ w, (binOp .eql 22 (.slice (some a) n c) (.slice none 0 0)).run Try.prog w = .ok (.bool false) w := fun w => Lib.run_eql_slice_nil w 22 3 (some a) n c 0 0 Try.underlying22
  clear hQ hrow hrow' h0 hg0 ho hb hge hs hW hgs hfit hn
  simp only [List.length_nil, List.size_toArray] at ha
  have ha : ∀ ty : Nat, (Builtin.append_ #[22, 22] ty #[.slice (some ⟨w.heap.size, 0, none⟩) 0 0, .slice (some a) n c]).run Try.prog (w.alloc (.cells #[] 3)) = .ok (.slice (some ⟨g, 0, none⟩) n cap) W := fun ty => by have := ha ty; rwa [Nat.zero_add] at this
  go_enter Try.func26, Try.ntmps26
  go_wp2_with (at_builtin; refine Lib.wpList_append_run _ rfl _ _ _ _ rfl _ _ rfl rfl _ _ (ha _) ?_)
  first | exact hend | (go_ret; exact hend)
end Go.Proofs.Ytoheklommpochaa.ls
