/- slices.Delete of one picture: in place. -/
import Derived.Test.YtboadccdacigeaaSd
import Derived.Deep.RegionLaw
import Derived.Lib.SliceRun
import Derived.Lib.Walk
import Derived.Shelf.RegionOpenPlain
import Derived.Deep.LoopGhost
namespace Go.Proofs.Ytboadccdacigeaa.sl
open Go.RowKit Go.Proofs.Ytboadccdacigeaa Go.Proofs.Ytboadccdacigeaa.pi Go.Lib
open Go.RX (Garb)
set_option linter.unusedVariables false
theorem setCells_splice {w : World} {b : Nat} {c : Array Value} {e : TypeId} (h : w.heap[b]? = some (.cells c e (0, 0))) (o : Nat) (vs : List Value) (hl : o + vs.length ≤ c.size) (h1 : ∀ v ∈ vs, v.oneCell' = true) :
    w.setCells b o vs = { w with heap := w.heap.setIfInBounds b (.cells (Go.RX.splice c o vs) e (0, 0)) } := by
  have k1 := run_storeCells_cells (P := Try.prog) b o vs 0 w (fun j hj => by rw [Nat.add_zero, cell_of h, Array.getElem?_eq_getElem (by omega)]; rfl) (fun j hj => by simp [World.frozen?, h]) h1
  have k2 := Go.RX.run_storeCells (P := Try.prog) vs h o 0 (by omega) h1
  rw [k1] at k2
  simp only [Result.ok.injEq, true_and, Nat.add_zero] at k2
  exact k2
def zero6 : List Value := [.int .i64 0, .int .i64 0, .int .i64 0, .int .i64 0, .int .i64 0, .bool false]
theorem clear_one (w : World) (ty b o c : Nat) (cur : Array Value) (e : TypeId) (h : w.heap[b]? = some (.cells cur e (0, 0))) (hl : o + 6 ≤ cur.size) :
    (Builtin.clear_ #[22] ty #[.slice (some ⟨b, o, none⟩) 1 c]).run Try.prog w = .ok (.tuple #[]) (w.setCells b o zero6) := by
  obtain ⟨i0, hi, hz0, hz1, hz2⟩ := info_parts info30
  have h6 : zero6.length = 6 := rfl
  have k1 := run_storeCells_cells (P := Try.prog) b o zero6 0 w (fun j hj => by rw [Nat.add_zero, cell_of h, Array.getElem?_eq_getElem (by omega)]; rfl) (fun j hj => by simp [World.frozen?, h]) (fun u hu => by
    simp only [zero6, List.mem_cons, List.not_mem_nil, or_false] at hu
    rcases hu with rfl | rfl | rfl | rfl | rfl | rfl <;> rfl)
  rw [Nat.add_zero] at k1
  have k2 : (Builtin.zeroCells (Value.agg #[.int .i64 0, .int .i64 0, .int .i64 0, .int .i64 0, .int .i64 0, .bool false]).cells 1).toList = zero6 := by
    simp [Builtin.zeroCells, Value.cells, zero6]; rfl
  simp [Builtin.clear_, run_underlying Try.underlying22, zeroValue, typeInfo, hi, hz0, k2, k1]
set_option maxHeartbeats 1000000 in
set_option maxRecDepth 100000 in
theorem del_walk (g n cap i j : Nat) (news : List Value) (w : World) (cur : Array Value) (hw : w.heap[g]? = some (.cells cur 30 (0, 0))) (hsz : cur.size = cap * 6) (hj1 : j = i + 1) (hjn : j ≤ n) (hcap : n ≤ cap) (hm : n ≤ 9223372036854775807)
    (hnl : news.length = (n - j) * 6) (hn1 : ∀ u ∈ news, u.oneCell' = true) (hsrc0 : ∀ t u, news[t]? = some u → cur[j * 6 + t]? = some u) (Q0 : Ending → World → Prop)
    (hend : Q0 (.returned (.slice (some ⟨g, 0, none⟩) (i + (n - j)) cap)) ((w.drew.setCells g (i * 6) news).setCells g ((i + (n - j)) * 6) zero6)) :
    Calls Try.prog 14 #[.slice (some ⟨g, 0, none⟩) n cap, .int .i64 i, .int .i64 j] w Q0 := by
  obtain ⟨i0, hi0, hz0, hz1, hz2⟩ := info_parts info30
  have hlt : i < j := by omega
  have mixed : Try.prog.follows .mixedOrders = true := by kernel_rfl
  obtain ⟨A, hA, hsrc⟩ : ∃ A : Addr, (if cap = j then some (⟨g, 0, none⟩ : Addr) else some ⟨g, j * 6, none⟩) = some A ∧ Hid (∀ t u, news[t]? = some u → w.drew.cell? (A.add t) = some u) := by
    by_cases h : cap = j
    · refine ⟨⟨g, 0, none⟩, by simp [h], fun t u hu => ?_⟩
      have h0 : news.length = 0 := by rw [hnl]; omega
      rw [List.length_eq_zero_iff.1 h0] at hu
      simp at hu
    · refine ⟨⟨g, j * 6, none⟩, by simp [h], fun t u hu => ?_⟩
      rw [add_at, show w.drew.cell? _ = w.cell? _ from rfl, cell_of hw]
      exact hsrc0 t u hu
  have s1 : Hid (news.length = (n - j) * 6) := hnl
  have s2 : Hid (∀ u ∈ news, u.oneCell' = true) := hn1
  have s3 : Hid (∀ t, t < news.length → (w.drew.cell? ⟨g, 0 + i * 6 + t, none⟩).isSome = true ∧ w.drew.frozen? ⟨g, 0 + i * 6 + t, none⟩ = false) := fun t ht => by
    rw [show w.drew.cell? _ = w.cell? _ from rfl, cell_of hw, Array.getElem?_eq_getElem (by omega)]
    exact ⟨rfl, by show w.frozen? _ = false; simp [World.frozen?, hw]⟩
  have hwd : w.drew.heap[g]? = some (.cells cur 30 (0, 0)) := hw
  have hsp := setCells_splice hwd (i * 6) news (by omega) hn1
  have hglt := lt_of_some hw
  have hW1h : (w.drew.setCells g (i * 6) news).heap[g]? = some (.cells (Go.RX.splice cur (i * 6) news) 30 (0, 0)) := by
    rw [hsp]
    show (w.heap.setIfInBounds g _)[g]? = _
    rw [Array.getElem?_setIfInBounds_self_of_lt hglt]
  obtain ⟨W1, hW1⟩ : ∃ W1, W1 = w.drew.setCells g (i * 6) news := ⟨_, rfl⟩
  rw [← hW1] at hW1h hend
  have e1 : n - (i + (n - j)) = 1 := by omega
  have hcl : ∀ ty, (Builtin.clear_ #[22] ty #[.slice (some ⟨g, (i + (n - j)) * 6, none⟩) (n - (i + (n - j))) (cap - (i + (n - j)))]).run Try.prog W1 = .ok (.tuple #[]) (W1.setCells g ((i + (n - j)) * 6) zero6) := fun ty => by
    rw [e1]; exact clear_one W1 ty g _ _ _ 30 hW1h (by rw [Go.RX.splice_size (by omega), hsz]; omega)
  have hW : Hid (W1 = w.drew.setCells g (0 + i * 6) news) := by show W1 = _; rw [Nat.zero_add]; exact hW1
  have hE : Hid (Q0 (.returned (.slice (some ⟨g, 0, none⟩) (i + (n - j)) cap)) (W1.setCells g ((i + (n - j)) * 6) zero6)) := hend
  have hic : i ≤ cap := by omega
  have hjc : j ≤ cap := by omega
  clear hW1 hW1h hsp hend hwd hglt hnl hn1 hsrc0 hw hsz e1 hj1
  go_enter Try.func14, Try.ntmps14
  go_wp2_with fail
  go_region_law_o (refine step_append_room rfl (.tmp 22) (.tmp 25) 22 rfl 30 i0 6 Try.underlying22 hi0 hz1 g 0 i cap (by simp [Act.eval, Act.put]) A (n - j) (cap - j) news (by simp [Act.eval, Act.put]) s1.out hsrc.out s2.out (by omega) s3.out ?_; rw [← hW.out])
  go_wp2
  exact hE.out
theorem rest_getD (z : List R6) (m : Nat) : ∀ n k, k < (rest z m n).length → (rest z m n).getD k default = z.getD (if k < m then k else k + 1) default
  | 0, k, h => by simp [rest] at h
  | n + 1, k, h => by
    have hl := rest_len z m n
    unfold rest at h ⊢
    by_cases hn : n = m
    · rw [if_pos hn] at h ⊢; exact rest_getD z m n k h
    · rw [if_neg hn] at h ⊢
      rw [List.length_append, List.length_singleton] at h
      by_cases hk : k < (rest z m n).length
      · rw [List.getD_eq_getElem?_getD, List.getElem?_append_left hk, ← List.getD_eq_getElem?_getD]; exact rest_getD z m n k hk
      · have he : k = (rest z m n).length := by omega
        have hi : (if k < m then k else k + 1) = n := by
          rw [he, hl]
          by_cases hmn : m < n
          · rw [if_pos hmn, if_neg (by omega)]; omega
          · rw [if_neg hmn, if_pos (by omega)]
        rw [hi, List.getD_eq_getElem?_getD, List.getElem?_append_right (by omega), he, Nat.sub_self]; rfl
theorem rest_val (z : List R6) {m n : Nat} (hm : m < n) {j : Nat} (hj : j < (n - 1) * 6) : val (rest z m n) j = val z (if j < m * 6 then j else j + 6) := by
  have hl : (rest z m n).length = n - 1 := by rw [rest_len, if_pos hm]
  unfold val
  rw [rest_getD z m n (j / 6) (by omega)]
  by_cases h : j < m * 6
  · rw [if_pos h, if_pos (by omega)]
  · rw [if_neg h, if_neg (by omega), show (j + 6) / 6 = j / 6 + 1 by omega, show (j + 6) % 6 = j % 6 by omega]
def DPost (w : World) (g cap n : Nat) (z : List R6) (e : Ending) (w' : World) : Prop :=
  e = .returned (.slice (some ⟨g, 0, none⟩) n cap) ∧ But w w' g ∧ ∃ cur : Array Value, w'.heap[g]? = some (.cells cur 30 (0, 0)) ∧ ∀ j, j < n * 6 → cur[j]? = some (val z j)
theorem but_set {w : World} {g : Nat} (hg : g < w.heap.size) (o : Obj) : But w { w with heap := w.heap.setIfInBounds g o } g := by
  refine ⟨rfl, rfl, rfl, by simp, fun k hk hne => ?_, fun b hb c e fr h => ?_⟩
  · show (w.heap.setIfInBounds g o)[k]? = _
    rw [Array.getElem?_setIfInBounds, if_neg (Ne.symm hne)]
  · have h : (w.heap.setIfInBounds g o)[b]? = _ := h
    rw [Array.getElem?_eq_none (by simpa using hb)] at h; cases h
theorem But.step {w w1 w2 : World} {g : Nat} (h : But w w1 g) (h' : But w1 w2 g) (hg : g < w.heap.size) : But w w2 g := by
  refine ⟨h'.os.trans h.os, h'.tape.trans h.tape, h'.output.trans h.output, Nat.le_trans h.size h'.size, fun k hk hne => ?_, fun b hb c e fr hx => ?_⟩
  · rw [h'.block k (Nat.lt_of_lt_of_le hk h.size) hne]; exact h.block k hk hne
  · rcases Nat.lt_or_ge b w1.heap.size with hlt | hge
    · rw [h'.block b hlt (by omega)] at hx; exact h.soft b hb c e fr hx
    · exact h'.soft b hge c e fr hx
theorem del_ok (g n cap i : Nat) (z : List R6) (w : World) (cur : Array Value) (hw : w.heap[g]? = some (.cells cur 30 (0, 0))) (hsz : cur.size = cap * 6) (hin : i < n) (hcap : n ≤ cap) (hm : n ≤ 9223372036854775807)
    (hz : ∀ j, j < n * 6 → cur[j]? = some (val z j)) :
    Calls Try.prog 14 #[.slice (some ⟨g, 0, none⟩) n cap, .int .i64 i, .int .i64 (i + 1 : Nat)] w (DPost w g cap (n - 1) (rest z i n)) := by
  obtain ⟨news, hnews⟩ : ∃ news : List Value, news = (List.range ((n - (i + 1)) * 6)).map (fun t => val z ((i + 1) * 6 + t)) := ⟨_, rfl⟩
  have hnl : news.length = (n - (i + 1)) * 6 := by rw [hnews]; simp
  have hng : ∀ t, t < (n - (i + 1)) * 6 → news[t]? = some (val z ((i + 1) * 6 + t)) := fun t ht => by
    rw [hnews, List.getElem?_map, List.getElem?_range ht]; rfl
  have hn1 : ∀ u ∈ news, u.oneCell' = true := fun u hu => by
    rw [hnews] at hu
    obtain ⟨t, -, rfl⟩ := List.mem_map.1 hu
    exact val_one z _
  have hsrc : ∀ t u, news[t]? = some u → cur[(i + 1) * 6 + t]? = some u := fun t u hu => by
    have ht : t < (n - (i + 1)) * 6 := by
      have := (List.getElem?_eq_some_iff.1 hu).1
      omega
    rw [hng t ht] at hu
    rw [hz _ (by omega)]; exact hu
  clear hnews
  have hwd : w.drew.heap[g]? = some (.cells cur 30 (0, 0)) := hw
  have hglt := lt_of_some hw
  have e1 := setCells_splice hwd (i * 6) news (by omega) hn1
  have b1 : But w (w.drew.setCells g (i * 6) news) g := by
    rw [e1]
    have := but_set (w := w.drew) (g := g) hglt (.cells (Go.RX.splice cur (i * 6) news) 30 (0, 0))
    have h0 := (But.refl w g).drew
    exact ⟨this.os.trans h0.os, this.tape.trans h0.tape, this.output.trans h0.output, Nat.le_trans h0.size this.size, fun k hk hne => (this.block k hk hne).trans (h0.block k hk hne), fun b hb c e fr h => by
      have h := this.soft b hb c e fr h; exact h⟩
  have hs1 : (Go.RX.splice cur (i * 6) news).size = cur.size := Go.RX.splice_size (by omega)
  have hW1h : (w.drew.setCells g (i * 6) news).heap[g]? = some (.cells (Go.RX.splice cur (i * 6) news) 30 (0, 0)) := by
    rw [e1]
    show (w.heap.setIfInBounds g _)[g]? = _
    rw [Array.getElem?_setIfInBounds_self_of_lt hglt]
  refine del_walk g n cap i (i + 1) news w cur hw hsz rfl hin hcap hm hnl hn1 hsrc _ ?_
  generalize w.drew.setCells g (i * 6) news = W1 at *
  have e2 := setCells_splice hW1h ((i + (n - (i + 1))) * 6) zero6 (by rw [hs1, hsz]; show _ + 6 ≤ _; omega) (fun u hu => by
    simp only [zero6, List.mem_cons, List.not_mem_nil, or_false] at hu
    rcases hu with rfl | rfl | rfl | rfl | rfl | rfl <;> rfl)
  have hg1 := lt_of_some hW1h
  have b2 := but_set (w := W1) (g := g) hg1 (.cells (Go.RX.splice (Go.RX.splice cur (i * 6) news) ((i + (n - (i + 1))) * 6) zero6) 30 (0, 0))
  rw [e2]
  refine ⟨by rw [show i + (n - (i + 1)) = n - 1 by omega], ?_, _, (by
    show (W1.heap.setIfInBounds g _)[g]? = _
    rw [Array.getElem?_setIfInBounds_self_of_lt hg1]), fun j hj => ?_⟩
  · exact But.step b1 b2 hglt
  · have t1 : (cur.toList.take (i * 6)).length = i * 6 := by simp; omega
    have t2 : ((Go.RX.splice cur (i * 6) news).toList.take ((i + (n - (i + 1))) * 6)).length = (i + (n - (i + 1))) * 6 := by simp [hs1, hsz]; omega
    have hj' : j < (i + (n - (i + 1))) * 6 := by omega
    rw [rest_val z hin hj]
    unfold Go.RX.splice at t2 ⊢
    rw [List.getElem?_toArray, List.append_assoc, List.getElem?_append_left (by rw [t2]; exact hj'), List.getElem?_take, if_pos hj', List.append_assoc]
    by_cases h : j < i * 6
    · rw [if_pos h, List.getElem?_append_left (by omega), List.getElem?_take, if_pos h, Array.getElem?_toList]; exact hz j (by omega)
    · rw [if_neg h, List.getElem?_append_right (by omega), t1, List.getElem?_append_left (by omega), hng _ (by omega)]
      congr 2; omega
end Go.Proofs.Ytboadccdacigeaa.sl
