/- ListsWhole: its walk, callees by their contracts. -/
import Derived.Test.YtoheklommpochaaKi
import Derived.Test.YtoheklommpochaaRxAwake
import Derived.Laws.MakeOwn
namespace Go.Proofs.Ytoheklommpochaa.ls
open Go.RowKit Go.Lib Go.Proofs.Ytoheklommpochaa Go.Proofs.Ytoheklommpochaa.pi
open Go.RX (Garb)
set_option linter.unusedVariables false
set_option linter.unusedSimpArgs false
attribute [local go_sem ↓] Go.wp_at_zero Go.wp_at_succ
def marked (r : rf.R6) : Bool := (r.m == 1) || (r.m == 2)
/-- Each marked place once, and none else. -/
structure Good (z : List rf.R6) (L : List Int) : Prop where
  bd : ∀ x ∈ L, 0 ≤ x ∧ x < z.length
  nd : L.Nodup
  ln : L.length ≤ 3 * z.length
  mem : ∀ (i : Nat) r, z[i]? = some r → ((i : Int) ∈ L ↔ marked r = true)
theorem places_nd (p : rf.R6 → Bool) (z : List rf.R6) (n : Nat) : (places p z n).Nodup := by
  unfold places
  exact List.Pairwise.map _ (fun a b (h : a ≠ b) e => h (by have := e; omega)) (List.Pairwise.filter _ List.nodup_range)
theorem places_mem {p : rf.R6 → Bool} {z : List rf.R6} {n : Nat} {x : Int} : x ∈ places p z n ↔ ∃ i : Nat, x = (i : Int) ∧ i < n ∧ p (z.getD i default) = true := by
  unfold places
  rw [List.mem_map]
  constructor
  · rintro ⟨i, hi, rfl⟩
    have := List.mem_filter.1 hi
    exact ⟨i, rfl, List.mem_range.1 this.1, this.2⟩
  · rintro ⟨i, rfl, h1, h2⟩
    exact ⟨i, List.mem_filter.2 ⟨List.mem_range.2 h1, h2⟩, rfl⟩
theorem good_of {z : List rf.R6} {P L : List Int} (h : L.Perm P) (hbd : ∀ x ∈ P, 0 ≤ x ∧ x < z.length) (hnd : P.Nodup) (hln : P.length ≤ 3 * z.length) (hm : ∀ (i : Nat) r, z[i]? = some r → ((i : Int) ∈ P ↔ marked r = true)) : Good z L :=
  ⟨fun x hx => hbd x (h.mem_iff.1 hx), h.nodup_iff.2 hnd, by rw [h.length_eq]; exact hln, fun i r hi => (h.mem_iff).trans (hm i r hi)⟩
theorem disj {p q : rf.R6 → Bool} {z : List rf.R6} {n : Nat} (h : ∀ r, ¬ (p r = true ∧ q r = true)) : ∀ x ∈ places p z n, ∀ y ∈ places q z n, x ≠ y := by
  intro x hx y hy e
  obtain ⟨i, e1, _, h1⟩ := places_mem.1 hx
  obtain ⟨j, e2, _, h2⟩ := places_mem.1 hy
  have : i = j := by omega
  subst this
  exact h _ ⟨h1, h2⟩
theorem getD_of {z : List rf.R6} {i : Nat} {r : rf.R6} (h : z[i]? = some r) : z.getD i default = r := by rw [List.getD_eq_getElem?_getD, h]; rfl
theorem lt_of {z : List rf.R6} {i : Nat} {r : rf.R6} (h : z[i]? = some r) : i < z.length := (List.getElem?_eq_some_iff.1 h).1
theorem good_first (z : List rf.R6) {L : List Int} (h : L.Perm (shorts z ++ longsL z)) : Good z L := by
  refine good_of h (fun x hx => ?_) ?_ (by rw [List.length_append]; have := places_len (fun r : rf.R6 => r.m == 1) z z.length; have := places_len (fun r : rf.R6 => r.m == 2) z z.length; unfold shorts longsL; omega) fun i r hi => ?_
  · rcases List.mem_append.1 hx with hx | hx <;> exact places_bd hx
  · refine List.nodup_append.2 ⟨places_nd _ _ _, places_nd _ _ _, disj fun r ⟨h1, h2⟩ => ?_⟩
    have a1 : r.m = 1 := by simpa using h1
    have a2 : r.m = 2 := by simpa using h2
    omega
  · rw [List.mem_append]
    unfold shorts longsL marked
    rw [places_mem, places_mem, Bool.or_eq_true]
    have hl := lt_of hi
    have hg := getD_of hi
    constructor
    · rintro (⟨j, e, _, hj⟩ | ⟨j, e, _, hj⟩)
      · obtain rfl : i = j := by omega
        rw [hg] at hj; exact .inl hj
      · obtain rfl : i = j := by omega
        rw [hg] at hj; exact .inr hj
    · rintro (h | h)
      · exact .inl ⟨i, rfl, hl, by rw [hg]; exact h⟩
      · exact .inr ⟨i, rfl, hl, by rw [hg]; exact h⟩
theorem good_both (z : List rf.R6) (poc : Int) {L : List Int} (h : L.Perm (befores poc z ++ behinds poc z ++ longsL z)) : Good z L := by
  refine good_of h (fun x hx => ?_) ?_ (by rw [List.length_append, List.length_append]; have := places_len (fun r : rf.R6 => r.m == 1 && decide (r.p < poc)) z z.length; have := places_len (fun r : rf.R6 => r.m == 1 && decide (poc ≤ r.p)) z z.length; have := places_len (fun r : rf.R6 => r.m == 2) z z.length; unfold befores behinds longsL; omega) fun i r hi => ?_
  · rcases List.mem_append.1 hx with hx | hx
    · rcases List.mem_append.1 hx with hx | hx <;> exact places_bd hx
    · exact places_bd hx
  · refine List.nodup_append.2 ⟨List.nodup_append.2 ⟨places_nd _ _ _, places_nd _ _ _, disj fun r ⟨h1, h2⟩ => ?_⟩, places_nd _ _ _, fun x hx y hy => ?_⟩
    · simp only [Bool.and_eq_true, decide_eq_true_eq] at h1 h2
      omega
    · rcases List.mem_append.1 hx with hx | hx
      · refine disj (fun r ⟨h1, h2⟩ => ?_) x hx y hy
        simp only [Bool.and_eq_true, beq_iff_eq] at h1 h2
        omega
      · refine disj (fun r ⟨h1, h2⟩ => ?_) x hx y hy
        simp only [Bool.and_eq_true, beq_iff_eq] at h1 h2
        omega
  · rw [List.mem_append, List.mem_append]
    unfold befores behinds longsL marked
    rw [places_mem, places_mem, places_mem, Bool.or_eq_true]
    have hl := lt_of hi
    have hg := getD_of hi
    constructor
    · rintro ((⟨j, e, _, hj⟩ | ⟨j, e, _, hj⟩) | ⟨j, e, _, hj⟩)
      · obtain rfl : i = j := by omega
        rw [hg] at hj
        exact .inl (Bool.and_eq_true _ _ ▸ hj).1
      · obtain rfl : i = j := by omega
        rw [hg] at hj
        exact .inl (Bool.and_eq_true _ _ ▸ hj).1
      · obtain rfl : i = j := by omega
        rw [hg] at hj; exact .inr hj
    · rintro (h | h)
      · by_cases hq : r.p < poc
        · exact .inl (.inl ⟨i, rfl, hl, by rw [hg]; simp only [h, Bool.true_and]; exact decide_eq_true hq⟩)
        · exact .inl (.inr ⟨i, rfl, hl, by rw [hg]; simp only [h, Bool.true_and]; exact decide_eq_true (by omega)⟩)
      · exact .inr ⟨i, rfl, hl, by rw [hg]; exact h⟩
/-- The block of what was seen. -/
def SeenW (W1 w : World) (g n : Nat) (S : List Int) : Prop :=
  But W1 w g ∧ g < W1.heap.size ∧ ∃ cur : Array Value, w.heap[g]? = some (.cells cur 3 (0, 0)) ∧ cur.size = n ∧ ∀ t, t < n → cur[t]? = some (.int .i64 (if (t : Int) ∈ S then 1 else 0))
theorem made {n : Nat} (hb : n * 8 ≤ 281474976710656) (w : World) : ∃ W1, (Instr.makeSlice 22 (.int .i64 (n : Int)) (.int .i64 (n : Int))).run Try.prog w = .ok (.slice (some ⟨w.heap.size, 0, none⟩) n n) W1 ∧ Garb w W1 ∧ SeenW W1 W1 w.heap.size n [] := by
  obtain ⟨i0, hi, hz0, hz1, hz2⟩ := info_parts info3
  have h := run_make (P := Try.prog) w 22 3 i0 (.int .i64 0) Try.underlying22 hi hz0 .i64 .i64 n n (by omega) (by omega) (by rw [hz2]; omega) (by omega)
  simp only [Int.toNat_natCast, hz1, Nat.mul_one] at h
  have hnew := heap_alloc_new w (.cells (madeCells (Value.int .i64 0).cells n) 3)
  refine ⟨_, h, alloc_garb _ _ _, But.refl _ _, lt_of_some hnew, _, hnew, size_madeCells _ _, fun t ht => ?_⟩
  rw [show (Value.int IntKind.i64 0).cells = #[.int .i64 0] from rfl]
  simp [madeCells, ht, Nat.mod_one]
theorem SeenW.at_ {W1 w : World} {g n : Nat} {S : List Int} (h : SeenW W1 w g n S) {t : Nat} (ht : t < n) : w.cell? ⟨g, t, none⟩ = some (.int .i64 (if (t : Int) ∈ S then 1 else 0)) := by
  obtain ⟨_, _, cur, h1, h2, h3⟩ := h
  rw [cell_of h1, h3 t ht]
theorem SeenW.frozen {W1 w : World} {g n : Nat} {S : List Int} (h : SeenW W1 w g n S) (t : Nat) : w.frozen? ⟨g, t, none⟩ = false := by
  obtain ⟨_, _, cur, h1, h2, h3⟩ := h
  simp [World.frozen?, h1]
theorem SeenW.set {W1 w : World} {g n : Nat} {S : List Int} (h : SeenW W1 w g n S) {t : Nat} (ht : t < n) {S' : List Int} (hS : ∀ x : Int, x ∈ S' ↔ x ∈ S ∨ x = t) : SeenW W1 (w.setCell ⟨g, t, none⟩ (.int .i64 1)) g n S' := by
  obtain ⟨hb, hg, cur, h1, h2, h3⟩ := h
  have s1 := heap_setCell_same w g t cur 3 (.int .i64 1) h1
  refine ⟨⟨hb.os, hb.tape, hb.output, by simpa [World.setCell] using hb.size, fun k hk hne => ?_, fun b hbb c e fr hq => ?_⟩, hg, _, s1, by simpa using h2, fun j hj => ?_⟩
  · rw [heap_setCell_other _ ⟨g, t, none⟩ k _ hne]; exact hb.block k hk hne
  · have hqb : b ≠ g := by omega
    rw [heap_setCell_other _ ⟨g, t, none⟩ b _ hqb] at hq; exact hb.soft b hbb c e fr hq
  · rw [Array.getElem?_setIfInBounds]
    by_cases e : t = j
    · subst e
      rw [if_pos rfl, if_pos (by omega), if_pos ((hS _).2 (.inr rfl))]
    · rw [if_neg e, h3 j hj]
      by_cases hm : (j : Int) ∈ S
      · rw [if_pos hm, if_pos ((hS _).2 (.inl hm))]
      · rw [if_neg hm, if_neg fun h => by rcases (hS _).1 h with h | h; exact hm h; exact e (by omega)]
theorem SeenW.garb {w0 W1 w : World} {g n : Nat} {S : List Int} (h : SeenW W1 w g n S) (hg : Garb w0 W1) (hs : w0.heap.size ≤ g) : Garb w0 w := by
  obtain ⟨hb, _, cur, h1, h2, h3⟩ := h
  refine But.garb hg hb hs fun c e fr hq => ?_
  rw [h1] at hq
  cases hq; rfl
/-- The three lists, behind the block of them. -/
def Three (w : World) (ga : Nat) (z : List rf.R6) : Prop := ga < w.heap.size ∧ ∀ k, k < 3 → ∃ A c L, w.cell? ⟨ga, k, none⟩ = some (.slice A L.length c) ∧ Row0 w A L.length L ∧ Good z L
theorem three_of {w : World} {A1 A2 A3 : Option Addr} {c1 c2 c3 : Nat} {L1 L2 L3 : List Int} {z : List rf.R6} (r1 : Row0 w A1 L1.length L1) (r2 : Row0 w A2 L2.length L2) (r3 : Row0 w A3 L3.length L3) (g1 : Good z L1) (g2 : Good z L2) (g3 : Good z L3) :
    Three (w.alloc (.cells #[.slice A1 L1.length c1, .slice A2 L2.length c2, .slice A3 L3.length c3] 22)) w.heap.size z := by
  obtain ⟨g, x0, x1, x2⟩ := three w (.slice A1 L1.length c1) (.slice A2 L2.length c2) (.slice A3 L3.length c3)
  refine ⟨World.block_lt_of_cell? _ _ x0, fun k hk => ?_⟩
  obtain rfl | rfl | rfl : k = 0 ∨ k = 1 ∨ k = 2 := by omega
  · exact ⟨_, _, L1, x0, Row0.garb r1 g, g1⟩
  · exact ⟨_, _, L2, x1, Row0.garb r2 g, g2⟩
  · exact ⟨_, _, L3, x2, Row0.garb r3 g, g3⟩
/-- A cell of before, in a round. -/
theorem keepS {w0 W1 w : World} {g n : Nat} {S : List Int} (h : SeenW W1 w g n S) (hg : Garb w0 W1) (hs : w0.heap.size ≤ g) {b o : Nat} {v : Value} (hc : w0.cell? ⟨b, o, none⟩ = some v) : w.cell? ⟨b, o, none⟩ = some v := keep1 (h.garb hg hs) hc
theorem row_at {w : World} {A : Option Addr} {L : List Int} (h : Row0 w A L.length L) {i : Nat} (hi : i < L.length) : ∃ b off, A = some ⟨b, off, none⟩ ∧ w.cell? ⟨b, off + i, none⟩ = some (.int .i64 (L.getD i 0)) := by
  rcases h with h | ⟨b, off, rfl, hb, hc⟩
  · omega
  · exact ⟨b, off, rfl, hc i hi⟩
/-- What a place of a good list is. -/
theorem Good.at_ {z : List rf.R6} {L : List Int} (h : Good z L) {i : Nat} (hi : i < L.length) : ∃ t : Nat, L.getD i 0 = (t : Int) ∧ t < z.length ∧ (t : Int) ∉ L.take i ∧ ∀ x : Int, x ∈ L.take (i + 1) ↔ x ∈ L.take i ∨ x = t := by
  have hg : L[i]? = some L[i] := List.getElem?_eq_getElem hi
  have hd : L.getD i 0 = L[i] := by rw [List.getD_eq_getElem?_getD, hg]; rfl
  obtain ⟨h0, h1⟩ := h.bd L[i] (List.getElem_mem hi)
  refine ⟨L[i].toNat, by omega, by omega, ?_, fun x => ?_⟩
  · rw [show ((L[i].toNat : Nat) : Int) = L[i] by omega]
    intro hm
    obtain ⟨j, hj, e⟩ := List.mem_take_iff_getElem.1 hm
    have := (List.getElem_inj (h₀ := by omega) (h₁ := hi) h.nd).1 e
    omega
  · rw [show ((L[i].toNat : Nat) : Int) = L[i] by omega, List.take_succ_eq_append_getElem hi, List.mem_append, List.mem_singleton]
theorem pics_m {w : World} {A : Option Addr} {z : List rf.R6} (h : PicsO w A z) {i : Nat} (hi : i < z.length) : ∃ b off r, A = some ⟨b, off, none⟩ ∧ z[i]? = some r ∧ w.cell? ⟨b, off + i * 6 + 3, none⟩ = some (.int .i64 r.m) := by
  rcases h with rfl | ⟨b, off, rfl, h⟩
  · exact absurd hi (Nat.not_lt_zero _)
  · obtain ⟨-, -, -, x3, -, -⟩ := pic_at h (List.getElem?_eq_getElem hi)
    exact ⟨b, off, _, rfl, List.getElem?_eq_getElem hi, x3⟩
set_option maxHeartbeats 8000000 in
set_option maxRecDepth 100000 in
theorem law0 {w : World} {A : Option Addr} {n c : Nat} {now poc : Int} {z : List rf.R6} (hnow : In64 now) (hp : PicsO w A z) (hn : Aside (n = z.length)) (hsz : n ≤ 2932031007403) :
    Calls Try.prog 4 #[.slice A n c, .int .i64 now, .int .i64 poc] w fun e w' => e = .returned (.bool true) ∧ Garb w w' := by
  generalize hQ : (fun (e : Ending) (w' : World) => e = .returned (.bool true) ∧ Garb w w') = Q0
  have hend : Aside (∀ w', Garb w w' → Q0 (.returned (.bool true)) w') := fun w' h => by subst hQ; exact ⟨rfl, h⟩
  have F1 : Aside (∀ w1, Garb w w1 → Calls Try.prog 17 #[.slice A n c, .int .i64 now, .int .i64 4] w1 (FPost w1 (shorts z ++ longsL z))) := fun w1 g => first_ok hnow (by unfold In64; omega) (hp.garb g) hn.out hsz
  have F2 : Aside (∀ w1, Garb w w1 → Calls Try.prog 18 #[.slice A n c, .int .i64 poc] w1 (BPost w1 (befores poc z ++ behinds poc z ++ longsL z))) := fun w1 g => both_ok (hp.garb g) hn.out hsz
  have HP := asd hp
  have HM := asd (made (n := n) (by omega))
  clear hQ hp
  go_enter Try.func4, Try.ntmps4
  go_upto_region 5 with (first
    | (go_at_call 16; refine (awake_is _).mono ?_; rintro e w1 ⟨rfl, g1⟩; have G1 := asd g1; clear g1)
    | (go_at_call 17; refine (F1.out _ G1.out).mono ?_; rintro e w2 ⟨v1, L1, rfl, l1, p1, g2⟩; obtain ⟨A1, c1, rfl, r1⟩ := l1.row; have R1 := asd r1; have D1 := asd (good_first z p1); have G2 := asd (G1.out.trans g2); clear l1 p1 g2 r1 F1 G1)
    | (go_at_call 18; refine (F2.out _ G2.out).mono ?_; rintro e w3 ⟨va, La, vb, Lb, rfl, la, lb, pa, pb, g3⟩; obtain ⟨A2, c2, rfl, r2⟩ := la.row; obtain ⟨A3, c3, rfl, r3⟩ := lb.row; have T3 := asd (three_of (c1 := c1) (c2 := c2) (c3 := c3) (Row0.garb R1.out g3) r2 r3 D1.out (good_both z poc pa) (good_both z poc pb)); have G3 := asd ((G2.out.trans g3).trans (three w3 (.slice A1 L1.length c1) (.slice A2 La.length c2) (.slice A3 Lb.length c3)).1); clear la lb pa pb g3 r2 r3 F2 G2 R1 D1))
  obtain ⟨W5, hW5⟩ : ∃ W5, W5 = w3.alloc (.cells #[.slice A1 L1.length c1, .slice A2 La.length c2, .slice A3 Lb.length c3] 22) := ⟨_, rfl⟩
  rw [← hW5] at T3 G3
  go_wp2
  rw [← hW5]
  clear hW5
  generalize w3.heap.size = ga at T3 ⊢
  go_loopw [11] (fun v wr => ∃ k : Nat, k ≤ 3 ∧ v = .int .i64 k ∧ Aside (Garb W5 wr)) (fun v _ => 3 - (RowKit.intOf v).toNat)
  case atStart => exact ⟨0, by omega, rfl, Garb.refl _⟩
  case round =>
    obtain ⟨k, hk, rfl, GO⟩ := hrel
    by_cases hlt : k < 3
    · have hltz : (k : Int) < 3 := by omega
      have hk0 : (0 : Int) ≤ (k : Int) := by omega
      obtain ⟨W1, hmk, gm, S0⟩ := HM.out wr
      have hgs := GO.out.below.size
      obtain ⟨gs, hgs'⟩ : ∃ gs, gs = wr.heap.size := ⟨_, rfl⟩
      rw [← hgs'] at hmk S0 hgs
      have SZ := asd hgs
      have GM := asd (GO.out.trans gm)
      obtain ⟨At, ct, L, cT, rT, gT⟩ := T3.out.2 k hlt
      have RT := asd rT
      have GT := asd gT
      have ST := asd S0
      have CT := asd cT
      clear hgs hgs' gm S0 rT gT cT GO
      go_wp2
      clear hmk
      go_loopw [13] (fun v wr => ∃ i : Nat, i ≤ L.length ∧ v = .int .i64 i ∧ Aside (SeenW W1 wr gs n (L.take i))) (fun v _ => L.length - (RowKit.intOf v).toNat)
      case atStart => exact ⟨0, Nat.zero_le _, rfl, ST.out⟩
      case round =>
        obtain ⟨i, hi, rfl, SS⟩ := hrel
        have cS := keepS SS.out GM.out SZ.out CT.out
        by_cases hil : i < L.length
        · have hilz : (i : Int) < (L.length : Int) := by omega
          have hi0 : (0 : Int) ≤ (i : Int) := by omega
          obtain ⟨b, off, rfl, cL0⟩ := row_at RT.out hil
          have cL := keepS SS.out GM.out SZ.out cL0
          obtain ⟨t, ht, htn, hnm, hS⟩ := GT.out.at_ hil
          rw [ht] at cL
          rw [← hn.out] at htn
          have t0 : (0 : Int) ≤ (t : Int) := by omega
          have t1 : ¬ (t : Int) < 0 := by omega
          have t2 : (t : Int) < (n : Int) := by omega
          have t3 : ¬ (n : Int) ≤ (t : Int) := by omega
          have cZ := SS.out.at_ htn
          rw [if_neg hnm] at cZ
          have fZ := SS.out.frozen t
          have S2 := asd (SS.out.set htn hS)
          have hib : i + 1 ≤ 9223372036854775807 := by have := GT.out.ln; rw [← hn.out] at this; omega
          clear hS hnm ht htn cL0 SS
          go_wp2
          exact ⟨⟨i + 1, by omega, by go_num, S2⟩, by simp [RowKit.intOf]; omega⟩
        · have hilz : ¬ (i : Int) < (L.length : Int) := by omega
          have SE := asd (show SeenW W1 wr gs n L by have := SS.out; rwa [List.take_of_length_le (by omega)] at this)
          clear SS
          go_wp2
          obtain ⟨W2, hW2⟩ : ∃ W2, W2 = wr := ⟨_, rfl⟩
          subst hW2
          have MK := asd (G3.out.trans (SE.out.garb GM.out SZ.out))
          have SF := asd (SE.out.garb GM.out SZ.out)
          clear cS
          go_loopw [15] (fun v wr => wr = W2 ∧ ∃ j : Nat, j ≤ n ∧ v = .int .i64 j) (fun v _ => n - (RowKit.intOf v).toNat)
          case atStart => exact ⟨rfl, 0, Nat.zero_le _, rfl⟩
          case round =>
            obtain ⟨hw, j, hj, rfl⟩ := hrel
            subst hw
            by_cases hjn : j < n
            · have hjz : (j : Int) < (n : Int) := by omega
              have hj0 : (0 : Int) ≤ (j : Int) := by omega
              obtain ⟨b, off, r, rfl, hr, cm0⟩ := pics_m HP.out (by rw [← hn.out]; exact hjn)
              have cm := keep1 MK.out cm0
              have cZ := SE.out.at_ hjn
              have hmem := GT.out.mem j r hr
              clear cm0 hr
              by_cases h1 : r.m = 1
              · rw [h1] at cm
                rw [if_pos (hmem.2 (by unfold marked; rw [h1]; rfl))] at cZ
                clear hmem h1
                go_wp2
                exact ⟨⟨by trivial, j + 1, by omega, by go_num⟩, by simp [RowKit.intOf]; omega⟩
              · by_cases h2 : r.m = 2
                · rw [h2] at cm
                  rw [if_pos (hmem.2 (by unfold marked; rw [h2]; rfl))] at cZ
                  clear hmem h1 h2
                  go_wp2
                  exact ⟨⟨by trivial, j + 1, by omega, by go_num⟩, by simp [RowKit.intOf]; omega⟩
                · have f1 : (r.m == 1) = false := by simpa using h1
                  have f2 : (r.m == 2) = false := by simpa using h2
                  rw [if_neg (fun h => by have := hmem.1 h; unfold marked at this; rw [f1, f2] at this; exact absurd this (by decide))] at cZ
                  generalize r.m = m at cm f1 f2 h1 h2
                  clear hmem
                  go_wp2
                  exact ⟨⟨by trivial, j + 1, by omega, by go_num⟩, by simp [RowKit.intOf]; omega⟩
            · have hjz : ¬ (j : Int) < (n : Int) := by omega
              go_wp2
              exact ⟨⟨k + 1, by omega, by go_num, SF⟩, by simp [RowKit.intOf]; omega⟩
    · have hltz : ¬ (k : Int) < 3 := by omega
      have hq := hend.out wr (G3.out.trans GO.out)
      go_wp2
      first | exact hq | (go_ret; exact hq)
theorem main {A : Option Addr} {n c : Nat} {now poc : Int} {l : List rf.R6} {w : World} (hnow : In64 now) (hpoc : In64 poc) (hok : ∀ r ∈ l, R6.ok r) (he : n = l.length) (hb : (n + 2) * 48 ≤ 140737488355328) (hr : RRow w A l) :
    Calls Try.prog 4 #[.slice A n c, .int .i64 now, .int .i64 poc] w fun e w' => e = .returned (.bool true) ∧ Below w.heap.size w w' := by
  have hp : PicsO w A l := by
    rcases hr with h | ⟨b, off, rfl, h1, h2⟩
    · exact .inl h
    · exact .inr ⟨b, off, rfl, h1, h2, hok⟩
  refine (law0 hnow hp (asd he) (by omega)).mono ?_
  rintro e w' ⟨h1, h2⟩
  exact ⟨h1, h2.below⟩
end Go.Proofs.Ytoheklommpochaa.ls
