/- Both: permutations of the marked places. -/
import Derived.Test.YtoheklommpochaaKh
import Derived.Sort.WalkA
import Derived.Sort.WalkB2
import Derived.Sort.WalkB12
namespace Go.Proofs.Ytoheklommpochaa.ls
open Go.RowKit Go.Lib Go.Proofs.Ytoheklommpochaa Go.Proofs.Ytoheklommpochaa.pi
open Go.RX (Garb)
set_option linter.unusedVariables false
set_option linter.unusedSimpArgs false
attribute [local go_sem ↓] Go.wp_at_zero Go.wp_at_succ
def befores (poc : Int) (z : List rf.R6) : List Int := places (fun r => r.m == 1 && decide (r.p < poc)) z z.length
def behinds (poc : Int) (z : List rf.R6) : List Int := places (fun r => r.m == 1 && decide (poc ≤ r.p)) z z.length
def BPost (w : World) (P : List Int) (e : Ending) (w' : World) : Prop := ∃ va La vb Lb, e = .returned (.tuple #[va, vb]) ∧ Lst w.heap.size w' va La ∧ Lst w.heap.size w' vb Lb ∧ La.Perm P ∧ Lb.Perm P ∧ Garb w w'
/-- Three slices in a row. -/
theorem three (w : World) (v1 v2 v3 : Value) : Garb w (w.alloc (.cells #[v1, v2, v3] 22)) ∧ (w.alloc (.cells #[v1, v2, v3] 22)).cell? ⟨w.heap.size, 0, none⟩ = some v1 ∧ (w.alloc (.cells #[v1, v2, v3] 22)).cell? ⟨w.heap.size, 1, none⟩ = some v2 ∧ (w.alloc (.cells #[v1, v2, v3] 22)).cell? ⟨w.heap.size, 2, none⟩ = some v3 := by
  have h := heap_alloc_new w (.cells #[v1, v2, v3] 22)
  exact ⟨alloc_garb _ _ _, by rw [cell_of h]; rfl, by rw [cell_of h]; rfl, by rw [cell_of h]; rfl⟩
theorem concatL {B : Nat} {w : World} {v1 v2 v3 : Value} {L1 L2 L3 : List Int} (h1 : Lst B w v1 L1) (h2 : Lst B w v2 L2) (h3 : Lst B w v3 L3) (hfit : (L1.length + L2.length + L3.length + 4) * 8 ≤ 140737488355328) :
    Calls Try.prog 48 #[.slice (some ⟨w.heap.size, 0, none⟩) 3 3] (w.alloc (.cells #[v1, v2, v3] 22)) fun e w' => ∃ v, e = .returned v ∧ Lst w.heap.size w' v (L1 ++ L2 ++ L3) ∧ Garb w w' := by
  obtain ⟨g, x0, x1, x2⟩ := three w v1 v2 v3
  obtain ⟨A1, c1, rfl, r1⟩ := h1.row
  obtain ⟨A2, c2, rfl, r2⟩ := h2.row
  obtain ⟨A3, c3, rfl, r3⟩ := h3.row
  refine (concat_ok x0 x1 x2 (Row0.garb r1 g) (Row0.garb r2 g) (Row0.garb r3 g) hfit).mono ?_
  rintro e w' ⟨v, rfl, hl, hg⟩
  exact ⟨v, rfl, hl.mono g.below.size, g.trans hg⟩
/-- The first two changed. -/
theorem swap2 {w : World} {g cap : Nat} {L : List Int} (h : OwnI w g cap L) (hl : 1 < L.length) : ∃ x y, w.cell? ⟨g, 0, none⟩ = some (.int .i64 x) ∧ w.cell? ⟨g, 1, none⟩ = some (.int .i64 y) ∧ w.frozen? ⟨g, 0, none⟩ = false ∧ w.frozen? ⟨g, 1, none⟩ = false ∧ (∃ u, (w.setCell ⟨g, 0, none⟩ (.int .i64 y)).cell? ⟨g, 1, none⟩ = some u) ∧
    ∃ L', SW w ((w.setCell ⟨g, 0, none⟩ (.int .i64 y)).setCell ⟨g, 1, none⟩ (.int .i64 x)).drew g cap L L' := by
  have S : SW w w g cap L L := ⟨But.refl w g, h, List.Perm.refl _, h.lt⟩
  obtain ⟨x, hx, cx⟩ := S.cell (i := 0) (by omega)
  obtain ⟨y, hy, cy⟩ := S.cell (i := 1) (by omega)
  exact ⟨x, y, cx, cy, S.frozen 0, S.frozen 1, S.cell2 (by omega) (by omega) _, _, (S.swap (by omega) (by omega) hx hy).drew⟩
theorem Lst.but {B : Nat} {w w1 w2 : World} {v : Value} {L : List Int} {g : Nat} (h : Lst B w v L) (hg : Garb w w1) (hb : But w1 w2 g) (hge : w.heap.size ≤ g) : Lst B w2 v L := by
  rcases h with h | ⟨g1, cap, h1, h2, h3⟩
  · exact .inl h
  · exact .inr ⟨g1, cap, h1, h2, (h3.garb hg).but hb (by have := h3.lt; omega)⟩
/-- The world behind the exchange keeps all that both_ok says. -/
theorem bothEnd {w w8 w9 w10 w11 : World} {g2 cap2 : Nat} {va : Value} {La Lb L' : List Int} {B : Nat} (ha : Lst B w8 va La) (gw : Garb w8 w9) (gt : Garb w9 w10) (gf : Garb w w9) (h8 : w.heap.size ≤ w8.heap.size) (hB : w.heap.size ≤ B) (hg : w8.heap.size ≤ g2) (S : SW w10 w11 g2 cap2 Lb L') :
    Lst w.heap.size w11 va La ∧ Lst w.heap.size w11 (.slice (some ⟨g2, 0, none⟩) Lb.length cap2) L' ∧ L'.Perm Lb ∧ Garb w w11 := by
  refine ⟨(ha.but (gw.trans gt) S.but hg).mono hB, .inr ⟨g2, cap2, by rw [S.len], by omega, S.own⟩, S.perm, But.garb (gf.trans gt) S.but (by omega) ?_⟩
  intro c e fr h
  obtain ⟨cur, h1, -⟩ := S.own
  rw [h1] at h
  cases h; rfl
set_option maxHeartbeats 8000000 in
set_option maxRecDepth 100000 in
theorem both_ok {w : World} {A : Option Addr} {n c : Nat} {poc : Int} {z : List rf.R6} (hp : PicsO w A z) (hn : n = z.length) (hsz : n ≤ 2932031007403) :
    Calls Try.prog 18 #[.slice A n c, .int .i64 poc] w (BPost w (befores poc z ++ behinds poc z ++ longsL z)) := by
  generalize hQ : BPost w (befores poc z ++ behinds poc z ++ longsL z) = Q0
  have hend : Aside (∀ va La vb Lb w', Lst w.heap.size w' va La → Lst w.heap.size w' vb Lb → La.Perm (befores poc z ++ behinds poc z ++ longsL z) → Lb.Perm (befores poc z ++ behinds poc z ++ longsL z) → Garb w w' → Q0 (.returned (.tuple #[va, vb])) w') := fun va La vb Lb w' h1 h2 h3 h4 h5 => by subst hQ; exact ⟨va, La, vb, Lb, rfl, h1, h2, h3, h4, h5⟩
  obtain ⟨W3, hW3⟩ : ∃ W3, W3 = w.alloc (.cells #[.int .i64 poc] 3) := ⟨_, rfl⟩
  have gB : Garb w W3 := by rw [hW3]; exact alloc_garb _ _ _
  have xB : W3.cell? ⟨w.heap.size, 0, none⟩ = some (.int .i64 poc) := by rw [hW3, cell_of (heap_alloc_new w _)]; rfl
  have hP := hp.garb gB
  have C1 : Aside (Calls Try.prog 41 #[.slice A n c, .func (.func 45) #[] #[.pointer (some ⟨w.heap.size, 0, none⟩)], .func (.func 44) #[] #[]] W3 (fun e w' => ∃ v L, e = .returned v ∧ Lst W3.heap.size w' v L ∧ L.Perm (befores poc z) ∧ Garb W3 w')) :=
    falling_ok (c := c) e45 e44 (fun b off => a45 xB b off z) (fun b off => k44 W3 b off z (fun _ => False)) (fun _ _ h => h) hP hn hsz
  have C2 : Aside (∀ w1, Garb W3 w1 → Calls Try.prog 46 #[.slice A n c, .func (.func 47) #[] #[.pointer (some ⟨w.heap.size, 0, none⟩)], .func (.func 44) #[] #[]] w1 (fun e w' => ∃ v L, e = .returned v ∧ Lst w1.heap.size w' v L ∧ L.Perm (behinds poc z) ∧ Garb w1 w')) := fun w1 g =>
    sorted_ok (c := c) e47 e44 (fun b off => a47 (keep1 g xB) b off z) (fun b off => k44 w1 b off z (fun _ => False)) (fun _ _ h => h) (hP.garb g) hn hsz
  have C3 : Aside (∀ w1, Garb W3 w1 → Calls Try.prog 43 #[.slice A n c] w1 (fun e w' => ∃ v L, e = .returned v ∧ Lst w1.heap.size w' v L ∧ L.Perm (longsL z) ∧ Garb w1 w')) := fun w1 g => longs_ok (hP.garb g) hn hsz
  have LB : Aside ((befores poc z).length ≤ 2932031007403 ∧ (behinds poc z).length ≤ 2932031007403 ∧ (longsL z).length ≤ 2932031007403) := by
    rw [hn] at hsz
    exact ⟨Nat.le_trans (places_len _ _ _) hsz, Nat.le_trans (places_len _ _ _) hsz, Nat.le_trans (places_len _ _ _) hsz⟩
  have mixed : Try.prog.follows .mixedOrders = true := by kernel_rfl
  have GB := asd gB
  clear hQ hp hn hP gB xB
  go_enter Try.func18, Try.ntmps18
  go_upto_region 1 with (fail)
  rw [← hW3]
  clear hW3
  go_upto_region 5 with (first
    | (go_at_call 41; refine C1.out.mono ?_; rintro e w4 ⟨v7, L7, rfl, l7, p7, g7⟩; obtain ⟨A7, c7, rfl, -⟩ := l7.row; clear C1; have H7 := asd l7; have P7 := asd p7; have G7 := asd g7; clear l7 p7 g7)
    | (go_at_call 46; refine (C2.out _ G7.out).mono ?_; rintro e w5 ⟨v8, L8, rfl, l8, p8, g8⟩; obtain ⟨A8, c8, rfl, -⟩ := l8.row; clear C2; have H8 := asd (l8.mono G7.out.below.size); have P8 := asd p8; have G8 := asd (G7.out.trans g8); have H7 := asd (H7.out.garb g8); clear l8 p8 g8 G7)
    | (go_at_call 43; refine (C3.out _ G8.out).mono ?_; rintro e w6 ⟨v9, L9, rfl, l9, p9, g9⟩; obtain ⟨A9, c9, rfl, -⟩ := l9.row; have H9 := asd (l9.mono G8.out.below.size); have P9 := asd p9; have G9 := asd (G8.out.trans g9); have H7 := asd (H7.out.garb g9); have H8 := asd (H8.out.garb g9); have K1 := asd (concatL H7.out H8.out H9.out (by have := P7.out.length_eq; have := P8.out.length_eq; have := P9.out.length_eq; have := LB.out; omega)); clear l9 p9 g9 G8)
    | (go_at_call 48; refine K1.out.mono ?_; rintro e w7 ⟨va, rfl, la, ga⟩; obtain ⟨La, hLa⟩ : ∃ La, La = L7 ++ L8 ++ L9 := ⟨_, rfl⟩; rw [← hLa] at la; have PA := asd (show La.Perm (befores poc z ++ behinds poc z ++ longsL z) by rw [hLa]; exact (P7.out.append P8.out).append P9.out); clear hLa; obtain ⟨Aa, ca, rfl, -⟩ := la.row; clear K1; have Ha := asd (la.mono G9.out.below.size); have Ga := asd (G9.out.trans ga); have H7 := asd (H7.out.garb ga); have H8 := asd (H8.out.garb ga); have H9 := asd (H9.out.garb ga); clear la ga G9)
    | (go_at_call 43; refine (C3.out _ Ga.out).mono ?_; rintro e w8 ⟨v10, L10, rfl, l10, p10, g10⟩; obtain ⟨A10, c10, rfl, -⟩ := l10.row; have H10 := asd (l10.mono Ga.out.below.size); have P10 := asd p10; have G10 := asd (Ga.out.trans g10); have H7 := asd (H7.out.garb g10); have H8 := asd (H8.out.garb g10); have Ha := asd (Ha.out.garb g10); have K2 := asd (concatL H8.out H7.out H10.out (by have := P7.out.length_eq; have := P8.out.length_eq; have := P10.out.length_eq; have := LB.out; omega)); clear l10 p10 g10 Ga)
    | (go_at_call 48; refine K2.out.mono ?_; rintro e w9 ⟨vb, rfl, lb, gb⟩; obtain ⟨Lb, hLb⟩ : ∃ Lb, Lb = L8 ++ L7 ++ L10 := ⟨_, rfl⟩; rw [← hLb] at lb; have PB := asd (show Lb.Perm (befores poc z ++ behinds poc z ++ longsL z) by rw [hLb]; exact ((P8.out.append P7.out).append P10.out).trans (List.perm_append_comm.append_right _)); clear hLb; clear K2; have Hb := asd lb; have Gb := asd (G10.out.trans gb); have Ha0 := Ha; have SZ := asd G10.out.below.size; have Gw := asd gb; have Ha := asd (Ha.out.garb gb); clear lb gb G10))
  have GF := asd (GB.out.trans Gb.out)
  have HA := asd (Ha.out.mono GB.out.below.size)
  clear H7 H8 H9 H10 C3 Gb Ha
  rcases Hb.out with ⟨hn0, rfl⟩ | ⟨g2, cap2, rfl, hB2, ho2⟩
  · have hq := hend.out _ La _ Lb w9 HA.out (Hb.out.mono (by have := GB.out.below.size; have := SZ.out; omega)) PA.out PB.out GF.out
    go_wp2
    first | exact hq | (go_ret; exact hq)
  · by_cases hl : 1 < Lb.length
    · have hl1 : (1:Int) < (Lb.length : Int) := by omega
      have hl0 : (0:Int) < (Lb.length : Int) := by omega
      have HL := asd hl
      obtain ⟨Ax, cx, e1, r1⟩ := HA.out.row
      have r2 := ho2.row
      have hn1 : La.length ≤ 9223372036854775807 := by have := PA.out.length_eq; simp only [List.length_append] at this; have := LB.out; omega
      have hn2 : Lb.length ≤ 9223372036854775807 := by have := PB.out.length_eq; simp only [List.length_append] at this; have := LB.out; omega
      have E := asd (equal_ok (c1 := cx) (c2 := cap2) r1 r2 hn1 hn2)
      have OB := asd ho2
      clear r1 r2 ho2 hn1 hn2 hl LB
      rw [e1]
      go_wp2_with (first
        | (go_at_call 49; refine E.out.mono ?_; rintro e w10 ⟨b, rfl, g10⟩; have Gt := asd g10; clear g10 E))
      · obtain ⟨x, y, cx, cy, fx, fy, ⟨u, cu⟩, L', S⟩ := swap2 (OB.out.garb Gt.out) HL.out
        obtain ⟨k1, k2, k3, k4⟩ := bothEnd (w := w) Ha0.out Gw.out Gt.out GF.out (by have := GB.out.below.size; have := SZ.out; omega) GB.out.below.size hB2 S
        have hq := asd (hend.out _ La _ L' _ k1 k2 PA.out (k3.trans PB.out) k4)
        clear k1 k2 k3 k4 S hB2 hend
        go_big_region_o
        go_wp2
        first | exact hq.out | (go_ret; exact hq.out)
      · have HA1 := HA.out.garb Gt.out
        have HB1 := (Hb.out.garb Gt.out).mono (B' := w.heap.size) (by have := GB.out.below.size; have := SZ.out; omega)
        have hq := hend.out _ La _ Lb w10 HA1 HB1 PA.out PB.out (GF.out.trans Gt.out)
        first | exact hq | (go_ret; exact hq)
    · have hl1 : ¬ (1:Int) < (Lb.length : Int) := by omega
      have hq := hend.out _ La _ Lb w9 HA.out (Hb.out.mono (by have := GB.out.below.size; have := SZ.out; omega)) PA.out PB.out GF.out
      go_wp2
      first | exact hq | (go_ret; exact hq)
end Go.Proofs.Ytoheklommpochaa.ls
