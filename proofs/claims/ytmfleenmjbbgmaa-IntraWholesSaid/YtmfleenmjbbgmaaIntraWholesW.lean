/- IntraWholes: its walk (the kit's), callees by their contracts. -/
import Derived.Test.YtmfleenmjbbgmaaTw
import Derived.Deep.DeepCutAuto
import Derived.Lib.Hide
namespace Go.Proofs.Ytmfleenmjbbgmaa.intraWholes
open Go.RowKit Go.Proofs.Ytmfleenmjbbgmaa Go.Proofs.Ytmfleenmjbbgmaa.tw
open Go.RX (Garb Answers Res)
set_option linter.unusedVariables false
theorem cut_lt (A : Option Addr) (n c : Nat) (k : Int) (w : World) (h : (n : Int) < k) : Calls Try.prog 17 #[.slice A n c, .int .i64 k] w fun e w' => e = .returned (.slice none 0 0) ∧ w' = w := by
  go_enter Try.func17, Try.ntmps17
  go_wp2
  go_ret
  exact ⟨rfl, rfl⟩
theorem cut_ge (A : Option Addr) (n c k : Nat) (w : World) (h : k ≤ n) (hc : n ≤ c) : Calls Try.prog 17 #[.slice A n c, .int .i64 k] w fun e w' => e = .returned (.slice A k c) ∧ w' = w := by
  go_enter Try.func17, Try.ntmps17
  go_wp2
  go_ret
  exact ⟨rfl, rfl⟩
def CutIs (A : Option Addr) (n c : Nat) (k : Int) (CA : Option Addr) (cn cc : Nat) : Prop := ∀ w, Calls Try.prog 17 #[.slice A n c, .int .i64 k] w fun e w' => e = .returned (.slice CA cn cc) ∧ w' = w
theorem cut_ok {w : World} {A : Option Addr} {n c : Nat} {z : List Int} (h : RowIs w A n c z) (k : Nat) (ki : Int) (e : ki = k) : ∃ CA cn cc, CutIs A n c ki CA cn cc ∧ RowIs w CA cn cc z ∧ (cn = 0 ∨ cn = k) ∧ cn ≤ n := by
  subst e
  by_cases hk : n < k
  · exact ⟨none, 0, 0, fun w => cut_lt A n c k w (by omega), RowIs.none w h.bd, .inl rfl, Nat.zero_le _⟩
  · exact ⟨A, k, c, fun w => cut_ge A n c k w (by omega) h.cap, h.cut (by omega), .inr rfl, by omega⟩
/-- What is known of a row that was handed out. -/
def Own (w w' : World) (b : Nat) (L : List Int) : Prop := w.heap.size ≤ b ∧ ∃ (cur : Array Value) (el : TypeId), w'.heap[b]? = some (.cells cur el (0, 0)) ∧ ∀ j, j < L.length → cur[j]? = some (.int .i64 (L.getD j 0))
theorem Own.garb {w w' w2 : World} {b : Nat} {L : List Int} (h : Own w w' b L) (hg : Garb w' w2) : Own w w2 b L := by
  obtain ⟨h1, cur, el, h2, h3⟩ := h
  exact ⟨h1, cur, el, by rw [hg.below.block b (lt_of_some h2)]; exact h2, h3⟩
theorem Own.row {w w' : World} {b : Nat} {L : List Int} (h : Own w w' b L) : Row0 w' (some ⟨b, 0, none⟩) L.length L := by
  obtain ⟨h1, cur, el, h2, h3⟩ := h
  exact .inr ⟨b, 0, rfl, lt_of_some h2, fun j hj => by rw [Nat.zero_add, cell_of h2]; exact h3 j hj⟩
theorem ans_nil {f : FuncId} {vs : Array Value} {w : World} {code : Int} (h : Answers Try.prog f vs w [] code) : Calls Try.prog f vs w fun e w' => e = .returned (.tuple #[.slice none 0 0, .int .i64 code]) ∧ Garb w w' := by
  refine Calls.mono h ?_
  rintro e w' ⟨v, rfl, hr, hg⟩
  rcases hr with ⟨_, rfl⟩ | ⟨b, c, cur, el, _, h0, _⟩
  · exact ⟨rfl, hg⟩
  · simp at h0
theorem ans_row {f : FuncId} {vs : Array Value} {w : World} {code : Int} {L : List Int} (hL : L ≠ []) (h : Answers Try.prog f vs w L code) : Calls Try.prog f vs w fun e w' => ∃ b c, e = .returned (.tuple #[.slice (some ⟨b, 0, none⟩) L.length c, .int .i64 code]) ∧ Own w w' b L ∧ Garb w w' := by
  refine Calls.mono h ?_
  rintro e w' ⟨v, rfl, hr, hg⟩
  rcases hr with ⟨h0, _⟩ | ⟨b, c, cur, el, rfl, h0, h1, h2, h3, h4⟩
  · exact absurd h0 hL
  · exact ⟨b, c, rfl, ⟨h2, cur, el, h3, h4⟩, hg⟩
theorem Own.but {w w' w2 : World} {b g : Nat} {L : List Int} (h : Own w w' b L) (hb : But w' w2 g) (hne : b ≠ g) : Own w w2 b L := by
  obtain ⟨h1, cur, el, h2, h3⟩ := h
  exact ⟨h1, cur, el, by rw [hb.block b (lt_of_some h2) hne]; exact h2, h3⟩
theorem Own.lt {w w' : World} {b : Nat} {L : List Int} (h : Own w w' b L) : b < w'.heap.size := by
  obtain ⟨_, _, _, h2, _⟩ := h
  exact lt_of_some h2
/-- What holds all along. -/
structure St (w0 w : World) (XA : Option Addr) (xn xc : Nat) (z1 : List Int) (YB : Option Addr) (yn yc : Nat) (z2 : List Int) (gx kx gy ky : Nat) : Prop where
  g : Garb w0 w
  r1 : RowIs w XA xn xc z1
  r2 : RowIs w YB yn yc z2
  l1 : LentNow w gx kx xn z1
  l2 : LentNow w gy ky yn z2
theorem St.garb {w0 w w' : World} {XA : Option Addr} {xn xc : Nat} {z1 : List Int} {YB : Option Addr} {yn yc : Nat} {z2 : List Int} {gx kx gy ky : Nat} (h : St w0 w XA xn xc z1 YB yn yc z2 gx kx gy ky) (hg : Garb w w') : St w0 w' XA xn xc z1 YB yn yc z2 gx kx gy ky :=
  ⟨h.g.trans hg, h.r1.garb hg, h.r2.garb hg, h.l1.garb hg, h.l2.garb hg⟩
theorem spoil_nil (w : World) : Calls Try.prog 24 #[.slice none 0 0] w fun e w' => e = .returned (.tuple #[]) ∧ w' = w := by
  generalize hQ : (fun (e : Ending) (w' : World) => e = .returned (.tuple #[]) ∧ w' = w) = Q0
  have hend : Q0 (.returned (.tuple #[])) w := by subst hQ; exact ⟨rfl, rfl⟩
  clear hQ
  go_enter Try.func24, Try.ntmps24
  go_wp2
  go_loopw [2] (fun i wr => i = .int .i64 0 ∧ wr = w) (fun i _ => 0)
  case atStart => exact ⟨rfl, rfl⟩
  case round =>
    obtain ⟨rfl, rfl⟩ := hrel
    go_wp2
    first | exact hend | (go_end0; exact hend)
theorem spoil_own {w w8 : World} {b c : Nat} {L : List Int} (hL : L.length ≤ 1000) (h : Own w w8 b L) : Calls Try.prog 24 #[.slice (some ⟨b, 0, none⟩) L.length c] w8 fun e w' => e = .returned (.tuple #[]) ∧ But w8 w' b ∧ (∀ c e fr, w'.heap[b]? = some (.cells c e fr) → fr = (0, 0)) := by
  obtain ⟨h1, cur, el, h2, h3⟩ := h
  exact spoilL (by omega) h2 fun j hj => ⟨_, h3 j hj⟩
/-- Two functions' answers, at all rows of these numbers. -/
def Both (f1 f2 : FuncId) (m : Int) (nx ny : Nat) (co : Int) (zx zy : List Int) (L : List Int) (code : Int) : Prop := ∀ (w : World) (A B : Option Addr) (cx cy : Nat), RowIs w A nx cx zx → RowIs w B ny cy zy →
  Answers Try.prog f1 #[.int .i64 m, .slice A nx cx, .slice B ny cy, .int .i64 co] w L code ∧ Answers Try.prog f2 #[.int .i64 m, .slice A nx cx, .slice B ny cy, .int .i64 co] w L code
set_option maxRecDepth 100000 in
set_option maxHeartbeats 2000000 in
theorem walk11 {a0 : Int} {A B : Option Addr} {n c n' c' : Nat} {z1 z2 : List Int} {a3 : Int} {w : World} {CA : Option Addr} {cn cc : Nat} {CB : Option Addr} {cm cd : Nat} {DA : Option Addr} {dn dc : Nat} {DB : Option Addr} {dm dd : Nat}
    (hc1 : CutIs A n c 16 CA cn cc) (q1 : RowIs w CA cn cc z1) (hc2 : CutIs B n' c' 16 CB cm cd) (q2 : RowIs w CB cm cd z2) (hd1 : CutIs A n c 8 DA dn dc) (u1 : RowIs w DA dn dc z1) (hd2 : CutIs B n' c' 8 DB dm dd) (u2 : RowIs w DB dm dd z2)
    {L : List Int} {code : Int} (hall : Both 28 29 a0 cn cm a3 z1 z2 L code) {M : List Int} {code2 : Int} (hal2 : Both 30 31 a0 dn dm a3 z1 z2 M code2) (hL0 : L = []) (hM0 : M = []) :
    Calls Try.prog 4 #[.int .i64 a0, .slice A n c, .slice B n' c', .int .i64 a3] w fun e w' => e = .returned (.bool true) ∧ Garb w w' := by
  subst hL0
  subst hM0
  go_enter Try.func4, Try.ntmps4
  go_wp2_with (first
    | (go_at_call 17; refine (hc1 _).mono ?_; rintro e w1 ⟨rfl, hw⟩; obtain rfl := hw.symm; clear hc1)
    | (go_at_call 17; refine (hc2 _).mono ?_; rintro e w1 ⟨rfl, hw⟩; obtain rfl := hw.symm; clear hc2)
    | (go_at_call 18; refine (lendL q1).mono ?_; rintro e w1 ⟨gx, kx, rfl, ⟨lx, bx⟩, g1⟩; have p1 := q1.garb g1; have p2 := q2.garb g1; clear q1 q2 bx)
    | (go_at_call 18; refine (lendL p2).mono ?_; rintro e w2 ⟨gy, ky, rfl, ⟨ly, by1⟩, g2⟩; have S2 : St w w2 CA cn cc z1 CB cm cd z2 gx kx gy ky := ⟨g1.trans g2, p1.garb g2, p2.garb g2, lx.garb g2, ly⟩; clear p1 p2 lx ly g1 g2 by1)
    | (go_at_call 28; refine (ans_nil (hall _ _ _ _ _ (S2.l1.rowIs S2.r1) (S2.l2.rowIs S2.r2)).1).mono ?_; rintro e w3 ⟨rfl, g3⟩; have S3 := S2.garb g3; clear S2 g3)
    | (go_at_call 28; refine (ans_nil (hall _ _ _ _ _ (S3.l1.rowIs S3.r1) (S3.l2.rowIs S3.r2)).1).mono ?_; rintro e w4 ⟨rfl, g4⟩; have S4 := S3.garb g4; clear S3 g4)
    | (go_at_call 29; refine (ans_nil (hall _ _ _ _ _ S4.r1 S4.r2).2).mono ?_; rintro e w5 ⟨rfl, g5⟩; have S5 := S4.garb g5; clear S4 g5 hall)
    | (go_at_call 21; have S5' := S5; clear S5'; refine (same_nil none none 0 0 _).mono ?_; rintro e w6 ⟨rfl, k6, e6⟩; have S6 := S5.garb (drewN_garb _ k6); rw [← e6] at S6; clear S5 e6)
    | (go_at_call 23; refine (keptL S6.r1 S6.l1).mono ?_; rintro e w7 ⟨rfl, k7, e7⟩; have S7 := S6.garb (drewN_garb _ k7); rw [← e7] at S7; clear S6 e7)
    | (go_at_call 23; refine (keptL S7.r2 S7.l2).mono ?_; rintro e w8 ⟨rfl, k8, e8⟩; have S8 := S7.garb (drewN_garb _ k8); rw [← e8] at S8; clear S7 e8)
    | (go_at_call 24; refine (spoil_nil _).mono ?_; rintro e wn ⟨rfl, hw⟩; obtain rfl := hw.symm)
    | (go_at_call 21; have S8' := S8; clear S8'; refine (same_nil none none 0 0 _).mono ?_; rintro e w10 ⟨rfl, k9, e9⟩; have S9 := S8.garb (drewN_garb _ k9); rw [← e9] at S9; have G10 := S9.g; clear S8 e9 S9)
    | (go_at_call 22; refine (num_ok _ _).mono ?_; rintro e wn ⟨rfl, hw⟩; obtain rfl := hw.symm)
    | (go_at_call 17; refine (hd1 _).mono ?_; rintro e w1 ⟨rfl, hw⟩; obtain rfl := hw.symm; clear hd1)
    | (go_at_call 17; refine (hd2 _).mono ?_; rintro e w1 ⟨rfl, hw⟩; obtain rfl := hw.symm; clear hd2)
    | (go_at_call 18; refine (lendL (u1.garb G10)).mono ?_; rintro e w11 ⟨hx, jx, rfl, ⟨lx, bx⟩, g11⟩; have G11 := G10.trans g11; have p3 := u1.garb G11; have p4 := u2.garb G11; clear G10 g11 u1 u2 bx)
    | (go_at_call 18; refine (lendL p4).mono ?_; rintro e w12 ⟨hy, jy, rfl, ⟨ly, by1⟩, g12⟩; have T2 : St w w12 DA dn dc z1 DB dm dd z2 hx jx hy jy := ⟨G11.trans g12, p3.garb g12, p4.garb g12, lx.garb g12, ly⟩; clear p3 p4 lx ly G11 g12 by1)
    | (go_at_call 30; refine (ans_nil (hal2 _ _ _ _ _ (T2.l1.rowIs T2.r1) (T2.l2.rowIs T2.r2)).1).mono ?_; rintro e w13 ⟨rfl, g13⟩; have T3 := T2.garb g13; clear T2 g13)
    | (go_at_call 31; refine (ans_nil (hal2 _ _ _ _ _ T3.r1 T3.r2).2).mono ?_; rintro e w14 ⟨rfl, g14⟩; have T4 := T3.garb g14; clear T3 g14 hal2)
    | (go_at_call 21; have T4' := T4; clear T4'; refine (same_nil none none 0 0 _).mono ?_; rintro e w15 ⟨rfl, k15, e15⟩; have T5 := T4.garb (drewN_garb _ k15); rw [← e15] at T5; clear T4 e15)
    | (go_at_call 23; refine (keptL T5.r1 T5.l1).mono ?_; rintro e w16 ⟨rfl, k16, e16⟩; have T6 := T5.garb (drewN_garb _ k16); rw [← e16] at T6; clear T5 e16)
    | (go_at_call 23; refine (keptL T6.r2 T6.l2).mono ?_; rintro e w17 ⟨rfl, k17, e17⟩; have T7 := T6.garb (drewN_garb _ k17); rw [← e17] at T7; clear T6 e17)
    | (go_at_call 27; refine (awake_is _).mono ?_; rintro e w18 ⟨rfl, g18⟩; have T8 := T7.garb g18; clear T7 g18))
  go_ret
  exact ⟨rfl, T8.g⟩
set_option maxRecDepth 100000 in
set_option maxHeartbeats 2000000 in
theorem walk10 {a0 : Int} {A B : Option Addr} {n c n' c' : Nat} {z1 z2 : List Int} {a3 : Int} {w : World} {CA : Option Addr} {cn cc : Nat} {CB : Option Addr} {cm cd : Nat} {DA : Option Addr} {dn dc : Nat} {DB : Option Addr} {dm dd : Nat}
    (hc1 : CutIs A n c 16 CA cn cc) (q1 : RowIs w CA cn cc z1) (hc2 : CutIs B n' c' 16 CB cm cd) (q2 : RowIs w CB cm cd z2) (hd1 : CutIs A n c 8 DA dn dc) (u1 : RowIs w DA dn dc z1) (hd2 : CutIs B n' c' 8 DB dm dd) (u2 : RowIs w DB dm dd z2)
    {L : List Int} {code : Int} (hall : Both 28 29 a0 cn cm a3 z1 z2 L code) {M : List Int} {code2 : Int} (hal2 : Both 30 31 a0 dn dm a3 z1 z2 M code2) (hL0 : L = []) (hMn : ¬ M = []) (hM : M.length ≤ 1000) :
    Calls Try.prog 4 #[.int .i64 a0, .slice A n c, .slice B n' c', .int .i64 a3] w fun e w' => e = .returned (.bool true) ∧ Garb w w' := by
  subst hL0
  have hM2 : M.length ≤ 9223372036854775807 := by omega
  clear hM
  go_enter Try.func4, Try.ntmps4
  go_wp2_with (first
    | (go_at_call 17; refine (hc1 _).mono ?_; rintro e w1 ⟨rfl, hw⟩; obtain rfl := hw.symm; clear hc1)
    | (go_at_call 17; refine (hc2 _).mono ?_; rintro e w1 ⟨rfl, hw⟩; obtain rfl := hw.symm; clear hc2)
    | (go_at_call 18; refine (lendL q1).mono ?_; rintro e w1 ⟨gx, kx, rfl, ⟨lx, bx⟩, g1⟩; have p1 := q1.garb g1; have p2 := q2.garb g1; clear q1 q2 bx)
    | (go_at_call 18; refine (lendL p2).mono ?_; rintro e w2 ⟨gy, ky, rfl, ⟨ly, by1⟩, g2⟩; have S2 : St w w2 CA cn cc z1 CB cm cd z2 gx kx gy ky := ⟨g1.trans g2, p1.garb g2, p2.garb g2, lx.garb g2, ly⟩; clear p1 p2 lx ly g1 g2 by1)
    | (go_at_call 28; refine (ans_nil (hall _ _ _ _ _ (S2.l1.rowIs S2.r1) (S2.l2.rowIs S2.r2)).1).mono ?_; rintro e w3 ⟨rfl, g3⟩; have S3 := S2.garb g3; clear S2 g3)
    | (go_at_call 28; refine (ans_nil (hall _ _ _ _ _ (S3.l1.rowIs S3.r1) (S3.l2.rowIs S3.r2)).1).mono ?_; rintro e w4 ⟨rfl, g4⟩; have S4 := S3.garb g4; clear S3 g4)
    | (go_at_call 29; refine (ans_nil (hall _ _ _ _ _ S4.r1 S4.r2).2).mono ?_; rintro e w5 ⟨rfl, g5⟩; have S5 := S4.garb g5; clear S4 g5 hall)
    | (go_at_call 21; have S5' := S5; clear S5'; refine (same_nil none none 0 0 _).mono ?_; rintro e w6 ⟨rfl, k6, e6⟩; have S6 := S5.garb (drewN_garb _ k6); rw [← e6] at S6; clear S5 e6)
    | (go_at_call 23; refine (keptL S6.r1 S6.l1).mono ?_; rintro e w7 ⟨rfl, k7, e7⟩; have S7 := S6.garb (drewN_garb _ k7); rw [← e7] at S7; clear S6 e7)
    | (go_at_call 23; refine (keptL S7.r2 S7.l2).mono ?_; rintro e w8 ⟨rfl, k8, e8⟩; have S8 := S7.garb (drewN_garb _ k8); rw [← e8] at S8; clear S7 e8)
    | (go_at_call 24; refine (spoil_nil _).mono ?_; rintro e wn ⟨rfl, hw⟩; obtain rfl := hw.symm)
    | (go_at_call 21; have S8' := S8; clear S8'; refine (same_nil none none 0 0 _).mono ?_; rintro e w10 ⟨rfl, k9, e9⟩; have S9 := S8.garb (drewN_garb _ k9); rw [← e9] at S9; have G10 := S9.g; clear S8 e9 S9)
    | (go_at_call 22; refine (num_ok _ _).mono ?_; rintro e wn ⟨rfl, hw⟩; obtain rfl := hw.symm)
    | (go_at_call 17; refine (hd1 _).mono ?_; rintro e w1 ⟨rfl, hw⟩; obtain rfl := hw.symm; clear hd1)
    | (go_at_call 17; refine (hd2 _).mono ?_; rintro e w1 ⟨rfl, hw⟩; obtain rfl := hw.symm; clear hd2)
    | (go_at_call 18; refine (lendL (u1.garb G10)).mono ?_; rintro e w11 ⟨hx, jx, rfl, ⟨lx, bx⟩, g11⟩; have G11 := G10.trans g11; have p3 := u1.garb G11; have p4 := u2.garb G11; clear G10 g11 u1 u2 bx)
    | (go_at_call 18; refine (lendL p4).mono ?_; rintro e w12 ⟨hy, jy, rfl, ⟨ly, by1⟩, g12⟩; have T2 : St w w12 DA dn dc z1 DB dm dd z2 hx jx hy jy := ⟨G11.trans g12, p3.garb g12, p4.garb g12, lx.garb g12, ly⟩; clear p3 p4 lx ly G11 g12 by1)
    | (go_at_call 30; refine (ans_row hMn (hal2 _ _ _ _ _ (T2.l1.rowIs T2.r1) (T2.l2.rowIs T2.r2)).1).mono ?_; rintro e w13 ⟨bs, cs, rfl, os13, g13⟩; have T3 := T2.garb g13; clear T2 g13)
    | (go_at_call 31; refine (ans_row hMn (hal2 _ _ _ _ _ T3.r1 T3.r2).2).mono ?_; rintro e w14 ⟨bt, ct, rfl, ot14, g14⟩; have T4 := T3.garb g14; have os14 := os13.garb g14; clear T3 g14 hal2 os13)
    | (go_at_call 21; have T4' := T4; clear T4'; refine (sameL hM2 os14.row ot14.row).mono ?_; rintro e w15 ⟨rfl, k15, e15⟩; have T5 := T4.garb (drewN_garb _ k15); rw [← e15] at T5; clear T4 e15 os14 ot14)
    | (go_at_call 23; refine (keptL T5.r1 T5.l1).mono ?_; rintro e w16 ⟨rfl, k16, e16⟩; have T6 := T5.garb (drewN_garb _ k16); rw [← e16] at T6; clear T5 e16)
    | (go_at_call 23; refine (keptL T6.r2 T6.l2).mono ?_; rintro e w17 ⟨rfl, k17, e17⟩; have T7 := T6.garb (drewN_garb _ k17); rw [← e17] at T7; clear T6 e17)
    | (go_at_call 27; refine (awake_is _).mono ?_; rintro e w18 ⟨rfl, g18⟩; have T8 := T7.garb g18; clear T7 g18))
  go_ret
  exact ⟨rfl, T8.g⟩
set_option maxRecDepth 100000 in
set_option maxHeartbeats 2000000 in
theorem walk01 {a0 : Int} {A B : Option Addr} {n c n' c' : Nat} {z1 z2 : List Int} {a3 : Int} {w : World} {CA : Option Addr} {cn cc : Nat} {CB : Option Addr} {cm cd : Nat} {DA : Option Addr} {dn dc : Nat} {DB : Option Addr} {dm dd : Nat}
    (hc1 : CutIs A n c 16 CA cn cc) (q1 : RowIs w CA cn cc z1) (hc2 : CutIs B n' c' 16 CB cm cd) (q2 : RowIs w CB cm cd z2) (hd1 : CutIs A n c 8 DA dn dc) (u1 : RowIs w DA dn dc z1) (hd2 : CutIs B n' c' 8 DB dm dd) (u2 : RowIs w DB dm dd z2)
    {L : List Int} {code : Int} (hall : Both 28 29 a0 cn cm a3 z1 z2 L code) {M : List Int} {code2 : Int} (hal2 : Both 30 31 a0 dn dm a3 z1 z2 M code2) (hLn : ¬ L = []) (hL : L.length ≤ 1000) (hM0 : M = []) :
    Calls Try.prog 4 #[.int .i64 a0, .slice A n c, .slice B n' c', .int .i64 a3] w fun e w' => e = .returned (.bool true) ∧ Garb w w' := by
  have hL2 : L.length ≤ 9223372036854775807 := by omega
  subst hM0
  go_enter Try.func4, Try.ntmps4
  go_wp2_with (first
    | (go_at_call 17; refine (hc1 _).mono ?_; rintro e w1 ⟨rfl, hw⟩; obtain rfl := hw.symm; clear hc1)
    | (go_at_call 17; refine (hc2 _).mono ?_; rintro e w1 ⟨rfl, hw⟩; obtain rfl := hw.symm; clear hc2)
    | (go_at_call 18; refine (lendL q1).mono ?_; rintro e w1 ⟨gx, kx, rfl, ⟨lx, bx⟩, g1⟩; have p1 := q1.garb g1; have p2 := q2.garb g1; clear q1 q2 bx)
    | (go_at_call 18; refine (lendL p2).mono ?_; rintro e w2 ⟨gy, ky, rfl, ⟨ly, by1⟩, g2⟩; have S2 : St w w2 CA cn cc z1 CB cm cd z2 gx kx gy ky := ⟨g1.trans g2, p1.garb g2, p2.garb g2, lx.garb g2, ly⟩; clear p1 p2 lx ly g1 g2 by1)
    | (go_at_call 28; refine (ans_row hLn (hall _ _ _ _ _ (S2.l1.rowIs S2.r1) (S2.l2.rowIs S2.r2)).1).mono ?_; rintro e w3 ⟨bp, cp, rfl, op3, g3⟩; have S3 := S2.garb g3; have zp := Nat.le_trans S2.g.below.size op3.1; clear S2 g3)
    | (go_at_call 28; refine (ans_row hLn (hall _ _ _ _ _ (S3.l1.rowIs S3.r1) (S3.l2.rowIs S3.r2)).1).mono ?_; rintro e w4 ⟨bq, cq, rfl, oq4, g4⟩; have S4 := S3.garb g4; have op4 := op3.garb g4; have npq : bq ≠ bp := Nat.ne_of_gt (Nat.lt_of_lt_of_le op3.lt oq4.1); clear S3 g4 op3)
    | (go_at_call 29; refine (ans_row hLn (hall _ _ _ _ _ S4.r1 S4.r2).2).mono ?_; rintro e w5 ⟨br, cr, rfl, or5, g5⟩; have S5 := S4.garb g5; have op5 := op4.garb g5; have oq5 := oq4.garb g5; have npr : br ≠ bp := Nat.ne_of_gt (Nat.lt_of_lt_of_le op4.lt or5.1); clear S4 g5 hall op4 oq4)
    | (go_at_call 21; have S5' := S5; clear S5'; refine (sameL hL2 op5.row or5.row).mono ?_; rintro e w6 ⟨rfl, k6, e6⟩; have d := drewN_garb w5 k6; rw [← e6] at d; have S6 := S5.garb d; have op6 := op5.garb d; have oq6 := oq5.garb d; have or6 := or5.garb d; clear S5 e6 op5 oq5 or5 d)
    | (go_at_call 23; refine (keptL S6.r1 S6.l1).mono ?_; rintro e w7 ⟨rfl, k7, e7⟩; have d := drewN_garb w6 k7; rw [← e7] at d; have S7 := S6.garb d; have op7 := op6.garb d; have oq7 := oq6.garb d; have or7 := or6.garb d; clear S6 e7 op6 oq6 or6 d)
    | (go_at_call 23; refine (keptL S7.r2 S7.l2).mono ?_; rintro e w8 ⟨rfl, k8, e8⟩; have d := drewN_garb w7 k8; rw [← e8] at d; have S8 := S7.garb d; have op8 := op7.garb d; have oq8 := oq7.garb d; have or8 := or7.garb d; clear S7 e8 op7 oq7 or7 d)
    | (go_at_call 24; refine (spoil_own hL op8).mono ?_; rintro e w9 ⟨rfl, b9, f9⟩; have G9 := But.garb S8.g b9 zp f9; have oq9 := oq8.but b9 npq; have or9 := or8.but b9 npr; clear S8 op8 oq8 or8 b9 f9)
    | (go_at_call 21; refine (sameL hL2 oq9.row or9.row).mono ?_; rintro e w10 ⟨rfl, k10, e10⟩; have G10 := G9.trans (drewN_garb _ k10); rw [← e10] at G10; clear G9 e10 oq9 or9 npq npr zp)
    | (go_at_call 22; refine (num_ok _ _).mono ?_; rintro e wn ⟨rfl, hw⟩; obtain rfl := hw.symm)
    | (go_at_call 17; refine (hd1 _).mono ?_; rintro e w1 ⟨rfl, hw⟩; obtain rfl := hw.symm; clear hd1)
    | (go_at_call 17; refine (hd2 _).mono ?_; rintro e w1 ⟨rfl, hw⟩; obtain rfl := hw.symm; clear hd2)
    | (go_at_call 18; refine (lendL (u1.garb G10)).mono ?_; rintro e w11 ⟨hx, jx, rfl, ⟨lx, bx⟩, g11⟩; have G11 := G10.trans g11; have p3 := u1.garb G11; have p4 := u2.garb G11; clear G10 g11 u1 u2 bx)
    | (go_at_call 18; refine (lendL p4).mono ?_; rintro e w12 ⟨hy, jy, rfl, ⟨ly, by1⟩, g12⟩; have T2 : St w w12 DA dn dc z1 DB dm dd z2 hx jx hy jy := ⟨G11.trans g12, p3.garb g12, p4.garb g12, lx.garb g12, ly⟩; clear p3 p4 lx ly G11 g12 by1)
    | (go_at_call 30; refine (ans_nil (hal2 _ _ _ _ _ (T2.l1.rowIs T2.r1) (T2.l2.rowIs T2.r2)).1).mono ?_; rintro e w13 ⟨rfl, g13⟩; have T3 := T2.garb g13; clear T2 g13)
    | (go_at_call 31; refine (ans_nil (hal2 _ _ _ _ _ T3.r1 T3.r2).2).mono ?_; rintro e w14 ⟨rfl, g14⟩; have T4 := T3.garb g14; clear T3 g14 hal2)
    | (go_at_call 21; have T4' := T4; clear T4'; refine (same_nil none none 0 0 _).mono ?_; rintro e w15 ⟨rfl, k15, e15⟩; have T5 := T4.garb (drewN_garb _ k15); rw [← e15] at T5; clear T4 e15)
    | (go_at_call 23; refine (keptL T5.r1 T5.l1).mono ?_; rintro e w16 ⟨rfl, k16, e16⟩; have T6 := T5.garb (drewN_garb _ k16); rw [← e16] at T6; clear T5 e16)
    | (go_at_call 23; refine (keptL T6.r2 T6.l2).mono ?_; rintro e w17 ⟨rfl, k17, e17⟩; have T7 := T6.garb (drewN_garb _ k17); rw [← e17] at T7; clear T6 e17)
    | (go_at_call 27; refine (awake_is _).mono ?_; rintro e w18 ⟨rfl, g18⟩; have T8 := T7.garb g18; clear T7 g18))
  go_ret
  exact ⟨rfl, T8.g⟩
set_option maxRecDepth 100000 in
set_option maxHeartbeats 2000000 in
theorem walk00 {a0 : Int} {A B : Option Addr} {n c n' c' : Nat} {z1 z2 : List Int} {a3 : Int} {w : World} {CA : Option Addr} {cn cc : Nat} {CB : Option Addr} {cm cd : Nat} {DA : Option Addr} {dn dc : Nat} {DB : Option Addr} {dm dd : Nat}
    (hc1 : CutIs A n c 16 CA cn cc) (q1 : RowIs w CA cn cc z1) (hc2 : CutIs B n' c' 16 CB cm cd) (q2 : RowIs w CB cm cd z2) (hd1 : CutIs A n c 8 DA dn dc) (u1 : RowIs w DA dn dc z1) (hd2 : CutIs B n' c' 8 DB dm dd) (u2 : RowIs w DB dm dd z2)
    {L : List Int} {code : Int} (hall : Both 28 29 a0 cn cm a3 z1 z2 L code) {M : List Int} {code2 : Int} (hal2 : Both 30 31 a0 dn dm a3 z1 z2 M code2) (hLn : ¬ L = []) (hL : L.length ≤ 1000) (hMn : ¬ M = []) (hM : M.length ≤ 1000) :
    Calls Try.prog 4 #[.int .i64 a0, .slice A n c, .slice B n' c', .int .i64 a3] w fun e w' => e = .returned (.bool true) ∧ Garb w w' := by
  have hL2 : L.length ≤ 9223372036854775807 := by omega
  have hM2 : M.length ≤ 9223372036854775807 := by omega
  clear hM
  go_enter Try.func4, Try.ntmps4
  go_wp2_with (first
    | (go_at_call 17; refine (hc1 _).mono ?_; rintro e w1 ⟨rfl, hw⟩; obtain rfl := hw.symm; clear hc1)
    | (go_at_call 17; refine (hc2 _).mono ?_; rintro e w1 ⟨rfl, hw⟩; obtain rfl := hw.symm; clear hc2)
    | (go_at_call 18; refine (lendL q1).mono ?_; rintro e w1 ⟨gx, kx, rfl, ⟨lx, bx⟩, g1⟩; have p1 := q1.garb g1; have p2 := q2.garb g1; clear q1 q2 bx)
    | (go_at_call 18; refine (lendL p2).mono ?_; rintro e w2 ⟨gy, ky, rfl, ⟨ly, by1⟩, g2⟩; have S2 : St w w2 CA cn cc z1 CB cm cd z2 gx kx gy ky := ⟨g1.trans g2, p1.garb g2, p2.garb g2, lx.garb g2, ly⟩; clear p1 p2 lx ly g1 g2 by1)
    | (go_at_call 28; refine (ans_row hLn (hall _ _ _ _ _ (S2.l1.rowIs S2.r1) (S2.l2.rowIs S2.r2)).1).mono ?_; rintro e w3 ⟨bp, cp, rfl, op3, g3⟩; have S3 := S2.garb g3; have zp := Nat.le_trans S2.g.below.size op3.1; clear S2 g3)
    | (go_at_call 28; refine (ans_row hLn (hall _ _ _ _ _ (S3.l1.rowIs S3.r1) (S3.l2.rowIs S3.r2)).1).mono ?_; rintro e w4 ⟨bq, cq, rfl, oq4, g4⟩; have S4 := S3.garb g4; have op4 := op3.garb g4; have npq : bq ≠ bp := Nat.ne_of_gt (Nat.lt_of_lt_of_le op3.lt oq4.1); clear S3 g4 op3)
    | (go_at_call 29; refine (ans_row hLn (hall _ _ _ _ _ S4.r1 S4.r2).2).mono ?_; rintro e w5 ⟨br, cr, rfl, or5, g5⟩; have S5 := S4.garb g5; have op5 := op4.garb g5; have oq5 := oq4.garb g5; have npr : br ≠ bp := Nat.ne_of_gt (Nat.lt_of_lt_of_le op4.lt or5.1); clear S4 g5 hall op4 oq4)
    | (go_at_call 21; have S5' := S5; clear S5'; refine (sameL hL2 op5.row or5.row).mono ?_; rintro e w6 ⟨rfl, k6, e6⟩; have d := drewN_garb w5 k6; rw [← e6] at d; have S6 := S5.garb d; have op6 := op5.garb d; have oq6 := oq5.garb d; have or6 := or5.garb d; clear S5 e6 op5 oq5 or5 d)
    | (go_at_call 23; refine (keptL S6.r1 S6.l1).mono ?_; rintro e w7 ⟨rfl, k7, e7⟩; have d := drewN_garb w6 k7; rw [← e7] at d; have S7 := S6.garb d; have op7 := op6.garb d; have oq7 := oq6.garb d; have or7 := or6.garb d; clear S6 e7 op6 oq6 or6 d)
    | (go_at_call 23; refine (keptL S7.r2 S7.l2).mono ?_; rintro e w8 ⟨rfl, k8, e8⟩; have d := drewN_garb w7 k8; rw [← e8] at d; have S8 := S7.garb d; have op8 := op7.garb d; have oq8 := oq7.garb d; have or8 := or7.garb d; clear S7 e8 op7 oq7 or7 d)
    | (go_at_call 24; refine (spoil_own hL op8).mono ?_; rintro e w9 ⟨rfl, b9, f9⟩; have G9 := But.garb S8.g b9 zp f9; have oq9 := oq8.but b9 npq; have or9 := or8.but b9 npr; clear S8 op8 oq8 or8 b9 f9)
    | (go_at_call 21; refine (sameL hL2 oq9.row or9.row).mono ?_; rintro e w10 ⟨rfl, k10, e10⟩; have G10 := G9.trans (drewN_garb _ k10); rw [← e10] at G10; clear G9 e10 oq9 or9 npq npr zp)
    | (go_at_call 22; refine (num_ok _ _).mono ?_; rintro e wn ⟨rfl, hw⟩; obtain rfl := hw.symm)
    | (go_at_call 17; refine (hd1 _).mono ?_; rintro e w1 ⟨rfl, hw⟩; obtain rfl := hw.symm; clear hd1)
    | (go_at_call 17; refine (hd2 _).mono ?_; rintro e w1 ⟨rfl, hw⟩; obtain rfl := hw.symm; clear hd2)
    | (go_at_call 18; refine (lendL (u1.garb G10)).mono ?_; rintro e w11 ⟨hx, jx, rfl, ⟨lx, bx⟩, g11⟩; have G11 := G10.trans g11; have p3 := u1.garb G11; have p4 := u2.garb G11; clear G10 g11 u1 u2 bx)
    | (go_at_call 18; refine (lendL p4).mono ?_; rintro e w12 ⟨hy, jy, rfl, ⟨ly, by1⟩, g12⟩; have T2 : St w w12 DA dn dc z1 DB dm dd z2 hx jx hy jy := ⟨G11.trans g12, p3.garb g12, p4.garb g12, lx.garb g12, ly⟩; clear p3 p4 lx ly G11 g12 by1)
    | (go_at_call 30; refine (ans_row hMn (hal2 _ _ _ _ _ (T2.l1.rowIs T2.r1) (T2.l2.rowIs T2.r2)).1).mono ?_; rintro e w13 ⟨bs, cs, rfl, os13, g13⟩; have T3 := T2.garb g13; clear T2 g13)
    | (go_at_call 31; refine (ans_row hMn (hal2 _ _ _ _ _ T3.r1 T3.r2).2).mono ?_; rintro e w14 ⟨bt, ct, rfl, ot14, g14⟩; have T4 := T3.garb g14; have os14 := os13.garb g14; clear T3 g14 hal2 os13)
    | (go_at_call 21; have T4' := T4; clear T4'; refine (sameL hM2 os14.row ot14.row).mono ?_; rintro e w15 ⟨rfl, k15, e15⟩; have T5 := T4.garb (drewN_garb _ k15); rw [← e15] at T5; clear T4 e15 os14 ot14)
    | (go_at_call 23; refine (keptL T5.r1 T5.l1).mono ?_; rintro e w16 ⟨rfl, k16, e16⟩; have T6 := T5.garb (drewN_garb _ k16); rw [← e16] at T6; clear T5 e16)
    | (go_at_call 23; refine (keptL T6.r2 T6.l2).mono ?_; rintro e w17 ⟨rfl, k17, e17⟩; have T7 := T6.garb (drewN_garb _ k17); rw [← e17] at T7; clear T6 e17)
    | (go_at_call 27; refine (awake_is _).mono ?_; rintro e w18 ⟨rfl, g18⟩; have T8 := T7.garb g18; clear T7 g18))
  go_ret
  exact ⟨rfl, T8.g⟩
theorem main (a0 : Int) (A B : Option Addr) (n c n' c' : Nat) (z1 z2 : List Int) (a3 : Int) (w : World) (h1 : RowIs w A n c z1) (h2 : RowIs w B n' c' z2) (whole : ∀ nx ny, (nx = 0 ∨ nx = 16) → (ny = 0 ∨ ny = 16) → tw.Twin 28 29 a0 nx ny a3 z1 z2)
    (chroma : ∀ nx ny, (nx = 0 ∨ nx = 8) → (ny = 0 ∨ ny = 8) → tw.Twin 30 31 a0 nx ny a3 z1 z2) :
    Calls Try.prog 4 #[.int .i64 a0, .slice A n c, .slice B n' c', .int .i64 a3] w fun e w' => e = .returned (.bool true) ∧ Garb w w' := by
  obtain ⟨CA, cn, cc, hc1, r1, e1, _⟩ := cut_ok h1 16 16 rfl
  obtain ⟨CB, cm, cd, hc2, r2, e2, _⟩ := cut_ok h2 16 16 rfl
  obtain ⟨DA, dn, dc, hd1, u1, e3, _⟩ := cut_ok h1 8 8 rfl
  obtain ⟨DB, dm, dd, hd2, u2, e4, _⟩ := cut_ok h2 8 8 rfl
  obtain ⟨L, code, hL, hall⟩ := whole cn cm e1 e2
  obtain ⟨M, code2, hM, hal2⟩ := chroma dn dm e3 e4
  have hall : Both 28 29 a0 cn cm a3 z1 z2 L code := hall
  have hal2 : Both 30 31 a0 dn dm a3 z1 z2 M code2 := hal2
  by_cases hLn : L = []
  · by_cases hMn : M = []
    · exact walk11 hc1 r1 hc2 r2 hd1 u1 hd2 u2 hall hal2 hLn hMn
    · exact walk10 hc1 r1 hc2 r2 hd1 u1 hd2 u2 hall hal2 hLn hMn hM
  · by_cases hMn : M = []
    · exact walk01 hc1 r1 hc2 r2 hd1 u1 hd2 u2 hall hal2 hLn hL hMn
    · exact walk00 hc1 r1 hc2 r2 hd1 u1 hd2 u2 hall hal2 hLn hL hMn hM
theorem rowIs_of {w : World} {a : Option Addr} {len cap : Nat} {zs : List Int} (h : Go.RX.IsRow w a len cap zs) (hb : len * 8 ≤ 140737488351232) : RowIs w a len cap zs := by
  have hbd := h.bd
  rcases h with ⟨rfl, rfl, rfl, rfl⟩ | ⟨x, rfl, h1, h2, h3, h4, h5⟩
  · exact RowIs.none w hbd
  · refine ⟨h1, by omega, hbd, ?_⟩
    rcases Nat.eq_zero_or_pos len with h0 | h0
    · exact .inl h0
    · obtain ⟨b, off, spot⟩ := x
      have hc0 := h4 0 (by omega)
      have hspot : spot = none := by simpa [Addr.add] using World.cell?_spot hc0
      subst hspot
      refine .inr ⟨b, off, rfl, ?_, fun j hj => ?_⟩
      · have := World.block_lt_of_cell? w _ hc0
        rwa [Go.RX.addr_block] at this
      · have := h4 j (by omega)
        rwa [add_at] at this
theorem bytes3 : Try.prog.bytesOf 3 = 8 := by kernel_rfl
end Go.Proofs.Ytmfleenmjbbgmaa.intraWholes
