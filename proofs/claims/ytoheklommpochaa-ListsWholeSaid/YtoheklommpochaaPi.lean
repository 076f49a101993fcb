/- A picture's number: the program's and the document's. -/
import Derived.Test.YtoheklommpochaaRxAwake
import Derived.Test.YtoheklommpochaaRxTw
import Derived.Test.YtoheklommpochaaLendR
namespace Go.Proofs.Ytoheklommpochaa.pi
open Go.RX Go.RowKit Go.Proofs.Ytoheklommpochaa Go.Proofs.Ytoheklommpochaa.rf
set_option linter.unusedVariables false
noncomputable def R : Rg := rg [] [5] false false 0
noncomputable def cxJ : Cx := cx R 0 0 0
noncomputable def geF (v : Nat) (n : Int) : E := E.addK (-n) (.atom (.var v))
noncomputable def leF (v : Nat) (n : Int) : E := E.addK n (E.smulG (-1) (.atom (.var v)))
theorem geF_den {V : Va} {v : Nat} {n : Int} (h : n ≤ V.v v) : 0 ≤ (geF v n).den V := by unfold geF; rw [E.den_addK, E.den_atom]; simp only [E.den]; omega
theorem leF_den {V : Va} {v : Nat} {n : Int} (h : V.v v ≤ n) : 0 ≤ (leF v n).den V := by unfold leF; rw [E.den_addK, E.den_smulG, E.den_atom]; simp only [E.den]; omega
noncomputable def rf : AV := .agg [iv 0, iv 1, iv 2, iv 3, iv 4, bv 5]
noncomputable def gtE : E := E.addK (-1) (E.sub (.atom (.var 1)) (.atom (.var 6)))
noncomputable def leE : E := E.sub (.atom (.var 6)) (.atom (.var 1))
noncomputable def yw (k : Int) : E := .atom (.wr .i64 (E.addK (-k) (.atom (.var 1))))
noncomputable def run (f : FuncId) (fs : List E) (y : E) : Bool := (litRun Try.prog R cxJ 25 f [rf, iv 6, iv 7] fs (.int .i64 y)).good
def In64 (x : Int) : Prop := -9223372036854775808 ≤ x ∧ x ≤ 9223372036854775807
structure R6.ok (r : R6) : Prop where
  i : In64 r.i
  f : In64 r.f
  l : In64 r.l
  m : In64 r.m
  p : In64 r.p
def sv6 (r : R6) : Value := .agg #[.int .i64 r.i, .int .i64 r.f, .int .i64 r.l, .int .i64 r.m, .int .i64 r.p, .bool r.o]
noncomputable abbrev V (r : R6) (now bits : Int) : Va := va [r.i, r.f, r.l, r.m, r.p, b01 r.o, now, bits] []
def wrapN (bits : Int) : Int := if bits ≤ 4 then 16 else if bits = 5 then 32 else if bits = 6 then 64 else if bits = 7 then 128 else 256
/-- A picture's number. -/
def pic (r : R6) (now bits : Int) : Int := if r.m = 2 then r.l else if now < r.f then IntKind.i64.wrap (r.f - wrapN bits) else r.f
theorem fs1 {V : Va} {x : E} {l : List E} (h : 0 ≤ x.den V) (h' : Fs.ok V l) : Fs.ok V (x :: l) := fun y hy => by
  rcases List.mem_cons.1 hy with rfl | hy
  · exact h
  · exact h' y hy
theorem fs0 {V : Va} : Fs.ok V [] := fun y hy => by cases hy
theorem core {f : FuncId} {fs : List E} {y : E} (h : run f fs y = true) {r : R6} {now bits : Int} (hr : R6.ok r) (hn : In64 now) (hb : In64 bits) (hf : Fs.ok (V r now bits) fs) {t : Int} (ht : y.den (V r now bits) = t) (w : World) :
    Calls Try.prog f #[sv6 r, .int .i64 now, .int .i64 bits] w fun e w' => e = .returned (.int .i64 t) ∧ Garb w w' := by
  have hR : R.ok (V r now bits) := rg_ok (lens := []) (bls := [5]) (by decide) (by decide) ⟨hr.i, hr.f, hr.l, hr.m, hr.p, b01_bd _, hn, hb, trivial⟩ (fun r hr => by cases hr)
  refine lit_ok hR (fun _ h => cx_ok h _ _ _ _) h (fun N => by simp only [AV.rel]; rw [ht]) (fun N => ?_) hf (args_ok (fun r hr => by cases hr))
  have k : rf.rel (V r now bits) N (sv6 r) := by
    unfold rf sv6
    simp only [AV.rel]
    exact ⟨_, rfl, rels_cons' (iv_rel 0 (by decide) rfl) (rels_cons' (iv_rel 1 (by decide) rfl) (rels_cons' (iv_rel 2 (by decide) rfl) (rels_cons' (iv_rel 3 (by decide) rfl) (rels_cons' (iv_rel 4 (by decide) rfl) (rels_cons' (bv_rel 5 (by decide) rfl) (rels_nil.2 rfl))))))⟩
  exact rels_cons' k (rels_cons' (iv_rel 6 (by decide) rfl) (rels_cons' (iv_rel 7 (by decide) rfl) (rels_nil.2 rfl)))
theorem m2_33 : run 33 [geF 3 2, leF 3 2] (.atom (.var 2)) = true := by kernel_rfl
theorem les_33 : run 33 [leF 3 1, leE] (.atom (.var 1)) = true := by kernel_rfl
theorem gtsa_33 : run 33 [leF 3 1, gtE, leF 7 4] (yw 16) = true := by kernel_rfl
theorem gtsb_33 : run 33 [leF 3 1, gtE, geF 7 5, leF 7 5] (yw 32) = true := by kernel_rfl
theorem gtsc_33 : run 33 [leF 3 1, gtE, geF 7 6, leF 7 6] (yw 64) = true := by kernel_rfl
theorem gtsd_33 : run 33 [leF 3 1, gtE, geF 7 7, leF 7 7] (yw 128) = true := by kernel_rfl
theorem gtse_33 : run 33 [leF 3 1, gtE, geF 7 8] (yw 256) = true := by kernel_rfl
theorem leg_33 : run 33 [geF 3 3, leE] (.atom (.var 1)) = true := by kernel_rfl
theorem gtga_33 : run 33 [geF 3 3, gtE, leF 7 4] (yw 16) = true := by kernel_rfl
theorem gtgb_33 : run 33 [geF 3 3, gtE, geF 7 5, leF 7 5] (yw 32) = true := by kernel_rfl
theorem gtgc_33 : run 33 [geF 3 3, gtE, geF 7 6, leF 7 6] (yw 64) = true := by kernel_rfl
theorem gtgd_33 : run 33 [geF 3 3, gtE, geF 7 7, leF 7 7] (yw 128) = true := by kernel_rfl
theorem gtge_33 : run 33 [geF 3 3, gtE, geF 7 8] (yw 256) = true := by kernel_rfl
theorem m2_52 : run 52 [geF 3 2, leF 3 2] (.atom (.var 2)) = true := by kernel_rfl
theorem les_52 : run 52 [leF 3 1, leE] (.atom (.var 1)) = true := by kernel_rfl
theorem gtsa_52 : run 52 [leF 3 1, gtE, leF 7 4] (yw 16) = true := by kernel_rfl
theorem gtsb_52 : run 52 [leF 3 1, gtE, geF 7 5, leF 7 5] (yw 32) = true := by kernel_rfl
theorem gtsc_52 : run 52 [leF 3 1, gtE, geF 7 6, leF 7 6] (yw 64) = true := by kernel_rfl
theorem gtsd_52 : run 52 [leF 3 1, gtE, geF 7 7, leF 7 7] (yw 128) = true := by kernel_rfl
theorem gtse_52 : run 52 [leF 3 1, gtE, geF 7 8] (yw 256) = true := by kernel_rfl
theorem leg_52 : run 52 [geF 3 3, leE] (.atom (.var 1)) = true := by kernel_rfl
theorem gtga_52 : run 52 [geF 3 3, gtE, leF 7 4] (yw 16) = true := by kernel_rfl
theorem gtgb_52 : run 52 [geF 3 3, gtE, geF 7 5, leF 7 5] (yw 32) = true := by kernel_rfl
theorem gtgc_52 : run 52 [geF 3 3, gtE, geF 7 6, leF 7 6] (yw 64) = true := by kernel_rfl
theorem gtgd_52 : run 52 [geF 3 3, gtE, geF 7 7, leF 7 7] (yw 128) = true := by kernel_rfl
theorem gtge_52 : run 52 [geF 3 3, gtE, geF 7 8] (yw 256) = true := by kernel_rfl
theorem pic_ok {f : FuncId} (hf : f = 33 ∨ f = 52) {r : R6} {now bits : Int} (hr : R6.ok r) (hn : In64 now) (hb : In64 bits) (w : World) :
    Calls Try.prog f #[sv6 r, .int .i64 now, .int .i64 bits] w fun e w' => e = .returned (.int .i64 (pic r now bits)) ∧ Garb w w' := by
  have d1 : ∀ (v : Nat) (x : Int), (V r now bits).v v = x → (E.atom (.var v)).den (V r now bits) = x := fun v x h => by rw [E.den_atom]; exact h
  have dle : r.f ≤ now → 0 ≤ leE.den (V r now bits) := fun h => by unfold leE; rw [E.den_sub, d1 6 now rfl, d1 1 r.f rfl]; omega
  have dgt : now < r.f → 0 ≤ gtE.den (V r now bits) := fun h => by unfold gtE; rw [E.den_addK, E.den_sub, d1 6 now rfl, d1 1 r.f rfl]; omega
  have dyw : ∀ k : Int, (yw k).den (V r now bits) = IntKind.i64.wrap (r.f - k) := fun k => by
    unfold yw; rw [E.den_atom]; simp only [E.den]; rw [E.den_addK, d1 1 r.f rfl]; congr 1
  unfold pic
  rcases (show r.m = 2 ∨ r.m ≤ 1 ∨ 3 ≤ r.m by omega) with h2 | h2 | h2
  · rw [if_pos h2]
    rcases hf with rfl | rfl
    · exact core m2_33 hr hn hb (fs1 (geF_den (by show (2 : Int) ≤ r.m; omega)) (fs1 (leF_den (by show r.m ≤ (2 : Int); omega)) fs0)) (d1 2 r.l rfl) w
    · exact core m2_52 hr hn hb (fs1 (geF_den (by show (2 : Int) ≤ r.m; omega)) (fs1 (leF_den (by show r.m ≤ (2 : Int); omega)) fs0)) (d1 2 r.l rfl) w
  · rw [if_neg (by omega)]
    by_cases hg : now < r.f
    · rw [if_pos hg]
      unfold wrapN
      rcases (show bits ≤ 4 ∨ bits = 5 ∨ bits = 6 ∨ bits = 7 ∨ 8 ≤ bits by omega) with b4 | b4 | b4 | b4 | b4
      · rw [if_pos b4]
        rcases hf with rfl | rfl
        · exact core gtsa_33 hr hn hb (fs1 (leF_den (by show r.m ≤ (1 : Int); omega)) (fs1 (dgt hg) (fs1 (leF_den (by show bits ≤ (4 : Int); omega)) fs0))) (dyw 16) w
        · exact core gtsa_52 hr hn hb (fs1 (leF_den (by show r.m ≤ (1 : Int); omega)) (fs1 (dgt hg) (fs1 (leF_den (by show bits ≤ (4 : Int); omega)) fs0))) (dyw 16) w
      · rw [if_neg (by omega), if_pos b4]
        rcases hf with rfl | rfl
        · exact core gtsb_33 hr hn hb (fs1 (leF_den (by show r.m ≤ (1 : Int); omega)) (fs1 (dgt hg) (fs1 (geF_den (by show (5 : Int) ≤ bits; omega)) (fs1 (leF_den (by show bits ≤ (5 : Int); omega)) fs0)))) (dyw 32) w
        · exact core gtsb_52 hr hn hb (fs1 (leF_den (by show r.m ≤ (1 : Int); omega)) (fs1 (dgt hg) (fs1 (geF_den (by show (5 : Int) ≤ bits; omega)) (fs1 (leF_den (by show bits ≤ (5 : Int); omega)) fs0)))) (dyw 32) w
      · rw [if_neg (by omega), if_neg (by omega), if_pos b4]
        rcases hf with rfl | rfl
        · exact core gtsc_33 hr hn hb (fs1 (leF_den (by show r.m ≤ (1 : Int); omega)) (fs1 (dgt hg) (fs1 (geF_den (by show (6 : Int) ≤ bits; omega)) (fs1 (leF_den (by show bits ≤ (6 : Int); omega)) fs0)))) (dyw 64) w
        · exact core gtsc_52 hr hn hb (fs1 (leF_den (by show r.m ≤ (1 : Int); omega)) (fs1 (dgt hg) (fs1 (geF_den (by show (6 : Int) ≤ bits; omega)) (fs1 (leF_den (by show bits ≤ (6 : Int); omega)) fs0)))) (dyw 64) w
      · rw [if_neg (by omega), if_neg (by omega), if_neg (by omega), if_pos b4]
        rcases hf with rfl | rfl
        · exact core gtsd_33 hr hn hb (fs1 (leF_den (by show r.m ≤ (1 : Int); omega)) (fs1 (dgt hg) (fs1 (geF_den (by show (7 : Int) ≤ bits; omega)) (fs1 (leF_den (by show bits ≤ (7 : Int); omega)) fs0)))) (dyw 128) w
        · exact core gtsd_52 hr hn hb (fs1 (leF_den (by show r.m ≤ (1 : Int); omega)) (fs1 (dgt hg) (fs1 (geF_den (by show (7 : Int) ≤ bits; omega)) (fs1 (leF_den (by show bits ≤ (7 : Int); omega)) fs0)))) (dyw 128) w
      · rw [if_neg (by omega), if_neg (by omega), if_neg (by omega), if_neg (by omega)]
        rcases hf with rfl | rfl
        · exact core gtse_33 hr hn hb (fs1 (leF_den (by show r.m ≤ (1 : Int); omega)) (fs1 (dgt hg) (fs1 (geF_den (by show (8 : Int) ≤ bits; omega)) fs0))) (dyw 256) w
        · exact core gtse_52 hr hn hb (fs1 (leF_den (by show r.m ≤ (1 : Int); omega)) (fs1 (dgt hg) (fs1 (geF_den (by show (8 : Int) ≤ bits; omega)) fs0))) (dyw 256) w
    · rw [if_neg hg]
      rcases hf with rfl | rfl
      · exact core les_33 hr hn hb (fs1 (leF_den (by show r.m ≤ (1 : Int); omega)) (fs1 (dle (by omega)) fs0)) (d1 1 r.f rfl) w
      · exact core les_52 hr hn hb (fs1 (leF_den (by show r.m ≤ (1 : Int); omega)) (fs1 (dle (by omega)) fs0)) (d1 1 r.f rfl) w
  · rw [if_neg (by omega)]
    by_cases hg : now < r.f
    · rw [if_pos hg]
      unfold wrapN
      rcases (show bits ≤ 4 ∨ bits = 5 ∨ bits = 6 ∨ bits = 7 ∨ 8 ≤ bits by omega) with b4 | b4 | b4 | b4 | b4
      · rw [if_pos b4]
        rcases hf with rfl | rfl
        · exact core gtga_33 hr hn hb (fs1 (geF_den (by show (3 : Int) ≤ r.m; omega)) (fs1 (dgt hg) (fs1 (leF_den (by show bits ≤ (4 : Int); omega)) fs0))) (dyw 16) w
        · exact core gtga_52 hr hn hb (fs1 (geF_den (by show (3 : Int) ≤ r.m; omega)) (fs1 (dgt hg) (fs1 (leF_den (by show bits ≤ (4 : Int); omega)) fs0))) (dyw 16) w
      · rw [if_neg (by omega), if_pos b4]
        rcases hf with rfl | rfl
        · exact core gtgb_33 hr hn hb (fs1 (geF_den (by show (3 : Int) ≤ r.m; omega)) (fs1 (dgt hg) (fs1 (geF_den (by show (5 : Int) ≤ bits; omega)) (fs1 (leF_den (by show bits ≤ (5 : Int); omega)) fs0)))) (dyw 32) w
        · exact core gtgb_52 hr hn hb (fs1 (geF_den (by show (3 : Int) ≤ r.m; omega)) (fs1 (dgt hg) (fs1 (geF_den (by show (5 : Int) ≤ bits; omega)) (fs1 (leF_den (by show bits ≤ (5 : Int); omega)) fs0)))) (dyw 32) w
      · rw [if_neg (by omega), if_neg (by omega), if_pos b4]
        rcases hf with rfl | rfl
        · exact core gtgc_33 hr hn hb (fs1 (geF_den (by show (3 : Int) ≤ r.m; omega)) (fs1 (dgt hg) (fs1 (geF_den (by show (6 : Int) ≤ bits; omega)) (fs1 (leF_den (by show bits ≤ (6 : Int); omega)) fs0)))) (dyw 64) w
        · exact core gtgc_52 hr hn hb (fs1 (geF_den (by show (3 : Int) ≤ r.m; omega)) (fs1 (dgt hg) (fs1 (geF_den (by show (6 : Int) ≤ bits; omega)) (fs1 (leF_den (by show bits ≤ (6 : Int); omega)) fs0)))) (dyw 64) w
      · rw [if_neg (by omega), if_neg (by omega), if_neg (by omega), if_pos b4]
        rcases hf with rfl | rfl
        · exact core gtgd_33 hr hn hb (fs1 (geF_den (by show (3 : Int) ≤ r.m; omega)) (fs1 (dgt hg) (fs1 (geF_den (by show (7 : Int) ≤ bits; omega)) (fs1 (leF_den (by show bits ≤ (7 : Int); omega)) fs0)))) (dyw 128) w
        · exact core gtgd_52 hr hn hb (fs1 (geF_den (by show (3 : Int) ≤ r.m; omega)) (fs1 (dgt hg) (fs1 (geF_den (by show (7 : Int) ≤ bits; omega)) (fs1 (leF_den (by show bits ≤ (7 : Int); omega)) fs0)))) (dyw 128) w
      · rw [if_neg (by omega), if_neg (by omega), if_neg (by omega), if_neg (by omega)]
        rcases hf with rfl | rfl
        · exact core gtge_33 hr hn hb (fs1 (geF_den (by show (3 : Int) ≤ r.m; omega)) (fs1 (dgt hg) (fs1 (geF_den (by show (8 : Int) ≤ bits; omega)) fs0))) (dyw 256) w
        · exact core gtge_52 hr hn hb (fs1 (geF_den (by show (3 : Int) ≤ r.m; omega)) (fs1 (dgt hg) (fs1 (geF_den (by show (8 : Int) ≤ bits; omega)) fs0))) (dyw 256) w
    · rw [if_neg hg]
      rcases hf with rfl | rfl
      · exact core leg_33 hr hn hb (fs1 (geF_den (by show (3 : Int) ≤ r.m; omega)) (fs1 (dle (by omega)) fs0)) (d1 1 r.f rfl) w
      · exact core leg_52 hr hn hb (fs1 (geF_den (by show (3 : Int) ≤ r.m; omega)) (fs1 (dle (by omega)) fs0)) (d1 1 r.f rfl) w
end Go.Proofs.Ytoheklommpochaa.pi
