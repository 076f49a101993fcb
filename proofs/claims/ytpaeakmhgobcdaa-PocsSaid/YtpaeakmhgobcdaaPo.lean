/- poc's functions answer as the document's. -/
import Derived.Test.YtpaeakmhgobcdaaPoP0
import Derived.Test.YtpaeakmhgobcdaaPoP1
import Derived.Test.YtpaeakmhgobcdaaPoP2
import Derived.Test.YtpaeakmhgobcdaaPoP3
import Derived.Test.YtpaeakmhgobcdaaPoP4
import Derived.Test.YtpaeakmhgobcdaaPoP5
import Derived.Test.YtpaeakmhgobcdaaPoP6
import Derived.Test.YtpaeakmhgobcdaaPoP7
import Derived.Test.YtpaeakmhgobcdaaPoP8
namespace Go.Proofs.Ytpaeakmhgobcdaa.po
open Go.RX Go.RowKit Go.Proofs.Ytpaeakmhgobcdaa
set_option linter.unusedVariables false
theorem zero {a : Nums} (ha : a.ok) : Then0 3 5 6 #[.int .i64 a.msb, .int .i64 a.lsb, .int .i64 a.now, .int .i64 a.bits] := by
  rcases (show a.bits ≤ 3 ∨ a.bits = 4 ∨ a.bits = 5 ∨ a.bits = 6 ∨ a.bits = 7 ∨ a.bits = 8 ∨ 9 ≤ a.bits by omega) with h | h | h | h | h | h | h
  · exact then0 ha zero_lo (fs1 (leF_den h)) fun N => rels_cons' (iv_rel 9 (by decide) rfl) (rels_cons' (iv_rel 10 (by decide) rfl) (rels_cons' (iv_rel 11 (by decide) rfl) (rels_cons' (iv_rel 12 (by decide) rfl) (rels_nil.2 rfl))))
  · exact then0 ha zero_4 fs0 fun N => rels_cons' (iv_rel 9 (by decide) rfl) (rels_cons' (iv_rel 10 (by decide) rfl) (rels_cons' (iv_rel 11 (by decide) rfl) (rels_cons' (lit_rel h) (rels_nil.2 rfl))))
  · exact then0 ha zero_5 fs0 fun N => rels_cons' (iv_rel 9 (by decide) rfl) (rels_cons' (iv_rel 10 (by decide) rfl) (rels_cons' (iv_rel 11 (by decide) rfl) (rels_cons' (lit_rel h) (rels_nil.2 rfl))))
  · exact then0 ha zero_6 fs0 fun N => rels_cons' (iv_rel 9 (by decide) rfl) (rels_cons' (iv_rel 10 (by decide) rfl) (rels_cons' (iv_rel 11 (by decide) rfl) (rels_cons' (lit_rel h) (rels_nil.2 rfl))))
  · exact then0 ha zero_7 fs0 fun N => rels_cons' (iv_rel 9 (by decide) rfl) (rels_cons' (iv_rel 10 (by decide) rfl) (rels_cons' (iv_rel 11 (by decide) rfl) (rels_cons' (lit_rel h) (rels_nil.2 rfl))))
  · exact then0 ha zero_8 fs0 fun N => rels_cons' (iv_rel 9 (by decide) rfl) (rels_cons' (iv_rel 10 (by decide) rfl) (rels_cons' (iv_rel 11 (by decide) rfl) (rels_cons' (lit_rel h) (rels_nil.2 rfl))))
  · exact then0 ha zero_hi (fs1 (geF_den h)) fun N => rels_cons' (iv_rel 9 (by decide) rfl) (rels_cons' (iv_rel 10 (by decide) rfl) (rels_cons' (iv_rel 11 (by decide) rfl) (rels_cons' (iv_rel 12 (by decide) rfl) (rels_nil.2 rfl))))
theorem count {a : Nums} (ha : a.ok) : Then0 2 9 10 #[.int .i64 a.msb, .int .i64 a.lsb, .int .i64 a.now, .int .i64 a.bits] := by
  rcases (show a.bits ≤ 3 ∨ a.bits = 4 ∨ a.bits = 5 ∨ a.bits = 6 ∨ a.bits = 7 ∨ a.bits = 8 ∨ 9 ≤ a.bits by omega) with h | h | h | h | h | h | h
  · exact then0 ha count_lo (fs1 (leF_den h)) fun N => rels_cons' (iv_rel 9 (by decide) rfl) (rels_cons' (iv_rel 10 (by decide) rfl) (rels_cons' (iv_rel 11 (by decide) rfl) (rels_cons' (iv_rel 12 (by decide) rfl) (rels_nil.2 rfl))))
  · exact then0 ha count_4 fs0 fun N => rels_cons' (iv_rel 9 (by decide) rfl) (rels_cons' (iv_rel 10 (by decide) rfl) (rels_cons' (iv_rel 11 (by decide) rfl) (rels_cons' (lit_rel h) (rels_nil.2 rfl))))
  · exact then0 ha count_5 fs0 fun N => rels_cons' (iv_rel 9 (by decide) rfl) (rels_cons' (iv_rel 10 (by decide) rfl) (rels_cons' (iv_rel 11 (by decide) rfl) (rels_cons' (lit_rel h) (rels_nil.2 rfl))))
  · exact then0 ha count_6 fs0 fun N => rels_cons' (iv_rel 9 (by decide) rfl) (rels_cons' (iv_rel 10 (by decide) rfl) (rels_cons' (iv_rel 11 (by decide) rfl) (rels_cons' (lit_rel h) (rels_nil.2 rfl))))
  · exact then0 ha count_7 fs0 fun N => rels_cons' (iv_rel 9 (by decide) rfl) (rels_cons' (iv_rel 10 (by decide) rfl) (rels_cons' (iv_rel 11 (by decide) rfl) (rels_cons' (lit_rel h) (rels_nil.2 rfl))))
  · exact then0 ha count_8 fs0 fun N => rels_cons' (iv_rel 9 (by decide) rfl) (rels_cons' (iv_rel 10 (by decide) rfl) (rels_cons' (iv_rel 11 (by decide) rfl) (rels_cons' (lit_rel h) (rels_nil.2 rfl))))
  · exact then0 ha count_hi (fs1 (geF_den h)) fun N => rels_cons' (iv_rel 9 (by decide) rfl) (rels_cons' (iv_rel 10 (by decide) rfl) (rels_cons' (iv_rel 11 (by decide) rfl) (rels_cons' (iv_rel 12 (by decide) rfl) (rels_nil.2 rfl))))
theorem two {a : Nums} (ha : a.ok) : Then0 0 12 13 #[.int .i64 a.msb, .bool a.ref] := then0 ha two_ fs0 fun N => rels_cons' (iv_rel 9 (by decide) rfl) (rels_cons' (bv_rel 13 (by decide) rfl) (rels_nil.2 rfl))
theorem one {a : Nums} (ha : a.ok) (h4 : a.n ≤ 4) : ThenS 7 8 a := by
  have q : ∀ (k : Nat), a.n = k → (AV.xsl 6 (.k (k : Int)) = .xsl 6 (.k (a.n : Int)) ∨ AV.xsl 6 (.k (k : Int)) = sv 6) := fun k e => .inl (by rw [e])
  rcases (show a.n = 0 ∨ a.n = 1 ∨ a.n = 2 ∨ a.n = 3 ∨ a.n = 4 by omega) with h | h | h | h | h
  · exact thenS (R_ok ha) one_0 (fun X => fs0) (q 0 h)
  · rcases (show a.now ≤ -1 ∨ 1048577 ≤ a.now ∨ (0 ≤ a.now ∧ a.now ≤ 1048576) by omega) with hn | hn | hn
    · exact thenS (R_ok ha) one_1_lo (fun X => fs1 (leF_den hn)) (q 1 h)
    · exact thenS (R_ok ha) one_1_hi (fun X => fs1 (geF_den hn)) (q 1 h)
    · rcases (show 1001 ≤ a.z.getD 0 0 ∨ a.z.getD 0 0 ≤ -1001 ∨ (-1000 ≤ a.z.getD 0 0 ∧ a.z.getD 0 0 ≤ 1000) by omega) with b0 | b0 | b0
      · exact thenS (R_ok ha) one_1_0b (fun X => fs1 (geF_den (by rw [show 22 = 16 * (0 + 1) + 6 from rfl, cyc_el]; exact b0))) (q 1 h)
      · exact thenS (R_ok ha) one_1_0s (fun X => fs1 (leF_den (by rw [show 22 = 16 * (0 + 1) + 6 from rfl, cyc_el]; exact b0))) (q 1 h)
      · exact thenS (R := RA 1) (fun X => RA_ok ha X hn fun i hi => by
          rcases (show i = 0 by omega) with rfl
          · exact b0
          ) one_1_A (fun X => fs0) (q 1 h)
  · rcases (show a.now ≤ -1 ∨ 1048577 ≤ a.now ∨ (0 ≤ a.now ∧ a.now ≤ 1048576) by omega) with hn | hn | hn
    · exact thenS (R_ok ha) one_2_lo (fun X => fs1 (leF_den hn)) (q 2 h)
    · exact thenS (R_ok ha) one_2_hi (fun X => fs1 (geF_den hn)) (q 2 h)
    · rcases (show 1001 ≤ a.z.getD 0 0 ∨ a.z.getD 0 0 ≤ -1001 ∨ (-1000 ≤ a.z.getD 0 0 ∧ a.z.getD 0 0 ≤ 1000) by omega) with b0 | b0 | b0
      · exact thenS (R_ok ha) one_2_0b (fun X => fs1 (geF_den (by rw [show 22 = 16 * (0 + 1) + 6 from rfl, cyc_el]; exact b0))) (q 2 h)
      · exact thenS (R_ok ha) one_2_0s (fun X => fs1 (leF_den (by rw [show 22 = 16 * (0 + 1) + 6 from rfl, cyc_el]; exact b0))) (q 2 h)
      · rcases (show 1001 ≤ a.z.getD 1 0 ∨ a.z.getD 1 0 ≤ -1001 ∨ (-1000 ≤ a.z.getD 1 0 ∧ a.z.getD 1 0 ≤ 1000) by omega) with b1 | b1 | b1
        · exact thenS (R_ok ha) one_2_1b (fun X => fs1 (geF_den (by rw [show 38 = 16 * (1 + 1) + 6 from rfl, cyc_el]; exact b1))) (q 2 h)
        · exact thenS (R_ok ha) one_2_1s (fun X => fs1 (leF_den (by rw [show 38 = 16 * (1 + 1) + 6 from rfl, cyc_el]; exact b1))) (q 2 h)
        · exact thenS (R := RA 2) (fun X => RA_ok ha X hn fun i hi => by
            rcases (show i = 0 ∨ i = 1 by omega) with rfl | rfl
            · exact b0
            · exact b1
            ) one_2_A (fun X => fs0) (q 2 h)
  · rcases (show a.now ≤ -1 ∨ 1048577 ≤ a.now ∨ (0 ≤ a.now ∧ a.now ≤ 1048576) by omega) with hn | hn | hn
    · exact thenS (R_ok ha) one_3_lo (fun X => fs1 (leF_den hn)) (q 3 h)
    · exact thenS (R_ok ha) one_3_hi (fun X => fs1 (geF_den hn)) (q 3 h)
    · rcases (show 1001 ≤ a.z.getD 0 0 ∨ a.z.getD 0 0 ≤ -1001 ∨ (-1000 ≤ a.z.getD 0 0 ∧ a.z.getD 0 0 ≤ 1000) by omega) with b0 | b0 | b0
      · exact thenS (R_ok ha) one_3_0b (fun X => fs1 (geF_den (by rw [show 22 = 16 * (0 + 1) + 6 from rfl, cyc_el]; exact b0))) (q 3 h)
      · exact thenS (R_ok ha) one_3_0s (fun X => fs1 (leF_den (by rw [show 22 = 16 * (0 + 1) + 6 from rfl, cyc_el]; exact b0))) (q 3 h)
      · rcases (show 1001 ≤ a.z.getD 1 0 ∨ a.z.getD 1 0 ≤ -1001 ∨ (-1000 ≤ a.z.getD 1 0 ∧ a.z.getD 1 0 ≤ 1000) by omega) with b1 | b1 | b1
        · exact thenS (R_ok ha) one_3_1b (fun X => fs1 (geF_den (by rw [show 38 = 16 * (1 + 1) + 6 from rfl, cyc_el]; exact b1))) (q 3 h)
        · exact thenS (R_ok ha) one_3_1s (fun X => fs1 (leF_den (by rw [show 38 = 16 * (1 + 1) + 6 from rfl, cyc_el]; exact b1))) (q 3 h)
        · rcases (show 1001 ≤ a.z.getD 2 0 ∨ a.z.getD 2 0 ≤ -1001 ∨ (-1000 ≤ a.z.getD 2 0 ∧ a.z.getD 2 0 ≤ 1000) by omega) with b2 | b2 | b2
          · exact thenS (R_ok ha) one_3_2b (fun X => fs1 (geF_den (by rw [show 54 = 16 * (2 + 1) + 6 from rfl, cyc_el]; exact b2))) (q 3 h)
          · exact thenS (R_ok ha) one_3_2s (fun X => fs1 (leF_den (by rw [show 54 = 16 * (2 + 1) + 6 from rfl, cyc_el]; exact b2))) (q 3 h)
          · exact thenS (R := RA 3) (fun X => RA_ok ha X hn fun i hi => by
              rcases (show i = 0 ∨ i = 1 ∨ i = 2 by omega) with rfl | rfl | rfl
              · exact b0
              · exact b1
              · exact b2
              ) one_3_A (fun X => fs0) (q 3 h)
  · rcases (show a.now ≤ -1 ∨ 1048577 ≤ a.now ∨ (0 ≤ a.now ∧ a.now ≤ 1048576) by omega) with hn | hn | hn
    · exact thenS (R_ok ha) one_4_lo (fun X => fs1 (leF_den hn)) (q 4 h)
    · exact thenS (R_ok ha) one_4_hi (fun X => fs1 (geF_den hn)) (q 4 h)
    · rcases (show 1001 ≤ a.z.getD 0 0 ∨ a.z.getD 0 0 ≤ -1001 ∨ (-1000 ≤ a.z.getD 0 0 ∧ a.z.getD 0 0 ≤ 1000) by omega) with b0 | b0 | b0
      · exact thenS (R_ok ha) one_4_0b (fun X => fs1 (geF_den (by rw [show 22 = 16 * (0 + 1) + 6 from rfl, cyc_el]; exact b0))) (q 4 h)
      · exact thenS (R_ok ha) one_4_0s (fun X => fs1 (leF_den (by rw [show 22 = 16 * (0 + 1) + 6 from rfl, cyc_el]; exact b0))) (q 4 h)
      · rcases (show 1001 ≤ a.z.getD 1 0 ∨ a.z.getD 1 0 ≤ -1001 ∨ (-1000 ≤ a.z.getD 1 0 ∧ a.z.getD 1 0 ≤ 1000) by omega) with b1 | b1 | b1
        · exact thenS (R_ok ha) one_4_1b (fun X => fs1 (geF_den (by rw [show 38 = 16 * (1 + 1) + 6 from rfl, cyc_el]; exact b1))) (q 4 h)
        · exact thenS (R_ok ha) one_4_1s (fun X => fs1 (leF_den (by rw [show 38 = 16 * (1 + 1) + 6 from rfl, cyc_el]; exact b1))) (q 4 h)
        · rcases (show 1001 ≤ a.z.getD 2 0 ∨ a.z.getD 2 0 ≤ -1001 ∨ (-1000 ≤ a.z.getD 2 0 ∧ a.z.getD 2 0 ≤ 1000) by omega) with b2 | b2 | b2
          · exact thenS (R_ok ha) one_4_2b (fun X => fs1 (geF_den (by rw [show 54 = 16 * (2 + 1) + 6 from rfl, cyc_el]; exact b2))) (q 4 h)
          · exact thenS (R_ok ha) one_4_2s (fun X => fs1 (leF_den (by rw [show 54 = 16 * (2 + 1) + 6 from rfl, cyc_el]; exact b2))) (q 4 h)
          · rcases (show 1001 ≤ a.z.getD 3 0 ∨ a.z.getD 3 0 ≤ -1001 ∨ (-1000 ≤ a.z.getD 3 0 ∧ a.z.getD 3 0 ≤ 1000) by omega) with b3 | b3 | b3
            · exact thenS (R_ok ha) one_4_3b (fun X => fs1 (geF_den (by rw [show 70 = 16 * (3 + 1) + 6 from rfl, cyc_el]; exact b3))) (q 4 h)
            · exact thenS (R_ok ha) one_4_3s (fun X => fs1 (leF_den (by rw [show 70 = 16 * (3 + 1) + 6 from rfl, cyc_el]; exact b3))) (q 4 h)
            · exact thenS (R := RA 4) (fun X => RA_ok ha X hn fun i hi => by
                rcases (show i = 0 ∨ i = 1 ∨ i = 2 ∨ i = 3 by omega) with rfl | rfl | rfl | rfl
                · exact b0
                · exact b1
                · exact b2
                · exact b3
                ) one_4_A (fun X => fs0) (q 4 h)
theorem one_big {a : Nums} (ha : a.ok) (h5 : 5 ≤ a.n) {w : World} {X : Option Addr} {c : Nat} (hrow : RowIs w X a.n c a.z) : Calls Try.prog 7 #[sps a X c, .int .i64 a.now, .bool a.ref] w fun e w' => e = .returned (.tuple #[.int .i64 0, .int .i64 1701]) ∧ Garb w w' := by
  refine Go.RX.lit_ok (R_ok ha X) (fun _ h => cxP_ok h) one_long (fun N => ?_) (fun N => rels_cons' (sp_rel hrow N (.inr rfl)) (rels_cons' (iv_rel 11 (by decide) rfl) (rels_cons' (bv_rel 13 (by decide) rfl) (rels_nil.2 rfl)))) (fs1 (geF_den (by show (5 : Int) ≤ (a.n : Int); omega))) (A_ok hrow)
  simp only [AV.rel]
  exact ⟨_, rfl, rels_cons' (lit_rel rfl) (rels_cons' (lit_rel rfl) (rels_nil.2 rfl))⟩
end Go.Proofs.Ytpaeakmhgobcdaa.po
