/- Intra's functions answer as the document's. -/
import Derived.Test.YtmfleenmjbbgmaaTwP0
import Derived.Test.YtmfleenmjbbgmaaTwP1
import Derived.Test.YtmfleenmjbbgmaaTwP2
import Derived.Test.YtmfleenmjbbgmaaTwP3
import Derived.Test.YtmfleenmjbbgmaaTwP4
import Derived.Test.YtmfleenmjbbgmaaTwP5
import Derived.Test.YtmfleenmjbbgmaaTwP6
import Derived.Test.YtmfleenmjbbgmaaTwP7
import Derived.Test.YtmfleenmjbbgmaaTwP8
import Derived.Test.YtmfleenmjbbgmaaTwP9
namespace Go.Proofs.Ytmfleenmjbbgmaa.tw
open Go.RX Go.RowKit Go.Proofs.Ytmfleenmjbbgmaa
set_option linter.unusedVariables false
theorem corner3 (co : Int) : co ≤ -1 ∨ ((0 : Int) ≤ co ∧ co ≤ 255) ∨ (256 : Int) ≤ co := by omega
theorem modes4 (m : Int) : m ≤ -1 ∨ m = 0 ∨ m = 1 ∨ m = 2 ∨ m = 3 ∨ (4 : Int) ≤ m := by omega
theorem modes9 (m : Int) : m ≤ -1 ∨ m = 0 ∨ m = 1 ∨ m = 2 ∨ m = 3 ∨ m = 4 ∨ m = 5 ∨ m = 6 ∨ m = 7 ∨ m = 8 ∨ (9 : Int) ≤ m := by omega
theorem four {m : Int} {nx ny : Nat} {co : Int} {zx zy : List Int} (hm : In64 m) (hco : In64 co) (bx : ∀ x ∈ zx, In64 x) (by_ : ∀ x ∈ zy, In64 x) (hx : (nx : Int) ≤ 9223372036854775807) (hy : (ny : Int) ≤ 9223372036854775807) : Twin 19 20 m nx ny co zx zy := by
  rcases (show nx = 0 ∨ nx = 4 ∨ ((1 : Int) ≤ nx ∧ (nx : Int) ≤ 3) ∨ (5 : Int) ≤ nx by omega) with rfl | rfl | h1 | h1
  · rcases (show ny = 0 ∨ ny = 8 ∨ ((1 : Int) ≤ ny ∧ (ny : Int) ≤ 7) ∨ (9 : Int) ≤ ny by omega) with rfl | rfl | h2 | h2
    · rcases modes9 m with h | rfl | rfl | rfl | rfl | rfl | rfl | rfl | rfl | rfl | h
      · exact core four_lo_zz hm hco hx hy bx by_ (.inr rfl) (.inl rfl) (.inl rfl) fun A B => fsC (leF_den h) fs0
      · exact core four_0_zz hm hco hx hy bx by_ (.inl rfl) (.inl rfl) (.inl rfl) fun A B => fs0
      · exact core four_1_zz hm hco hx hy bx by_ (.inl rfl) (.inl rfl) (.inl rfl) fun A B => fs0
      · exact core four_2_zz hm hco hx hy bx by_ (.inl rfl) (.inl rfl) (.inl rfl) fun A B => fs0
      · exact core four_3_zz hm hco hx hy bx by_ (.inl rfl) (.inl rfl) (.inl rfl) fun A B => fs0
      · exact core four_4_zz hm hco hx hy bx by_ (.inl rfl) (.inl rfl) (.inl rfl) fun A B => fs0
      · exact core four_5_zz hm hco hx hy bx by_ (.inl rfl) (.inl rfl) (.inl rfl) fun A B => fs0
      · exact core four_6_zz hm hco hx hy bx by_ (.inl rfl) (.inl rfl) (.inl rfl) fun A B => fs0
      · exact core four_7_zz hm hco hx hy bx by_ (.inl rfl) (.inl rfl) (.inl rfl) fun A B => fs0
      · exact core four_8_zz hm hco hx hy bx by_ (.inl rfl) (.inl rfl) (.inl rfl) fun A B => fs0
      · exact core four_hi_zz hm hco hx hy bx by_ (.inr rfl) (.inl rfl) (.inl rfl) fun A B => fsC (geF_den h) fs0
    · rcases modes9 m with h | rfl | rfl | rfl | rfl | rfl | rfl | rfl | rfl | rfl | h
      · exact core four_lo_zk hm hco hx hy bx by_ (.inr rfl) (.inl rfl) (.inl rfl) fun A B => fsC (leF_den h) fs0
      · exact core four_0_zk hm hco hx hy bx by_ (.inl rfl) (.inl rfl) (.inl rfl) fun A B => fs0
      · exact core four_1_zk hm hco hx hy bx by_ (.inl rfl) (.inl rfl) (.inl rfl) fun A B => fs0
      · exact core four_2_zk hm hco hx hy bx by_ (.inl rfl) (.inl rfl) (.inl rfl) fun A B => fs0
      · exact core four_3_zk hm hco hx hy bx by_ (.inl rfl) (.inl rfl) (.inl rfl) fun A B => fs0
      · exact core four_4_zk hm hco hx hy bx by_ (.inl rfl) (.inl rfl) (.inl rfl) fun A B => fs0
      · exact core four_5_zk hm hco hx hy bx by_ (.inl rfl) (.inl rfl) (.inl rfl) fun A B => fs0
      · exact core four_6_zk hm hco hx hy bx by_ (.inl rfl) (.inl rfl) (.inl rfl) fun A B => fs0
      · exact core four_7_zk hm hco hx hy bx by_ (.inl rfl) (.inl rfl) (.inl rfl) fun A B => fs0
      · exact core four_8_zk hm hco hx hy bx by_ (.inl rfl) (.inl rfl) (.inl rfl) fun A B => fs0
      · exact core four_hi_zk hm hco hx hy bx by_ (.inr rfl) (.inl rfl) (.inl rfl) fun A B => fsC (geF_den h) fs0
    · exact core four_any_zm hm hco hx hy bx by_ (.inr rfl) (.inl rfl) (.inr rfl) fun A B => (fsC (geF_den h2.1) (fsC (leF_den h2.2) fs0))
    · exact core four_any_zb hm hco hx hy bx by_ (.inr rfl) (.inl rfl) (.inr rfl) fun A B => (fsC (geF_den h2) fs0)
  · rcases (show ny = 0 ∨ ny = 8 ∨ ((1 : Int) ≤ ny ∧ (ny : Int) ≤ 7) ∨ (9 : Int) ≤ ny by omega) with rfl | rfl | h2 | h2
    · rcases modes9 m with h | rfl | rfl | rfl | rfl | rfl | rfl | rfl | rfl | rfl | h
      · exact core four_lo_kz hm hco hx hy bx by_ (.inr rfl) (.inl rfl) (.inl rfl) fun A B => fsC (leF_den h) fs0
      · exact core four_0_kz hm hco hx hy bx by_ (.inl rfl) (.inl rfl) (.inl rfl) fun A B => fs0
      · exact core four_1_kz hm hco hx hy bx by_ (.inl rfl) (.inl rfl) (.inl rfl) fun A B => fs0
      · exact core four_2_kz hm hco hx hy bx by_ (.inl rfl) (.inl rfl) (.inl rfl) fun A B => fs0
      · exact core four_3_kz hm hco hx hy bx by_ (.inl rfl) (.inl rfl) (.inl rfl) fun A B => fs0
      · exact core four_4_kz hm hco hx hy bx by_ (.inl rfl) (.inl rfl) (.inl rfl) fun A B => fs0
      · exact core four_5_kz hm hco hx hy bx by_ (.inl rfl) (.inl rfl) (.inl rfl) fun A B => fs0
      · exact core four_6_kz hm hco hx hy bx by_ (.inl rfl) (.inl rfl) (.inl rfl) fun A B => fs0
      · exact core four_7_kz hm hco hx hy bx by_ (.inl rfl) (.inl rfl) (.inl rfl) fun A B => fs0
      · exact core four_8_kz hm hco hx hy bx by_ (.inl rfl) (.inl rfl) (.inl rfl) fun A B => fs0
      · exact core four_hi_kz hm hco hx hy bx by_ (.inr rfl) (.inl rfl) (.inl rfl) fun A B => fsC (geF_den h) fs0
    · rcases modes9 m with h | rfl | rfl | rfl | rfl | rfl | rfl | rfl | rfl | rfl | h
      · exact core four_lo_kk hm hco hx hy bx by_ (.inr rfl) (.inl rfl) (.inl rfl) fun A B => fsC (leF_den h) fs0
      · exact core four_0_kk hm hco hx hy bx by_ (.inl rfl) (.inl rfl) (.inl rfl) fun A B => fs0
      · exact core four_1_kk hm hco hx hy bx by_ (.inl rfl) (.inl rfl) (.inl rfl) fun A B => fs0
      · exact core four_2_kk hm hco hx hy bx by_ (.inl rfl) (.inl rfl) (.inl rfl) fun A B => fs0
      · exact core four_3_kk hm hco hx hy bx by_ (.inl rfl) (.inl rfl) (.inl rfl) fun A B => fs0
      · rcases corner3 co with hc | hc | hc
        · exact core four_4_kk_neg hm hco hx hy bx by_ (.inl rfl) (.inl rfl) (.inl rfl) fun A B => (fsC (leF_den hc) fs0)
        · exact core four_4_kk_mid hm hco hx hy bx by_ (.inl rfl) (.inl rfl) (.inl rfl) fun A B => (fsC (geF_den hc.1) (fsC (leF_den hc.2) fs0))
        · exact core four_4_kk_big hm hco hx hy bx by_ (.inl rfl) (.inl rfl) (.inl rfl) fun A B => (fsC (geF_den hc) fs0)
      · rcases corner3 co with hc | hc | hc
        · exact core four_5_kk_neg hm hco hx hy bx by_ (.inl rfl) (.inl rfl) (.inl rfl) fun A B => (fsC (leF_den hc) fs0)
        · exact core four_5_kk_mid hm hco hx hy bx by_ (.inl rfl) (.inl rfl) (.inl rfl) fun A B => (fsC (geF_den hc.1) (fsC (leF_den hc.2) fs0))
        · exact core four_5_kk_big hm hco hx hy bx by_ (.inl rfl) (.inl rfl) (.inl rfl) fun A B => (fsC (geF_den hc) fs0)
      · rcases corner3 co with hc | hc | hc
        · exact core four_6_kk_neg hm hco hx hy bx by_ (.inl rfl) (.inl rfl) (.inl rfl) fun A B => (fsC (leF_den hc) fs0)
        · exact core four_6_kk_mid hm hco hx hy bx by_ (.inl rfl) (.inl rfl) (.inl rfl) fun A B => (fsC (geF_den hc.1) (fsC (leF_den hc.2) fs0))
        · exact core four_6_kk_big hm hco hx hy bx by_ (.inl rfl) (.inl rfl) (.inl rfl) fun A B => (fsC (geF_den hc) fs0)
      · exact core four_7_kk hm hco hx hy bx by_ (.inl rfl) (.inl rfl) (.inl rfl) fun A B => fs0
      · exact core four_8_kk hm hco hx hy bx by_ (.inl rfl) (.inl rfl) (.inl rfl) fun A B => fs0
      · exact core four_hi_kk hm hco hx hy bx by_ (.inr rfl) (.inl rfl) (.inl rfl) fun A B => fsC (geF_den h) fs0
    · exact core four_any_km hm hco hx hy bx by_ (.inr rfl) (.inl rfl) (.inr rfl) fun A B => (fsC (geF_den h2.1) (fsC (leF_den h2.2) fs0))
    · exact core four_any_kb hm hco hx hy bx by_ (.inr rfl) (.inl rfl) (.inr rfl) fun A B => (fsC (geF_den h2) fs0)
  · rcases (show ny = 0 ∨ ny = 8 ∨ ((1 : Int) ≤ ny ∧ (ny : Int) ≤ 7) ∨ (9 : Int) ≤ ny by omega) with rfl | rfl | h2 | h2
    · exact core four_any_mz hm hco hx hy bx by_ (.inr rfl) (.inr rfl) (.inl rfl) fun A B => (fsC (geF_den h1.1) (fsC (leF_den h1.2) fs0))
    · exact core four_any_mk hm hco hx hy bx by_ (.inr rfl) (.inr rfl) (.inl rfl) fun A B => (fsC (geF_den h1.1) (fsC (leF_den h1.2) fs0))
    · exact core four_any_mm hm hco hx hy bx by_ (.inr rfl) (.inr rfl) (.inr rfl) fun A B => (fsC (geF_den h1.1) (fsC (leF_den h1.2) (fsC (geF_den h2.1) (fsC (leF_den h2.2) fs0))))
    · exact core four_any_mb hm hco hx hy bx by_ (.inr rfl) (.inr rfl) (.inr rfl) fun A B => (fsC (geF_den h1.1) (fsC (leF_den h1.2) (fsC (geF_den h2) fs0)))
  · rcases (show ny = 0 ∨ ny = 8 ∨ ((1 : Int) ≤ ny ∧ (ny : Int) ≤ 7) ∨ (9 : Int) ≤ ny by omega) with rfl | rfl | h2 | h2
    · exact core four_any_bz hm hco hx hy bx by_ (.inr rfl) (.inr rfl) (.inl rfl) fun A B => (fsC (geF_den h1) fs0)
    · exact core four_any_bk hm hco hx hy bx by_ (.inr rfl) (.inr rfl) (.inl rfl) fun A B => (fsC (geF_den h1) fs0)
    · exact core four_any_bm hm hco hx hy bx by_ (.inr rfl) (.inr rfl) (.inr rfl) fun A B => (fsC (geF_den h1) (fsC (geF_den h2.1) (fsC (leF_den h2.2) fs0)))
    · exact core four_any_bb hm hco hx hy bx by_ (.inr rfl) (.inr rfl) (.inr rfl) fun A B => (fsC (geF_den h1) (fsC (geF_den h2) fs0))
theorem whole {m : Int} {nx ny : Nat} {co : Int} {zx zy : List Int} (hm : In64 m) (hco : In64 co) (bx : ∀ x ∈ zx, In64 x) (by_ : ∀ x ∈ zy, In64 x) (h1 : nx = 0 ∨ nx = 16) (h2 : ny = 0 ∨ ny = 16) : Twin 28 29 m nx ny co zx zy := by
  have hx : (nx : Int) ≤ 9223372036854775807 := by omega
  have hy : (ny : Int) ≤ 9223372036854775807 := by omega
  rcases h1 with rfl | rfl
  · rcases h2 with rfl | rfl
    · rcases modes4 m with h | rfl | rfl | rfl | rfl | h
      · exact core whole_lo_zz hm hco hx hy bx by_ (.inr rfl) (.inl rfl) (.inl rfl) fun A B => fsC (leF_den h) fs0
      · exact core whole_0_zz hm hco hx hy bx by_ (.inl rfl) (.inl rfl) (.inl rfl) fun A B => fs0
      · exact core whole_1_zz hm hco hx hy bx by_ (.inl rfl) (.inl rfl) (.inl rfl) fun A B => fs0
      · exact core whole_2_zz hm hco hx hy bx by_ (.inl rfl) (.inl rfl) (.inl rfl) fun A B => fs0
      · exact core whole_3_zz hm hco hx hy bx by_ (.inl rfl) (.inl rfl) (.inl rfl) fun A B => fs0
      · exact core whole_hi_zz hm hco hx hy bx by_ (.inr rfl) (.inl rfl) (.inl rfl) fun A B => fsC (geF_den h) fs0
    · rcases modes4 m with h | rfl | rfl | rfl | rfl | h
      · exact core whole_lo_zk hm hco hx hy bx by_ (.inr rfl) (.inl rfl) (.inl rfl) fun A B => fsC (leF_den h) fs0
      · exact core whole_0_zk hm hco hx hy bx by_ (.inl rfl) (.inl rfl) (.inl rfl) fun A B => fs0
      · exact core whole_1_zk hm hco hx hy bx by_ (.inl rfl) (.inl rfl) (.inl rfl) fun A B => fs0
      · exact core whole_2_zk hm hco hx hy bx by_ (.inl rfl) (.inl rfl) (.inl rfl) fun A B => fs0
      · exact core whole_3_zk hm hco hx hy bx by_ (.inl rfl) (.inl rfl) (.inl rfl) fun A B => fs0
      · exact core whole_hi_zk hm hco hx hy bx by_ (.inr rfl) (.inl rfl) (.inl rfl) fun A B => fsC (geF_den h) fs0
  · rcases h2 with rfl | rfl
    · rcases modes4 m with h | rfl | rfl | rfl | rfl | h
      · exact core whole_lo_kz hm hco hx hy bx by_ (.inr rfl) (.inl rfl) (.inl rfl) fun A B => fsC (leF_den h) fs0
      · exact core whole_0_kz hm hco hx hy bx by_ (.inl rfl) (.inl rfl) (.inl rfl) fun A B => fs0
      · exact core whole_1_kz hm hco hx hy bx by_ (.inl rfl) (.inl rfl) (.inl rfl) fun A B => fs0
      · exact core whole_2_kz hm hco hx hy bx by_ (.inl rfl) (.inl rfl) (.inl rfl) fun A B => fs0
      · exact core whole_3_kz hm hco hx hy bx by_ (.inl rfl) (.inl rfl) (.inl rfl) fun A B => fs0
      · exact core whole_hi_kz hm hco hx hy bx by_ (.inr rfl) (.inl rfl) (.inl rfl) fun A B => fsC (geF_den h) fs0
    · rcases modes4 m with h | rfl | rfl | rfl | rfl | h
      · exact core whole_lo_kk hm hco hx hy bx by_ (.inr rfl) (.inl rfl) (.inl rfl) fun A B => fsC (leF_den h) fs0
      · exact core whole_0_kk hm hco hx hy bx by_ (.inl rfl) (.inl rfl) (.inl rfl) fun A B => fs0
      · exact core whole_1_kk hm hco hx hy bx by_ (.inl rfl) (.inl rfl) (.inl rfl) fun A B => fs0
      · exact core whole_2_kk hm hco hx hy bx by_ (.inl rfl) (.inl rfl) (.inl rfl) fun A B => fs0
      · rcases corner3 co with hc | hc | hc
        · exact core whole_3_kk_neg hm hco hx hy bx by_ (.inl rfl) (.inl rfl) (.inl rfl) fun A B => (fsC (leF_den hc) fs0)
        · exact core whole_3_kk_mid hm hco hx hy bx by_ (.inl rfl) (.inl rfl) (.inl rfl) fun A B => (fsC (geF_den hc.1) (fsC (leF_den hc.2) fs0))
        · exact core whole_3_kk_big hm hco hx hy bx by_ (.inl rfl) (.inl rfl) (.inl rfl) fun A B => (fsC (geF_den hc) fs0)
      · exact core whole_hi_kk hm hco hx hy bx by_ (.inr rfl) (.inl rfl) (.inl rfl) fun A B => fsC (geF_den h) fs0
theorem chroma {m : Int} {nx ny : Nat} {co : Int} {zx zy : List Int} (hm : In64 m) (hco : In64 co) (bx : ∀ x ∈ zx, In64 x) (by_ : ∀ x ∈ zy, In64 x) (h1 : nx = 0 ∨ nx = 8) (h2 : ny = 0 ∨ ny = 8) : Twin 30 31 m nx ny co zx zy := by
  have hx : (nx : Int) ≤ 9223372036854775807 := by omega
  have hy : (ny : Int) ≤ 9223372036854775807 := by omega
  rcases h1 with rfl | rfl
  · rcases h2 with rfl | rfl
    · rcases modes4 m with h | rfl | rfl | rfl | rfl | h
      · exact core chroma_lo_zz hm hco hx hy bx by_ (.inr rfl) (.inl rfl) (.inl rfl) fun A B => fsC (leF_den h) fs0
      · exact core chroma_0_zz hm hco hx hy bx by_ (.inl rfl) (.inl rfl) (.inl rfl) fun A B => fs0
      · exact core chroma_1_zz hm hco hx hy bx by_ (.inl rfl) (.inl rfl) (.inl rfl) fun A B => fs0
      · exact core chroma_2_zz hm hco hx hy bx by_ (.inl rfl) (.inl rfl) (.inl rfl) fun A B => fs0
      · exact core chroma_3_zz hm hco hx hy bx by_ (.inl rfl) (.inl rfl) (.inl rfl) fun A B => fs0
      · exact core chroma_hi_zz hm hco hx hy bx by_ (.inr rfl) (.inl rfl) (.inl rfl) fun A B => fsC (geF_den h) fs0
    · rcases modes4 m with h | rfl | rfl | rfl | rfl | h
      · exact core chroma_lo_zk hm hco hx hy bx by_ (.inr rfl) (.inl rfl) (.inl rfl) fun A B => fsC (leF_den h) fs0
      · exact core chroma_0_zk hm hco hx hy bx by_ (.inl rfl) (.inl rfl) (.inl rfl) fun A B => fs0
      · exact core chroma_1_zk hm hco hx hy bx by_ (.inl rfl) (.inl rfl) (.inl rfl) fun A B => fs0
      · exact core chroma_2_zk hm hco hx hy bx by_ (.inl rfl) (.inl rfl) (.inl rfl) fun A B => fs0
      · exact core chroma_3_zk hm hco hx hy bx by_ (.inl rfl) (.inl rfl) (.inl rfl) fun A B => fs0
      · exact core chroma_hi_zk hm hco hx hy bx by_ (.inr rfl) (.inl rfl) (.inl rfl) fun A B => fsC (geF_den h) fs0
  · rcases h2 with rfl | rfl
    · rcases modes4 m with h | rfl | rfl | rfl | rfl | h
      · exact core chroma_lo_kz hm hco hx hy bx by_ (.inr rfl) (.inl rfl) (.inl rfl) fun A B => fsC (leF_den h) fs0
      · exact core chroma_0_kz hm hco hx hy bx by_ (.inl rfl) (.inl rfl) (.inl rfl) fun A B => fs0
      · exact core chroma_1_kz hm hco hx hy bx by_ (.inl rfl) (.inl rfl) (.inl rfl) fun A B => fs0
      · exact core chroma_2_kz hm hco hx hy bx by_ (.inl rfl) (.inl rfl) (.inl rfl) fun A B => fs0
      · exact core chroma_3_kz hm hco hx hy bx by_ (.inl rfl) (.inl rfl) (.inl rfl) fun A B => fs0
      · exact core chroma_hi_kz hm hco hx hy bx by_ (.inr rfl) (.inl rfl) (.inl rfl) fun A B => fsC (geF_den h) fs0
    · rcases modes4 m with h | rfl | rfl | rfl | rfl | h
      · exact core chroma_lo_kk hm hco hx hy bx by_ (.inr rfl) (.inl rfl) (.inl rfl) fun A B => fsC (leF_den h) fs0
      · exact core chroma_0_kk hm hco hx hy bx by_ (.inl rfl) (.inl rfl) (.inl rfl) fun A B => fs0
      · exact core chroma_1_kk hm hco hx hy bx by_ (.inl rfl) (.inl rfl) (.inl rfl) fun A B => fs0
      · exact core chroma_2_kk hm hco hx hy bx by_ (.inl rfl) (.inl rfl) (.inl rfl) fun A B => fs0
      · rcases corner3 co with hc | hc | hc
        · exact core chroma_3_kk_neg hm hco hx hy bx by_ (.inl rfl) (.inl rfl) (.inl rfl) fun A B => (fsC (leF_den hc) fs0)
        · exact core chroma_3_kk_mid hm hco hx hy bx by_ (.inl rfl) (.inl rfl) (.inl rfl) fun A B => (fsC (geF_den hc.1) (fsC (leF_den hc.2) fs0))
        · exact core chroma_3_kk_big hm hco hx hy bx by_ (.inl rfl) (.inl rfl) (.inl rfl) fun A B => (fsC (geF_den hc) fs0)
      · exact core chroma_hi_kk hm hco hx hy bx by_ (.inr rfl) (.inl rfl) (.inl rfl) fun A B => fsC (geF_den h) fs0
end Go.Proofs.Ytmfleenmjbbgmaa.tw
