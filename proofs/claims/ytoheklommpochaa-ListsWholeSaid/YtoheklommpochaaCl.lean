/- Modify's function values: what they tell. -/
import Derived.Test.YtoheklommpochaaIx
import Derived.Deep.RegionHeld3
import Derived.Deep.DrawnRows
namespace Go.Proofs.Ytoheklommpochaa.ls
open Go.RowKit Go.Lib Go.Proofs.Ytoheklommpochaa Go.Proofs.Ytoheklommpochaa.pi
open Go.RX (Garb)
set_option linter.unusedVariables false
set_option linter.unusedSimpArgs false
attribute [local go_sem ↓] Go.wp_at_zero Go.wp_at_succ
theorem keep1 {w1 w2 : World} (g : Garb w1 w2) {b o : Nat} {v : Value} (h : w1.cell? ⟨b, o, none⟩ = some v) : w2.cell? ⟨b, o, none⟩ = some v := by
  rw [World.cell?_of_block (w := w1) (g.below.block _ (World.block_lt_of_cell? w1 _ h))]; exact h
theorem e23 : Enters Try.prog 23 := enters_of Try.func23 (by kernel_rfl) rfl
theorem e25 : Enters Try.prog 25 := enters_of Try.func25 (by kernel_rfl) rfl
theorem e27 : Enters Try.prog 27 := enters_of Try.func27 (by kernel_rfl) rfl
theorem e31 : Enters Try.prog 31 := enters_of Try.func31 (by kernel_rfl) rfl
theorem e36 : Enters Try.prog 36 := enters_of Try.func36 (by kernel_rfl) rfl
/-- A place beyond the pictures. -/
theorem c23 {w : World} {h : Nat} {A : Option Addr} {nr c : Nat} (hc : w.cell? ⟨h, 0, none⟩ = some (.slice A nr c)) : PredG 23 #[.pointer (some ⟨h, 0, none⟩)] iv0 (fun p => decide (p < 0) || decide ((nr : Int) ≤ p)) (fun _ => True) w := by
  intro W p G _
  have hc := keep1 G hc
  show Calls Try.prog 23 #[.int .i64 p, .pointer (some ⟨h, 0, none⟩)] W _
  by_cases h1 : p < 0
  · have hB : decide (p < 0) = true := by simp [h1]
    simp only [hB, Bool.true_or]
    go_enter Try.func23, Try.ntmps23
    go_wp2
    first | exact ⟨rfl, Garb.refl _⟩ | (go_ret; exact ⟨rfl, Garb.refl _⟩)
  · have hB : decide (p < 0) = false := by simp [h1]
    simp only [hB, Bool.false_or]
    go_enter Try.func23, Try.ntmps23
    go_wp2
    first | exact ⟨rfl, Garb.refl _⟩ | (go_ret; exact ⟨rfl, Garb.refl _⟩)
theorem c36 {w : World} {h : Nat} {x : Int} (hc : w.cell? ⟨h, 0, none⟩ = some (.int .i64 x)) (p : Int) : Calls Try.prog 36 #[.int .i64 p, .pointer (some ⟨h, 0, none⟩)] w fun e w' => e = .returned (.bool (p == x)) ∧ w' = w := by
  go_enter Try.func36, Try.ntmps36
  go_wp2
  first | exact ⟨rfl, rfl⟩ | (go_ret; exact ⟨rfl, rfl⟩)
theorem garb_alloc {w w' : World} (h : Garb w w') (c : Array Value) (e : TypeId) : Garb w (w'.alloc (.cells c e)) := h.trans (alloc_garb _ _ _)
def badM (r : md.R2) : Bool := decide (r.k < 0) || decide (2 < r.k) || decide (r.v < 0) || decide (255 < r.v)
theorem c25 (w : World) : PredG 25 #[] mv badM (fun _ => True) w := by
  intro W r G _
  obtain ⟨k, v⟩ := r
  show Calls Try.prog 25 #[.agg #[.int .i64 k, .int .i64 v]] W _
  unfold badM
  simp only
  rcases Bool.eq_false_or_eq_true (decide (k < 0)) with h1 | h1 <;> rcases Bool.eq_false_or_eq_true (decide (2 < k)) with h2 | h2 <;> rcases Bool.eq_false_or_eq_true (decide (v < 0)) with h3 | h3 <;> rcases Bool.eq_false_or_eq_true (decide (255 < v)) with h4 | h4
  all_goals simp only [h1, h2, h3, h4, Bool.or_false, Bool.or_true, Bool.false_or, Bool.true_or]
  all_goals go_enter Try.func25, Try.ntmps25
  all_goals go_wp2
  all_goals first | exact ⟨rfl, alloc_garb _ _ _⟩ | (go_ret; exact ⟨rfl, alloc_garb _ _ _⟩)
theorem long_ok {w : World} {b o : Nat} {m : Int} (h : w.cell? ⟨b, o + 3, none⟩ = some (.int .i64 m)) : Calls Try.prog 28 #[.pointer (some ⟨b, o, none⟩)] w fun e w' => e = .returned (.bool (m == 2)) ∧ w' = w := by
  go_enter Try.func28, Try.ntmps28
  go_wp2
  first | exact ⟨rfl, rfl⟩ | (go_ret; exact ⟨rfl, rfl⟩)
theorem short_ok {w : World} {b o : Nat} {m : Int} (h : w.cell? ⟨b, o + 3, none⟩ = some (.int .i64 m)) : Calls Try.prog 32 #[.pointer (some ⟨b, o, none⟩)] w fun e w' => e = .returned (.bool (m == 1)) ∧ w' = w := by
  go_enter Try.func32, Try.ntmps32
  go_wp2
  first | exact ⟨rfl, rfl⟩ | (go_ret; exact ⟨rfl, rfl⟩)
/-- A long one of this number. -/
theorem c27 {w : World} {h : Nat} {v : Int} (hc : w.cell? ⟨h, 1, none⟩ = some (.int .i64 v)) : PredG 27 #[.pointer (some ⟨h, 0, none⟩)] sv6 (fun r => r.m == 2 && r.l == v) (fun _ => True) w := by
  intro W r G _
  have hc := keep1 G hc
  obtain ⟨i, f, l, m, p, o⟩ := r
  show Calls Try.prog 27 #[.agg #[.int .i64 i, .int .i64 f, .int .i64 l, .int .i64 m, .int .i64 p, .bool o], .pointer (some ⟨h, 0, none⟩)] W _
  have hc2 : ∀ c e, (W.alloc (.cells c e)).cell? ⟨h, 1, none⟩ = some (.int .i64 v) := fun c e => keep1 (alloc_garb _ _ _) hc
  rcases Bool.eq_false_or_eq_true (m == 2) with h1 | h1
  · simp only [h1, Bool.true_and]
    go_enter Try.func27, Try.ntmps27
    go_wp2_with (go_at_call 28; refine (long_ok (o := 0) (m := m) (by simp)).mono ?_; rintro e w' ⟨rfl, rfl⟩)
    first | exact ⟨rfl, alloc_garb _ _ _⟩ | (go_ret; exact ⟨rfl, alloc_garb _ _ _⟩)
  · simp only [h1, Bool.false_and]
    go_enter Try.func27, Try.ntmps27
    go_wp2_with (go_at_call 28; refine (long_ok (o := 0) (m := m) (by simp)).mono ?_; rintro e w' ⟨rfl, rfl⟩)
    first | exact ⟨rfl, alloc_garb _ _ _⟩ | (go_ret; exact ⟨rfl, alloc_garb _ _ _⟩)
def turnedN (n : Int) (r : md.R2) (W : Int) : Int := (wrap64 ((wrap64 (if r.k = 0 then n - (r.v + 1) else n + (r.v + 1))).tmod W + W)).tmod W
theorem turned_ok {n : Int} {r : md.R2} {W : Int} (hW : W = 16 ∨ W = 32 ∨ W = 64 ∨ W = 128 ∨ W = 256) (hv : 0 ≤ r.v ∧ r.v ≤ 255) (w : World) : Calls Try.prog 29 #[.int .i64 n, mv r, .int .i64 W] w fun e w' => e = .returned (.int .i64 (turnedN n r W)) ∧ Garb w w' := by
  obtain ⟨k, v⟩ := r
  simp only at hv
  obtain ⟨hv0, hv1⟩ := hv
  show Calls Try.prog 29 #[.int .i64 n, .agg #[.int .i64 k, .int .i64 v], .int .i64 W] w _
  unfold turnedN
  simp only
  rcases Bool.eq_false_or_eq_true (k == 0) with h1 | h1
  · have hk : k = 0 := by simpa using h1
    rw [if_pos hk]
    rcases hW with rfl | rfl | rfl | rfl | rfl
    all_goals go_enter Try.func29, Try.ntmps29
    all_goals go_wp2
    all_goals first | exact ⟨rfl, alloc_garb _ _ _⟩ | (go_ret; exact ⟨rfl, alloc_garb _ _ _⟩)
  · have hk : ¬ k = 0 := by simpa using h1
    rw [if_neg hk]
    rcases hW with rfl | rfl | rfl | rfl | rfl
    all_goals go_enter Try.func29, Try.ntmps29
    all_goals go_wp2
    all_goals first | exact ⟨rfl, alloc_garb _ _ _⟩ | (go_ret; exact ⟨rfl, alloc_garb _ _ _⟩)
end Go.Proofs.Ytoheklommpochaa.ls
