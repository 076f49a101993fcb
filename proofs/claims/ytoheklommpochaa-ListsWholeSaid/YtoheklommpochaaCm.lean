/- Modify's function values: a short one of a number; the document's place. -/
import Derived.Test.YtoheklommpochaaCl
import Derived.Deep.DeepCutAuto
namespace Go.Proofs.Ytoheklommpochaa.ls
open Go.RowKit Go.Lib Go.Proofs.Ytoheklommpochaa Go.Proofs.Ytoheklommpochaa.pi
open Go.RX (Garb)
set_option linter.unusedVariables false
set_option linter.unusedSimpArgs false
attribute [local go_sem ↓] Go.wp_at_zero Go.wp_at_succ
theorem bool2 (b : Bool) : b = true ∨ b = false := by cases b <;> simp
set_option maxHeartbeats 2000000 in
set_option maxRecDepth 100000 in
theorem c31 {w : World} {h1 h2 h3 : Nat} {now bits x : Int} (hn : In64 now) (hb : In64 bits) (k1 : w.cell? ⟨h1, 0, none⟩ = some (.int .i64 now)) (k2 : w.cell? ⟨h2, 0, none⟩ = some (.int .i64 bits)) (k3 : w.cell? ⟨h3, 0, none⟩ = some (.int .i64 x)) :
    PredG 31 #[.pointer (some ⟨h1, 0, none⟩), .pointer (some ⟨h2, 0, none⟩), .pointer (some ⟨h3, 0, none⟩)] sv6 (fun r => r.m == 1 && pic r now bits == x) R6.ok w := by
  intro W r G hok
  dsimp only
  have k1 := keep1 G k1
  have k2 := keep1 G k2
  have k3 := keep1 G k3
  have p1 := fun w => pic_ok (f := 33) (.inl rfl) hok hn hb w
  generalize pic r now bits = u at p1 ⊢
  clear G hn hb hok
  obtain ⟨i, f, l, m, p, o⟩ := r
  simp only [sv6] at p1
  obtain ⟨W1, hW1⟩ : ∃ W1, W1 = W.alloc (.cells #[.int .i64 i, .int .i64 f, .int .i64 l, .int .i64 m, .int .i64 p, .bool o] 45) := ⟨_, rfl⟩
  have g1 : Garb W W1 := by rw [hW1]; exact alloc_garb _ _ _
  have q1 := keep1 g1 k1
  have q2 := keep1 g1 k2
  have q3 := keep1 g1 k3
  have hnew : W1.heap[W.heap.size]? = some (.cells #[.int .i64 i, .int .i64 f, .int .i64 l, .int .i64 m, .int .i64 p, .bool o] 45 (0, 0)) := by rw [hW1]; exact heap_alloc_new W _
  have x0 : W1.cell? ⟨W.heap.size, 0, none⟩ = some (.int .i64 i) := by rw [cell_of hnew]; rfl
  have x1 : W1.cell? ⟨W.heap.size, 1, none⟩ = some (.int .i64 f) := by rw [cell_of hnew]; rfl
  have x2 : W1.cell? ⟨W.heap.size, 2, none⟩ = some (.int .i64 l) := by rw [cell_of hnew]; rfl
  have x3 : W1.cell? ⟨W.heap.size, 3, none⟩ = some (.int .i64 m) := by rw [cell_of hnew]; rfl
  have x4 : W1.cell? ⟨W.heap.size, 4, none⟩ = some (.int .i64 p) := by rw [cell_of hnew]; rfl
  have x5 : W1.cell? ⟨W.heap.size, 5, none⟩ = some (.bool o) := by rw [cell_of hnew]; rfl
  show Calls Try.prog 31 #[.agg #[.int .i64 i, .int .i64 f, .int .i64 l, .int .i64 m, .int .i64 p, .bool o], .pointer (some ⟨h1, 0, none⟩), .pointer (some ⟨h2, 0, none⟩), .pointer (some ⟨h3, 0, none⟩)] W _
  clear k1 k2 k3 hnew
  have hsz : W.heap.size < W1.heap.size := World.block_lt_of_cell? W1 _ x0
  rcases bool2 (m == 1) with hm | hm
  · simp only [hm, Bool.true_and]
    go_enter Try.func31, Try.ntmps31
    go_upto_region 1 with (fail)
    rw [← hW1]
    clear hW1
    go_region_held3 (fun w' => Garb W1 w' ∧ w'.cell? ⟨W.heap.size, 0, none⟩ = some (.int .i64 i) ∧ w'.cell? ⟨W.heap.size, 1, none⟩ = some (.int .i64 f) ∧ w'.cell? ⟨W.heap.size, 2, none⟩ = some (.int .i64 l) ∧ w'.cell? ⟨W.heap.size, 3, none⟩ = some (.int .i64 m) ∧ w'.cell? ⟨W.heap.size, 4, none⟩ = some (.int .i64 p) ∧ w'.cell? ⟨W.heap.size, 5, none⟩ = some (.bool o) ∧
        w'.cell? ⟨h1, 0, none⟩ = some (.int .i64 now) ∧ w'.cell? ⟨h2, 0, none⟩ = some (.int .i64 bits) ∧ w'.cell? ⟨h3, 0, none⟩ = some (.int .i64 x))
      (((try go_split_ands); (try dsimp only); repeat' apply And.intro) <;> first | assumption | (exact Go.RX.Garb.refl _) | (exact Go.RX.Garb.drew _ _) | (exact Go.RX.Garb.trans ‹Garb W1 _› (Go.RX.Garb.drew _ _)) | (exact Go.RX.Garb.trans ‹_› g2) | (exact keep1 g2 ‹_›) | go_keep)
      ((first
        | (go_at_call 32; refine (short_ok (o := 0) (m := m) (by first | assumption | (go_split_ands; assumption))).mono ?_; rintro e w2 ⟨rfl, e2⟩; have g2 := Go.RX.Garb.refl w2; subst e2)
        | (go_at_call 33; with_reducible refine (p1 _).mono ?_; rintro e w2 ⟨rfl, g2⟩)))
    all_goals go_wp2
    all_goals go_ret
    all_goals first | exact ⟨rfl, g1.trans (by first | assumption | (go_split_ands; assumption) | exact Go.RX.Garb.drew _ _)⟩ | (rename_i hS; exact ⟨rfl, g1.trans hS.1⟩)
  · simp only [hm, Bool.false_and]
    go_enter Try.func31, Try.ntmps31
    go_upto_region 1 with (fail)
    rw [← hW1]
    clear hW1 q1 q2 q3 p1
    go_quiet (first | (go_at_call 32; refine Calls.quiet_of_same (short_ok (o := 0) (m := m) (by rw [World.cell?_drewN]; assumption))))
    all_goals go_wp2
    all_goals go_ret
    all_goals exact ⟨rfl, g1.trans (Go.RX.Garb.drew _ _)⟩
end Go.Proofs.Ytoheklommpochaa.ls
