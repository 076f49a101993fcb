/- Comparisons of two places; sorted: a permutation of the places that are asked for. -/
import Derived.Test.YtoheklommpochaaKc
import Derived.Test.YtoheklommpochaaSt
namespace Go.Proofs.Ytoheklommpochaa.ls
open Go.RowKit Go.Lib Go.Proofs.Ytoheklommpochaa Go.Proofs.Ytoheklommpochaa.pi
open Go.RX (Garb)
set_option linter.unusedVariables false
set_option linter.unusedSimpArgs false
attribute [local go_sem ↓] Go.wp_at_zero Go.wp_at_succ
set_option maxHeartbeats 2000000 in
set_option maxRecDepth 100000 in
theorem a45 {w : World} {h : Nat} {poc : Int} (hc : w.cell? ⟨h, 0, none⟩ = some (.int .i64 poc)) (b off : Nat) (z : List rf.R6) : AskG 45 #[.pointer (some ⟨h, 0, none⟩)] (fun r => r.m == 1 && decide (r.p < poc)) w b off z := fun W g hp i r hi => by
  have hc := keep1 g hc
  obtain ⟨-, -, -, x3, x4, -⟩ := pic_at hp hi
  show Calls Try.prog 45 #[.pointer (some ⟨b, off + i * 6, none⟩), .pointer (some ⟨h, 0, none⟩)] W _
  dsimp only
  generalize off + i * 6 = o at x3 x4
  clear hp hi g
  generalize r.m = m at x3 ⊢
  generalize r.p = pp at x4 ⊢
  rcases bool2 (m == 1) with hm | hm
  · simp only [hm, Bool.true_and]
    go_enter Try.func45, Try.ntmps45
    go_upto_region 1 with (fail)
    go_quiet (first | (go_at_call 32; refine Calls.quiet_of_same (short_ok (o := o) (m := m) (by rw [World.cell?_drewN]; assumption))))
    all_goals go_wp2
    all_goals (first | exact ⟨rfl, Go.RX.Garb.drew _ _⟩ | (go_ret; exact ⟨rfl, Go.RX.Garb.drew _ _⟩))
  · simp only [hm, Bool.false_and]
    go_enter Try.func45, Try.ntmps45
    go_upto_region 1 with (fail)
    go_quiet (first | (go_at_call 32; refine Calls.quiet_of_same (short_ok (o := o) (m := m) (by rw [World.cell?_drewN]; assumption))))
    all_goals go_wp2
    all_goals (first | exact ⟨rfl, Go.RX.Garb.drew _ _⟩ | (go_ret; exact ⟨rfl, Go.RX.Garb.drew _ _⟩))
set_option maxHeartbeats 2000000 in
set_option maxRecDepth 100000 in
theorem a47 {w : World} {h : Nat} {poc : Int} (hc : w.cell? ⟨h, 0, none⟩ = some (.int .i64 poc)) (b off : Nat) (z : List rf.R6) : AskG 47 #[.pointer (some ⟨h, 0, none⟩)] (fun r => r.m == 1 && decide (poc ≤ r.p)) w b off z := fun W g hp i r hi => by
  have hc := keep1 g hc
  obtain ⟨-, -, -, x3, x4, -⟩ := pic_at hp hi
  show Calls Try.prog 47 #[.pointer (some ⟨b, off + i * 6, none⟩), .pointer (some ⟨h, 0, none⟩)] W _
  dsimp only
  generalize off + i * 6 = o at x3 x4
  clear hp hi g
  generalize r.m = m at x3 ⊢
  generalize r.p = pp at x4 ⊢
  rcases bool2 (m == 1) with hm | hm
  · simp only [hm, Bool.true_and]
    go_enter Try.func47, Try.ntmps47
    go_upto_region 1 with (fail)
    go_quiet (first | (go_at_call 32; refine Calls.quiet_of_same (short_ok (o := o) (m := m) (by rw [World.cell?_drewN]; assumption))))
    all_goals go_wp2
    all_goals (first | exact ⟨rfl, Go.RX.Garb.drew _ _⟩ | (go_ret; exact ⟨rfl, Go.RX.Garb.drew _ _⟩))
  · simp only [hm, Bool.false_and]
    go_enter Try.func47, Try.ntmps47
    go_upto_region 1 with (fail)
    go_quiet (first | (go_at_call 32; refine Calls.quiet_of_same (short_ok (o := o) (m := m) (by rw [World.cell?_drewN]; assumption))))
    all_goals go_wp2
    all_goals (first | exact ⟨rfl, Go.RX.Garb.drew _ _⟩ | (go_ret; exact ⟨rfl, Go.RX.Garb.drew _ _⟩))
/-- The key of a place, in whatever world the sort passes through. -/
theorem key_at {w W : World} {b off k rb : Nat} {kb : Array Value} {z : List rf.R6} {bad : Nat → Prop} (hk : KeyG k kb w b off z bad) (hp : Pics w b off z) (hB : But w W rb) (hne : rb ≠ b) (hbad : ¬ bad rb) {x : Nat} (hx : x < z.length) :
    ∀ w', Garb W w' → Calls Try.prog k (#[.pointer (some ⟨b, off + x * 6, none⟩)] ++ kb) w' fun e w'' => ∃ c : Int, e = .returned (.int .i64 c) ∧ Garb w' w'' := fun w' g => by
  have hx' : z[x]? = some z[x] := List.getElem?_eq_getElem hx
  refine hk w' rb (fun j hj hjn => ?_) (Nat.le_trans hB.size g.below.size) hbad ((hp.but hB (Ne.symm hne)).garb g) x _ hx'
  rw [g.below.block j (Nat.lt_of_lt_of_le hj hB.size)]; exact hB.block j hj hjn
set_option maxHeartbeats 4000000 in
set_option maxRecDepth 100000 in
theorem cmp_ok {F : Nat} (hF : F = 54 ∨ F = 57) {w : World} {b off k n c hk hr : Nat} {kb : Array Value} {z : List rf.R6} {bad : Nat → Prop} (ek : ∀ args w, (callFunc k args).run Try.prog w = .ok (.enter k args) w) (hkey : KeyG k kb w b off z bad)
    (kc : w.cell? ⟨hk, 0, none⟩ = some (.func (.func k) #[] kb)) (rc : w.cell? ⟨hr, 0, none⟩ = some (.slice (some ⟨b, off, none⟩) n c)) (hp : Pics w b off z) (hn : n = z.length) (hsz : n ≤ 9223372036854775807) {rb : Nat} (h1 : rb ≠ hk) (h2 : rb ≠ hr) (h3 : rb ≠ b) (h4 : ¬ bad rb) :
    CmpB F #[.pointer (some ⟨hk, 0, none⟩), .pointer (some ⟨hr, 0, none⟩)] w rb (fun x => 0 ≤ x ∧ x < n) := fun W hB x y ⟨x0, x1⟩ ⟨y0, y1⟩ => by
  obtain ⟨xi, rfl⟩ : ∃ q : Nat, x = (q : Int) := ⟨x.toNat, by omega⟩
  obtain ⟨yi, rfl⟩ : ∃ q : Nat, y = (q : Int) := ⟨y.toNat, by omega⟩
  have kc : W.cell? ⟨hk, 0, none⟩ = some (.func (.func k) #[] kb) := by rw [World.cell?_of_block (w := w) (hB.block hk (World.block_lt_of_cell? w _ kc) (Ne.symm h1))]; exact kc
  have rc : W.cell? ⟨hr, 0, none⟩ = some (.slice (some ⟨b, off, none⟩) n c) := by rw [World.cell?_of_block (w := w) (hB.block hr (World.block_lt_of_cell? w _ rc) (Ne.symm h2))]; exact rc
  have KX := asd (key_at hkey hp hB h3 h4 (x := xi) (by omega))
  have KY := asd (key_at hkey hp hB h3 h4 (x := yi) (by omega))
  clear hkey hp hB h1 h2 h3 h4 hn
  rcases hF with rfl | rfl
  · show Calls Try.prog 54 #[.int .i64 (xi : Int), .int .i64 (yi : Int), .pointer (some ⟨hk, 0, none⟩), .pointer (some ⟨hr, 0, none⟩)] W _
    go_enter Try.func54, Try.ntmps54
    go_upto_region 1 with (fail)
    go_region_held3 (fun w' => Garb W w' ∧ w'.cell? ⟨hk, 0, none⟩ = some (.func (.func k) #[] kb) ∧ w'.cell? ⟨hr, 0, none⟩ = some (.slice (some ⟨b, off, none⟩) n c))
      (((try go_split_ands); (try dsimp only); repeat' apply And.intro) <;> first | assumption | (exact drG _) | (exact Go.RX.Garb.trans ‹Garb W _› (drG _)) | (exact Go.RX.Garb.trans ‹_› gg) | (exact keep1 gg ‹_›) | go_keep)
      ((first
        | (go_at_fn k; with_reducible refine (KX.out _ (by first | assumption | (go_split_ands; assumption))).mono ?_; rintro e w2 ⟨c2, rfl, gg⟩)
        | (go_at_fn k; with_reducible refine (KY.out _ (by first | assumption | (go_split_ands; assumption))).mono ?_; rintro e w2 ⟨c2, rfl, gg⟩)
        | (go_at_call 55; refine (compare_ok _ _ _).mono ?_; rintro e w2 ⟨c3, rfl, gg⟩)))
    all_goals (rename_i hS)
    all_goals go_wp2
    all_goals (first | exact ⟨_, rfl, hS.1⟩ | (go_ret; exact ⟨_, rfl, hS.1⟩))
  · show Calls Try.prog 57 #[.int .i64 (xi : Int), .int .i64 (yi : Int), .pointer (some ⟨hk, 0, none⟩), .pointer (some ⟨hr, 0, none⟩)] W _
    go_enter Try.func57, Try.ntmps57
    go_upto_region 1 with (fail)
    go_region_held3 (fun w' => Garb W w' ∧ w'.cell? ⟨hk, 0, none⟩ = some (.func (.func k) #[] kb) ∧ w'.cell? ⟨hr, 0, none⟩ = some (.slice (some ⟨b, off, none⟩) n c))
      (((try go_split_ands); (try dsimp only); repeat' apply And.intro) <;> first | assumption | (exact drG _) | (exact Go.RX.Garb.trans ‹Garb W _› (drG _)) | (exact Go.RX.Garb.trans ‹_› gg) | (exact keep1 gg ‹_›) | go_keep)
      ((first
        | (go_at_fn k; with_reducible refine (KX.out _ (by first | assumption | (go_split_ands; assumption))).mono ?_; rintro e w2 ⟨c2, rfl, gg⟩)
        | (go_at_fn k; with_reducible refine (KY.out _ (by first | assumption | (go_split_ands; assumption))).mono ?_; rintro e w2 ⟨c2, rfl, gg⟩)
        | (go_at_call 55; refine (compare_ok _ _ _).mono ?_; rintro e w2 ⟨c3, rfl, gg⟩)))
    all_goals (rename_i hS)
    all_goals go_wp2
    all_goals (first | exact ⟨_, rfl, hS.1⟩ | (go_ret; exact ⟨_, rfl, hS.1⟩))
end Go.Proofs.Ytoheklommpochaa.ls
