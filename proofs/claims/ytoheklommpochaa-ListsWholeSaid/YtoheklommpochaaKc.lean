/- What the lists ask of a picture, and their keys: each reads. Comparisons of two places. -/
import Derived.Test.YtoheklommpochaaRo
namespace Go.Proofs.Ytoheklommpochaa.ls
open Go.RowKit Go.Lib Go.Proofs.Ytoheklommpochaa Go.Proofs.Ytoheklommpochaa.pi
open Go.RX (Garb)
set_option linter.unusedVariables false
set_option linter.unusedSimpArgs false
attribute [local go_sem ↓] Go.wp_at_zero Go.wp_at_succ
/-- The pictures at b, off. -/
structure Pics (w : World) (b off : Nat) (z : List rf.R6) : Prop where
  lt : b < w.heap.size
  row : ∀ j, j < z.length * 6 → w.cell? ⟨b, off + j, none⟩ = some (rf.val z j)
  ok : ∀ r ∈ z, R6.ok r
theorem Pics.garb {w w' : World} {b off : Nat} {z : List rf.R6} (h : Pics w b off z) (hg : Garb w w') : Pics w' b off z :=
  ⟨Nat.lt_of_lt_of_le h.lt hg.below.size, fun j hj => by rw [World.cell?_of_block (w := w) (hg.below.block b h.lt)]; exact h.row j hj, h.ok⟩
theorem Pics.but {w w' : World} {b off g : Nat} {z : List rf.R6} (h : Pics w b off z) (hg : But w w' g) (hne : b ≠ g) : Pics w' b off z :=
  ⟨Nat.lt_of_lt_of_le h.lt hg.size, fun j hj => by rw [World.cell?_of_block (w := w) (hg.block b h.lt hne)]; exact h.row j hj, h.ok⟩
/-- A function value that asks of a picture, by its address. -/
def AskG (f : Nat) (fb : Array Value) (p : rf.R6 → Bool) (w : World) (b off : Nat) (z : List rf.R6) : Prop :=
  ∀ W, Garb w W → Pics W b off z → ∀ i r, z[i]? = some r → Calls Try.prog f (#[.pointer (some ⟨b, off + i * 6, none⟩)] ++ fb) W fun e W' => e = .returned (.bool (p r)) ∧ Garb W W'
/-- One that gives its key. -/
def KeyG (f : Nat) (fb : Array Value) (w : World) (b off : Nat) (z : List rf.R6) (bad : Nat → Prop) : Prop :=
  ∀ W rb, (∀ k, k < w.heap.size → k ≠ rb → W.heap[k]? = w.heap[k]?) → w.heap.size ≤ W.heap.size → ¬ bad rb → Pics W b off z → ∀ i r, z[i]? = some r → Calls Try.prog f (#[.pointer (some ⟨b, off + i * 6, none⟩)] ++ fb) W fun e W' => ∃ c : Int, e = .returned (.int .i64 c) ∧ Garb W W'
theorem pic_at {w : World} {b off : Nat} {z : List rf.R6} (h : Pics w b off z) {i : Nat} {r : rf.R6} (hi : z[i]? = some r) :
    w.cell? ⟨b, off + i * 6, none⟩ = some (.int .i64 r.i) ∧ w.cell? ⟨b, off + i * 6 + 1, none⟩ = some (.int .i64 r.f) ∧ w.cell? ⟨b, off + i * 6 + 2, none⟩ = some (.int .i64 r.l) ∧ w.cell? ⟨b, off + i * 6 + 3, none⟩ = some (.int .i64 r.m) ∧ w.cell? ⟨b, off + i * 6 + 4, none⟩ = some (.int .i64 r.p) ∧ w.cell? ⟨b, off + i * 6 + 5, none⟩ = some (.bool r.o) := by
  have hl : i < z.length := (List.getElem?_eq_some_iff.1 hi).1
  have := rf.six z i b off w hl h.row
  rwa [show z.getD i default = r by rw [List.getD_eq_getElem?_getD, hi]; rfl] at this
theorem e28 : Enters Try.prog 28 := enters_of Try.func28 (by kernel_rfl) rfl
theorem e32 : Enters Try.prog 32 := enters_of Try.func32 (by kernel_rfl) rfl
theorem e42 : Enters Try.prog 42 := enters_of Try.func42 (by kernel_rfl) rfl
theorem e44 : Enters Try.prog 44 := enters_of Try.func44 (by kernel_rfl) rfl
theorem e45 : Enters Try.prog 45 := enters_of Try.func45 (by kernel_rfl) rfl
theorem e47 : Enters Try.prog 47 := enters_of Try.func47 (by kernel_rfl) rfl
theorem e54 : Enters Try.prog 54 := enters_of Try.func54 (by kernel_rfl) rfl
theorem e56 : Enters Try.prog 56 := enters_of Try.func56 (by kernel_rfl) rfl
theorem e57 : Enters Try.prog 57 := enters_of Try.func57 (by kernel_rfl) rfl
theorem a28 (w : World) (b off : Nat) (z : List rf.R6) : AskG 28 #[] (fun r => r.m == 2) w b off z := fun W g h i r hi => by
  obtain ⟨-, -, -, x3, -, -⟩ := pic_at h hi
  exact (long_ok (o := off + i * 6) x3).mono fun e W' ⟨h1, h2⟩ => ⟨h1, by rw [h2]; exact Garb.refl _⟩
theorem a32 (w : World) (b off : Nat) (z : List rf.R6) : AskG 32 #[] (fun r => r.m == 1) w b off z := fun W g h i r hi => by
  obtain ⟨-, -, -, x3, -, -⟩ := pic_at h hi
  exact (short_ok (o := off + i * 6) x3).mono fun e W' ⟨h1, h2⟩ => ⟨h1, by rw [h2]; exact Garb.refl _⟩
theorem k56 (w : World) (b off : Nat) (z : List rf.R6) (bad : Nat → Prop) : KeyG 56 #[] w b off z bad := fun W rb _ _ _ h i r hi => by
  obtain ⟨x0, x1, x2, x3, x4, x5⟩ := pic_at h hi
  show Calls Try.prog 56 #[.pointer (some ⟨b, off + i * 6, none⟩)] W _
  generalize off + i * 6 = o at x0 x1 x2 x3 x4 x5
  clear hi h
  go_enter Try.func56, Try.ntmps56
  go_wp2
  first | exact ⟨_, rfl, Garb.refl _⟩ | (go_ret; exact ⟨_, rfl, Garb.refl _⟩)
theorem k44 (w : World) (b off : Nat) (z : List rf.R6) (bad : Nat → Prop) : KeyG 44 #[] w b off z bad := fun W rb _ _ _ h i r hi => by
  obtain ⟨x0, x1, x2, x3, x4, x5⟩ := pic_at h hi
  show Calls Try.prog 44 #[.pointer (some ⟨b, off + i * 6, none⟩)] W _
  generalize off + i * 6 = o at x0 x1 x2 x3 x4 x5
  clear hi h
  go_enter Try.func44, Try.ntmps44
  go_wp2
  first | exact ⟨_, rfl, Garb.refl _⟩ | (go_ret; exact ⟨_, rfl, Garb.refl _⟩)
set_option maxHeartbeats 2000000 in
set_option maxRecDepth 100000 in
theorem k42 {w : World} {b off : Nat} {z : List rf.R6} {h1 h2 : Nat} {now bits : Int} (hn : In64 now) (hb : In64 bits) (c1 : w.cell? ⟨h1, 0, none⟩ = some (.int .i64 now)) (c2 : w.cell? ⟨h2, 0, none⟩ = some (.int .i64 bits)) :
    KeyG 42 #[.pointer (some ⟨h1, 0, none⟩), .pointer (some ⟨h2, 0, none⟩)] w b off z (fun rb => rb = h1 ∨ rb = h2) := fun W rb hk hs hbad h i r hi => by
  have l1 := World.block_lt_of_cell? w _ c1
  have l2 := World.block_lt_of_cell? w _ c2
  have c1 : W.cell? ⟨h1, 0, none⟩ = some (.int .i64 now) := by rw [World.cell?_of_block (w := w) (hk h1 l1 (fun e => hbad (.inl e.symm)))]; exact c1
  have c2 : W.cell? ⟨h2, 0, none⟩ = some (.int .i64 bits) := by rw [World.cell?_of_block (w := w) (hk h2 l2 (fun e => hbad (.inr e.symm)))]; exact c2
  obtain ⟨x0, x1, x2, x3, x4, x5⟩ := pic_at h hi
  have p1 := fun w => pic_ok (f := 33) (.inl rfl) (h.ok r (List.mem_of_getElem? hi)) hn hb w
  show Calls Try.prog 42 #[.pointer (some ⟨b, off + i * 6, none⟩), .pointer (some ⟨h1, 0, none⟩), .pointer (some ⟨h2, 0, none⟩)] W _
  generalize off + i * 6 = o at x0 x1 x2 x3 x4 x5
  generalize pic r now bits = u at p1
  clear hi h hk hbad hs l1 l2
  obtain ⟨ri, rf', rl, rm, rp, ro⟩ := r
  simp only [sv6] at p1
  simp only at x0 x1 x2 x3 x4 x5
  go_enter Try.func42, Try.ntmps42
  go_upto_region 1 with (fail)
  go_region_held3 (fun w' => Garb W w' ∧ w'.cell? ⟨b, o, none⟩ = some (.int .i64 ri) ∧ w'.cell? ⟨b, o + 1, none⟩ = some (.int .i64 rf') ∧ w'.cell? ⟨b, o + 2, none⟩ = some (.int .i64 rl) ∧ w'.cell? ⟨b, o + 3, none⟩ = some (.int .i64 rm) ∧ w'.cell? ⟨b, o + 4, none⟩ = some (.int .i64 rp) ∧ w'.cell? ⟨b, o + 5, none⟩ = some (.bool ro) ∧ w'.cell? ⟨h1, 0, none⟩ = some (.int .i64 now) ∧ w'.cell? ⟨h2, 0, none⟩ = some (.int .i64 bits))
    (((try go_split_ands); (try dsimp only); repeat' apply And.intro) <;> first | assumption | (exact drG _) | (exact Go.RX.Garb.trans ‹Garb W _› (drG _)) | (exact Go.RX.Garb.trans ‹_› gg) | (exact keep1 gg ‹_›) | go_keep)
    ((go_at_call 33; with_reducible refine (p1 _).mono ?_; rintro e w2 ⟨rfl, gg⟩))
  all_goals go_wp2
  all_goals (first | exact ⟨_, rfl, (drG _).trans gg⟩ | (go_ret; exact ⟨_, rfl, (drG _).trans gg⟩))
/-- cmp.Compare. -/
theorem compare_ok (x y : Int) (w : World) : Calls Try.prog 55 #[.int .i64 x, .int .i64 y] w fun e w' => ∃ c : Int, e = .returned (.int .i64 c) ∧ Garb w w' := by
  have nn : ∀ (x : Int) (w : World), Calls Try.prog 60 #[.int .i64 x] w fun e w' => e = .returned (.bool false) ∧ w' = w := fun x w => by
    go_enter Try.func60, Try.ntmps60
    go_wp2
    first | exact ⟨rfl, rfl⟩ | (go_ret; exact ⟨rfl, rfl⟩)
  go_enter Try.func55, Try.ntmps55
  go_wp2_with (go_at_call 60; refine (nn _ _).mono ?_; rintro e w' ⟨rfl, rfl⟩)
  all_goals (first | exact ⟨_, rfl, Garb.refl _⟩ | (go_ret; exact ⟨_, rfl, Garb.refl _⟩))
end Go.Proofs.Ytoheklommpochaa.ls
