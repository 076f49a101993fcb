/- The stable sort: symMerge. -/
import Derived.Test.YtoheklommpochaaSy
namespace Go.Proofs.Ytoheklommpochaa.ls
open Go.RowKit Go.Lib Go.Proofs.Ytoheklommpochaa Go.Proofs.Ytoheklommpochaa.pi
open Go.RX (Garb)
set_option linter.unusedVariables false
set_option linter.unusedSimpArgs false
attribute [local go_sem ↓] Go.wp_at_zero Go.wp_at_succ
set_option maxHeartbeats 16000000 in
set_option maxRecDepth 1000000 in
theorem sym_gen {w W : World} {rb cap n a m b g : Nat} {cb : Array Value} {L0 L : List Int} {ok : Int → Prop} (eg : ∀ args w, (callFunc g args).run Try.prog w = .ok (.enter g args) w) (hC : CmpB g cb w rb ok) (hK : ∀ x ∈ L0, ok x)
    (S : SW w W rb cap L0 L) (hn : n = L0.length) (hsz : n < 4611686018427387904) (ham : a + 1 < m) (hmb : m + 1 < b) (hbn : b ≤ n)
    (IH : ∀ a' m' b' : Nat, b' - a' < b - a → a' < m' → m' < b' → b' ≤ n → ∀ W L, SW w W rb cap L0 L → Calls Try.prog 62 #[.slice (some ⟨rb, 0, none⟩) n cap, .int .i64 a', .int .i64 m', .int .i64 b', .func (.func g) #[] cb] W (SPost w rb cap L0)) :
    Calls Try.prog 62 #[.slice (some ⟨rb, 0, none⟩) n cap, .int .i64 a, .int .i64 m, .int .i64 b, .func (.func g) #[] cb] W (SPost w rb cap L0) := by
  generalize hQ : SPost w rb cap L0 = Q0
  have hend : Aside (∀ W' L', SW w W' rb cap L0 L' → Q0 (.returned (.tuple #[])) W') := fun W' L' h => by subst hQ; exact ⟨rfl, L', h⟩
  have HN : Aside (n = L0.length) := hn
  have HC := asd hC
  have HK := asd hK
  have S0 := asd S
  have hSP : Aside (∀ e w', SPost w rb cap L0 e w' → e = .returned (.tuple #[]) ∧ ∃ L, SW w w' rb cap L0 L) := fun e w' h => h
  have IH0 := asd IH
  clear hQ hn S hC hK IH
  have mixed : Try.prog.follows .mixedOrders = true := by kernel_rfl
  have hB : ((m : Int) - (a : Int) == 1) = false := by simp; omega
  have hB2 : ((b : Int) - (m : Int) == 1) = false := by simp; omega
  obtain ⟨mid, hmid⟩ : ∃ q, q = (a + b) / 2 := ⟨_, rfl⟩
  have emid : ((a : Int) + (b : Int)) / 2 = (mid : Int) := by omega
  obtain ⟨nn, hnn⟩ : ∃ q, q = mid + m := ⟨_, rfl⟩
  have enn : (mid : Int) + (m : Int) = (nn : Int) := by omega
  obtain ⟨pp, hpp⟩ : ∃ q, q + 1 = nn := ⟨nn - 1, by omega⟩
  have epp : (nn : Int) - 1 = (pp : Int) := by omega
  have HM : Aside (mid = (a + b) / 2 ∧ nn = mid + m ∧ pp + 1 = nn) := ⟨hmid, hnn, hpp⟩
  obtain ⟨hmd1, hmd2⟩ : 2 * mid ≤ a + b ∧ a + b ≤ 2 * mid + 1 := by omega
  obtain ⟨s0, hs0⟩ : ∃ q, q = (if mid < m then nn - b else a) := ⟨_, rfl⟩
  obtain ⟨r0, hr0⟩ : ∃ q, q = (if mid < m then mid else m) := ⟨_, rfl⟩
  have F0 : Aside (s0 ≤ r0 ∧ r0 ≤ pp ∧ r0 ≤ m ∧ r0 ≤ mid ∧ a ≤ s0 ∧ nn ≤ s0 + b ∧ nn ≤ pp + 1 ∧ pp < nn ∧ nn ≤ r0 + n ∧ nn = mid + m ∧ pp ≤ s0 + n - 1) := by
    show _ ∧ _
    rw [hs0, hr0]
    by_cases h : mid < m
    · rw [if_pos h, if_pos h]; omega
    · rw [if_neg h, if_neg h]; omega
  have IHa : Aside (∀ st, a < st → st < mid → ∀ W L, SW w W rb cap L0 L → Calls Try.prog 62 #[.slice (some ⟨rb, 0, none⟩) n cap, .int .i64 a, .int .i64 st, .int .i64 mid, .func (.func g) #[] cb] W (SPost w rb cap L0)) := fun st q1 q2 W L hS => IH0.out a st mid (by omega) q1 q2 (by omega) W L hS
  have IHb : Aside (∀ en, mid < en → en < b → ∀ W L, SW w W rb cap L0 L → Calls Try.prog 62 #[.slice (some ⟨rb, 0, none⟩) n cap, .int .i64 mid, .int .i64 en, .int .i64 b, .func (.func g) #[] cb] W (SPost w rb cap L0)) := fun en q1 q2 W L hS => IH0.out mid en b (by omega) q1 q2 hbn W L hS
  clear hmid hnn hpp IH0
  have key : ∀ (gt : Bool), decide ((mid : Int) < (m : Int)) = gt → Aside (gt = true → (nn : Int) - (b : Int) = (s0 : Int) ∧ r0 = mid) ∧ Aside (gt = false → s0 = a ∧ r0 = m) := fun gt hgt => by
    subst hgt
    refine ⟨(show Aside _ from fun h => ?_), (show Aside _ from fun h => ?_)⟩
    · have h : mid < m := by have := of_decide_eq_true h; omega
      obtain ⟨k1, k2, k3⟩ := HM.out
      rw [hs0, hr0, if_pos h, if_pos h]; omega
    · have h : ¬ mid < m := by have := of_decide_eq_false h; omega
      rw [hs0, hr0, if_neg h, if_neg h]; exact ⟨rfl, rfl⟩
  have KEY := asd key
  clear key hs0 hr0
  rcases bool2 (decide ((mid : Int) < (m : Int))) with hgt | hgt
  · have es0 := ((KEY.out true hgt).1.out rfl).1
    have er0 := ((KEY.out true hgt).1.out rfl).2.symm
    subst er0
    have hgtz : (mid : Int) < (m : Int) := of_decide_eq_true hgt
    clear KEY hgt
    go_enter Try.func62, Try.ntmps62
    go_wp2
    go_loopg [20, 21, 23] (mid - s0) (fun gg vi vj _ wr => ∃ (i j : Nat) (L' : List Int), s0 ≤ i ∧ i ≤ j ∧ j ≤ mid ∧ j - i ≤ gg ∧ vi = .int .i64 i ∧ vj = .int .i64 j ∧ Aside (SW w wr rb cap L0 L'))
    case atStart => exact ⟨s0, mid, L, Nat.le_refl _, F0.out.1, Nat.le_refl _, by omega, rfl, rfl, S0⟩
    case round =>
      clear S0
      obtain ⟨i, j, L', hi, hij, hj, hgg, rfl, rfl, S1⟩ := hrel
      obtain ⟨f1, f2, f3, f4, f5, f6, f7, f8, f9, f10, f11⟩ := F0.out
      by_cases hlt : i < j
      · have hltz : (i : Int) < (j : Int) := by omega
        obtain ⟨h, hh⟩ : ∃ h, h = (i + j) / 2 := ⟨_, rfl⟩
        have eh : ((i : Int) + (j : Int)) / 2 = (h : Int) := by omega
        have hh1 : i ≤ h := by omega
        have hh2 : h < j := by omega
        clear hh
        obtain ⟨q, hq⟩ : ∃ q, q + h = pp := ⟨pp - h, by omega⟩
        have eq1 : (pp : Int) - (h : Int) = (q : Int) := by omega
        have hqn : q < n := by omega
        have rq : IntKind.i64.wrap ((pp : Int) - (h : Int)) = (q : Int) := by rw [IntKind.wrap_i64]; omega
        have rq2 : IntKind.i64.wrap (q : Int) = (q : Int) := by rw [IntKind.wrap_i64]; omega
        clear f1 f2 f3 f4 f5 f6 f7 f8 f9 f10 f11 hq
        have hp1 : q < L0.length := by rw [← HN.out]; omega
        have hq1 : h < L0.length := by rw [← HN.out]; omega
        obtain ⟨x, hx, cx⟩ := S1.out.cell hp1
        obtain ⟨y, hy, cy⟩ := S1.out.cell hq1
        have okx := S1.out.ok HK.out hx
        have oky := S1.out.ok HK.out hy
        have pp0 : (0 : Int) ≤ (q : Int) := by omega
        have pp1 : (q : Int) < (n : Int) := by omega
        have qq0 : (0 : Int) ≤ (h : Int) := by omega
        have qq1 : (h : Int) < (n : Int) := by omega
        clear hx hy hp1 hq1
        go_wp2_with fail
        go_region_held3 (fun w' => Garb wr w' ∧ w'.cell? ⟨rb, q, none⟩ = some (.int .i64 x) ∧ w'.cell? ⟨rb, h, none⟩ = some (.int .i64 y))
          (((try go_split_ands); (try dsimp only); repeat' apply And.intro) <;> first | assumption | (exact drG _) | (exact Go.RX.Garb.trans ‹Garb wr _› (drG _)) | (exact Go.RX.Garb.trans ‹_› gg) | (exact keep1 gg ‹_›) | go_keep)
          ((go_at_fn g; refine (HC.out _ (but_garb S1.out.but (by first | assumption | (go_split_ands; assumption)) S1.out.lt) x y okx oky).mono ?_; rintro e w2 ⟨c, rfl, gg⟩))
        have S2 := asd (S1.out.garb ((drG wr).trans gg))
        clear cx cy okx oky gg
        clear S1
        go_wp2
        · go_roundg (j - (h + 1))
          case measure => omega
          case rel => exact ⟨h + 1, j, L', by omega, by omega, by omega, Nat.le_refl _, by first | rfl | go_num | (congr 1; omega), rfl, S2⟩
        · go_roundg (h - i)
          case measure => omega
          case rel => exact ⟨i, h, L', by omega, by omega, by omega, Nat.le_refl _, rfl, by first | rfl | go_num | (congr 1; omega), S2⟩
      · have hltz : ¬ (i : Int) < (j : Int) := by omega
        obtain ⟨en, hen⟩ : ∃ q, q + i = nn := ⟨nn - i, by omega⟩
        have een : (nn : Int) - (i : Int) = (en : Int) := by omega
        have henb : en ≤ b := by omega
        clear f1 f2 f3 f4 f5 f6 f7 f8 f9 f10 f11 hen
        have SS := S1
        clear S1
        go_wp2_with (first
          | (go_at_call 63; refine (rotate_ok (a := i) (m := m) (b := en) SS.out HN.out hsz (by omega) (by omega) (by omega)).mono ?_; intro e w3 h3; obtain ⟨rfl, L3, S3⟩ := hSP.out _ _ h3; have SS := asd S3; clear S3 h3)
          | (go_at_call 62; with_reducible refine (IHa.out i (by omega) (by omega) _ _ SS.out).mono ?_; intro e w4 h4; obtain ⟨rfl, L4, S4⟩ := hSP.out _ _ h4; have SS := asd S4; clear S4 h4)
          | (go_at_call 62; with_reducible refine (IHb.out en (by omega) (by omega) _ _ SS.out).mono ?_; intro e w5 h5; obtain ⟨rfl, L5, S5⟩ := hSP.out _ _ h5; have SS := asd S5; clear S5 h5))
        all_goals (have hq := hend.out _ _ SS.out)
        all_goals (first | exact hq | (go_end0; exact hq) | (go_ret; exact hq))
  · have es0 := ((KEY.out false hgt).2.out rfl).1.symm
    have er0 := ((KEY.out false hgt).2.out rfl).2.symm
    subst es0
    subst er0
    have hgtz : ¬ (mid : Int) < (m : Int) := of_decide_eq_false hgt
    clear KEY hgt
    go_enter Try.func62, Try.ntmps62
    go_wp2
    go_loopg [20, 21, 23] (m - a) (fun gg vi vj _ wr => ∃ (i j : Nat) (L' : List Int), a ≤ i ∧ i ≤ j ∧ j ≤ m ∧ j - i ≤ gg ∧ vi = .int .i64 i ∧ vj = .int .i64 j ∧ Aside (SW w wr rb cap L0 L'))
    case atStart => exact ⟨a, m, L, Nat.le_refl _, F0.out.1, Nat.le_refl _, by omega, rfl, rfl, S0⟩
    case round =>
      clear S0
      obtain ⟨i, j, L', hi, hij, hj, hgg, rfl, rfl, S1⟩ := hrel
      obtain ⟨f1, f2, f3, f4, f5, f6, f7, f8, f9, f10, f11⟩ := F0.out
      by_cases hlt : i < j
      · have hltz : (i : Int) < (j : Int) := by omega
        obtain ⟨h, hh⟩ : ∃ h, h = (i + j) / 2 := ⟨_, rfl⟩
        have eh : ((i : Int) + (j : Int)) / 2 = (h : Int) := by omega
        have hh1 : i ≤ h := by omega
        have hh2 : h < j := by omega
        clear hh
        obtain ⟨q, hq⟩ : ∃ q, q + h = pp := ⟨pp - h, by omega⟩
        have eq1 : (pp : Int) - (h : Int) = (q : Int) := by omega
        have hqn : q < n := by omega
        have rq : IntKind.i64.wrap ((pp : Int) - (h : Int)) = (q : Int) := by rw [IntKind.wrap_i64]; omega
        have rq2 : IntKind.i64.wrap (q : Int) = (q : Int) := by rw [IntKind.wrap_i64]; omega
        clear f1 f2 f3 f4 f5 f6 f7 f8 f9 f10 f11 hq
        have hp1 : q < L0.length := by rw [← HN.out]; omega
        have hq1 : h < L0.length := by rw [← HN.out]; omega
        obtain ⟨x, hx, cx⟩ := S1.out.cell hp1
        obtain ⟨y, hy, cy⟩ := S1.out.cell hq1
        have okx := S1.out.ok HK.out hx
        have oky := S1.out.ok HK.out hy
        have pp0 : (0 : Int) ≤ (q : Int) := by omega
        have pp1 : (q : Int) < (n : Int) := by omega
        have qq0 : (0 : Int) ≤ (h : Int) := by omega
        have qq1 : (h : Int) < (n : Int) := by omega
        clear hx hy hp1 hq1
        go_wp2_with fail
        go_region_held3 (fun w' => Garb wr w' ∧ w'.cell? ⟨rb, q, none⟩ = some (.int .i64 x) ∧ w'.cell? ⟨rb, h, none⟩ = some (.int .i64 y))
          (((try go_split_ands); (try dsimp only); repeat' apply And.intro) <;> first | assumption | (exact drG _) | (exact Go.RX.Garb.trans ‹Garb wr _› (drG _)) | (exact Go.RX.Garb.trans ‹_› gg) | (exact keep1 gg ‹_›) | go_keep)
          ((go_at_fn g; refine (HC.out _ (but_garb S1.out.but (by first | assumption | (go_split_ands; assumption)) S1.out.lt) x y okx oky).mono ?_; rintro e w2 ⟨c, rfl, gg⟩))
        have S2 := asd (S1.out.garb ((drG wr).trans gg))
        clear cx cy okx oky gg
        clear S1
        go_wp2
        · go_roundg (j - (h + 1))
          case measure => omega
          case rel => exact ⟨h + 1, j, L', by omega, by omega, by omega, Nat.le_refl _, by first | rfl | go_num | (congr 1; omega), rfl, S2⟩
        · go_roundg (h - i)
          case measure => omega
          case rel => exact ⟨i, h, L', by omega, by omega, by omega, Nat.le_refl _, rfl, by first | rfl | go_num | (congr 1; omega), S2⟩
      · have hltz : ¬ (i : Int) < (j : Int) := by omega
        obtain ⟨en, hen⟩ : ∃ q, q + i = nn := ⟨nn - i, by omega⟩
        have een : (nn : Int) - (i : Int) = (en : Int) := by omega
        have henb : en ≤ b := by omega
        clear f1 f2 f3 f4 f5 f6 f7 f8 f9 f10 f11 hen
        have SS := S1
        clear S1
        go_wp2_with (first
          | (go_at_call 63; refine (rotate_ok (a := i) (m := m) (b := en) SS.out HN.out hsz (by omega) (by omega) (by omega)).mono ?_; intro e w3 h3; obtain ⟨rfl, L3, S3⟩ := hSP.out _ _ h3; have SS := asd S3; clear S3 h3)
          | (go_at_call 62; with_reducible refine (IHa.out i (by omega) (by omega) _ _ SS.out).mono ?_; intro e w4 h4; obtain ⟨rfl, L4, S4⟩ := hSP.out _ _ h4; have SS := asd S4; clear S4 h4)
          | (go_at_call 62; with_reducible refine (IHb.out en (by omega) (by omega) _ _ SS.out).mono ?_; intro e w5 h5; obtain ⟨rfl, L5, S5⟩ := hSP.out _ _ h5; have SS := asd S5; clear S5 h5))
        all_goals (have hq := hend.out _ _ SS.out)
        all_goals (first | exact hq | (go_end0; exact hq) | (go_ret; exact hq))
end Go.Proofs.Ytoheklommpochaa.ls
