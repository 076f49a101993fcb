/- The stable sort: symMerge. -/
import Derived.Test.YtoheklommpochaaRo
namespace Go.Proofs.Ytoheklommpochaa.ls
open Go.RowKit Go.Lib Go.Proofs.Ytoheklommpochaa Go.Proofs.Ytoheklommpochaa.pi
open Go.RX (Garb)
set_option linter.unusedVariables false
set_option linter.unusedSimpArgs false
attribute [local go_sem ↓] Go.wp_at_zero Go.wp_at_succ
set_option maxHeartbeats 8000000 in
set_option maxRecDepth 1000000 in
theorem sym_one {w W : World} {rb cap n a m b g : Nat} {cb : Array Value} {L0 L : List Int} {ok : Int → Prop} (eg : ∀ args w, (callFunc g args).run Try.prog w = .ok (.enter g args) w) (hC : CmpB g cb w rb ok) (hK : ∀ x ∈ L0, ok x)
    (S : SW w W rb cap L0 L) (hn : n = L0.length) (hsz : n < 4611686018427387904) (h1 : m = a + 1) (hmb : m < b) (hbn : b ≤ n) :
    Calls Try.prog 62 #[.slice (some ⟨rb, 0, none⟩) n cap, .int .i64 a, .int .i64 m, .int .i64 b, .func (.func g) #[] cb] W (SPost w rb cap L0) := by
  generalize hQ : SPost w rb cap L0 = Q0
  have hend : Aside (∀ W' L', SW w W' rb cap L0 L' → Q0 (.returned (.tuple #[])) W') := fun W' L' h => by subst hQ; exact ⟨rfl, L', h⟩
  have HN : Aside (n = L0.length) := hn
  have HC := asd hC
  have HK := asd hK
  have S0 := asd S
  clear hQ hn S hC hK
  have mixed : Try.prog.follows .mixedOrders = true := by kernel_rfl
  have hB : ((m : Int) - (a : Int) == 1) = true := by simp; omega
  have H1 := asd h1
  have ham : a < m := by omega
  clear h1
  go_enter Try.func62, Try.ntmps62
  go_wp2
  go_loopg [10, 11] (b - m) (fun gg vi vj wr => ∃ (i j : Nat) (L' : List Int), m ≤ i ∧ i ≤ j ∧ j ≤ b ∧ j - i ≤ gg ∧ vi = .int .i64 i ∧ vj = .int .i64 j ∧ Aside (SW w wr rb cap L0 L'))
  case atStart => exact ⟨m, b, L, Nat.le_refl _, by omega, Nat.le_refl _, by omega, rfl, rfl, S0⟩
  case round =>
    clear S0
    obtain ⟨i, j, L', hi, hij, hj, hgg, rfl, rfl, S1⟩ := hrel
    by_cases hlt : i < j
    · have hltz : (i : Int) < (j : Int) := by omega
      obtain ⟨h, hh⟩ : ∃ h, h = (i + j) / 2 := ⟨_, rfl⟩
      have eh : ((i : Int) + (j : Int)) / 2 = (h : Int) := by omega
      have hh1 : i ≤ h := by omega
      have hh2 : h < j := by omega
      clear hh
      have hp1 : h < L0.length := by rw [← HN.out]; omega
      have hq1 : a < L0.length := by rw [← HN.out]; omega
      obtain ⟨x, hx, cx⟩ := S1.out.cell hp1
      obtain ⟨y, hy, cy⟩ := S1.out.cell hq1
      have okx := S1.out.ok HK.out hx
      have oky := S1.out.ok HK.out hy
      have pp0 : (0 : Int) ≤ (h : Int) := by omega
      have pp1 : (h : Int) < (n : Int) := by omega
      have qq0 : (0 : Int) ≤ (a : Int) := by omega
      have qq1 : (a : Int) < (n : Int) := by omega
      clear hx hy hp1 hq1
      go_wp2_with fail
      go_region_held3 (fun w' => Garb wr w' ∧ w'.cell? ⟨rb, h, none⟩ = some (.int .i64 x) ∧ w'.cell? ⟨rb, a, none⟩ = some (.int .i64 y))
        (((try go_split_ands); (try dsimp only); repeat' apply And.intro) <;> first | assumption | (exact drG _) | (exact Go.RX.Garb.trans ‹Garb wr _› (drG _)) | (exact Go.RX.Garb.trans ‹_› gg) | (exact keep1 gg ‹_›) | go_keep)
        ((go_at_fn g; refine (HC.out _ (but_garb S1.out.but (by first | assumption | (go_split_ands; assumption)) S1.out.lt) x y okx oky).mono ?_; rintro e w2 ⟨c, rfl, gg⟩))
      have S2 := asd (S1.out.garb ((drG wr).trans gg))
      clear cx cy okx oky gg
      clear S1
      rcases bool2 (decide (c < 0)) with hc | hc
      · have hcz : c < 0 := by simpa using hc
        have hcn : ¬ 0 ≤ c := by omega
        have hcd : (!decide (c < 0)) = false := by rw [hc]; rfl
        go_wp2
        go_roundg (j - (h + 1))
        case measure => omega
        case rel => exact ⟨h + 1, j, L', by omega, by omega, by omega, Nat.le_refl _, by first | rfl | go_num | (congr 1; omega), rfl, S2⟩
      · have hcz : ¬ c < 0 := by simpa using hc
        have hcn : 0 ≤ c := by omega
        have hcd : (!decide (c < 0)) = true := by rw [hc]; rfl
        go_wp2
        go_roundg (h - i)
        case measure => omega
        case rel => exact ⟨i, h, L', by omega, by omega, by omega, Nat.le_refl _, rfl, by first | rfl | go_num | (congr 1; omega), S2⟩
    · have hltz : ¬ (i : Int) < (j : Int) := by omega
      obtain ⟨i1, hi1⟩ : ∃ q, q + 1 = i := ⟨i - 1, by omega⟩
      have ei1 : (i : Int) - 1 = (i1 : Int) := by omega
      have hi1a : a ≤ i1 := by omega
      have hi1b : i1 < b := by omega
      clear hi1
      go_wp2
      go_loopg [13] (i1 - a) (fun gg vk wr2 => ∃ (k : Nat) (L2 : List Int), a ≤ k ∧ k ≤ i1 ∧ i1 - k ≤ gg ∧ vk = .int .i64 k ∧ Aside (SW w wr2 rb cap L0 L2))
      case atStart => exact ⟨a, L', Nat.le_refl _, by omega, by omega, rfl, S1⟩
      case round =>
        clear S1
        obtain ⟨k, L2, hk1, hk2, hgg2, rfl, S4⟩ := hrel
        by_cases hlk : k < i1
        · have hlkz : (k : Int) < (i1 : Int) := by omega
          obtain ⟨iN, hiN⟩ : ∃ q, q = k := ⟨_, rfl⟩
          obtain ⟨jN, hjN⟩ : ∃ q, q = k + 1 := ⟨_, rfl⟩
          have hi1 : iN < L0.length := by rw [← HN.out]; omega
          have hj1 : jN < L0.length := by rw [← HN.out]; omega
          obtain ⟨x, hx, cx⟩ := S4.out.cell hi1
          obtain ⟨y, hy, cy⟩ := S4.out.cell hj1
          have fx := S4.out.frozen iN
          have fy := S4.out.frozen jN
          obtain ⟨u, cu⟩ := S4.out.cell2 hi1 hj1 (.int .i64 y)
          have S3 := asd ((S4.out.swap hi1 hj1 hx hy).drew)
          have ea : ((k : Int)).toNat = iN := by omega
          have pa : (0 : Int) ≤ (k : Int) := by omega
          have ba : (k : Int) < (n : Int) := by omega
          have ra : IntKind.i64.wrap ((k : Int)) = (k : Int) := by rw [IntKind.wrap_i64]; omega
          have ec : ((k : Int) + 1).toNat = jN := by omega
          have pc : (0 : Int) ≤ (k : Int) + 1 := by omega
          have bc : (k : Int) + 1 < (n : Int) := by omega
          have rc : IntKind.i64.wrap ((k : Int) + 1) = (k : Int) + 1 := by rw [IntKind.wrap_i64]; omega
          clear S4 hx hy hi1 hj1 hiN hjN
          go_wp2_with fail
          go_big_region_o
          generalize ((wr.setCell ⟨rb, iN, none⟩ (.int .i64 y)).setCell ⟨rb, jN, none⟩ (.int .i64 x)).drew = w3 at S3 ⊢
          clear cx cy fx fy cu ea ec
          go_wp2
          go_roundg (i1 - (k + 1))
          case measure => omega
          case rel => exact ⟨k + 1, _, by omega, by omega, Nat.le_refl _, by go_num, S3⟩
        · have hlkz : ¬ (k : Int) < (i1 : Int) := by omega
          have hq := hend.out _ _ S4.out
          go_wp2
          first | exact hq | (go_end0; exact hq) | (go_ret; exact hq)
set_option maxHeartbeats 8000000 in
set_option maxRecDepth 1000000 in
theorem sym_two {w W : World} {rb cap n a m b g : Nat} {cb : Array Value} {L0 L : List Int} {ok : Int → Prop} (eg : ∀ args w, (callFunc g args).run Try.prog w = .ok (.enter g args) w) (hC : CmpB g cb w rb ok) (hK : ∀ x ∈ L0, ok x)
    (S : SW w W rb cap L0 L) (hn : n = L0.length) (hsz : n < 4611686018427387904) (h1 : b = m + 1) (ham : a + 1 < m) (hbn : b ≤ n) :
    Calls Try.prog 62 #[.slice (some ⟨rb, 0, none⟩) n cap, .int .i64 a, .int .i64 m, .int .i64 b, .func (.func g) #[] cb] W (SPost w rb cap L0) := by
  generalize hQ : SPost w rb cap L0 = Q0
  have hend : Aside (∀ W' L', SW w W' rb cap L0 L' → Q0 (.returned (.tuple #[])) W') := fun W' L' h => by subst hQ; exact ⟨rfl, L', h⟩
  have HN : Aside (n = L0.length) := hn
  have HC := asd hC
  have HK := asd hK
  have S0 := asd S
  clear hQ hn S hC hK
  have mixed : Try.prog.follows .mixedOrders = true := by kernel_rfl
  have hB : ((m : Int) - (a : Int) == 1) = false := by simp; omega
  have hB2 : ((b : Int) - (m : Int) == 1) = true := by simp; omega
  have H1 := asd h1
  have hmb : m < b := by omega
  clear h1
  go_enter Try.func62, Try.ntmps62
  go_wp2
  go_loopg [14, 15] (m - a) (fun gg vi vj wr => ∃ (i j : Nat) (L' : List Int), a ≤ i ∧ i ≤ j ∧ j ≤ m ∧ j - i ≤ gg ∧ vi = .int .i64 i ∧ vj = .int .i64 j ∧ Aside (SW w wr rb cap L0 L'))
  case atStart => exact ⟨a, m, L, Nat.le_refl _, by omega, Nat.le_refl _, by omega, rfl, rfl, S0⟩
  case round =>
    clear S0
    obtain ⟨i, j, L', hi, hij, hj, hgg, rfl, rfl, S1⟩ := hrel
    by_cases hlt : i < j
    · have hltz : (i : Int) < (j : Int) := by omega
      obtain ⟨h, hh⟩ : ∃ h, h = (i + j) / 2 := ⟨_, rfl⟩
      have eh : ((i : Int) + (j : Int)) / 2 = (h : Int) := by omega
      have hh1 : i ≤ h := by omega
      have hh2 : h < j := by omega
      clear hh
      have hp1 : m < L0.length := by rw [← HN.out]; omega
      have hq1 : h < L0.length := by rw [← HN.out]; omega
      obtain ⟨x, hx, cx⟩ := S1.out.cell hp1
      obtain ⟨y, hy, cy⟩ := S1.out.cell hq1
      have okx := S1.out.ok HK.out hx
      have oky := S1.out.ok HK.out hy
      have pp0 : (0 : Int) ≤ (m : Int) := by omega
      have pp1 : (m : Int) < (n : Int) := by omega
      have qq0 : (0 : Int) ≤ (h : Int) := by omega
      have qq1 : (h : Int) < (n : Int) := by omega
      clear hx hy hp1 hq1
      go_wp2_with fail
      go_region_held3 (fun w' => Garb wr w' ∧ w'.cell? ⟨rb, m, none⟩ = some (.int .i64 x) ∧ w'.cell? ⟨rb, h, none⟩ = some (.int .i64 y))
        (((try go_split_ands); (try dsimp only); repeat' apply And.intro) <;> first | assumption | (exact drG _) | (exact Go.RX.Garb.trans ‹Garb wr _› (drG _)) | (exact Go.RX.Garb.trans ‹_› gg) | (exact keep1 gg ‹_›) | go_keep)
        ((go_at_fn g; refine (HC.out _ (but_garb S1.out.but (by first | assumption | (go_split_ands; assumption)) S1.out.lt) x y okx oky).mono ?_; rintro e w2 ⟨c, rfl, gg⟩))
      have S2 := asd (S1.out.garb ((drG wr).trans gg))
      clear cx cy okx oky gg
      clear S1
      go_wp2
      · go_roundg (j - (h + 1))
        case measure => omega
        case rel => exact ⟨h + 1, j, L', by omega, by omega, by omega, Nat.le_refl _, by first | rfl | go_num | (congr 1; omega), rfl, S2⟩
      · go_roundg (h - i)
        case measure => omega
        case rel => exact ⟨i, h, L', by omega, by omega, by omega, Nat.le_refl _, rfl, by first | rfl | go_num | (congr 1; omega), S2⟩
    · have hltz : ¬ (i : Int) < (j : Int) := by omega
      go_wp2
      go_loopg [17] (m - i) (fun gg vk wr2 => ∃ (k : Nat) (L2 : List Int), i ≤ k ∧ k ≤ m ∧ k - i ≤ gg ∧ vk = .int .i64 k ∧ Aside (SW w wr2 rb cap L0 L2))
      case atStart => exact ⟨m, L', by omega, by omega, by omega, rfl, S1⟩
      case round =>
        clear S1
        obtain ⟨k, L2, hk1, hk2, hgg2, rfl, S4⟩ := hrel
        by_cases hlk : i < k
        · obtain ⟨kp, hkp⟩ : ∃ q, q + 1 = k := ⟨k - 1, by omega⟩
          have zkp : (k : Int) = (kp : Int) + 1 := by omega
          have hlkz : (i : Int) < (kp : Int) + 1 := by omega
          obtain ⟨iN, hiN⟩ : ∃ q, q = k := ⟨_, rfl⟩
          obtain ⟨jN, hjN⟩ : ∃ q, q = kp := ⟨_, rfl⟩
          have hi1 : iN < L0.length := by rw [← HN.out]; omega
          have hj1 : jN < L0.length := by rw [← HN.out]; omega
          obtain ⟨x, hx, cx⟩ := S4.out.cell hi1
          obtain ⟨y, hy, cy⟩ := S4.out.cell hj1
          have fx := S4.out.frozen iN
          have fy := S4.out.frozen jN
          obtain ⟨u, cu⟩ := S4.out.cell2 hi1 hj1 (.int .i64 y)
          have S3 := asd ((S4.out.swap hi1 hj1 hx hy).drew)
          have ea : ((kp : Int) + 1).toNat = iN := by omega
          have pa : (0 : Int) ≤ (kp : Int) + 1 := by omega
          have ba : (kp : Int) + 1 < (n : Int) := by omega
          have ra : IntKind.i64.wrap ((kp : Int) + 1) = (kp : Int) + 1 := by rw [IntKind.wrap_i64]; omega
          have ec : ((kp : Int)).toNat = jN := by omega
          have pc : (0 : Int) ≤ (kp : Int) := by omega
          have bc : (kp : Int) < (n : Int) := by omega
          have rc : IntKind.i64.wrap ((kp : Int)) = (kp : Int) := by rw [IntKind.wrap_i64]; omega
          clear S4 hx hy hi1 hj1 hiN hjN
          go_wp2_with fail
          go_big_region_o
          generalize ((wr.setCell ⟨rb, iN, none⟩ (.int .i64 y)).setCell ⟨rb, jN, none⟩ (.int .i64 x)).drew = w3 at S3 ⊢
          clear cx cy fx fy cu ea ec
          go_wp2
          go_roundg (kp - i)
          case measure => omega
          case rel => exact ⟨kp, _, by omega, by omega, Nat.le_refl _, by first | rfl | go_num | (congr 1; omega), S3⟩
        · have hlkz : ¬ (i : Int) < (k : Int) := by omega
          have hq := hend.out _ _ S4.out
          go_wp2
          first | exact hq | (go_end0; exact hq) | (go_ret; exact hq)
end Go.Proofs.Ytoheklommpochaa.ls
