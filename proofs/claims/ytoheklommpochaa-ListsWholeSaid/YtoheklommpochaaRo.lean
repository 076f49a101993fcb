/- The stable sort: rotate; insertion sort. -/
import Derived.Test.YtoheklommpochaaSw
namespace Go.Proofs.Ytoheklommpochaa.ls
open Go.RowKit Go.Lib Go.Proofs.Ytoheklommpochaa Go.Proofs.Ytoheklommpochaa.pi
open Go.RX (Garb)
set_option linter.unusedVariables false
set_option linter.unusedSimpArgs false
attribute [local go_sem ↓] Go.wp_at_zero Go.wp_at_succ
set_option maxHeartbeats 4000000 in
set_option maxRecDepth 1000000 in
theorem rotate_ok {w W : World} {rb cap n a m b : Nat} {L0 L : List Int} {fv : Value} (S : SW w W rb cap L0 L) (hn : n = L0.length) (hsz : n < 4611686018427387904) (ha : a < m) (hb : m < b) (hbn : b ≤ n) :
    Calls Try.prog 63 #[.slice (some ⟨rb, 0, none⟩) n cap, .int .i64 a, .int .i64 m, .int .i64 b, fv] W (SPost w rb cap L0) := by
  generalize hQ : SPost w rb cap L0 = Q0
  have hend : Aside (∀ W' L', SW w W' rb cap L0 L' → Q0 (.returned (.tuple #[])) W') := fun W' L' h => by subst hQ; exact ⟨rfl, L', h⟩
  have HN : Aside (n = L0.length) := hn
  have S0 : Aside (SW w W rb cap L0 L) := S
  clear hQ hn S
  obtain ⟨i0, hi0⟩ : ∃ i, i = m - a := ⟨_, rfl⟩
  obtain ⟨j0, hj0⟩ : ∃ j, j = b - m := ⟨_, rfl⟩
  have ei : (m : Int) - (a : Int) = (i0 : Int) := by omega
  have ej : (b : Int) - (m : Int) = (j0 : Int) := by omega
  go_enter Try.func63, Try.ntmps63
  go_wp2
  go_loopg [10, 11] (i0 + j0) (fun gg vi vj wr => ∃ (i j : Nat) (L' : List Int), 0 < i ∧ 0 < j ∧ i ≤ m ∧ m + j ≤ n ∧ i + j ≤ gg ∧ vi = .int .i64 i ∧ vj = .int .i64 j ∧ Aside (SW w wr rb cap L0 L'))
  case atStart => exact ⟨i0, j0, L, by omega, by omega, by omega, by omega, by omega, by first | rfl | (congr 1; omega), by first | rfl | (congr 1; omega), S0⟩
  case round =>
    obtain ⟨i, j, L', hi, hj, him, hjn, hgg, rfl, rfl, S1⟩ := hrel
    clear S0 ei ej hi0 hj0
    obtain ⟨p, hp⟩ : ∃ p, p + i = m := ⟨m - i, by omega⟩
    have ep : (m : Int) - (i : Int) = (p : Int) := by omega
    by_cases hne : i = j
    · subst hne
      have hB : ((i : Int) != (i : Int)) = false := by simp
      go_wp2_with (go_at_call 64; refine (swapRange_ok (a := p) (b := m) (k := i) S1.out HN.out hsz (by omega) (by omega)).mono ?_; rintro e w2 ⟨rfl, L2, S2⟩)
      have hq := hend.out _ _ S2
      first | exact hq | (go_end0; exact hq) | (go_ret; exact hq)
    · have hB : ((i : Int) != (j : Int)) = true := by simp [bne]; omega
      by_cases hgt : j < i
      · have hgtz : (j : Int) < (i : Int) := by omega
        obtain ⟨i', hi'⟩ : ∃ q, q + j = i := ⟨i - j, by omega⟩
        have ei' : (i : Int) - (j : Int) = (i' : Int) := by omega
        go_wp2_with (go_at_call 64; refine (swapRange_ok (a := p) (b := m) (k := j) S1.out HN.out hsz (by omega) (by omega)).mono ?_; rintro e w2 ⟨rfl, L2, S2⟩; have S3 := asd S2; clear S2)
        go_roundg (i' + j)
        case measure => omega
        case rel => exact ⟨i', j, L2, by omega, by omega, by omega, by omega, by omega, rfl, rfl, S3⟩
      · have hgtz : ¬ (j : Int) < (i : Int) := by omega
        obtain ⟨j', hj'⟩ : ∃ q, q + i = j := ⟨j - i, by omega⟩
        have ej' : (j : Int) - (i : Int) = (j' : Int) := by omega
        obtain ⟨q2, hq2⟩ : ∃ q, q + i = m + j := ⟨m + j - i, by omega⟩
        have eq2 : (m : Int) + (j : Int) - (i : Int) = (q2 : Int) := by omega
        go_wp2_with (go_at_call 64; refine (swapRange_ok (a := p) (b := q2) (k := i) S1.out HN.out hsz (by omega) (by omega)).mono ?_; rintro e w2 ⟨rfl, L2, S2⟩; have S3 := asd S2; clear S2)
        go_roundg (i + j')
        case measure => omega
        case rel => exact ⟨i, j', L2, by omega, by omega, by omega, by omega, by omega, rfl, rfl, S3⟩
/-- A comparison: it gives some number, and leaves all that was there. -/
def CmpB (g : Nat) (cb : Array Value) (w : World) (rb : Nat) (ok : Int → Prop) : Prop :=
  ∀ W, But w W rb → ∀ x y, ok x → ok y → Calls Try.prog g (#[.int .i64 x, .int .i64 y] ++ cb) W fun e W' => ∃ c : Int, e = .returned (.int .i64 c) ∧ Garb W W'
theorem drG (w : World) : Garb w w.drew := Garb.drew w _
theorem SW.at_ {w W : World} {rb cap : Nat} {L0 L : List Int} (h : SW w W rb cap L0 L) {i : Nat} (hi : i < L0.length) {x : Int} (hx : L[i]? = some x) : W.cell? ⟨rb, i, none⟩ = some (.int .i64 x) := by
  obtain ⟨x', hx', c⟩ := h.cell hi
  rw [hx] at hx'
  injection hx' with hx'
  rw [hx']; exact c
theorem SW.ok {w W : World} {rb cap : Nat} {L0 L : List Int} {ok : Int → Prop} (h : SW w W rb cap L0 L) (hk : ∀ x ∈ L0, ok x) {i : Nat} {x : Int} (hx : L[i]? = some x) : ok x := hk x (h.perm.mem_iff.1 (List.mem_of_getElem? hx))
set_option maxHeartbeats 8000000 in
set_option maxRecDepth 1000000 in
theorem insertion_ok {w W : World} {rb cap n a b g : Nat} {cb : Array Value} {L0 L : List Int} {ok : Int → Prop} (eg : ∀ args w, (callFunc g args).run Try.prog w = .ok (.enter g args) w) (hC : CmpB g cb w rb ok) (hK : ∀ x ∈ L0, ok x)
    (S : SW w W rb cap L0 L) (hn : n = L0.length) (hsz : n < 4611686018427387904) (hab : a ≤ b) (hbn : b ≤ n) :
    Calls Try.prog 61 #[.slice (some ⟨rb, 0, none⟩) n cap, .int .i64 a, .int .i64 b, .func (.func g) #[] cb] W (SPost w rb cap L0) := by
  generalize hQ : SPost w rb cap L0 = Q0
  have hend : Aside (∀ W' L', SW w W' rb cap L0 L' → Q0 (.returned (.tuple #[])) W') := fun W' L' h => by subst hQ; exact ⟨rfl, L', h⟩
  have HN : Aside (n = L0.length) := hn
  have HC := asd hC
  have HK := asd hK
  have S0 := asd S
  clear hQ hn S hC hK
  have mixed : Try.prog.follows .mixedOrders = true := by kernel_rfl
  go_enter Try.func61, Try.ntmps61
  go_wp2
  go_loopg [8] (b - a) (fun g1 vi wr => ∃ (i : Nat) (L1 : List Int), vi = .int .i64 i ∧ a < i ∧ i ≤ b + 1 ∧ b + 1 - i ≤ g1 + 1 ∧ Aside (SW w wr rb cap L0 L1))
  case atStart => exact ⟨a + 1, L, by go_num, by omega, by omega, by omega, S0⟩
  case round =>
    clear S0
    obtain ⟨i, L1, rfl, hai, hib, hg1, S1⟩ := hrel
    by_cases hlt : i < b
    · have hltz : (i : Int) < (b : Int) := by omega
      go_wp2
      go_loopg [9] i (fun g2 vj wr2 => ∃ (j : Nat) (L2 : List Int), vj = .int .i64 j ∧ a ≤ j ∧ j ≤ i ∧ j ≤ g2 ∧ Aside (SW w wr2 rb cap L0 L2))
      case atStart => exact ⟨i, L1, rfl, by omega, Nat.le_refl _, Nat.le_refl _, S1⟩
      case round =>
        clear S1
        obtain ⟨j, L2, rfl, haj, hji, hg2, SJ⟩ := hrel
        by_cases hja : a < j
        · obtain ⟨jp, hjp⟩ : ∃ q, q + 1 = j := ⟨j - 1, by omega⟩
          have zjp : (j : Int) = (jp : Int) + 1 := by omega
          have hjad : decide ((a : Int) < (jp : Int) + 1) = true := decide_eq_true (by omega)
          have hjaz' : (a : Int) < (jp : Int) + 1 := by omega
          obtain ⟨iN, hiN⟩ : ∃ q, q = j := ⟨_, rfl⟩
          obtain ⟨jN, hjN⟩ : ∃ q, q = jp := ⟨_, rfl⟩
          have ea : ((jp : Int) + 1).toNat = iN := by omega
          have pa : (0 : Int) ≤ (jp : Int) + 1 := by omega
          have ba : (jp : Int) + 1 < (n : Int) := by omega
          have ra : IntKind.i64.wrap ((jp : Int) + 1) = (jp : Int) + 1 := by rw [IntKind.wrap_i64]; omega
          have ec : ((jp : Int)).toNat = jN := by omega
          have pc : (0 : Int) ≤ (jp : Int) := by omega
          have bc : (jp : Int) < (n : Int) := by omega
          have rc : IntKind.i64.wrap ((jp : Int)) = (jp : Int) := by rw [IntKind.wrap_i64]; omega
          have hi1 : iN < L0.length := by rw [← HN.out]; omega
          have hj1 : jN < L0.length := by rw [← HN.out]; omega
          obtain ⟨x, hx, cx⟩ := SJ.out.cell hi1
          obtain ⟨y, hy, cy⟩ := SJ.out.cell hj1
          have okx := SJ.out.ok HK.out hx
          have oky := SJ.out.ok HK.out hy
          have HX : Aside (L2[iN]? = some x ∧ L2[jN]? = some y ∧ iN < L0.length ∧ jN < L0.length) := ⟨hx, hy, hi1, hj1⟩
          clear hx hy hi1 hj1 hiN hjN
          go_wp2_with fail
          go_region_held3 (fun w' => Garb wr w' ∧ w'.cell? ⟨rb, iN, none⟩ = some (.int .i64 x) ∧ w'.cell? ⟨rb, jN, none⟩ = some (.int .i64 y))
            (((try go_split_ands); (try dsimp only); repeat' apply And.intro) <;> first | assumption | (exact drG _) | (exact Go.RX.Garb.trans ‹Garb wr _› (drG _)) | (exact Go.RX.Garb.trans ‹_› gg) | (exact keep1 gg ‹_›) | go_keep)
            ((go_at_fn g; refine (HC.out _ (but_garb SJ.out.but (by first | assumption | (go_split_ands; assumption)) SJ.out.lt) x y okx oky).mono ?_; rintro e w2 ⟨c, rfl, gg⟩))
          have S2 := asd (SJ.out.garb ((drG wr).trans gg))
          clear cx cy okx oky
          obtain ⟨hx, hy, hi1, hj1⟩ := HX.out
          rcases bool2 (decide (c < 0)) with hc | hc
          · have hcz : c < 0 := by simpa using hc
            have cx := S2.out.at_ hi1 hx
            have cy := S2.out.at_ hj1 hy
            have fx := S2.out.frozen iN
            have fy := S2.out.frozen jN
            obtain ⟨u, cu⟩ := S2.out.cell2 hi1 hj1 (.int .i64 y)
            have S3 := asd ((S2.out.swap hi1 hj1 hx hy).drew)
            clear S2 hx hy hi1 hj1 gg HX
            go_wp2_with fail
            go_big_region_o
            generalize ((w2.setCell ⟨rb, iN, none⟩ (.int .i64 y)).setCell ⟨rb, jN, none⟩ (.int .i64 x)).drew = w3 at S3 ⊢
            clear cx cy fx fy cu ea ec
            go_wp2
            go_roundg (j - 1)
            case measure => omega
            case rel => exact ⟨jp, _, by first | rfl | go_num | (congr 1; omega), by omega, by omega, by omega, S3⟩
          · have hcz : ¬ c < 0 := by simpa using hc
            clear hx hy hi1 hj1 gg HX ea ec
            go_wp2
            go_roundg (b - (i + 1))
            case measure => omega
            case rel => exact ⟨i + 1, L2, by go_num, by omega, by omega, by omega, S2⟩
        · have hjad : decide ((a : Int) < (j : Int)) = false := by simp; omega
          have hjaz : ¬ (a : Int) < (j : Int) := by omega
          go_wp2_with fail
          go_quiet (fail)
          have S2 := asd (SJ.out.garb (drewN_garb wr nq))
          generalize wr.drewN nq = w2 at S2 ⊢
          go_wp2
          go_roundg (b - (i + 1))
          case measure => omega
          case rel => exact ⟨i + 1, L2, by go_num, by omega, by omega, by omega, S2⟩
    · have hltz : ¬ (i : Int) < (b : Int) := by omega
      have hq := hend.out _ _ S1.out
      go_wp2
      first | exact hq | (go_end0; exact hq) | (go_ret; exact hq)
end Go.Proofs.Ytoheklommpochaa.ls
