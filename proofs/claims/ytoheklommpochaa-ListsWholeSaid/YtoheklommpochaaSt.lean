/- The stable sort gives a permutation: symMerge whole, stableCmpFunc, SortStableFunc. -/
import Derived.Test.YtoheklommpochaaSz
namespace Go.Proofs.Ytoheklommpochaa.ls
open Go.RowKit Go.Lib Go.Proofs.Ytoheklommpochaa Go.Proofs.Ytoheklommpochaa.pi
open Go.RX (Garb)
set_option linter.unusedVariables false
set_option linter.unusedSimpArgs false
attribute [local go_sem ↓] Go.wp_at_zero Go.wp_at_succ
theorem sym_ok {w : World} {rb cap n g : Nat} {cb : Array Value} {L0 : List Int} {ok : Int → Prop} (eg : ∀ args w, (callFunc g args).run Try.prog w = .ok (.enter g args) w) (hC : CmpB g cb w rb ok) (hK : ∀ x ∈ L0, ok x) (hn : n = L0.length) (hsz : n < 4611686018427387904) :
    ∀ (d a m b : Nat), b - a ≤ d → a < m → m < b → b ≤ n → ∀ W L, SW w W rb cap L0 L → Calls Try.prog 62 #[.slice (some ⟨rb, 0, none⟩) n cap, .int .i64 a, .int .i64 m, .int .i64 b, .func (.func g) #[] cb] W (SPost w rb cap L0)
  | 0, a, m, b, h, h1, h2, _, _, _, _ => by omega
  | d + 1, a, m, b, h, h1, h2, h3, W, L, S => by
    by_cases e1 : m = a + 1
    · exact sym_one eg hC hK S hn hsz e1 h2 h3
    · by_cases e2 : b = m + 1
      · exact sym_two eg hC hK S hn hsz e2 (by omega) h3
      · exact sym_gen eg hC hK S hn hsz (by omega) (by omega) h3 fun a' m' b' q1 q2 q3 q4 W L S => sym_ok eg hC hK hn hsz d a' m' b' (by omega) q2 q3 q4 W L S
set_option maxHeartbeats 8000000 in
set_option maxRecDepth 1000000 in
theorem stable_ok {w W : World} {rb cap n g : Nat} {cb : Array Value} {L0 L : List Int} {ok : Int → Prop} (eg : ∀ args w, (callFunc g args).run Try.prog w = .ok (.enter g args) w) (hC : CmpB g cb w rb ok) (hK : ∀ x ∈ L0, ok x)
    (S : SW w W rb cap L0 L) (hn : n = L0.length) (hsz : n < 1152921504606846976) :
    Calls Try.prog 59 #[.slice (some ⟨rb, 0, none⟩) n cap, .int .i64 n, .func (.func g) #[] cb] W (SPost w rb cap L0) := by
  generalize hQ : SPost w rb cap L0 = Q0
  have hend : Aside (∀ W' L', SW w W' rb cap L0 L' → Q0 (.returned (.tuple #[])) W') := fun W' L' h => by subst hQ; exact ⟨rfl, L', h⟩
  have CI : Aside (∀ a b W L, a ≤ b → b ≤ n → SW w W rb cap L0 L → Calls Try.prog 61 #[.slice (some ⟨rb, 0, none⟩) n cap, .int .i64 (a : Nat), .int .i64 (b : Nat), .func (.func g) #[] cb] W (fun e w' => e = .returned (.tuple #[]) ∧ ∃ L, SW w w' rb cap L0 L)) := fun a b W L h1 h2 S => insertion_ok eg hC hK S hn (by omega) h1 h2
  have CS : Aside (∀ a m b W L, a < m → m < b → b ≤ n → SW w W rb cap L0 L → Calls Try.prog 62 #[.slice (some ⟨rb, 0, none⟩) n cap, .int .i64 (a : Nat), .int .i64 (m : Nat), .int .i64 (b : Nat), .func (.func g) #[] cb] W (fun e w' => e = .returned (.tuple #[]) ∧ ∃ L, SW w w' rb cap L0 L)) := fun a m b W L h1 h2 h3 S => sym_ok eg hC hK hn (by omega) (b - a) a m b (Nat.le_refl _) h1 h2 h3 W L S
  have S0 := asd S
  clear hQ hn S hC hK
  go_enter Try.func59, Try.ntmps59
  go_wp2
  go_loopg [7, 8] n (fun gg va vb wr => ∃ (a b : Nat) (L' : List Int), a ≤ n ∧ b = a + 20 ∧ n - a ≤ gg ∧ va = .int .i64 a ∧ vb = .int .i64 b ∧ Aside (SW w wr rb cap L0 L'))
  case atStart => exact ⟨0, 20, L, Nat.zero_le _, rfl, by omega, rfl, rfl, S0⟩
  case round =>
    clear S0
    obtain ⟨a, b, L1, ha, hb0, hgg, rfl, rfl, S1⟩ := hrel
    by_cases hlt : b ≤ n
    · have hltz : (b : Int) ≤ (n : Int) := by omega
      obtain ⟨b', hb⟩ : ∃ q, q = b + 20 := ⟨_, rfl⟩
      have eb : (b : Int) + 20 = (b' : Int) := by omega
      have hab : a ≤ b := by omega
      have HB : Aside (b = a + 20 ∧ b' = b + 20) := ⟨hb0, hb⟩
      clear hb0 hb
      go_wp2_with (go_at_call 61; refine (CI.out a b _ _ hab hlt S1.out).mono ?_; rintro e w2 ⟨rfl, L2, S2⟩; have SS := asd S2; clear S2)
      obtain ⟨k1, k2⟩ := HB.out
      go_roundg (n - b)
      case measure => omega
      case rel => exact ⟨b, b', L2, hlt, k2, Nat.le_refl _, by first | rfl | (congr 1; omega), by first | rfl | (congr 1; omega), SS⟩
    · have hltz : ¬ (b : Int) ≤ (n : Int) := by omega
      clear hb0
      go_wp2_with (go_at_call 61; refine (CI.out a n _ _ ha (Nat.le_refl _) S1.out).mono ?_; rintro e w2 ⟨rfl, L2, S2⟩; have SS := asd S2; clear S2)
      go_loopg [6] n (fun gg vs wr => ∃ (bs : Nat) (L' : List Int), 0 < bs ∧ n - bs ≤ gg ∧ vs = .int .i64 bs ∧ Aside (SW w wr rb cap L0 L'))
      case atStart => exact ⟨20, L2, by omega, by omega, rfl, SS⟩
      case round =>
        clear SS S1
        obtain ⟨bs, L3, hbs, hgg3, rfl, S3⟩ := hrel
        by_cases hl2 : bs < n
        · have hl2z : (bs : Int) < (n : Int) := by omega
          obtain ⟨tb, htb⟩ : ∃ q, q = 2 * bs := ⟨_, rfl⟩
          have etb : (2 : Int) * (bs : Int) = (tb : Int) := by omega
          have etb2 : (bs : Int) * 2 = (tb : Int) := by omega
          have HT := asd htb
          have htb0 : 0 < tb := by omega
          have htb1 : bs < tb := by omega
          clear htb
          go_wp2
          go_loopg [7, 8] n (fun gg va vb wr2 => ∃ (a2 b2 : Nat) (L' : List Int), a2 ≤ n ∧ b2 = a2 + tb ∧ n - a2 ≤ gg ∧ va = .int .i64 a2 ∧ vb = .int .i64 b2 ∧ Aside (SW w wr2 rb cap L0 L'))
          case atStart => exact ⟨0, tb, L3, Nat.zero_le _, by omega, by omega, rfl, rfl, S3⟩
          case round =>
            clear S3
            obtain ⟨a2, b2, L4, ha2, hb2, hgg4, rfl, rfl, S4⟩ := hrel
            obtain ⟨m2, hm2⟩ : ∃ q, q = a2 + bs := ⟨_, rfl⟩
            have em2 : (a2 : Int) + (bs : Int) = (m2 : Int) := by omega
            have hm2a : a2 < m2 := by omega
            have hm2b : m2 < b2 := by omega
            have htb := HT.out
            by_cases hl3 : b2 ≤ n
            · have hl3z : (b2 : Int) ≤ (n : Int) := by omega
              obtain ⟨b3, hb3⟩ : ∃ q, q = b2 + tb := ⟨_, rfl⟩
              have eb3 : (b2 : Int) + (tb : Int) = (b3 : Int) := by omega
              have HH : Aside (b2 = a2 + tb ∧ m2 = a2 + bs ∧ tb = 2 * bs ∧ b3 = b2 + tb) := ⟨hb2, hm2, htb, hb3⟩
              clear hb2 hm2 hb3 htb
              go_wp2_with (go_at_call 62; refine (CS.out a2 m2 b2 _ _ hm2a hm2b hl3 S4.out).mono ?_; rintro e w5 ⟨rfl, L5, S5⟩; have SS := asd S5; clear S5)
              obtain ⟨k1, k2, k3, k4⟩ := HH.out
              go_roundg (n - b2)
              case measure => omega
              case rel => exact ⟨b2, b3, L5, by omega, by omega, Nat.le_refl _, by first | rfl | (congr 1; omega), by first | rfl | (congr 1; omega), SS⟩
            · have hl3z : ¬ (b2 : Int) ≤ (n : Int) := by omega
              have HH : Aside (b2 = a2 + tb ∧ m2 = a2 + bs ∧ tb = 2 * bs) := ⟨hb2, hm2, htb⟩
              clear hb2 hm2 htb
              by_cases hmn : m2 < n
              · have hmnz : (m2 : Int) < (n : Int) := by omega
                go_wp2_with (go_at_call 62; refine (CS.out a2 m2 n _ _ hm2a hmn (Nat.le_refl _) S4.out).mono ?_; rintro e w5 ⟨rfl, L5, S5⟩; have SS := asd S5; clear S5)
                obtain ⟨k1, k2, k3⟩ := HH.out
                go_roundg (n - tb)
                case measure => omega
                case rel => exact ⟨tb, L5, by omega, Nat.le_refl _, by first | rfl | (congr 1; omega), SS⟩
              · have hmnz : ¬ (m2 : Int) < (n : Int) := by omega
                go_wp2
                obtain ⟨k1, k2, k3⟩ := HH.out
                go_roundg (n - tb)
                case measure => omega
                case rel => exact ⟨tb, L4, by omega, Nat.le_refl _, by first | rfl | (congr 1; omega), S4⟩
        · have hl2z : ¬ (bs : Int) < (n : Int) := by omega
          have hq := hend.out _ _ S3.out
          go_wp2
          first | exact hq | (go_end0; exact hq) | (go_ret; exact hq)
set_option maxHeartbeats 2000000 in
/-- slices.SortStableFunc of a list of one's own. -/
theorem sortStable_ok {w : World} {rb cap n g : Nat} {cb : Array Value} {L0 : List Int} {ok : Int → Prop} (eg : ∀ args w, (callFunc g args).run Try.prog w = .ok (.enter g args) w) (hC : CmpB g cb w rb ok) (hK : ∀ x ∈ L0, ok x)
    (ho : OwnI w rb cap L0) (hn : n = L0.length) (hsz : n < 1152921504606846976) :
    Calls Try.prog 53 #[.slice (some ⟨rb, 0, none⟩) n cap, .func (.func g) #[] cb] w (fun e w' => e = .returned (.tuple #[]) ∧ ∃ L, SW w w' rb cap L0 L) := by
  have hc := stable_ok (W := w) eg hC hK ⟨But.refl w rb, ho, List.Perm.refl _, ho.lt⟩ hn hsz
  generalize hQ : (fun (e : Ending) (w' : World) => e = .returned (.tuple #[]) ∧ ∃ L, SW w w' rb cap L0 L) = Q0
  have hend : Aside (∀ W' L', SW w W' rb cap L0 L' → Q0 (.returned (.tuple #[])) W') := fun W' L' h => by subst hQ; exact ⟨rfl, L', h⟩
  clear hQ hC hK ho hn
  go_enter Try.func53, Try.ntmps53
  go_wp2_with (go_at_call 59; refine hc.mono ?_; rintro e w2 ⟨rfl, L2, S2⟩)
  have hq := hend.out _ _ S2
  first | exact hq | (go_end0; exact hq) | (go_ret; exact hq)
/-- .. of none. -/
theorem insertion_none (v fv : Value) (W : World) : Calls Try.prog 61 #[v, .int .i64 0, .int .i64 0, fv] W fun e w' => e = .returned (.tuple #[]) ∧ w' = W := by
  generalize hQ : (fun (e : Ending) (w' : World) => e = .returned (.tuple #[]) ∧ w' = W) = Q0
  have hend : Q0 (.returned (.tuple #[])) W := by subst hQ; exact ⟨rfl, rfl⟩
  clear hQ
  go_enter Try.func61, Try.ntmps61
  go_wp2
  go_loopw [8] (fun i wr => i = .int .i64 1 ∧ Q0 (.returned (.tuple #[])) wr) (fun i _ => 0)
  case atStart => exact ⟨rfl, hend⟩
  case round =>
    obtain ⟨rfl, hend⟩ := hrel
    go_wp2
    first | exact hend | (go_end0; exact hend)
theorem stable_none (v fv : Value) (W : World) : Calls Try.prog 59 #[v, .int .i64 0, fv] W fun e w' => e = .returned (.tuple #[]) ∧ w' = W := by
  generalize hQ : (fun (e : Ending) (w' : World) => e = .returned (.tuple #[]) ∧ w' = W) = Q0
  have hend : Q0 (.returned (.tuple #[])) W := by subst hQ; exact ⟨rfl, rfl⟩
  clear hQ
  go_enter Try.func59, Try.ntmps59
  go_wp2
  go_loopw [7, 8] (fun a b wr => a = .int .i64 0 ∧ b = .int .i64 20 ∧ Q0 (.returned (.tuple #[])) wr) (fun _ i _ => 0)
  case atStart => exact ⟨rfl, rfl, hend⟩
  case round =>
    clear hend
    obtain ⟨rfl, rfl, hend⟩ := hrel
    go_wp2_with (go_at_call 61; refine (insertion_none _ _ _).mono ?_; rintro e w' ⟨rfl, h'⟩; have h'' := h'.symm; clear h'; subst h'')
    go_loopw [6] (fun a wr2 => a = .int .i64 20 ∧ Q0 (.returned (.tuple #[])) wr2) (fun i _ => 0)
    case atStart => exact ⟨rfl, hend⟩
    case round =>
      clear hend
      obtain ⟨rfl, hend⟩ := hrel
      go_wp2
      first | exact hend | (go_end0; exact hend)
theorem sortStable_none (A : Option Addr) (c : Nat) (fv : Value) (W : World) : Calls Try.prog 53 #[.slice A 0 c, fv] W fun e w' => e = .returned (.tuple #[]) ∧ w' = W := by
  generalize hQ : (fun (e : Ending) (w' : World) => e = .returned (.tuple #[]) ∧ w' = W) = Q0
  have hend : Q0 (.returned (.tuple #[])) W := by subst hQ; exact ⟨rfl, rfl⟩
  clear hQ
  go_enter Try.func53, Try.ntmps53
  go_wp2_with (go_at_call 59; refine (stable_none _ _ _).mono ?_; rintro e w' ⟨rfl, rfl⟩)
  first | exact hend | (go_end0; exact hend)
end Go.Proofs.Ytoheklommpochaa.ls
