/- QuantNear: its numbers as numbers of their own. -/
import Derived.Test.YtcmkifhafcgjbaaRxAwake
import Derived.Test.YtcmkifhafcgjbaaRxL
namespace Go.Proofs.Ytcmkifhafcgjbaa.quantNear
open Go.RX Go.RowKit Go.Proofs.Ytcmkifhafcgjbaa
set_option linter.unusedVariables false
noncomputable def R0 : Rg := rg [0] [2] false false 0
noncomputable def R : Rg := ⟨fun n => ife (Nat.ble 16 n) (ife (Nat.beq (n % 16) 4) (-255, 255) (R0.v n)) (R0.v n), fun _ => (0, 0), false, false, 2040⟩
noncomputable def cxJ : Cx := cxT R (2 ^ 32 + 2 ^ 33) (2 ^ 6 + 2 ^ 30) 0 0 0
/-- A number as the law's loop tells it. -/
noncomputable def pk (i : Nat) (s : Int) : E := .t 1 (.ite (.t 1 (.lt0 (.t (-1) (.var 0) (.k (Int.ofNat i)))) (.k 0)) (.t s (.md (.t 1 (.var (argVar 0 i)) (.k 0)) 256) (.k 0)) (.k 0)) (.k 0)
noncomputable def T : List (E × E) := [(pk 0 1, .t 1 (.var 20) (.k 0)), (pk 1 1, .t 1 (.var 36) (.k 0)), (pk 2 1, .t 1 (.var 52) (.k 0)), (pk 3 1, .t 1 (.var 68) (.k 0)), (pk 4 1, .t 1 (.var 84) (.k 0)), (pk 5 1, .t 1 (.var 100) (.k 0)), (pk 6 1, .t 1 (.var 116) (.k 0)), (pk 7 1, .t 1 (.var 132) (.k 0)), (pk 8 1, .t 1 (.var 148) (.k 0)), (pk 9 1, .t 1 (.var 164) (.k 0)), (pk 10 1, .t 1 (.var 180) (.k 0)), (pk 11 1, .t 1 (.var 196) (.k 0)), (pk 12 1, .t 1 (.var 212) (.k 0)), (pk 13 1, .t 1 (.var 228) (.k 0)), (pk 14 1, .t 1 (.var 244) (.k 0)), (pk 15 1, .t 1 (.var 260) (.k 0))]
noncomputable def isTop (x : AV) : Bool := match x with | .top => true | _ => false
noncomputable def lp : Code → (β : Type) → Kx β → Nx β := lpR Try.prog R cxJ 25 (ntOf Try.prog 6) T (fun tm => isTop (tm.get 10))
theorem pk_e (V : Va) (i : Nat) (s : Int) : (pk i s).den V = 1 * (if (1 * (if -1 * V.v 0 + Int.ofNat i < 0 then (1 : Int) else 0) + 0) = 0 then 0 else s * (1 * V.v (argVar 0 i) + 0).tmod 256 + 0) + 0 := rfl
theorem pk_den {V V' : Va} {i : Nat} {s : Int} (h1 : V.v 0 = V'.v 0) (h2 : V.v (argVar 0 i) = V'.v (argVar 0 i)) : (pk i s).den V = (pk i s).den V' := by
  rw [pk_e, pk_e, h1, h2]
theorem pk_bd {V : Va} {i : Nat} : -255 ≤ (pk i 1).den V ∧ (pk i 1).den V ≤ 255 := by
  have h1 := Int.tmod_lt_of_pos (1 * V.v (argVar 0 i) + 0) (show (0 : Int) < 256 by decide)
  have h2 := Int.lt_tmod_of_pos (1 * V.v (argVar 0 i) + 0) (show (0 : Int) < 256 by decide)
  rw [pk_e]
  split <;> omega
theorem ent1 {V V0 : Va} {i n : Nat} (h : (pk i 1).den V = (pk i 1).den V0) (h' : V.v n = (pk i 1).den V0) : (pk i 1).den V = (E.t 1 (.var n) (.k 0)).den V := by
  rw [h, ← h']
  simp only [E.den]; omega
noncomputable def zs (V : Va) : List Int := [(pk 0 1).den V, (pk 1 1).den V, (pk 2 1).den V, (pk 3 1).den V, (pk 4 1).den V, (pk 5 1).den V, (pk 6 1).den V, (pk 7 1).den V, (pk 8 1).den V, (pk 9 1).den V, (pk 10 1).den V, (pk 11 1).den V, (pk 12 1).den V, (pk 13 1).den V, (pk 14 1).den V, (pk 15 1).den V]
theorem zs_bd {V : Va} : ∀ x ∈ zs V, (-255 : Int) ≤ x ∧ x ≤ 255 := by
  intro x hx
  simp only [zs, List.mem_cons, List.not_mem_nil, or_false] at hx
  rcases hx with rfl | rfl | rfl | rfl | rfl | rfl | rfl | rfl | rfl | rfl | rfl | rfl | rfl | rfl | rfl | rfl <;> exact pk_bd
section
variable {a0 : Option Addr} {z0 : List Int} {l : List Int}
noncomputable abbrev V0 (l : List Int) (a0 : Option Addr) (z0 : List Int) : Va := va l [⟨0, a0, z0⟩]
noncomputable abbrev V1 (l : List Int) (a0 : Option Addr) (z0 : List Int) : Va := va l [⟨0, a0, z0⟩, ⟨4, none, zs (V0 l a0 z0)⟩]
theorem z_other {m : Nat} (h4 : m ≠ 4) (s : List Int) : zOf [⟨0, a0, z0⟩, ⟨4, none, s⟩] m = zOf [⟨0, a0, z0⟩] m := by
  simp only [zOf, h4, if_false]
theorem R_ok (h : R0.ok (V0 l a0 z0)) : R.ok (V1 l a0 z0) := by
  refine ⟨fun n => ?_, rfl⟩
  have h0 := h.1 n
  have inn : ∀ (z : List Int) (k : Nat), (∀ x ∈ z, (-255 : Int) ≤ x ∧ x ≤ 255) → -255 ≤ (z[k]?).getD 0 ∧ (z[k]?).getD 0 ≤ 255 := fun z k hz => by
    cases hx : z[k]? with
    | none => decide
    | some x => exact hz x (List.mem_of_getElem? hx)
  have er : R.v n = ife (Nat.ble 16 n) (ife (Nat.beq (n % 16) 4) (-255, 255) (R0.v n)) (R0.v n) := rfl
  by_cases hn : 16 ≤ n
  · have e1 : (V1 l a0 z0).v n = ((zOf [⟨0, a0, z0⟩, ⟨4, none, zs (V0 l a0 z0)⟩] (n % 16))[n / 16 - 1]?).getD 0 := if_pos hn
    have e0 : (V0 l a0 z0).v n = ((zOf [⟨0, a0, z0⟩] (n % 16))[n / 16 - 1]?).getD 0 := if_pos hn
    rw [er, Nat.ble_eq_true_of_le hn, ife_true]
    by_cases h4 : n % 16 = 4
    · have : Nat.beq (n % 16) 4 = true := by rw [h4]; rfl
      rw [this, ife_true, e1, h4]
      exact inn _ _ zs_bd
    · have b4 : Nat.beq (n % 16) 4 = false := by
        cases hb : Nat.beq (n % 16) 4
        · rfl
        · exact absurd (Nat.eq_of_beq_eq_true hb) h4
      rw [b4, ife_false, e1, z_other h4, ← e0]
      exact h0
  · have bn : Nat.ble 16 n = false := by
      cases hb : Nat.ble 16 n
      · rfl
      · exact absurd (Nat.le_of_ble_eq_true hb) hn
    rw [er, bn, ife_false, show (V1 l a0 z0).v n = (V0 l a0 z0).v n from by rw [va_lo (by omega), va_lo (by omega)]]
    exact h0
theorem T_ok : RwOk (V1 l a0 z0) T := by
  intro q hq
  simp only [T, List.mem_cons, List.not_mem_nil, or_false] at hq
  rcases hq with rfl | rfl | rfl | rfl | rfl | rfl | rfl | rfl | rfl | rfl | rfl | rfl | rfl | rfl | rfl | rfl
  · exact ent1 (V0 := V0 l a0 z0) (i := 0) (n := 20) (pk_den rfl rfl) rfl
  · exact ent1 (V0 := V0 l a0 z0) (i := 1) (n := 36) (pk_den rfl rfl) rfl
  · exact ent1 (V0 := V0 l a0 z0) (i := 2) (n := 52) (pk_den rfl rfl) rfl
  · exact ent1 (V0 := V0 l a0 z0) (i := 3) (n := 68) (pk_den rfl rfl) rfl
  · exact ent1 (V0 := V0 l a0 z0) (i := 4) (n := 84) (pk_den rfl rfl) rfl
  · exact ent1 (V0 := V0 l a0 z0) (i := 5) (n := 100) (pk_den rfl rfl) rfl
  · exact ent1 (V0 := V0 l a0 z0) (i := 6) (n := 116) (pk_den rfl rfl) rfl
  · exact ent1 (V0 := V0 l a0 z0) (i := 7) (n := 132) (pk_den rfl rfl) rfl
  · exact ent1 (V0 := V0 l a0 z0) (i := 8) (n := 148) (pk_den rfl rfl) rfl
  · exact ent1 (V0 := V0 l a0 z0) (i := 9) (n := 164) (pk_den rfl rfl) rfl
  · exact ent1 (V0 := V0 l a0 z0) (i := 10) (n := 180) (pk_den rfl rfl) rfl
  · exact ent1 (V0 := V0 l a0 z0) (i := 11) (n := 196) (pk_den rfl rfl) rfl
  · exact ent1 (V0 := V0 l a0 z0) (i := 12) (n := 212) (pk_den rfl rfl) rfl
  · exact ent1 (V0 := V0 l a0 z0) (i := 13) (n := 228) (pk_den rfl rfl) rfl
  · exact ent1 (V0 := V0 l a0 z0) (i := 14) (n := 244) (pk_den rfl rfl) rfl
  · exact ent1 (V0 := V0 l a0 z0) (i := 15) (n := 260) (pk_den rfl rfl) rfl
end
theorem nt_of {fn : Func} (hf : Try.prog.funcs[6]? = some fn) : fn.ntmps = ntOf Try.prog 6 := by unfold ntOf; rw [hf]
noncomputable def run (k : Int) : Bool := (lawRunL Try.prog R cxJ 25 lp 6 [sv 0, iv 1] (isE (umdE 1 30) k)).good
end Go.Proofs.Ytcmkifhafcgjbaa.quantNear
