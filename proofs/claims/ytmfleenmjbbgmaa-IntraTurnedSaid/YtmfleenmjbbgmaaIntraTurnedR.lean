/- IntraTurned: its samples as numbers of their own. -/
import Derived.Test.YtmfleenmjbbgmaaRxAwake
import Derived.Test.YtmfleenmjbbgmaaRxL
namespace Go.Proofs.Ytmfleenmjbbgmaa.intraTurned
open Go.RX Go.RowKit Go.Proofs.Ytmfleenmjbbgmaa
set_option linter.unusedVariables false
noncomputable def R0 : Rg := rg [0, 1] [] false false 0
noncomputable def R : Rg := ⟨fun n => ife (Nat.ble 16 n) (ife (Nat.beq (n % 16) 4) (0, 255) (ife (Nat.beq (n % 16) 5) (0, 255) (R0.v n))) (R0.v n), fun _ => (0, 0), false, false, 0⟩
noncomputable def cxJ : Cx := cxT R (2 ^ 94) (2 ^ 6) 0 0 (2 ^ 55)
/-- A sample as the law's loop tells it. -/
noncomputable def pk (j i : Nat) (c : Int) : E := .t 1 (.ite (.t 1 (.lt0 (.t (-1) (.var j) (.k (Int.ofNat i)))) (.k 0)) (.t 1 (.bit .and .i64 (.t 1 (.var (argVar j i)) (.k 0)) (.k 255)) (.k 0)) (.k c)) (.k 0)
noncomputable def T : List (E × E) := [(pk 0 0 0, .t 1 (.var 20) (.k 0)), (pk 0 1 7, .t 1 (.var 36) (.k 0)), (pk 0 2 14, .t 1 (.var 52) (.k 0)), (pk 0 3 21, .t 1 (.var 68) (.k 0)), (pk 0 4 28, .t 1 (.var 84) (.k 0)), (pk 0 5 35, .t 1 (.var 100) (.k 0)), (pk 0 6 42, .t 1 (.var 116) (.k 0)), (pk 0 7 49, .t 1 (.var 132) (.k 0)), (pk 0 8 56, .t 1 (.var 148) (.k 0)), (pk 0 9 63, .t 1 (.var 164) (.k 0)), (pk 0 10 70, .t 1 (.var 180) (.k 0)), (pk 0 11 77, .t 1 (.var 196) (.k 0)), (pk 0 12 84, .t 1 (.var 212) (.k 0)), (pk 0 13 91, .t 1 (.var 228) (.k 0)), (pk 0 14 98, .t 1 (.var 244) (.k 0)), (pk 0 15 105, .t 1 (.var 260) (.k 0)), (pk 1 0 255, .t 1 (.var 21) (.k 0)), (pk 1 1 246, .t 1 (.var 37) (.k 0)), (pk 1 2 237, .t 1 (.var 53) (.k 0)), (pk 1 3 228, .t 1 (.var 69) (.k 0)), (pk 1 4 219, .t 1 (.var 85) (.k 0)), (pk 1 5 210, .t 1 (.var 101) (.k 0)), (pk 1 6 201, .t 1 (.var 117) (.k 0)), (pk 1 7 192, .t 1 (.var 133) (.k 0)), (pk 1 8 183, .t 1 (.var 149) (.k 0)), (pk 1 9 174, .t 1 (.var 165) (.k 0)), (pk 1 10 165, .t 1 (.var 181) (.k 0)), (pk 1 11 156, .t 1 (.var 197) (.k 0)), (pk 1 12 147, .t 1 (.var 213) (.k 0)), (pk 1 13 138, .t 1 (.var 229) (.k 0)), (pk 1 14 129, .t 1 (.var 245) (.k 0)), (pk 1 15 120, .t 1 (.var 261) (.k 0))]
noncomputable def isTop (x : AV) : Bool := match x with | .top => true | _ => false
noncomputable def lp : Code → (β : Type) → Kx β → Nx β := lpR Try.prog R cxJ 25 (ntOf Try.prog 6) T (fun tm => isTop (tm.get 14))
theorem pk_den {V V' : Va} {j i : Nat} {c : Int} (h1 : V.v j = V'.v j) (h2 : V.v (argVar j i) = V'.v (argVar j i)) : (pk j i c).den V = (pk j i c).den V' := by
  have e : ∀ V : Va, (pk j i c).den V = 1 * (if (1 * (if -1 * V.v j + Int.ofNat i < 0 then (1 : Int) else 0) + 0) = 0 then c else 1 * bitI .and .i64 (1 * V.v (argVar j i) + 0) 255 + 0) + 0 := fun _ => rfl
  rw [e, e, h1, h2]
theorem pk_bd {V : Va} {j i : Nat} {c : Int} (h0 : 0 ≤ c) (h1 : c ≤ 255) : 0 ≤ (pk j i c).den V ∧ (pk j i c).den V ≤ 255 := by
  have h := bitI_and (kd := .i64) (x := 1 * V.v (argVar j i) + 0) (m := 255) (by decide) (by decide)
  have e : (pk j i c).den V = 1 * (if (1 * (if -1 * V.v j + Int.ofNat i < 0 then (1 : Int) else 0) + 0) = 0 then c else 1 * bitI .and .i64 (1 * V.v (argVar j i) + 0) 255 + 0) + 0 := rfl
  rw [e]
  split <;> omega
theorem ent {V V0 : Va} {e : E} {n : Nat} (h : e.den V = e.den V0) (h' : V.v n = e.den V0) : e.den V = (E.t 1 (.var n) (.k 0)).den V := by
  rw [h, ← h']
  simp only [E.den]; omega
noncomputable def zs0 (V : Va) : List Int := [(pk 0 0 0).den V, (pk 0 1 7).den V, (pk 0 2 14).den V, (pk 0 3 21).den V, (pk 0 4 28).den V, (pk 0 5 35).den V, (pk 0 6 42).den V, (pk 0 7 49).den V, (pk 0 8 56).den V, (pk 0 9 63).den V, (pk 0 10 70).den V, (pk 0 11 77).den V, (pk 0 12 84).den V, (pk 0 13 91).den V, (pk 0 14 98).den V, (pk 0 15 105).den V]
theorem zs0_bd {V : Va} : ∀ x ∈ zs0 V, (0 : Int) ≤ x ∧ x ≤ 255 := by
  intro x hx
  simp only [zs0, List.mem_cons, List.not_mem_nil, or_false] at hx
  rcases hx with rfl | rfl | rfl | rfl | rfl | rfl | rfl | rfl | rfl | rfl | rfl | rfl | rfl | rfl | rfl | rfl <;> exact pk_bd (by decide) (by decide)
noncomputable def zs1 (V : Va) : List Int := [(pk 1 0 255).den V, (pk 1 1 246).den V, (pk 1 2 237).den V, (pk 1 3 228).den V, (pk 1 4 219).den V, (pk 1 5 210).den V, (pk 1 6 201).den V, (pk 1 7 192).den V, (pk 1 8 183).den V, (pk 1 9 174).den V, (pk 1 10 165).den V, (pk 1 11 156).den V, (pk 1 12 147).den V, (pk 1 13 138).den V, (pk 1 14 129).den V, (pk 1 15 120).den V]
theorem zs1_bd {V : Va} : ∀ x ∈ zs1 V, (0 : Int) ≤ x ∧ x ≤ 255 := by
  intro x hx
  simp only [zs1, List.mem_cons, List.not_mem_nil, or_false] at hx
  rcases hx with rfl | rfl | rfl | rfl | rfl | rfl | rfl | rfl | rfl | rfl | rfl | rfl | rfl | rfl | rfl | rfl <;> exact pk_bd (by decide) (by decide)
section
variable {a0 a1 : Option Addr} {z0 z1 : List Int} {l : List Int}
noncomputable abbrev V0 (l : List Int) (a0 a1 : Option Addr) (z0 z1 : List Int) : Va := va l [⟨0, a0, z0⟩, ⟨1, a1, z1⟩]
noncomputable abbrev V1 (l : List Int) (a0 a1 : Option Addr) (z0 z1 : List Int) : Va := va l [⟨0, a0, z0⟩, ⟨1, a1, z1⟩, ⟨4, none, zs0 (V0 l a0 a1 z0 z1)⟩, ⟨5, none, zs1 (V0 l a0 a1 z0 z1)⟩]
theorem z_other {m : Nat} (h4 : m ≠ 4) (h5 : m ≠ 5) (s u : List Int) : zOf [⟨0, a0, z0⟩, ⟨1, a1, z1⟩, ⟨4, none, s⟩, ⟨5, none, u⟩] m = zOf [⟨0, a0, z0⟩, ⟨1, a1, z1⟩] m := by
  simp only [zOf, h4, h5, if_false]
theorem R_ok (h : R0.ok (V0 l a0 a1 z0 z1)) : R.ok (V1 l a0 a1 z0 z1) := by
  refine ⟨fun n => ?_, rfl⟩
  have h0 := h.1 n
  have inn : ∀ (z : List Int) (k : Nat), (∀ x ∈ z, (0 : Int) ≤ x ∧ x ≤ 255) → 0 ≤ (z[k]?).getD 0 ∧ (z[k]?).getD 0 ≤ 255 := fun z k hz => by
    cases hx : z[k]? with
    | none => decide
    | some x => exact hz x (List.mem_of_getElem? hx)
  by_cases hn : 16 ≤ n
  · have e1 : (V1 l a0 a1 z0 z1).v n = ((zOf [⟨0, a0, z0⟩, ⟨1, a1, z1⟩, ⟨4, none, zs0 (V0 l a0 a1 z0 z1)⟩, ⟨5, none, zs1 (V0 l a0 a1 z0 z1)⟩] (n % 16))[n / 16 - 1]?).getD 0 := if_pos hn
    have e0 : (V0 l a0 a1 z0 z1).v n = ((zOf [⟨0, a0, z0⟩, ⟨1, a1, z1⟩] (n % 16))[n / 16 - 1]?).getD 0 := if_pos hn
    have er : R.v n = ife (Nat.ble 16 n) (ife (Nat.beq (n % 16) 4) (0, 255) (ife (Nat.beq (n % 16) 5) (0, 255) (R0.v n))) (R0.v n) := rfl
    rw [er, Nat.ble_eq_true_of_le hn, ife_true]
    by_cases h4 : n % 16 = 4
    · have : Nat.beq (n % 16) 4 = true := by rw [h4]; rfl
      rw [this, ife_true, e1, h4]
      exact inn _ _ zs0_bd
    · have b4 : Nat.beq (n % 16) 4 = false := by
        cases hb : Nat.beq (n % 16) 4
        · rfl
        · exact absurd (Nat.eq_of_beq_eq_true hb) h4
      rw [b4, ife_false]
      by_cases h5 : n % 16 = 5
      · have : Nat.beq (n % 16) 5 = true := by rw [h5]; rfl
        rw [this, ife_true, e1, h5]
        exact inn _ _ zs1_bd
      · have b5 : Nat.beq (n % 16) 5 = false := by
          cases hb : Nat.beq (n % 16) 5
          · rfl
          · exact absurd (Nat.eq_of_beq_eq_true hb) h5
        rw [b5, ife_false, e1, z_other h4 h5, ← e0]
        exact h0
  · have er : R.v n = ife (Nat.ble 16 n) (ife (Nat.beq (n % 16) 4) (0, 255) (ife (Nat.beq (n % 16) 5) (0, 255) (R0.v n))) (R0.v n) := rfl
    have bn : Nat.ble 16 n = false := by
      cases hb : Nat.ble 16 n
      · rfl
      · exact absurd (Nat.le_of_ble_eq_true hb) hn
    rw [er, bn, ife_false, show (V1 l a0 a1 z0 z1).v n = (V0 l a0 a1 z0 z1).v n from by rw [va_lo (by omega), va_lo (by omega)]]
    exact h0
theorem T_ok : RwOk (V1 l a0 a1 z0 z1) T := by
  intro q hq
  simp only [T, List.mem_cons, List.not_mem_nil, or_false] at hq
  rcases hq with rfl | rfl | rfl | rfl | rfl | rfl | rfl | rfl | rfl | rfl | rfl | rfl | rfl | rfl | rfl | rfl | rfl | rfl | rfl | rfl | rfl | rfl | rfl | rfl | rfl | rfl | rfl | rfl | rfl | rfl | rfl | rfl <;> exact ent (V0 := V0 l a0 a1 z0 z1) (pk_den rfl rfl) rfl
end
theorem nt_of {fn : Func} (hf : Try.prog.funcs[6]? = some fn) : fn.ntmps = ntOf Try.prog 6 := by unfold ntOf; rw [hf]
end Go.Proofs.Ytmfleenmjbbgmaa.intraTurned
