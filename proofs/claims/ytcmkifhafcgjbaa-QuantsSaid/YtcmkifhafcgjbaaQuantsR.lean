/- Quants: its numbers as numbers of their own; what is known of them. -/
import Derived.Test.YtcmkifhafcgjbaaRxAwake
import Derived.Test.YtcmkifhafcgjbaaRxL
namespace Go.Proofs.Ytcmkifhafcgjbaa.quants
open Go.RX Go.RowKit Go.Proofs.Ytcmkifhafcgjbaa
set_option linter.unusedVariables false
noncomputable def R0 : Rg := rg [0] [3] false false 0
noncomputable def R (lo hi : Int) : Rg := ⟨fun n => ife (Nat.ble 16 n) (ife (Nat.beq (n % 16) 4) (lo, hi) (R0.v n)) (R0.v n), fun _ => (0, 0), true, false, 1040⟩
noncomputable def cxJ (R : Rg) : Cx := cxT R (2 ^ 11 + 2 ^ 27 + 2 ^ 32 + 2 ^ 33 + 2 ^ 39 + 2 ^ 42) (2 ^ 15 + 2 ^ 20) 0 0 0 (2 ^ 30 + 2 ^ 38)
/-- A number as the law's loop tells it. -/
noncomputable def pk (i : Nat) : E := .t 1 (.ite (.t 1 (.lt0 (.t (-1) (.var 0) (.k (Int.ofNat i)))) (.k 0)) (.t 1 (.var (argVar 0 i)) (.k 0)) (.k 0)) (.k 0)
noncomputable def T : List (E × E) := [(pk 0, .t 1 (.var 20) (.k 0)), (pk 1, .t 1 (.var 36) (.k 0)), (pk 2, .t 1 (.var 52) (.k 0)), (pk 3, .t 1 (.var 68) (.k 0)), (pk 4, .t 1 (.var 84) (.k 0)), (pk 5, .t 1 (.var 100) (.k 0)), (pk 6, .t 1 (.var 116) (.k 0)), (pk 7, .t 1 (.var 132) (.k 0)), (pk 8, .t 1 (.var 148) (.k 0)), (pk 9, .t 1 (.var 164) (.k 0)), (pk 10, .t 1 (.var 180) (.k 0)), (pk 11, .t 1 (.var 196) (.k 0)), (pk 12, .t 1 (.var 212) (.k 0)), (pk 13, .t 1 (.var 228) (.k 0)), (pk 14, .t 1 (.var 244) (.k 0)), (pk 15, .t 1 (.var 260) (.k 0))]
noncomputable def isTop (x : AV) : Bool := match x with | .top => true | _ => false
noncomputable def lp (R : Rg) : Code → (β : Type) → Kx β → Nx β := lpR Try.prog R (cxJ R) 25 (ntOf Try.prog 7) T (fun tm => isTop (tm.get 12))
/-- Is one of these numbers beyond lim? As the run tells it. -/
noncomputable def Fn (lim : Int) (l : List Nat) : E := List.rec (motive := fun _ => E) (.k 0) (fun v _ ih => .t 1 (.ite (.t 1 (.lt0 (.t 1 (.var v) (.k lim))) (.k 0)) (.k 1) (.t 1 (.ite (.t 1 (.lt0 (.t (-1) (.var v) (.k lim))) (.k 0)) (.k 1) ih) (.k 0))) (.k 0)) l
def L16 : List Nat := [20, 36, 52, 68, 84, 100, 116, 132, 148, 164, 180, 196, 212, 228, 244, 260]
noncomputable def F16 (lim : Int) : E := Fn lim [20, 36, 52, 68, 84, 100, 116, 132, 148, 164, 180, 196, 212, 228, 244, 260]
theorem Fn_ok {V : Va} {lim : Int} : ∀ {l : List Nat} {v : Nat}, v ∈ l → (V.v v < -lim ∨ lim < V.v v) → (Fn lim l).den V = 1
  | u :: l, v, hv, h => by
    have e : (Fn lim (u :: l)).den V = 1 * (if (1 * (if 1 * V.v u + lim < 0 then (1 : Int) else 0) + 0) = 0 then (1 * (if (1 * (if -1 * V.v u + lim < 0 then (1 : Int) else 0) + 0) = 0 then (Fn lim l).den V else 1) + 0) else 1) + 0 := rfl
    rw [e]
    by_cases c1 : 1 * V.v u + lim < 0
    · rw [if_pos c1, if_neg (by decide)]; omega
    · rw [if_neg c1, if_pos (by decide)]
      by_cases c2 : -1 * V.v u + lim < 0
      · rw [if_pos c2, if_neg (by decide)]; omega
      · rw [if_neg c2, if_pos (by decide)]
        rcases List.mem_cons.1 hv with rfl | hv
        · omega
        · rw [Fn_ok (V := V) hv h]; omega
theorem pk_e (V : Va) (i : Nat) : (pk i).den V = 1 * (if (1 * (if -1 * V.v 0 + Int.ofNat i < 0 then (1 : Int) else 0) + 0) = 0 then 0 else 1 * V.v (argVar 0 i) + 0) + 0 := rfl
theorem pk_den {V V' : Va} {i : Nat} (h1 : V.v 0 = V'.v 0) (h2 : V.v (argVar 0 i) = V'.v (argVar 0 i)) : (pk i).den V = (pk i).den V' := by
  rw [pk_e, pk_e, h1, h2]
theorem pk_bd {V : Va} {i : Nat} (h : -9223372036854775808 ≤ V.v (argVar 0 i) ∧ V.v (argVar 0 i) ≤ 9223372036854775807) : -9223372036854775808 ≤ (pk i).den V ∧ (pk i).den V ≤ 9223372036854775807 := by
  rw [pk_e]
  split <;> omega
theorem ent1 {V V0 : Va} {i n : Nat} (h : (pk i).den V = (pk i).den V0) (h' : V.v n = (pk i).den V0) : (pk i).den V = (E.t 1 (.var n) (.k 0)).den V := by
  rw [h, ← h']
  simp only [E.den]; omega
noncomputable def zs (V : Va) : List Int := [(pk 0).den V, (pk 1).den V, (pk 2).den V, (pk 3).den V, (pk 4).den V, (pk 5).den V, (pk 6).den V, (pk 7).den V, (pk 8).den V, (pk 9).den V, (pk 10).den V, (pk 11).den V, (pk 12).den V, (pk 13).den V, (pk 14).den V, (pk 15).den V]
section
variable {a0 : Option Addr} {z0 : List Int} {l : List Int}
noncomputable abbrev V0 (l : List Int) (a0 : Option Addr) (z0 : List Int) : Va := va l [⟨0, a0, z0⟩]
noncomputable abbrev V1 (l : List Int) (a0 : Option Addr) (z0 : List Int) : Va := va l [⟨0, a0, z0⟩, ⟨4, none, zs (V0 l a0 z0)⟩]
theorem z_other {m : Nat} (h4 : m ≠ 4) (s : List Int) : zOf [⟨0, a0, z0⟩, ⟨4, none, s⟩] m = zOf [⟨0, a0, z0⟩] m := by
  simp only [zOf, h4, if_false]
theorem zs_bd (h : R0.ok (V0 l a0 z0)) : ∀ x ∈ zs (V0 l a0 z0), (-9223372036854775808 : Int) ≤ x ∧ x ≤ 9223372036854775807 := by
  intro x hx
  simp only [zs, List.mem_cons, List.not_mem_nil, or_false] at hx
  rcases hx with rfl | rfl | rfl | rfl | rfl | rfl | rfl | rfl | rfl | rfl | rfl | rfl | rfl | rfl | rfl | rfl
  · exact pk_bd (h.1 16)
  · exact pk_bd (h.1 32)
  · exact pk_bd (h.1 48)
  · exact pk_bd (h.1 64)
  · exact pk_bd (h.1 80)
  · exact pk_bd (h.1 96)
  · exact pk_bd (h.1 112)
  · exact pk_bd (h.1 128)
  · exact pk_bd (h.1 144)
  · exact pk_bd (h.1 160)
  · exact pk_bd (h.1 176)
  · exact pk_bd (h.1 192)
  · exact pk_bd (h.1 208)
  · exact pk_bd (h.1 224)
  · exact pk_bd (h.1 240)
  · exact pk_bd (h.1 256)
theorem R_ok {lo hi : Int} (h0 : lo ≤ 0 ∧ 0 ≤ hi) (hz : ∀ x ∈ zs (V0 l a0 z0), lo ≤ x ∧ x ≤ hi) (h : R0.ok (V0 l a0 z0)) : (R lo hi).ok (V1 l a0 z0) := by
  refine ⟨fun n => ?_, rfl⟩
  have h0' := h.1 n
  have inn : ∀ (z : List Int) (k : Nat), (∀ x ∈ z, lo ≤ x ∧ x ≤ hi) → lo ≤ (z[k]?).getD 0 ∧ (z[k]?).getD 0 ≤ hi := fun z k hz => by
    cases hx : z[k]? with
    | none => exact h0
    | some x => exact hz x (List.mem_of_getElem? hx)
  have er : (R lo hi).v n = ife (Nat.ble 16 n) (ife (Nat.beq (n % 16) 4) (lo, hi) (R0.v n)) (R0.v n) := rfl
  by_cases hn : 16 ≤ n
  · have e1 : (V1 l a0 z0).v n = ((zOf [⟨0, a0, z0⟩, ⟨4, none, zs (V0 l a0 z0)⟩] (n % 16))[n / 16 - 1]?).getD 0 := if_pos hn
    have e0 : (V0 l a0 z0).v n = ((zOf [⟨0, a0, z0⟩] (n % 16))[n / 16 - 1]?).getD 0 := if_pos hn
    rw [er, Nat.ble_eq_true_of_le hn, ife_true]
    by_cases h4 : n % 16 = 4
    · have : Nat.beq (n % 16) 4 = true := by rw [h4]; rfl
      rw [this, ife_true, e1, h4]
      exact inn _ _ hz
    · have b4 : Nat.beq (n % 16) 4 = false := by
        cases hb : Nat.beq (n % 16) 4
        · rfl
        · exact absurd (Nat.eq_of_beq_eq_true hb) h4
      rw [b4, ife_false, e1, z_other h4, ← e0]
      exact h0'
  · have bn : Nat.ble 16 n = false := by
      cases hb : Nat.ble 16 n
      · rfl
      · exact absurd (Nat.le_of_ble_eq_true hb) hn
    rw [er, bn, ife_false, show (V1 l a0 z0).v n = (V0 l a0 z0).v n from by rw [va_lo (by omega), va_lo (by omega)]]
    exact h0'
theorem T_ok : RwOk (V1 l a0 z0) T := by
  intro q hq
  simp only [T, List.mem_cons, List.not_mem_nil, or_false] at hq
  rcases hq with rfl | rfl | rfl | rfl | rfl | rfl | rfl | rfl | rfl | rfl | rfl | rfl | rfl | rfl | rfl | rfl
  · exact ent1 (V0 := V0 l a0 z0) (i := 0) (n := 20) (pk_den rfl rfl) rfl
  · exact ent1 (V0 := V0 l a0 z0) (i := 1) (n := 36) (pk_den rfl rfl) rfl
  · exact ent1 (V0 := V0 l a0 z0) (i := 2) (n := 52) (pk_den rfl rfl) rfl
  · exact ent1 (V0 := V0 l a0 z0) (i := 3) (n := 68) (pk_den rfl rfl) rfl
  · exact ent1 (V0 := V0 l a0 z0) (i := 4) (n := 84) (pk_den rfl rfl) rfl
  · exact ent1 (V0 := V0 l a0 z0) (i := 5) (n := 100) (pk_den rfl rfl) rfl
  · exact ent1 (V0 := V0 l a0 z0) (i := 6) (n := 116) (pk_den rfl rfl) rfl
  · exact ent1 (V0 := V0 l a0 z0) (i := 7) (n := 132) (pk_den rfl rfl) rfl
  · exact ent1 (V0 := V0 l a0 z0) (i := 8) (n := 148) (pk_den rfl rfl) rfl
  · exact ent1 (V0 := V0 l a0 z0) (i := 9) (n := 164) (pk_den rfl rfl) rfl
  · exact ent1 (V0 := V0 l a0 z0) (i := 10) (n := 180) (pk_den rfl rfl) rfl
  · exact ent1 (V0 := V0 l a0 z0) (i := 11) (n := 196) (pk_den rfl rfl) rfl
  · exact ent1 (V0 := V0 l a0 z0) (i := 12) (n := 212) (pk_den rfl rfl) rfl
  · exact ent1 (V0 := V0 l a0 z0) (i := 13) (n := 228) (pk_den rfl rfl) rfl
  · exact ent1 (V0 := V0 l a0 z0) (i := 14) (n := 244) (pk_den rfl rfl) rfl
  · exact ent1 (V0 := V0 l a0 z0) (i := 15) (n := 260) (pk_den rfl rfl) rfl
theorem zs_var : ∀ x ∈ zs (V0 l a0 z0), ∃ v ∈ L16, (V1 l a0 z0).v v = x := by
  intro x hx
  simp only [zs, List.mem_cons, List.not_mem_nil, or_false] at hx
  rcases hx with rfl | rfl | rfl | rfl | rfl | rfl | rfl | rfl | rfl | rfl | rfl | rfl | rfl | rfl | rfl | rfl
  · exact ⟨20, by decide, rfl⟩
  · exact ⟨36, by decide, rfl⟩
  · exact ⟨52, by decide, rfl⟩
  · exact ⟨68, by decide, rfl⟩
  · exact ⟨84, by decide, rfl⟩
  · exact ⟨100, by decide, rfl⟩
  · exact ⟨116, by decide, rfl⟩
  · exact ⟨132, by decide, rfl⟩
  · exact ⟨148, by decide, rfl⟩
  · exact ⟨164, by decide, rfl⟩
  · exact ⟨180, by decide, rfl⟩
  · exact ⟨196, by decide, rfl⟩
  · exact ⟨212, by decide, rfl⟩
  · exact ⟨228, by decide, rfl⟩
  · exact ⟨244, by decide, rfl⟩
  · exact ⟨260, by decide, rfl⟩
theorem beyond {lim : Int} (h : ¬ ∀ x ∈ zs (V0 l a0 z0), -lim ≤ x ∧ x ≤ lim) : (F16 lim).den (V1 l a0 z0) = 1 := by
  obtain ⟨x, h⟩ := Classical.not_forall.1 h
  obtain ⟨hx, h⟩ := Classical.not_imp.1 h
  obtain ⟨v, hv, rfl⟩ := zs_var x hx
  exact Fn_ok hv (by omega)
end
theorem nt_of {fn : Func} (hf : Try.prog.funcs[7]? = some fn) : fn.ntmps = ntOf Try.prog 7 := by unfold ntOf; rw [hf]
noncomputable def runA (k : Int) : Bool := (lawRunL Try.prog (R (-32767) 32767) (cxJ (R (-32767) 32767)) 25 (lp (R (-32767) 32767)) 7 [sv 0, .int .i64 (.k k), iv 2, bv 3] []).good
noncomputable def runB (k : Int) : Bool := (lawRunL Try.prog (R (-1048576) 1048576) (cxJ (R (-1048576) 1048576)) 25 (lp (R (-1048576) 1048576)) 7 [sv 0, .int .i64 (.k k), iv 2, bv 3] (isE (F16 32767) 1)).good
noncomputable abbrev RC : Rg := R (-9223372036854775808) 9223372036854775807
noncomputable def runC (k : Int) : Bool := (lawRunL Try.prog RC (cxJ RC) 25 (lp RC) 7 [sv 0, .int .i64 (.k k), iv 2, bv 3] (isE (F16 1048576) 1 ++ isE (F16 32767) 1)).good
noncomputable def runX (f : List E) : Bool := (lawRunL Try.prog RC (cxJ RC) 25 (lp RC) 7 [sv 0, iv 1, iv 2, bv 3] f).good
noncomputable def lowF : List E := [E.sub (.k (-1)) (.atom (.var 1))]
noncomputable def highF : List E := [E.sub (.atom (.var 1)) (.k 52)]
end Go.Proofs.Ytcmkifhafcgjbaa.quants
