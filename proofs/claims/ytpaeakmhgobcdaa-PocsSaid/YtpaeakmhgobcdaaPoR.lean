/- poc and the document: the frame. -/
import Derived.Test.YtpaeakmhgobcdaaRxAwake
import Derived.Test.YtpaeakmhgobcdaaRxTw
import Derived.Test.YtpaeakmhgobcdaaLend
namespace Go.Proofs.Ytpaeakmhgobcdaa.po
open Go.RX Go.RowKit Go.Proofs.Ytpaeakmhgobcdaa
set_option linter.unusedVariables false
noncomputable def R : Rg := rg [6] [13] false false 0
noncomputable def cyc (L n : Nat) : Bool := ife (Nat.beq (Nat.mod n 16) 6) (ife (Nat.ble 16 n) (Nat.ble n (Nat.add 6 (Nat.mul 16 L))) false) false
noncomputable def RA (L : Nat) : Rg := ⟨fun n => ife (Nat.beq n 11) (0, 1048576) (ife (cyc L n) (-1000, 1000) (R.v n)), fun _ => (0, 0), false, false, 0⟩
noncomputable def cxP (R : Rg) : Cx := cxE Try.prog R tab 1000 (2 ^ 41) 0 0 (2 ^ 15) effM 0 0 0
theorem cxP_ok {R : Rg} {V : Va} (hR : R.ok V) : (cxP R).ok Try.prog V := cxE_ok Try.checked.mixed hR tab_ok _ _ _ _ _ _ _ _ _ (fun f h w => by
  rw [Nat.testBit_two_pow] at h
  have : f = 15 := by simpa using (of_decide_eq_true h).symm
  subst this
  exact awake_is w)
noncomputable def sp (c : AV) : AV := .agg [iv 0, iv 1, iv 2, iv 3, iv 4, iv 5, c, iv 7, iv 8]
noncomputable def geF (v : Nat) (n : Int) : E := E.addK (-n) (.atom (.var v))
noncomputable def leF (v : Nat) (n : Int) : E := E.addK n (E.smulG (-1) (.atom (.var v)))
theorem geF_den {V : Va} {v : Nat} {n : Int} (h : n ≤ V.v v) : 0 ≤ (geF v n).den V := by unfold geF; rw [E.den_addK, E.den_atom]; simp only [E.den]; omega
theorem leF_den {V : Va} {v : Nat} {n : Int} (h : V.v v ≤ n) : 0 ≤ (leF v n).den V := by unfold leF; rw [E.den_addK, E.den_smulG, E.den_atom]; simp only [E.den]; omega
theorem fs0 {V : Va} : Fs.ok V [] := fun y hy => by cases hy
theorem fs1 {V : Va} {x : E} (h : 0 ≤ x.den V) : Fs.ok V [x] := fun y hy => by rw [List.mem_singleton.1 hy]; exact h
/-- The numbers of a call of the law. -/
structure Nums where
  s0 : Int
  s1 : Int
  s2 : Int
  s3 : Int
  s4 : Int
  s5 : Int
  n : Nat
  s7 : Int
  s8 : Int
  msb : Int
  lsb : Int
  now : Int
  bits : Int
  ref : Bool
  z : List Int
def In64 (x : Int) : Prop := -9223372036854775808 ≤ x ∧ x ≤ 9223372036854775807
structure Nums.ok (a : Nums) : Prop where
  h0 : In64 a.s0
  h1 : In64 a.s1
  h2 : In64 a.s2
  h3 : In64 a.s3
  h4 : In64 a.s4
  h5 : In64 a.s5
  h7 : In64 a.s7
  h8 : In64 a.s8
  h9 : In64 a.msb
  h10 : In64 a.lsb
  h11 : In64 a.now
  h12 : In64 a.bits
  hn : (a.n : Int) ≤ 9223372036854775807
  hz : ∀ x ∈ a.z, In64 x
noncomputable abbrev V (a : Nums) (X : Option Addr) : Va := va [a.s0, a.s1, a.s2, a.s3, a.s4, a.s5, (a.n : Int), a.s7, a.s8, a.msb, a.lsb, a.now, a.bits, b01 a.ref] [⟨6, X, a.z⟩]
/-- The struct with a cycle that lies at X. -/
def sps (a : Nums) (X : Option Addr) (c : Nat) : Value := .agg #[.int .i64 a.s0, .int .i64 a.s1, .int .i64 a.s2, .int .i64 a.s3, .int .i64 a.s4, .int .i64 a.s5, .slice X a.n c, .int .i64 a.s7, .int .i64 a.s8]
theorem R_ok {a : Nums} (h : a.ok) (X : Option Addr) : R.ok (V a X) := rg_ok (lens := [6]) (bls := [13]) (by decide) (by decide) ⟨h.h0, h.h1, h.h2, h.h3, h.h4, h.h5, ⟨Int.natCast_nonneg _, h.hn⟩, h.h7, h.h8, h.h9, h.h10, h.h11, h.h12, b01_bd _, trivial⟩ (by
  intro r hr
  simp only [List.mem_cons, List.not_mem_nil, or_false] at hr
  subst hr
  exact h.hz)
theorem v_hi {a : Nums} {X : Option Addr} (n : Nat) (hn : 16 ≤ n) : (V a X).v n = ((zOf [⟨6, X, a.z⟩] (n % 16))[n / 16 - 1]?).getD 0 := if_pos hn
theorem cyc_el {a : Nums} {X : Option Addr} (i : Nat) : (V a X).v (16 * (i + 1) + 6) = a.z.getD i 0 := by
  have e := v_hi (a := a) (X := X) (16 * (i + 1) + 6) (by omega)
  rw [e, show (16 * (i + 1) + 6) % 16 = 6 by omega, show (16 * (i + 1) + 6) / 16 - 1 = i by omega, List.getD_eq_getElem?_getD]
  rfl
theorem RA_ok {a : Nums} (h : a.ok) (X : Option Addr) {L : Nat} (h1 : 0 ≤ a.now ∧ a.now ≤ 1048576) (hb : ∀ i, i < L → -1000 ≤ a.z.getD i 0 ∧ a.z.getD i 0 ≤ 1000) : (RA L).ok (V a X) := by
  have h0 := R_ok h X
  refine ⟨fun n => ?_, h0.2⟩
  show (ife (Nat.beq n 11) ((0 : Int), (1048576 : Int)) (ife (cyc L n) (-1000, 1000) (R.v n))).1 ≤ (V a X).v n ∧ (V a X).v n ≤ (ife (Nat.beq n 11) ((0 : Int), (1048576 : Int)) (ife (cyc L n) (-1000, 1000) (R.v n))).2
  cases hq : Nat.beq n 11
  · rw [ife_false]
    cases hc : cyc L n
    · exact h0.1 n
    · rw [ife_true]
      unfold cyc at hc
      cases e1 : Nat.beq (Nat.mod n 16) 6
      · rw [e1] at hc; cases hc
      · rw [e1, ife_true] at hc
        cases e2 : Nat.ble 16 n
        · rw [e2] at hc; cases hc
        · rw [e2, ife_true] at hc
          have e1 : n % 16 = 6 := Nat.eq_of_beq_eq_true e1
          have e2 := Nat.le_of_ble_eq_true e2
          have e3 : n ≤ 6 + 16 * L := Nat.le_of_ble_eq_true hc
          obtain ⟨i, rfl⟩ : ∃ i, n = 16 * (i + 1) + 6 := ⟨n / 16 - 1, by omega⟩
          rw [cyc_el]
          exact hb i (by omega)
  · have := Nat.eq_of_beq_eq_true hq
    subst this
    exact h1
theorem A_ok {a : Nums} {w : World} {X : Option Addr} {c : Nat} (h : RowIs w X a.n c a.z) : ArgsOk (V a X) w := args_ok (by
  intro r hr
  simp only [List.mem_cons, List.not_mem_nil, or_false] at hr
  subst hr
  refine ⟨show (6 : Nat) < 16 by decide, fun ad ha i hi => ?_⟩
  have hi : (i : Int) < a.n := hi
  rcases h.row with h0 | ⟨b, off, e, hb, hc⟩
  · omega
  · have ha : X = some ad := ha
    rw [ha] at e; injection e with e; subst e
    refine ⟨hb, ?_⟩
    rw [add_at, hc i (by omega), List.getD_eq_getElem?_getD])
theorem A_none (a : Nums) (w : World) : ArgsOk (V a none) w := args_ok (by
  intro r hr
  simp only [List.mem_cons, List.not_mem_nil, or_false] at hr
  subst hr
  exact ⟨show (6 : Nat) < 16 by decide, fun ad ha i hi => by cases ha⟩)
theorem sp_rel {a : Nums} {w : World} {X : Option Addr} {c : Nat} (h : RowIs w X a.n c a.z) (N : Env) {q : AV} (hq : q = .xsl 6 (.k (a.n : Int)) ∨ q = sv 6) : (sp q).rel (V a X) N (sps a X c) := by
  have key : ∀ e : E, e.den (V a X) = (a.n : Int) → (AV.xsl 6 e).rel (V a X) N (.slice X a.n c) := fun e he => by
    simp only [AV.rel]
    refine ⟨X, a.n, c, rfl, he.symm, h.cap, fun _ h0 => ⟨Int.le_refl _, ?_⟩, fun h16 => by omega⟩
    rcases h.row with h1 | ⟨b, off, e, _⟩
    · omega
    · exact ⟨_, e, e⟩
  have kq : q.rel (V a X) N (.slice X a.n c) := by
    rcases hq with rfl | rfl
    · exact key _ rfl
    · exact key _ (by rw [E.den_atom]; rfl)
  have iz : ∀ (j : Nat) (x : Int), j < 16 → ([a.s0, a.s1, a.s2, a.s3, a.s4, a.s5, (a.n : Int), a.s7, a.s8, a.msb, a.lsb, a.now, a.bits, b01 a.ref][j]?).getD 0 = x → (iv j).rel (V a X) N (.int .i64 x) := fun j x hj hx => iv_rel j hj hx
  unfold sp sps
  simp only [AV.rel]
  exact ⟨_, rfl, rels_cons' (iz 0 _ (by decide) rfl) (rels_cons' (iz 1 _ (by decide) rfl) (rels_cons' (iz 2 _ (by decide) rfl) (rels_cons' (iz 3 _ (by decide) rfl) (rels_cons' (iz 4 _ (by decide) rfl) (rels_cons' (iz 5 _ (by decide) rfl) (rels_cons' kq (rels_cons' (iz 7 _ (by decide) rfl) (rels_cons' (iz 8 _ (by decide) rfl) (rels_nil.2 rfl)))))))))⟩
/-- f1, then f2, give the same. -/
def Then0 (k : Nat) (f1 f2 : FuncId) (vs : Array Value) : Prop := ∀ w, Calls Try.prog f1 vs w fun e w' => ∃ v, e = .returned v ∧ IntsK k v ∧ Garb w w' ∧ ∀ w2, Calls Try.prog f2 vs w2 fun e w3 => e = .returned v ∧ Garb w2 w3
def ThenS (f1 f2 : FuncId) (a : Nums) : Prop := ∀ w X c, RowIs w X a.n c a.z → Calls Try.prog f1 #[sps a X c, .int .i64 a.now, .bool a.ref] w fun e w' => ∃ v, e = .returned v ∧ IntsK 2 v ∧ Garb w w' ∧ ∀ w2 A ca, RowIs w2 A a.n ca a.z → Calls Try.prog f2 #[sps a A ca, .int .i64 a.now, .bool a.ref] w2 fun e w3 => e = .returned v ∧ Garb w2 w3
theorem then0 {k : Nat} {f1 f2 : FuncId} {ls : List AV} {vs : Array Value} {fs : List E} {a : Nums} (ha : a.ok) (h : (thenRun k Try.prog R (cxP R) 25 f1 ls f2 ls fs).good = true) (hf : Fs.ok (V a none) fs) (hs : ∀ N, AV.rels (V a none) N ls vs.toList) : Then0 k f1 f2 vs := fun w => by
  refine (Go.RX.then_ok (R_ok ha none) (fun _ h => cxP_ok h) h hs hf (A_none a w)).mono ?_
  rintro e w' ⟨v, rfl, h1, h2, h3⟩
  exact ⟨v, rfl, h1, h2, fun w2 => h3 (V a none) rfl rfl w2 vs (A_none a w2) hs⟩
theorem thenS {f1 f2 : FuncId} {R : Rg} {q : AV} {fs : List E} {a : Nums} (hR : ∀ X, R.ok (V a X)) (h : (thenRun 2 Try.prog R (cxP R) 25 f1 [sp q, iv 11, bv 13] f2 [sp q, iv 11, bv 13] fs).good = true) (hf : ∀ X, Fs.ok (V a X) fs) (hq : q = .xsl 6 (.k (a.n : Int)) ∨ q = sv 6) : ThenS f1 f2 a := fun w X c hrow => by
  refine (Go.RX.then_ok (hR X) (fun _ h => cxP_ok h) (vs1 := #[sps a X c, .int .i64 a.now, .bool a.ref]) h (fun N => rels_cons' (sp_rel hrow N hq) (rels_cons' (iv_rel 11 (by decide) rfl) (rels_cons' (bv_rel 13 (by decide) rfl) (rels_nil.2 rfl)))) (hf X) (A_ok hrow)).mono ?_
  rintro e w' ⟨v, rfl, h1, h2, h3⟩
  exact ⟨v, rfl, h1, h2, fun w2 A ca hrow2 => h3 (V a A) rfl rfl w2 #[sps a A ca, .int .i64 a.now, .bool a.ref] (A_ok hrow2) (fun N => rels_cons' (sp_rel hrow2 N hq) (rels_cons' (iv_rel 11 (by decide) rfl) (rels_cons' (bv_rel 13 (by decide) rfl) (rels_nil.2 rfl))))⟩
end Go.Proofs.Ytpaeakmhgobcdaa.po
