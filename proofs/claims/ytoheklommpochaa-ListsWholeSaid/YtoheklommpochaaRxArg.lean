/- RX, part 21: what comes in: integers, bools, lists and rows of integers. -/
import Derived.Test.YtoheklommpochaaRxT
import Derived.WalkKit
import Derived.ProofKit
import Derived.OpenShut
import Derived.ChangeOld
import Derived.Below
namespace Go.RX
open Go.RowKit Go.ChangeShapes
/-- Ranges: those in lens are lengths, those in bls 0 or 1, all others are int64. -/
noncomputable def rg (lens bls : List Nat) (sel spl : Bool) (prv : Nat := 0) : Rg :=
  ⟨fun n => ife (noneEq n lens) (ife (noneEq n bls) (-9223372036854775808, 9223372036854775807) (0, 1)) (0, 9223372036854775807), fun _ => (0, 0), sel, spl, prv⟩
/-- A list that came in. -/
structure Arow where
  id : Nat
  a : Option Addr
  z : List Int
def zOf : List Arow → Nat → List Int
  | [], _ => []
  | r :: rs, n => if n = r.id then r.z else zOf rs n
def aOf : List Arow → Nat → Option Addr
  | [], _ => none
  | r :: rs, n => if n = r.id then r.a else aOf rs n
def va (l : List Int) (rs : List Arow) : Va :=
  ⟨fun n => if 16 ≤ n then ((zOf rs (n % 16))[n / 16 - 1]?).getD 0 else (l[n]?).getD 0, tabF, aOf rs⟩
theorem va_lo {l : List Int} {rs : List Arow} {n : Nat} (h : n < 16) : (va l rs).v n = (l[n]?).getD 0 := if_neg (by omega)
def RgL (R : Rg) : Nat → List Int → Prop
  | _, [] => True
  | n, x :: l => ((R.v n).1 ≤ x ∧ x ≤ (R.v n).2) ∧ RgL R (n + 1) l
theorem RgL.get {R : Rg} : ∀ {l : List Int} {k : Nat}, RgL R k l → ∀ (n : Nat) x, l[n]? = some x → (R.v (k + n)).1 ≤ x ∧ x ≤ (R.v (k + n)).2
  | [], _, _, n, x, h => by simp at h
  | y :: l, k, h, 0, x, hx => by simp at hx; subst hx; exact h.1
  | y :: l, k, h, n + 1, x, hx => by
    have := RgL.get h.2 n x (by simpa using hx)
    rw [show k + (n + 1) = k + 1 + n from by omega]; exact this
theorem noneEq_mem {n : Nat} : ∀ {l : List Nat}, (∀ x ∈ l, x ≠ n) → noneEq n l = true
  | [], _ => rfl
  | y :: l, h => by
    show ife (Nat.beq y n) false (noneEq n l) = true
    have h1 := h y (by simp)
    have : Nat.beq y n = false := by
      cases hb : Nat.beq y n
      · rfl
      · exact absurd (Nat.eq_of_beq_eq_true hb) h1
    rw [this]; exact noneEq_mem fun x hx => h x (by simp [hx])
theorem zOf_wf {rs : List Arow} (h : ∀ r ∈ rs, ∀ x ∈ r.z, (-9223372036854775808 : Int) ≤ x ∧ x ≤ 9223372036854775807) (n : Nat) : ∀ x ∈ zOf rs n, (-9223372036854775808 : Int) ≤ x ∧ x ≤ 9223372036854775807 := by
  induction rs with
  | nil => intro x hx; cases hx
  | cons r rs ih =>
    intro x hx
    unfold zOf at hx
    split at hx
    · exact h r (by simp) x hx
    · exact ih (fun r' hr' => h r' (by simp [hr'])) x hx
theorem rg_ok {lens bls : List Nat} {sel spl : Bool} (h1 : ∀ x ∈ lens, x < 16) (h2 : ∀ x ∈ bls, x < 16) {l : List Int} {rs : List Arow} (hl : RgL (rg lens bls sel spl) 0 l)
    (hz : ∀ r ∈ rs, ∀ x ∈ r.z, (-9223372036854775808 : Int) ≤ x ∧ x ≤ 9223372036854775807) : (rg lens bls sel spl).ok (va l rs) := by
  refine ⟨fun n => ?_, rfl⟩
  have zero : ∀ n, ((rg lens bls sel spl).v n).1 ≤ 0 ∧ 0 ≤ ((rg lens bls sel spl).v n).2 := by
    intro n
    show (ife (noneEq n lens) (ife (noneEq n bls) ((-9223372036854775808 : Int), (9223372036854775807 : Int)) (0, 1)) (0, 9223372036854775807)).1 ≤ 0 ∧ 0 ≤ (ife (noneEq n lens) (ife (noneEq n bls) ((-9223372036854775808 : Int), (9223372036854775807 : Int)) (0, 1)) (0, 9223372036854775807)).2
    cases noneEq n lens <;> cases noneEq n bls <;> decide
  by_cases hn : 16 ≤ n
  · have e1 : noneEq n lens = true := noneEq_mem fun x hx => by have := h1 x hx; omega
    have e2 : noneEq n bls = true := noneEq_mem fun x hx => by have := h2 x hx; omega
    have e3 : (va l rs).v n = ((zOf rs (n % 16))[n / 16 - 1]?).getD 0 := if_pos hn
    rw [e3]
    cases hx : (zOf rs (n % 16))[n / 16 - 1]? with
    | none => exact zero n
    | some x =>
      have := zOf_wf hz _ x (List.mem_of_getElem? hx)
      show (ife (noneEq n lens) (ife (noneEq n bls) ((-9223372036854775808 : Int), (9223372036854775807 : Int)) (0, 1)) (0, 9223372036854775807)).1 ≤ x ∧ x ≤ (ife (noneEq n lens) (ife (noneEq n bls) ((-9223372036854775808 : Int), (9223372036854775807 : Int)) (0, 1)) (0, 9223372036854775807)).2
      rw [e1, e2]; exact this
  · rw [va_lo (by omega)]
    cases hx : l[n]? with
    | none => exact zero n
    | some x => have := hl.get n x hx; rw [Nat.zero_add] at this; exact this
/-- What a list that came in holds, in world w. -/
def Arow.ok (w : World) (l : List Int) (r : Arow) : Prop :=
  r.id < 16 ∧ ∀ ad, r.a = some ad → ∀ i : Nat, (i : Int) < (l[r.id]?).getD 0 → ad.block < w.heap.size ∧ w.cell? (ad.add i) = some (.int .i64 ((r.z[i]?).getD 0))
theorem args_ok {w : World} {l : List Int} {rs : List Arow} (h : ∀ r ∈ rs, r.ok w l) : ArgsOk (va l rs) w := by
  have key : ∀ (rs : List Arow), (∀ r ∈ rs, r.ok w l) → ∀ id ad (i : Nat), aOf rs id = some ad → id < 16 ∧ ((i : Int) < (l[id]?).getD 0 → ad.block < w.heap.size ∧ w.cell? (ad.add i) = some (.int .i64 (((zOf rs id)[i]?).getD 0))) := by
    intro rs
    induction rs with
    | nil => intro _ id ad i h; cases h
    | cons r rs ih =>
      intro h id ad i ha
      unfold aOf at ha
      unfold zOf
      split at ha
      · rename_i e
        subst e
        rw [if_pos rfl]
        exact ⟨(h r (by simp)).1, (h r (by simp)).2 ad ha i⟩
      · rename_i e
        rw [if_neg e]
        exact ih (fun r' hr' => h r' (by simp [hr'])) id ad i ha
  refine ⟨rfl, fun id ad i ha hi => ?_⟩
  have h1 := key rs h id ad i ha
  rw [va_lo h1.1] at hi
  have e : (va l rs).v (argVar id i) = ((zOf rs id)[i]?).getD 0 := by
    show (if 16 ≤ argVar id i then ((zOf rs (argVar id i % 16))[argVar id i / 16 - 1]?).getD 0 else (l[argVar id i]?).getD 0) = _
    have e1 : argVar id i % 16 = id := by unfold argVar; omega
    have e2 : argVar id i / 16 - 1 = i := by unfold argVar; omega
    rw [if_pos (by unfold argVar; omega), e1, e2]
  rw [e]
  exact h1.2 hi
/-- The abstract arguments. -/
noncomputable def iv (n : Nat) : AV := .int .i64 (.atom (.var n))
noncomputable def bv (n : Nat) : AV := .bool (.atom (.var n))
noncomputable def sv (n : Nat) : AV := .xsl n (.atom (.var n))
theorem iv_rel {l : List Int} {rs : List Arow} {N : Env} {x : Int} (n : Nat) (hn : n < 16) (hx : (l[n]?).getD 0 = x) : (iv n).rel (va l rs) N (.int .i64 x) := by
  simp only [iv, AV.rel, E.den_atom, E.den]
  rw [va_lo hn, hx]
theorem agg4_rel {V : Va} {N : Env} {a b c d : AV} {x y z u : Value} (h1 : a.rel V N x) (h2 : b.rel V N y) (h3 : c.rel V N z) (h4 : d.rel V N u) : (AV.agg [a, b, c, d]).rel V N (.agg #[x, y, z, u]) := by
  simp only [AV.rel]
  exact ⟨_, rfl, rels_cons' h1 (rels_cons' h2 (rels_cons' h3 (rels_cons' h4 (rels_nil.2 rfl))))⟩
def b01 (b : Bool) : Int := if b then 1 else 0
theorem bv_rel {l : List Int} {rs : List Arow} {N : Env} {b : Bool} (n : Nat) (hn : n < 16) (hx : (l[n]?).getD 0 = b01 b) : (bv n).rel (va l rs) N (.bool b) := by
  simp only [bv, AV.rel, E.den_atom, E.den]
  rw [va_lo hn, hx]
  cases b
  · exact .inl ⟨rfl, rfl⟩
  · exact .inr ⟨rfl, rfl⟩
/-- A list of integers as it comes in. -/
def IsRow (w : World) (a : Option Addr) (len cap : Nat) (zs : List Int) : Prop :=
  (a = none ∧ len = 0 ∧ cap = 0 ∧ zs = []) ∨
  ∃ x, a = some x ∧ len ≤ cap ∧ cap ≤ maxLen ∧ zs.length = cap ∧ (∀ i, i < zs.length → w.cell? (x.add i) = some (.int .i64 (zs.getD i 0))) ∧ ∀ n ∈ zs, (Lit.int .i64 n).wf = true
theorem sv_rel {l : List Int} {rs : List Arow} {N : Env} {w : World} {a : Option Addr} {len cap : Nat} {zs : List Int} (h : IsRow w a len cap zs) (n : Nat) (hn : n < 16) (hx : (l[n]?).getD 0 = len) (ha : aOf rs n = a) : (sv n).rel (va l rs) N (.slice a len cap) := by
  simp only [sv, AV.rel, E.den_atom, E.den]
  refine ⟨a, len, cap, rfl, ?_, ?_, fun _ hlt => ⟨by rw [va_lo hn, hx]; exact Int.le_refl _, ?_⟩, fun h16 => by omega⟩
  · rw [va_lo hn, hx]
  · rcases h with ⟨_, rfl, rfl, _⟩ | ⟨_, _, h, _⟩
    · exact Nat.le_refl 0
    · exact h
  · rcases h with ⟨_, rfl, _, _⟩ | ⟨x, rfl, _⟩
    · omega
    · exact ⟨x, ha, rfl⟩
theorem wf_bd {a : Int} (w : (Lit.int .i64 a).wf = true) : -9223372036854775808 ≤ a ∧ a ≤ 9223372036854775807 := by
  simp [Lit.wf, IntKind.min, IntKind.max, IntKind.bits, IntKind.signed] at w
  omega
theorem b01_bd (b : Bool) : (0 : Int) ≤ b01 b ∧ b01 b ≤ 1 := by cases b <;> decide
theorem IsRow.len_bd {w : World} {a : Option Addr} {len cap : Nat} {zs : List Int} (h : IsRow w a len cap zs) : (0 : Int) ≤ (len : Int) ∧ (len : Int) ≤ 9223372036854775807 := by
  rcases h with ⟨_, rfl, _, _⟩ | ⟨_, _, h1, h2, _⟩
  · decide
  · have : maxLen ≤ 9223372036854775807 := by decide
    omega
theorem IsRow.bd {w : World} {a : Option Addr} {len cap : Nat} {zs : List Int} (h : IsRow w a len cap zs) : ∀ x ∈ zs, (-9223372036854775808 : Int) ≤ x ∧ x ≤ 9223372036854775807 := by
  rcases h with ⟨_, _, _, rfl⟩ | ⟨_, _, _, _, _, _, h⟩
  · intro x hx; cases hx
  · exact fun x hx => wf_bd (h x hx)
theorem IsRow.ok {w : World} {a : Option Addr} {len cap : Nat} {zs : List Int} (h : IsRow w a len cap zs) {l : List Int} {id : Nat} (hid : id < 16) (hx : (l[id]?).getD 0 = len) : (Arow.mk id a zs).ok w l := by
  refine ⟨hid, fun ad ha i hi => ?_⟩
  simp only at ha hi ⊢
  rw [hx] at hi
  rcases h with ⟨rfl, _⟩ | ⟨x, rfl, h1, h2, h3, h4, _⟩
  · cases ha
  · cases ha
    have := h4 i (by omega)
    rw [List.getD_eq_getElem?_getD] at this
    refine ⟨?_, this⟩
    rcases Nat.lt_or_ge ad.block w.heap.size with hb | hb
    · exact hb
    · unfold World.cell? at this
      rw [addr_block, Array.getElem?_eq_none hb] at this
      simp at this
/-- A law's run, over a world with lists. -/
theorem law_at {P : Program} {R : Rg} {V : Va} (hR : R.ok V) {cx : Cx} (hx : ∀ V, R.ok V → cx.ok P V) {n : Nat} {f : FuncId} {as : List AV} {vs : Array Value} {sp : List E} (hs : ∀ N, AV.rels V N as vs.toList)
    (h : (lawRunS P R cx n f as sp).good = true) (w : World) (ha : ArgsOk V w) : Calls P f vs w fun e w' => e = .returned (.bool true) ∧ Below w.heap.size w w' :=
  (law_okS hR hx hs h w ha).mono fun _ _ h => ⟨h.1, h.2.1⟩
theorem law_atP {P : Program} {R : Rg} {V : Va} (hR : R.ok V) {cx : Cx} (hx : ∀ V, R.ok V → cx.ok P V) {n : Nat} {f : FuncId} {as : List AV} {vs : Array Value} {sp : List E} (hs : ∀ N, AV.rels V N as vs.toList)
    {e : E} {lo : Int} {m : Nat} (hlo : lo ≤ (e.rng R).1) (hhi : (e.rng R).2 < lo + m) (h : ∀ i : Nat, i < m → (lawRunF P R cx n f as (isE e (lo + i)) sp).good = true) (w : World) (ha : ArgsOk V w) :
    Calls P f vs w fun e w' => e = .returned (.bool true) ∧ Below w.heap.size w w' :=
  (law_okP hR hx hs hlo hhi h w ha).mono fun _ _ h => ⟨h.1, h.2.1⟩
/-- A run for each pair of values of two numbers. -/
theorem law_atP2 {P : Program} {R : Rg} {V : Va} (hR : R.ok V) {cx : Cx} (hx : ∀ V, R.ok V → cx.ok P V) {n : Nat} {f : FuncId} {as : List AV} {vs : Array Value} {sp : List E} (hs : ∀ N, AV.rels V N as vs.toList)
    {e e' : E} {lo lo' : Int} {m m' : Nat} (hlo : lo ≤ (e.rng R).1) (hhi : (e.rng R).2 < lo + m) (hlo' : lo' ≤ (e'.rng R).1) (hhi' : (e'.rng R).2 < lo' + m')
    (h : ∀ i : Nat, i < m → ∀ j : Nat, j < m' → (lawRunF P R cx n f as (isE e (lo + i) ++ isE e' (lo' + j)) sp).good = true) (w : World) (ha : ArgsOk V w) :
    Calls P f vs w fun e w' => e = .returned (.bool true) ∧ Below w.heap.size w w' := by
  have hr := E.rng_ok hR e
  have hr' := E.rng_ok hR e'
  refine (law_okF hR hx hs (fun x hx => ?_) (h (e.den V - lo).toNat (by omega) (e'.den V - lo').toNat (by omega)) w ha).mono fun _ _ h => ⟨h.1, h.2.1⟩
  rcases List.mem_append.1 hx with hx | hx
  · exact isE_ok (v := lo + (e.den V - lo).toNat) (by omega) x hx
  · exact isE_ok (v := lo' + (e'.den V - lo').toNat) (by omega) x hx
/-- A run for each value of a number that came in, told as it is, and two beyond. -/
theorem law_atL {P : Program} {R : Rg} {V : Va} (hR : R.ok V) {cx : Cx} (hx : ∀ V, R.ok V → cx.ok P V) {n : Nat} {f : FuncId} {as : List AV} {asL : Int → List AV} {vs : Array Value} {sp : List E} (x : Nat) (hs : ∀ N, AV.rels V N as vs.toList)
    (hsL : ∀ N v, V.v x = v → AV.rels V N (asL v) vs.toList) {lo : Int} {m : Nat} (hl : (lawRunF P R cx n f as [E.sub (.k (lo - 1)) (.atom (.var x))] sp).good = true)
    (hh : (lawRunF P R cx n f as [E.sub (.atom (.var x)) (.k (lo + m))] sp).good = true) (h : ∀ i : Nat, i < m → (lawRunF P R cx n f (asL (lo + i)) [] sp).good = true) (w : World) (ha : ArgsOk V w) :
    Calls P f vs w fun e w' => e = .returned (.bool true) ∧ Below w.heap.size w w' := by
  have one : ∀ e : E, 0 ≤ e.den V → Fs.ok V [e] := fun e he y hy => by rw [List.mem_singleton.1 hy]; exact he
  rcases Int.lt_or_le (V.v x) lo with h1 | h1
  · exact (law_okF hR hx hs (one _ (by rw [E.den_sub, E.den_atom]; simp only [E.den]; omega)) hl w ha).mono fun _ _ h => ⟨h.1, h.2.1⟩
  · rcases Int.lt_or_le (V.v x) (lo + m) with h2 | h2
    · exact (law_okF hR hx (fun N => hsL N (lo + (V.v x - lo).toNat) (by omega)) (fun _ h => by cases h) (h (V.v x - lo).toNat (by omega)) w ha).mono fun _ _ h => ⟨h.1, h.2.1⟩
    · exact (law_okF hR hx hs (one _ (by rw [E.den_sub, E.den_atom]; simp only [E.den]; omega)) hh w ha).mono fun _ _ h => ⟨h.1, h.2.1⟩
theorem lit_rel {V : Va} {N : Env} {kd : IntKind} {v a : Int} (h : a = v) : (AV.int kd (.k v)).rel V N (.int kd a) := by subst h; simp only [AV.rel, E.den]
/-- Numbers to be tried one by one. -/
noncomputable def andE (v m : Nat) : E := mkBit .and .i64 (.atom (.var v)) (.k (Int.ofNat m))
noncomputable def mdE (v d : Nat) : E := .atom (.md (.atom (.var v)) (Int.ofNat d))
noncomputable def umdE (v d : Nat) : E := .atom (.md (.atom (.wr .u64 (.atom (.var v)))) (Int.ofNat d))
/-! ### Ranges told one by one -/
noncomputable def rangeN (l : List (Int × Int)) (n : Nat) : Int × Int := List.rec (motive := fun _ => Nat → Int × Int) (fun _ => (-9223372036854775808, 9223372036854775807)) (fun q _ ih n => Nat.rec (motive := fun _ => Int × Int) q (fun m _ => ih m) n) l n
noncomputable def rgv (l : List (Int × Int)) (sel spl : Bool) (prv : Nat := 0) : Rg := ⟨fun n => rangeN l n, fun _ => (0, 0), sel, spl, prv⟩
def InR : List (Int × Int) → List Int → Prop
  | [], _ => True
  | q :: l, m => (q.1 ≤ (m[0]?).getD 0 ∧ (m[0]?).getD 0 ≤ q.2) ∧ InR l m.tail
theorem rangeN_ok : ∀ (l : List (Int × Int)) (m : List Int) (n : Nat), InR l m → (∀ x ∈ m, (-9223372036854775808 : Int) ≤ x ∧ x ≤ 9223372036854775807) → (rangeN l n).1 ≤ (m[n]?).getD 0 ∧ (m[n]?).getD 0 ≤ (rangeN l n).2
  | [], m, n, _, h => by
    show (-9223372036854775808 : Int) ≤ _ ∧ _ ≤ (9223372036854775807 : Int)
    cases hx : m[n]? with
    | none => decide
    | some x => exact h x (List.mem_of_getElem? hx)
  | q :: l, m, 0, h, _ => h.1
  | q :: l, m, n + 1, h, hm => by
    have := rangeN_ok l m.tail n h.2 (fun x hx => hm x (List.mem_of_mem_tail hx))
    rw [List.getElem?_tail] at this
    exact this
theorem rgv_ok {l : List (Int × Int)} {sel spl : Bool} {prv : Nat} (hl : l.length ≤ 16) {m : List Int} (h : InR l m) (hm : ∀ x ∈ m, (-9223372036854775808 : Int) ≤ x ∧ x ≤ 9223372036854775807) : (rgv l sel spl prv).ok (va m []) := by
  refine ⟨fun n => ?_, rfl⟩
  show (rangeN l n).1 ≤ _ ∧ _ ≤ (rangeN l n).2
  by_cases hn : 16 ≤ n
  · have e3 : (va m []).v n = 0 := by
      show (if 16 ≤ n then ((zOf [] (n % 16))[n / 16 - 1]?).getD 0 else (m[n]?).getD 0) = 0
      rw [if_pos hn]; simp [zOf]
    rw [e3]
    have : ∀ (l : List (Int × Int)) (n : Nat), l.length ≤ n → rangeN l n = (-9223372036854775808, 9223372036854775807) := by
      intro l
      induction l with
      | nil => intro n _; rfl
      | cons q l ih =>
        intro n hn
        cases n with
        | zero => simp at hn
        | succ n => exact ih n (by simpa using hn)
    rw [this l n (by omega)]; decide
  · rw [va_lo (by omega)]
    exact rangeN_ok l m n h hm
theorem law_atF {P : Program} {R : Rg} {V : Va} (hR : R.ok V) {cx : Cx} (hx : ∀ V, R.ok V → cx.ok P V) {n : Nat} {f : FuncId} {as : List AV} {vs : Array Value} {fs sp : List E} (hs : ∀ N, AV.rels V N as vs.toList) (hf : Fs.ok V fs)
    (h : (lawRunF P R cx n f as fs sp).good = true) (w : World) (ha : ArgsOk V w) : Calls P f vs w fun e w' => e = .returned (.bool true) ∧ Below w.heap.size w w' :=
  (law_okF hR hx hs hf h w ha).mono fun _ _ h => ⟨h.1, h.2.1⟩
theorem litb_rel {V : Va} {N : Env} {v : Int} {b : Bool} (h : b01 b = v) : (AV.bool (.k v)).rel V N (.bool b) := by
  subst h
  simp only [AV.rel, E.den]
  cases b
  · exact .inl ⟨rfl, rfl⟩
  · exact .inr ⟨rfl, rfl⟩
/-! ### Rows of integers by value -/
section
variable {H : Type} {enc : TypeId × Value → H} {P : Program} {w : World} {spare : Nat → Bool}
theorem open_row {t e : TypeId} {n : Nat} {v : Value} {d : DataW H} {ps : List MemPlace} (ht : P.underlying t = some (.array n e)) (he : P.underlying e = some (.int .i64)) (hc : P.cellsOf e = 1) (hn : P.cellsOf t = n)
    (hv : Value.okWide P w .any 0 t v) (hd : DataW.Trod enc P w 0 spare true t v d ps) : ∃ zs : List Int, v = .agg (zs.map (Value.int .i64)).toArray ∧ zs.length = n ∧ ∀ z ∈ zs, (Lit.int .i64 z).wf = true := by
  simp only [Value.okWide, ht] at hv
  obtain ⟨cs, rfl, hsz, _⟩ := hv
  obtain ⟨fuel, hf⟩ := hd
  simp only [Value.cells] at hf
  obtain ⟨xs, m, _, _, hl, hxl, hel⟩ := DataW.trod_array ht hf
  have hall : ∀ i, i < n → ∃ z : Int, cs[i]? = some (.int .i64 z) ∧ (Lit.int .i64 z).wf = true := by
    intro i hi
    have h1 := hel i hi
    rw [hc, Nat.mul_one] at h1
    have hx : xs[i]? = some (xs[i]'(by omega)) := List.getElem?_eq_getElem _
    rw [hx] at h1
    obtain ⟨z, h2, _, h3⟩ := DataW.trod_int he h1
    refine ⟨z, ?_, h3⟩
    have h4 : ((cs.toList.drop i).take 1)[0]? = some (Value.int .i64 z) := by rw [h2]; rfl
    rw [List.getElem?_take, if_pos (by omega), List.getElem?_drop] at h4
    simpa using h4
  have hsz' : cs.size = n := hsz.trans hn
  refine ⟨cs.toList.map fun v => match v with | .int _ z => z | _ => 0, ?_, by simp [hsz'], ?_⟩
  · congr 1
    apply Array.ext'
    apply List.ext_getElem?
    intro i
    simp only [List.map_map, List.getElem?_map]
    rcases Nat.lt_or_ge i n with hi | hi
    · obtain ⟨z, h1, _⟩ := hall i hi
      rw [Array.getElem?_toList, h1]
      rfl
    · rw [Array.getElem?_toList, Array.getElem?_eq_none (by omega)]
      rfl
  · intro z hz
    obtain ⟨i, hi, e⟩ := List.getElem_of_mem hz
    simp only [List.length_map, Array.length_toList] at hi
    obtain ⟨y, h1, h2⟩ := hall i (by omega)
    have : z = y := by
      rw [← e]
      simp only [List.getElem_map, Array.getElem_toList]
      have : cs[i] = .int .i64 y := by
        have := Array.getElem?_eq_getElem (xs := cs) (i := i) (by omega)
        rw [h1] at this; injection this with this; exact this.symm
      rw [this]
    rw [this]; exact h2
end
theorem four_of {l : List Int} (h : l.length = 4) : ∃ a b c d, l = [a, b, c, d] := by
  match l, h with
  | [a, b, c, d], _ => exact ⟨a, b, c, d, rfl⟩
end Go.RX
