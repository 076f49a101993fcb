/- RX, part 10: binary and unary operators, conversions, maps without entries. -/
import Derived.Test.YtoheklommpochaaRxC
import Derived.Laws.LoneSync
namespace Go.RX
section
variable {P : Program} {α : Type} {V : Va} {W0 : World} {N : Env} {g : G} {p : α → Prop} {k : AV → G → Rs α} {w : World}

theorem says_lt {R : Rg} {F : List E} (hR : R.ok V) (hF : Fs.ok V F) (a b : E) : Says V (mkLt0 R F (a.sub b)) (decide (a.den V < b.den V)) := by
  unfold Says
  rw [den_mkLt0 hR hF, E.den_sub]
  by_cases h : a.den V < b.den V
  · rw [if_pos (by omega)]; simp [h]
  · rw [if_neg (by omega)]; simp [h]
/-- e, or the number that the facts leave to it. -/
noncomputable def pinE (R : Rg) (F : List E) (e : E) : E := ife e.isK e (match pin R F e with | some n => .k n | none => e)
theorem den_pinE {R : Rg} (hR : R.ok V) {F : List E} (hF : Fs.ok V F) (e : E) : (pinE R F e).den V = e.den V := by
  unfold pinE
  cases e.isK
  · rw [ife_false]
    split
    · rename_i n h; exact (pin_ok hR hF h).symm
    · rfl
  · rfl
/-- A product of which one side is known. -/
noncomputable def mulN (R : Rg) (F : List E) (a : E) : E := match a with
  | .mul x y => match pin R F x with
    | some n => E.smul n (.atom y)
    | none => match pin R F y with
      | some n => E.smul n (.atom x)
      | none => .atom (.mul x y)
  | a => .atom a
theorem den_mulN {R : Rg} (hR : R.ok V) {F : List E} (hF : Fs.ok V F) (a : E) : (mulN R F a).den V = a.den V := by
  unfold mulN
  split
  · rename_i x y
    split
    · rename_i n hn
      rw [E.den_smul, E.den_atom, ← pin_ok hR hF hn]; simp only [E.den]
    · split
      · rename_i n hn
        rw [E.den_smul, E.den_atom, ← pin_ok hR hF hn]; simp only [E.den]; exact Int.mul_comm _ _
      · rw [E.den_atom]
  · rw [E.den_atom]
/-- With what is known of the products' sides. -/
noncomputable def unmul (R : Rg) (F : List E) (e : E) : E :=
  E.rec (motive := fun _ => E) (fun n => .k n) (fun c a _ _ ih => (E.smul c (mulN R F a)).add ih)
    (fun _ => e) (fun _ _ => e) (fun _ _ => e) (fun _ _ _ _ _ _ => e) (fun _ _ _ _ => e) (fun _ _ _ _ => e) (fun _ _ _ _ => e)
    (fun _ _ _ => e) (fun _ _ _ => e) (fun _ _ _ => e) (fun _ _ _ => e) (fun _ _ _ _ _ _ => e) (fun _ _ _ _ _ => e) e
noncomputable def hasMul (e : E) : Bool :=
  E.rec (motive := fun _ => Bool) (fun _ => false) (fun _ a _ _ ih => match a with | .mul _ _ => true | _ => ih)
    (fun _ => false) (fun _ _ => false) (fun _ _ => false) (fun _ _ _ _ _ _ => false) (fun _ _ _ _ => false) (fun _ _ _ _ => false) (fun _ _ _ _ => false)
    (fun _ _ _ => false) (fun _ _ _ => false) (fun _ _ _ => false) (fun _ _ _ => false) (fun _ _ _ _ _ _ => false) (fun _ _ _ _ _ => false) e
noncomputable def unM (R : Rg) (F : List E) (e : E) : E := ife (hasMul e) (ife (lin e) (unmul R F e) e) e
theorem den_unM {R : Rg} (hR : R.ok V) {F : List E} (hF : Fs.ok V F) (e : E) : (unM R F e).den V = e.den V := by
  unfold unM
  cases hasMul e
  · rfl
  · cases hl : lin e
    · rfl
    · simp only [ife_true]
      have key : ∀ (z e : E), lin e = true → (E.rec (motive := fun _ => E) (fun n => .k n) (fun c a _ _ ih => (E.smul c (mulN R F a)).add ih)
          (fun _ => z) (fun _ _ => z) (fun _ _ => z) (fun _ _ _ _ _ _ => z) (fun _ _ _ _ => z) (fun _ _ _ _ => z) (fun _ _ _ _ => z)
          (fun _ _ _ => z) (fun _ _ _ => z) (fun _ _ _ => z) (fun _ _ _ => z) (fun _ _ _ _ _ _ => z) (fun _ _ _ _ _ => z) e : E).den V = e.den V := by
        intro z e
        induction e with
        | k n => intro _; rfl
        | t c a r _ ir =>
          intro h
          have := ir h
          simp only at this ⊢
          rw [E.den_add, E.den_smul, den_mulN hR hF, this]
          simp only [E.den]
        | _ => intro h; cases h
      exact key e e hl
/-- A rest; of a number that is not below 0 it is not below 0. -/
noncomputable def remK (R : Rg) (kd : IntKind) (a : E) (n : Int) (g : G) (k : AV → G → Rs α) : Rs α :=
  ife (leI 0 (a.rng R).1) (k (.int kd (pinE R g.fs (mkMd R g.fs a n))) g)
    (ife (a.geq0 R g.fs) (k (.int kd (pinE R g.fs (mkMd R g.fs a n))) (g.addF1 (pinE R g.fs (mkMd R g.fs a n)))) (k (.int kd (pinE R g.fs (mkMd R g.fs a n))) g))
theorem remK_ok {R : Rg} (hR : R.ok V) (r : Grel V N W0 g w) {kd : IntKind} {a : E} {n : Int} (h : (remK R kd a n g k).All V p) :
    ∃ g', Knows V N W0 w g g' ∧ (k (.int kd (pinE R g.fs (mkMd R g.fs a n))) g').All V p := by
  have refl : Knows V N W0 w g g := ⟨r, Ext.refl _ _, rfl⟩
  unfold remK at h
  cases h1 : leI 0 (a.rng R).1
  · rw [h1, ife_false] at h
    cases h2 : a.geq0 R g.fs
    · rw [h2] at h; exact ⟨g, refl, h⟩
    · rw [h2] at h
      have hp := E.geq0_ok hR r.facts h2
      refine ⟨_, ⟨r.fact ?_, ⟨Env.le.refl _, fun _ _ => ⟨rfl, rfl⟩, Nat.le_refl _, rfl, rfl, fun _ _ _ h => h⟩, rfl⟩, h⟩
      rw [den_pinE hR r.facts, den_mkMd hR r.facts]
      exact Int.tmod_nonneg n hp
  · rw [h1] at h; exact ⟨g, refl, h⟩
/-- Integers of one kind. -/
noncomputable def aArithO (R : Rg) (op : BinOp) (kd : IntKind) (a b : E) (g : G) (k : AV → G → Rs α) : Rs α :=
  match op with
  | .add => k (.int kd (mkWr R g.fs kd (a.add b))) g
  | .sub => k (.int kd (mkWr R g.fs kd (a.sub b))) g
  | .mul => k (.int kd (mkWr R g.fs kd (mkMul (pinE R g.fs a) (pinE R g.fs b)))) g
  | .quo => concr R b g fun n g => ife (leI 1 n) (k (.int kd (mkWr R g.fs kd (mkDv R g.fs a n))) g) (.bad 150)
  | .rem => concr R b g fun n g => ife (leI 1 n) (remK R kd a n g k) (.bad 151)
  | .and => k (.int kd (pinE R g.fs (mkBit .and kd a b))) g
  | .or => k (.int kd (mkBit .or kd a b)) g
  | .xor => k (.int kd (mkBit .xor kd a b)) g
  | .andNot => k (.int kd (mkBit .andNot kd a b)) g
  | .eql => k (.bool (mkEq0 R g.fs (unM R g.fs (a.sub b)))) g
  | .neq => k (.bool (mkNot (mkEq0 R g.fs (a.sub b)))) g
  | .lss => k (.bool (mkLt0 R g.fs (a.sub b))) g
  | .gtr => k (.bool (mkLt0 R g.fs (b.sub a))) g
  | .leq => k (.bool (mkNot (mkLt0 R g.fs (b.sub a)))) g
  | .geq => k (.bool (mkNot (mkLt0 R g.fs (a.sub b)))) g
  | _ => .bad 152
/-- By the operator alone. -/
noncomputable def aArithC (op : BinOp) : (α : Type) → Rg → IntKind → E → E → G → (AV → G → Rs α) → Rs α :=
  BinOp.rec (motive := fun _ => (α : Type) → Rg → IntKind → E → E → G → (AV → G → Rs α) → Rs α)
    (fun _ R kd a b g k => k (.int kd (mkWr R g.fs kd (a.add b))) g)
    (fun _ R kd a b g k => k (.int kd (mkWr R g.fs kd (a.sub b))) g)
    (fun _ R kd a b g k => k (.int kd (mkWr R g.fs kd (mkMul (pinE R g.fs a) (pinE R g.fs b)))) g)
    (fun _ R kd a b g k => concr R b g fun n g => ife (leI 1 n) (k (.int kd (mkWr R g.fs kd (mkDv R g.fs a n))) g) (.bad 150))
    (fun _ R kd a b g k => concr R b g fun n g => ife (leI 1 n) (remK R kd a n g k) (.bad 151))
    (fun _ R kd a b g k => k (.int kd (pinE R g.fs (mkBit .and kd a b))) g)
    (fun _ _ kd a b g k => k (.int kd (mkBit .or kd a b)) g)
    (fun _ _ kd a b g k => k (.int kd (mkBit .xor kd a b)) g)
    (fun _ _ _ _ _ _ _ => .bad 152)
    (fun _ _ _ _ _ _ _ => .bad 152)
    (fun _ _ kd a b g k => k (.int kd (mkBit .andNot kd a b)) g)
    (fun _ R _ a b g k => k (.bool (mkEq0 R g.fs (unM R g.fs (a.sub b)))) g)
    (fun _ R _ a b g k => k (.bool (mkNot (mkEq0 R g.fs (a.sub b)))) g)
    (fun _ R _ a b g k => k (.bool (mkLt0 R g.fs (a.sub b))) g)
    (fun _ R _ a b g k => k (.bool (mkNot (mkLt0 R g.fs (b.sub a)))) g)
    (fun _ R _ a b g k => k (.bool (mkLt0 R g.fs (b.sub a))) g)
    (fun _ R _ a b g k => k (.bool (mkNot (mkLt0 R g.fs (a.sub b)))) g) op
theorem aArithC_eq (R : Rg) (op : BinOp) (kd : IntKind) (a b : E) (g : G) (k : AV → G → Rs α) : aArithC op α R kd a b g k = aArithO R op kd a b g k := by cases op <;> rfl
noncomputable def aShift (R : Rg) (op : BinOp) (kd : IntKind) (a b : E) (g : G) (k : AV → G → Rs α) : Rs α :=
  concr R b g fun n g => natK n fun n => match op with
  | .shl => k (.int kd (mkWr R g.fs kd (a.smul (2 ^ Nat.min n kd.bits)))) g
  | .shr => k (.int kd (mkShr R a (Nat.min n kd.bits))) g
  | _ => .bad 153
theorem leD (a b : Int) : decide (a ≤ b) = !decide (b < a) := by by_cases h : a ≤ b <;> simp [h] <;> omega
theorem leI_one {n : Int} (h : leI 1 n = true) : 0 < n := by have := leI_iff.1 h; omega
theorem aArith_ok {R : Rg} (hR : R.ok V) (r : Grel V N W0 g w) {op : BinOp} (hop : op ≠ .shl ∧ op ≠ .shr) {kd : IntKind} {a b : E} {t : TypeId} (h : (aArithO R op kd a b g k).All V p) :
    Does P V W0 N g p k w (binOp op t (.int kd (a.den V)) (.int kd (b.den V))) := by
  have hF := r.facts
  unfold aArithO at h
  split at h
  · exact Does.val r (v := .int kd (kd.wrap (a.den V + b.den V))) (by simp only [AV.rel, den_mkWr hR hF, E.den_add]) h (by simp [binOp, Op.intArith])
  · exact Does.val r (v := .int kd (kd.wrap (a.den V - b.den V))) (by simp only [AV.rel, den_mkWr hR hF, E.den_sub]) h (by simp [binOp, Op.intArith])
  · exact Does.val r (v := .int kd (kd.wrap (a.den V * b.den V))) (by simp only [AV.rel, den_mkWr hR hF, den_mkMul, den_pinE hR hF]) h (by simp [binOp, Op.intArith])
  · obtain ⟨n, g', e1, kn, h⟩ := concr_ok hR r h
    obtain ⟨e2, h⟩ := ife1 h (fun x => x)
    have hn := leI_one e2
    refine Does.know kn (Does.val kn.1 (v := .int kd (kd.wrap ((a.den V).tdiv n))) (by simp only [AV.rel, den_mkWr hR kn.1.facts, den_mkDv hR kn.1.facts a hn]) h ?_)
    simp only [binOp, Op.intDiv, e1]
    rw [if_neg (by simp), if_neg (by omega)]; rfl
  · obtain ⟨n, g', e1, kn, h⟩ := concr_ok hR r h
    obtain ⟨e2, h⟩ := ife1 h (fun x => x)
    have hn := leI_one e2
    obtain ⟨g2, kn2, h⟩ := remK_ok hR kn.1 h
    refine Does.know (kn.trans kn2) (Does.val kn2.1 (v := .int kd ((a.den V).tmod n)) (by simp only [AV.rel, den_pinE hR kn.1.facts, den_mkMd hR kn.1.facts a n]) h ?_)
    simp only [binOp, Op.intDiv, e1]
    rw [if_neg (by simp), if_neg (by omega)]; rfl
  · exact Does.val r (v := .int kd (bitI .and kd (a.den V) (b.den V))) (by simp only [AV.rel, den_pinE hR hF, den_mkBit]) h (by simp [binOp, Op.intBits, bitI])
  · exact Does.val r (v := .int kd (bitI .or kd (a.den V) (b.den V))) (by simp only [AV.rel, den_mkBit]) h (by simp [binOp, Op.intBits, bitI])
  · exact Does.val r (v := .int kd (bitI .xor kd (a.den V) (b.den V))) (by simp only [AV.rel, den_mkBit]) h (by simp [binOp, Op.intBits, bitI])
  · exact Does.val r (v := .int kd (bitI .andNot kd (a.den V) (b.den V))) (by simp only [AV.rel, den_mkBit]) h (by simp [binOp, Op.intBits, bitI])
  · refine Does.val r (v := .bool (a.den V == b.den V)) (Says.rel ?_) h (by simp [binOp, Op.intCmp])
    unfold Says
    rw [den_mkEq0 hR hF, den_unM hR hF, E.den_sub]
    by_cases h : a.den V = b.den V
    · rw [if_pos (by omega)]; simp [h]
    · rw [if_neg (by omega)]; simp [h]
  · exact Does.val r (says_not (says_eq hR hF a b)).rel h (by simp [binOp, Op.intCmp]; rfl)
  · exact Does.val r (says_lt hR hF a b).rel h (by simp [binOp, Op.intCmp])
  · exact Does.val r (says_lt hR hF b a).rel h (by simp [binOp, Op.intCmp])
  · exact Does.val r (says_not (says_lt hR hF b a)).rel h (by simp [binOp, Op.intCmp, leD])
  · exact Does.val r (says_not (says_lt hR hF a b)).rel h (by simp [binOp, Op.intCmp, leD])
  · exact h.elim
theorem aShift_ok {R : Rg} (hR : R.ok V) (r : Grel V N W0 g w) {op : BinOp} {kd ky : IntKind} {a b : E} {t : TypeId} (h : (aShift R op kd a b g k).All V p) :
    Does P V W0 N g p k w (binOp op t (.int kd (a.den V)) (.int ky (b.den V))) := by
  unfold aShift at h
  obtain ⟨n, g', e1, kn, h⟩ := concr_ok hR r h
  obtain ⟨m, rfl, h⟩ := natK_ok h
  refine Does.know kn ?_
  split at h
  · refine Does.val kn.1 (v := .int kd (kd.wrap (a.den V * 2 ^ Nat.min m kd.bits))) (by simp only [AV.rel, den_mkWr hR kn.1.facts, E.den_smul]; rw [Int.mul_comm]) h ?_
    simp only [binOp, Op.shift, e1]
    rw [if_neg (by omega)]; rfl
  · refine Does.val kn.1 (v := .int kd ((a.den V).fdiv (2 ^ Nat.min m kd.bits))) ?_ h ?_
    · simp only [AV.rel, den_mkShr hR]
      rw [Int.fdiv_eq_ediv_of_nonneg]
      exact Int.le_of_lt (Int.pow_pos (by omega))
    · simp only [binOp, Op.shift, e1]
      rw [if_neg (by omega)]; rfl
  · exact h.elim

/-! ### strings: of bytes -/
noncomputable def byteOk (R : Rg) (F : List E) (a : AV) : Bool := match a with | .int .u8 e => ife (e.geq0 R F) ((E.sub (.k 255) e).geq0 R F) false | _ => false
noncomputable def bytesOk (R : Rg) (F : List E) (l : List AV) : Bool := List.rec (motive := fun _ => Bool) true (fun a _ ih => ife (byteOk R F a) ih false) l
theorem bytesOk_ok {R : Rg} {F : List E} (hR : R.ok V) (hF : Fs.ok V F) : ∀ {as : List AV} {l : List Value}, bytesOk R F as = true → AV.rels V N as l → ∃ bs : List UInt8, l = bs.map fun b => Value.int .u8 b.toNat
  | [], l, _, h => ⟨[], rels_nil.1 h⟩
  | a :: as, l, h, h' => by
    change ife (byteOk R F a) (bytesOk R F as) false = true at h
    cases hb : byteOk R F a
    · rw [hb] at h; cases h
    · rw [hb] at h
      obtain ⟨v, vs, rfl, h2, h3⟩ := rels_cons.1 h'
      obtain ⟨bs, rfl⟩ := bytesOk_ok hR hF h h3
      unfold byteOk at hb
      split at hb
      · rename_i e
        cases h1 : e.geq0 R F
        · rw [h1] at hb; cases hb
        · rw [h1] at hb
          simp only [ife_true] at hb
          have a1 := E.geq0_ok hR hF h1
          have a2 := E.geq0_ok hR hF hb
          rw [E.den_sub] at a2; simp only [E.den] at a2
          simp only [AV.rel] at h2
          subst h2
          refine ⟨UInt8.ofNat (e.den V).toNat :: bs, ?_⟩
          simp only [List.map_cons, UInt8.toNat_ofNat']
          congr 2
          omega
      · cases hb
noncomputable def eqL (R : Rg) (F : List E) : List AV → List AV → Option E
  | [], [] => some (.k 1)
  | [], _ :: _ => some (.k 0)
  | _ :: _, [] => some (.k 0)
  | a :: as, b :: bs => match a, b, eqL R F as bs with
    | .int .u8 ea, .int .u8 eb, some r => some (mkIte (mkEq0 R F (ea.sub eb)) r (.k 0))
    | _, _, _ => none
theorem eqL_ok {R : Rg} {F : List E} (hR : R.ok V) (hF : Fs.ok V F) : ∀ (as bs : List AV) {e : E} {x y : List UInt8}, eqL R F as bs = some e → AV.rels V N as (x.map fun b => Value.int .u8 b.toNat) → AV.rels V N bs (y.map fun b => Value.int .u8 b.toNat) →
    Says V e (x == y) := by
  intro as
  induction as with
  | nil =>
    intro bs e x y h hx hy
    have hx0 : x = [] := by have := rels_nil.1 hx; simpa using this
    subst hx0
    cases bs with
    | nil =>
      have hy0 : y = [] := by have := rels_nil.1 hy; simpa using this
      subst hy0
      simp [eqL] at h; subst h; rfl
    | cons b bs =>
      simp [eqL] at h; subst h
      obtain ⟨v, vs, e, _⟩ := rels_cons.1 hy
      cases y with
      | nil => simp at e
      | cons y ys => rfl
  | cons a as ih =>
    intro bs e x y h hx hy
    obtain ⟨v, vs, ex, hv, hvs⟩ := rels_cons.1 hx
    cases x with
    | nil => simp at ex
    | cons x xs =>
      simp only [List.map_cons, List.cons.injEq] at ex
      obtain ⟨rfl, rfl⟩ := ex
      cases bs with
      | nil =>
        have hy0 : y = [] := by have := rels_nil.1 hy; simpa using this
        subst hy0
        simp [eqL] at h; subst h; rfl
      | cons b bs =>
        obtain ⟨u, us, ey, hu, hus⟩ := rels_cons.1 hy
        cases y with
        | nil => simp at ey
        | cons y ys =>
          simp only [List.map_cons, List.cons.injEq] at ey
          obtain ⟨rfl, rfl⟩ := ey
          simp only [eqL] at h
          split at h
          · rename_i ea eb r hr
            injection h with h; subst h
            have s2 := ih bs hr hvs hus
            have s1 := says_eq hR hF ea eb
            simp only [AV.rel] at hv hu
            injection hv with _ hv; injection hu with _ hu
            have := says_and s1 s2
            have e : ((x :: xs) == (y :: ys)) = (ea.den V == eb.den V && xs == ys) := by
              rw [← hv, ← hu]
              rw [Bool.eq_iff_iff]
              simp only [List.cons_beq_cons, Bool.and_eq_true, beq_iff_eq]
              constructor
              · rintro ⟨h1, h2⟩; exact ⟨by rw [h1], h2⟩
              · rintro ⟨h1, h2⟩; exact ⟨UInt8.toNat_inj.1 (by omega), h2⟩
            rw [e]; exact this
          · cases h

/-! ### Binary operators -/
def AV.plain : AV → Bool
  | .bool _ => true
  | .ptr _ _ => true
  | .nilptr => true
  | .slice _ _ _ _ => true
  | .nilslice => true
  | .xsl _ _ => true
  | .aptr _ _ => true
  | .sptr _ _ _ _ _ => true
  | .map _ => true
  | .func _ _ _ => true
  | .nilfunc => true
  | _ => false
noncomputable def aBinO (P : Program) (R : Rg) (op : BinOp) (t : TypeId) (x y : AV) (g : G) (k : AV → G → Rs α) : Rs α :=
  match x, y with
  | .int ka a, .int kb b => match op with
    | .shl => aShift R .shl ka a b g k
    | .shr => aShift R .shr ka a b g k
    | op => ife (Nat.beq (IntKind.no ka) (IntKind.no kb)) (aArithO R op ka a b g k) (.bad 160)
  | .str as, .str bs => match op, eqL R g.fs as bs with
    | .eql, some e => k (.bool e) g
    | .neq, some e => k (.bool (mkNot e)) g
    | _, _ => .bad 161
  | .agg xs, .agg ys => ife (P.eqGuardType P.depth t) (.bad 162) (match op, aEq P R g.fs 20 t (.agg xs) (.agg ys) with
    | .eql, some e => k (.bool e) g
    | .neq, some e => k (.bool (mkNot e)) g
    | _, _ => .bad 163)
  | x, y => ife (ife x.plain y.plain false) (match op, aEq P R g.fs 2 t x y with
    | .eql, some e => k (.bool e) g
    | .neq, some e => k (.bool (mkNot e)) g
    | _, _ => .bad 164) (.bad 165)
noncomputable def aBinC (op : BinOp) : (α : Type) → Rg → IntKind → IntKind → E → E → G → (AV → G → Rs α) → Rs α :=
  BinOp.rec (motive := fun _ => (α : Type) → Rg → IntKind → IntKind → E → E → G → (AV → G → Rs α) → Rs α)
    (fun α R ka kb a b g k => ife (Nat.beq (IntKind.no ka) (IntKind.no kb)) (aArithC .add α R ka a b g k) (.bad 160))
    (fun α R ka kb a b g k => ife (Nat.beq (IntKind.no ka) (IntKind.no kb)) (aArithC .sub α R ka a b g k) (.bad 160))
    (fun α R ka kb a b g k => ife (Nat.beq (IntKind.no ka) (IntKind.no kb)) (aArithC .mul α R ka a b g k) (.bad 160))
    (fun α R ka kb a b g k => ife (Nat.beq (IntKind.no ka) (IntKind.no kb)) (aArithC .quo α R ka a b g k) (.bad 160))
    (fun α R ka kb a b g k => ife (Nat.beq (IntKind.no ka) (IntKind.no kb)) (aArithC .rem α R ka a b g k) (.bad 160))
    (fun α R ka kb a b g k => ife (Nat.beq (IntKind.no ka) (IntKind.no kb)) (aArithC .and α R ka a b g k) (.bad 160))
    (fun α R ka kb a b g k => ife (Nat.beq (IntKind.no ka) (IntKind.no kb)) (aArithC .or α R ka a b g k) (.bad 160))
    (fun α R ka kb a b g k => ife (Nat.beq (IntKind.no ka) (IntKind.no kb)) (aArithC .xor α R ka a b g k) (.bad 160))
    (fun _ R ka _ a b g k => aShift R .shl ka a b g k)
    (fun _ R ka _ a b g k => aShift R .shr ka a b g k)
    (fun α R ka kb a b g k => ife (Nat.beq (IntKind.no ka) (IntKind.no kb)) (aArithC .andNot α R ka a b g k) (.bad 160))
    (fun α R ka kb a b g k => ife (Nat.beq (IntKind.no ka) (IntKind.no kb)) (aArithC .eql α R ka a b g k) (.bad 160))
    (fun α R ka kb a b g k => ife (Nat.beq (IntKind.no ka) (IntKind.no kb)) (aArithC .neq α R ka a b g k) (.bad 160))
    (fun α R ka kb a b g k => ife (Nat.beq (IntKind.no ka) (IntKind.no kb)) (aArithC .lss α R ka a b g k) (.bad 160))
    (fun α R ka kb a b g k => ife (Nat.beq (IntKind.no ka) (IntKind.no kb)) (aArithC .leq α R ka a b g k) (.bad 160))
    (fun α R ka kb a b g k => ife (Nat.beq (IntKind.no ka) (IntKind.no kb)) (aArithC .gtr α R ka a b g k) (.bad 160))
    (fun α R ka kb a b g k => ife (Nat.beq (IntKind.no ka) (IntKind.no kb)) (aArithC .geq α R ka a b g k) (.bad 160)) op
noncomputable def aBin (P : Program) (R : Rg) (op : BinOp) (t : TypeId) (x y : AV) (g : G) (k : AV → G → Rs α) : Rs α :=
  x.onI (Rs α) (fun ka a => y.onI (Rs α) (fun kb b => aBinC op α R ka kb a b g k) (aBinO P R op t x y g k)) (aBinO P R op t x y g k)
theorem aBin_eq (P : Program) (R : Rg) (op : BinOp) (t : TypeId) (x y : AV) (g : G) (k : AV → G → Rs α) : aBin P R op t x y g k = aBinO P R op t x y g k := by
  have h : ∀ (ka kb : IntKind) (a b : E), aBinC op α R ka kb a b g k = aBinO P R op t (.int ka a) (.int kb b) g k := by
    intro ka kb a b
    have e := aArithC_eq R op ka a b g k
    revert e
    cases op <;> intro e <;> first | rfl | (show ife (Nat.beq (IntKind.no ka) (IntKind.no kb)) _ (.bad 160) = _; rw [e]; rfl)
  unfold aBin
  cases x <;> first | rfl | (cases y <;> first | rfl | exact h _ _ _ _)
/-- What is neither an integer, nor a string, nor an aggregate. -/
def plainV : Value → Bool
  | .bool _ => true
  | .pointer _ => true
  | .slice .. => true
  | .func .. => true
  | .nilFunc => true
  | .map _ => true
  | _ => false
theorem run_eqG {op : BinOp} {t : TypeId} {x y : Operand} {v u : Value} (hv : plainV v = true) (hu : plainV u = true) : (eqGuard op t x y v u).run P w = .ok () w := by
  cases v <;> simp [plainV] at hv <;> cases u <;> simp [plainV] at hu <;> cases op <;> rfl
theorem run_eql_plain {t : TypeId} {v u : Value} (hv : plainV v = true) (hu : plainV u = true) : (binOp .eql t v u).run P w = ((Op.equalIn 10000 t v u).run P w).andThen fun b w' => .ok (.bool b) w' := by
  cases v <;> simp [plainV] at hv <;> cases u <;> simp [plainV] at hu <;> simp [binOp, Op.equal, Op.maxDepth]
theorem run_neq_plain {t : TypeId} {v u : Value} (hv : plainV v = true) (hu : plainV u = true) : (binOp .neq t v u).run P w = ((Op.equalIn 10000 t v u).run P w).andThen fun b w' => .ok (.bool (!b)) w' := by
  cases v <;> simp [plainV] at hv <;> cases u <;> simp [plainV] at hu <;> simp [binOp, Op.equal, Op.maxDepth]
theorem eqGuard_int {op : BinOp} {t : TypeId} {x y : Operand} {ka kb : IntKind} {a b : Int} : (eqGuard op t x y (.int ka a) (.int kb b)).run P w = .ok () w := by
  cases op <;> rfl
theorem eqGuard_str {op : BinOp} {t : TypeId} {x y : Operand} {a b : ByteArray} : (eqGuard op t x y (.string a) (.string b)).run P w = .ok () w := by
  cases op <;> rfl
theorem aBin_ok {R : Rg} (hR : R.ok V) (r : Grel V N W0 g w) {op : BinOp} {t : TypeId} {ox oy : Operand} {x y : AV} {v u : Value} (hx : x.rel V N v) (hy : y.rel V N u) (h : (aBin P R op t x y g k).All V p) :
    Does P V W0 N g p k w (do eqGuard op t ox oy v u; binOp op t v u) := by
  have hF := r.facts
  have lift : (eqGuard op t ox oy v u).run P w = .ok () w → Does P V W0 N g p k w (binOp op t v u) → Does P V W0 N g p k w (do eqGuard op t ox oy v u; binOp op t v u) := by
    intro hg hd
    exact hd.map fun v' w' hs => by simp only [Sem.run_bind, hg, Result.andThen_ok]; exact hs
  rw [aBin_eq] at h
  unfold aBinO at h
  split at h
  · rename_i ka a kb b
    simp only [AV.rel] at hx hy
    subst hx hy
    refine lift eqGuard_int ?_
    split at h
    · exact aShift_ok hR r h
    · exact aShift_ok hR r h
    · rename_i h1 h2
      obtain ⟨hk, hU⟩ := ife1 h (fun x => x)
      have hk := IntKind.no_inj (Nat.eq_of_beq_eq_true hk)
      clear h
      subst hk
      exact aArith_ok hR r ⟨h1, h2⟩ hU
  · rename_i as bs
    simp only [AV.rel] at hx hy
    obtain ⟨a, rfl, ha⟩ := hx
    obtain ⟨b, rfl, hb⟩ := hy
    refine lift eqGuard_str ?_
    split at h
    · rename_i e he
      have s := eqL_ok hR hF as bs he ha hb
      exact Does.val r s.rel h (by simp [binOp, Op.stringOp, ByteArray.toList_eq])
    · rename_i e he
      have s := eqL_ok hR hF as bs he ha hb
      exact Does.val r (says_not s).rel h (by simp [binOp, Op.stringOp, ByteArray.toList_eq])
    · exact h.elim
  · rename_i xs ys
    have hx' := hx; have hy' := hy
    simp only [AV.rel] at hx hy
    obtain ⟨xv, rfl, _⟩ := hx
    obtain ⟨yv, rfl, _⟩ := hy
    cases hg : P.eqGuardType P.depth t
    · rw [hg] at h
      simp only [ife_false] at h
      refine lift (run_eqGuard_agg w op t ox oy xv yv hg) ?_
      split at h
      · rename_i e he
        obtain ⟨b, h1, s⟩ := aEq_ok hR hF w 20 _ _ _ _ _ _ he hx' hy' 10000 (by omega)
        exact Does.val r s.rel h (by rw [run_eql_struct, h1]; rfl)
      · rename_i e he
        obtain ⟨b, h1, s⟩ := aEq_ok hR hF w 20 _ _ _ _ _ _ he hx' hy' 10000 (by omega)
        exact Does.val r (says_not s).rel h (by rw [run_neq_struct, h1]; rfl)
      · exact h.elim
    · rw [hg] at h; exact h.elim
  · rename_i h1 h2 h3
    have h0 := ife2 h (fun x => x)
    clear h
    obtain ⟨k1, k2, h⟩ := h0
    have fx : ∀ (x : AV) (v : Value), x.plain = true → x.rel V N v → plainV v = true := by
      intro x v hk hr
      cases x <;> simp only [AV.rel] at hr
      case int kd e => cases hk
      case bool e => rcases hr with ⟨_, rfl⟩ | ⟨_, rfl⟩ <;> rfl
      case ptr => obtain ⟨b, _, rfl⟩ := hr; rfl
      case nilptr => subst hr; rfl
      case slice => obtain ⟨b, c, _, rfl, _⟩ := hr; rfl
      case nilslice => subst hr; rfl
      case xsl => obtain ⟨b, n, c, rfl, _⟩ := hr; rfl
      case aptr => obtain ⟨b, _, rfl, _⟩ := hr; rfl
      case sptr => obtain ⟨b, m, _, rfl, _⟩ := hr; rfl
      case map => obtain ⟨b, _, rfl⟩ := hr; rfl
      case func => obtain ⟨a, b, rfl, _⟩ := hr; rfl
      case nilfunc => subst hr; rfl
      all_goals cases hk
    have p1 := fx x v k1 hx
    have p2 := fx y u k2 hy
    split at h
    · rename_i e he
      obtain ⟨b, h1, s⟩ := aEq_ok hR hF w 2 _ _ _ _ _ _ he hx hy 10000 (by omega)
      exact lift (run_eqG p1 p2) (Does.val r s.rel h (by rw [run_eql_plain p1 p2, h1]; rfl))
    · rename_i e he
      obtain ⟨b, h1, s⟩ := aEq_ok hR hF w 2 _ _ _ _ _ _ he hx hy 10000 (by omega)
      exact lift (run_eqG p1 p2) (Does.val r (says_not s).rel h (by rw [run_neq_plain p1 p2, h1]; rfl))
    · exact h.elim

/-! ### Unary operators, conversions -/
noncomputable def aUn (R : Rg) (op : UnOp) (x : AV) (g : G) (k : AV → G → Rs α) : Rs α :=
  match op, x with
  | .neg, .int kd e => k (.int kd (mkWr R g.fs kd (E.sub (.k 0) e))) g
  | .not, .bool e => k (.bool (mkNot e)) g
  | _, _ => .bad 170
theorem aUn_ok {R : Rg} (hR : R.ok V) (r : Grel V N W0 g w) {op : UnOp} {x : AV} {v : Value} (hx : x.rel V N v) (h : (aUn R op x g k).All V p) : Does P V W0 N g p k w (Op.unary op v) := by
  unfold aUn at h
  split at h
  · rename_i kd e
    simp only [AV.rel] at hx; subst hx
    exact Does.val r (v := .int kd (kd.wrap (0 - e.den V))) (by simp only [AV.rel, den_mkWr hR r.facts, E.den_sub]; rfl) h (by simp [Op.unary, Op.intArith])
  · rename_i e
    obtain ⟨b, rfl, s⟩ := says_of_rel hx
    exact Does.val r (says_not s).rel h (by simp [Op.unary])
  · exact h.elim
noncomputable def aConv (P : Program) (R : Rg) (src dst : TypeId) (x : AV) (g : G) (k : AV → G → Rs α) : Rs α :=
  match x with
  | .int _ e => match P.underlying src, P.underlying dst with
    | some _, some (.int kd) => k (.int kd (mkWr R g.fs kd e)) g
    | _, _ => .bad 171
  | .nilslice => match P.underlying src, P.underlying dst with
    | some (.slice e), some .string => match P.underlying e with | some (.int .u8) => k (.str []) g | _ => .bad 172
    | _, _ => .bad 173
  | .slice id off len cap => match P.underlying src, P.underlying dst with
    | some (.slice e), some .string => match P.underlying e, slCells g (.slice id off len cap) len 1 with
      | some (.int .u8), some as => ife (bytesOk R g.fs as) (k (.str as) g) (.bad 174)
      | _, _ => .bad 175
    | _, _ => .bad 176
  | .ptr id off => match P.underlying src, P.underlying dst, hget g.heap id with
    | some (.pointer t), some .unsafePointer, some (.cells cs _ _ _) => match P.info? t with
      | some i => ife (ife (Nat.ble 1 i.size) (Nat.ble (Nat.succ off) (llen cs)) false) (k (.ptr id off) g) (.bad 177)
      | none => .bad 178
    | _, _, _ => .bad 179
  | _ => .bad 180
theorem foldl_bytes : ∀ (bs : List UInt8) (s : ByteArray), ((bs.map fun b => (b.toNat : Int)).foldl (fun r n => r.push (UInt8.ofNat n.toNat)) s).data.toList = s.data.toList ++ bs
  | [], s => by simp
  | b :: bs, s => by
    simp only [List.map_cons, List.foldl_cons]
    rw [foldl_bytes bs]
    simp [ByteArray.push]
theorem aConv_ok {R : Rg} (hR : R.ok V) (r : Grel V N W0 g w) {src dst : TypeId} {x : AV} {v : Value} (hx : x.rel V N v) (h : (aConv P R src dst x g k).All V p) : Does P V W0 N g p k w (convert src dst v) := by
  unfold aConv at h
  split at h
  · rename_i kd0 e
    simp only [AV.rel] at hx; subst hx
    split at h
    · rename_i sd kd hs hd
      refine Does.val r (v := .int kd (kd.wrap (e.den V))) (by simp only [AV.rel, den_mkWr hR r.facts]) h ?_
      simp only [convert, Sem.run_bind, run_underlying hs, run_underlying hd, Result.andThen_ok]
      rfl
    · exact h.elim
  · simp only [AV.rel] at hx; subst hx
    split at h
    · rename_i e hs hd
      split at h
      · rename_i he
        refine Does.val r (v := .string .empty) (by simp only [AV.rel]; exact ⟨_, rfl, rels_nil.2 rfl⟩) h ?_
        rw [run_convert_bytes_string w src dst e none 0 0 hs he hd]; rfl
      · exact h.elim
    · exact h.elim
  · rename_i id off len cap
    split at h
    · rename_i e hs hd
      split at h
      · rename_i as he has
        obtain ⟨hok, h⟩ := ife1 h (fun x => x)
        obtain ⟨xs, f1, f2, f3⟩ := slCells_ok (P := P) r hx (fun e => by cases e) has
        obtain ⟨bs, hbs⟩ := bytesOk_ok hR r.facts hok f2
        simp only [AV.rel] at hx
        obtain ⟨b, c, hb, rfl, hcap⟩ := hx
        have hxs : xs = ((bs.map fun b => (b.toNat : Int)).map (Value.int .u8)).toArray := by
          apply Array.ext'; rw [hbs]; simp
        have hload : (loadCells ⟨b, off, none⟩ len).run P w = .ok ((bs.map fun b => (b.toNat : Int)).map (Value.int .u8)).toArray w := by
          rw [← hxs]
          have : (Builtin.firstCells 1 len (.slice (some ⟨b, off, none⟩) len c)).run P w = (loadCells ⟨b, off, none⟩ len).run P w := by simp [Builtin.firstCells]
          rw [← this]; exact f1
        refine Does.val r (a := .str as) (v := .string ((bs.map fun b => (b.toNat : Int)).foldl (fun r n => r.push (UInt8.ofNat n.toNat)) ByteArray.empty)) ?_ h ?_
        · simp only [AV.rel]
          refine ⟨_, rfl, ?_⟩
          rw [foldl_bytes]
          rw [hbs] at f2
          simpa using f2
        · rw [run_convert_bytes_string w src dst e _ len c hs he hd]
          exact run_bytesToString w _ len c _ hload
      · exact h.elim
    · exact h.elim
  · rename_i id off
    split at h
    · rename_i t cs elem opn own hs hd hcs
      split at h
      · rename_i i hi
        obtain ⟨e1, e2, h⟩ := ife2 h (fun x => x)
        have e1 := Nat.le_of_ble_eq_true e1; have e2 := Nat.le_of_ble_eq_true e2
        rw [llen_eq] at e2
        have hx' := hx
        simp only [AV.rel] at hx
        obtain ⟨b, hb, rfl⟩ := hx
        obtain ⟨b', cc, fr, hb', hc, _, hlen, _, _, hrel⟩ := r.cells hcs
        rw [hb] at hb'; injection hb' with hb'; subst hb'
        have hcell : w.cell? ⟨b, off, none⟩ = some cc[off] := by rw [cell_at hc]; exact Array.getElem?_eq_getElem (by omega)
        refine Does.val r hx' h ?_
        exact run_convert_to_unsafe hs hd (by simp [hi]; omega) hcell
      · exact h.elim
    · exact h.elim
  · exact h.elim

/-! ### Maps without entries -/
noncomputable def aMap (g : G) (k : AV → G → Rs α) : Rs α := ife (Nat.ble (Nat.succ g.nx) g.lim) (k (.map g.nx) (g.new (.emap true))) (.bad 190)
theorem aMap_ok (r : Grel V N W0 g w) {t : TypeId} (h : (aMap g k).All V p) : Does P V W0 N g p k w (Instr.makeMap t none) := by
  obtain ⟨hlt, h⟩ := ife1 h (fun x => x)
  have hlt := Nat.le_of_ble_eq_true hlt
  obtain ⟨h1, h2⟩ := r.new (o := .emap true) (x := .map #[] 0) (by omega) rfl (fun _ _ _ e => by cases e) ⟨0, rfl⟩
  refine ⟨.map (some w.heap.size), _, _, _, _, ?_, h1, h2, ?_, h⟩
  · simp [Instr.makeMap]
  · simp only [AV.rel]; exact ⟨_, by simp [Env.bind], rfl⟩
noncomputable def aLookup (P : Program) (t : TypeId) (x ix : AV) (ok : Bool) (g : G) (k : AV → G → Rs α) : Rs α :=
  match x, P.underlying t with
  | .map id, some (.map key elem) => match hget g.heap id, P.underlying key, P.info? elem, ix with
    | some (.emap _), some (.int _), some i, .int _ _ => match i.zero with
      | some z => k (ife ok (.tup [ofVal z, .bool (.k 0)]) (ofVal z)) g
      | none => .bad 191
    | _, _, _, _ => .bad 192
  | _, _ => .bad 193
theorem aLookup_ok (r : Grel V N W0 g w) {t : TypeId} {x ix : AV} {v u : Value} {ok : Bool} (hx : x.rel V N v) (hi : ix.rel V N u) (h : (aLookup P t x ix ok g k).All V p) : Does P V W0 N g p k w (Instr.lookup t v u ok) := by
  unfold aLookup at h
  split at h
  · rename_i id key elem ht
    simp only [AV.rel] at hx
    obtain ⟨b, hb, rfl⟩ := hx
    split at h
    · rename_i kk i ki e hm hk hinf
      simp only [AV.rel] at hi; subst hi
      split at h
      · rename_i z hz
        obtain ⟨b', hb', ⟨cl, ho⟩, _⟩ := r.ob id _ hm
        rw [hb] at hb'; injection hb' with hb'; subst hb'
        refine Does.val r (v := if ok then .tuple #[z, .bool false] else z) ?_ h ?_
        · cases ok
          · exact ofVal_rel V N z
          · simp only [ife_true, if_true, AV.rel]
            exact ⟨_, rfl, rels_cons' (ofVal_rel V N z) (rels_cons' (by simp [AV.rel, E.den]) (rels_nil.2 rfl))⟩
        · have hget : (getObj b).run P w = .ok (.map #[] cl) w := by simp [getObj, Sem.run, ho]
          have hck : ∀ bb : Bool, (Instr.checkKey bb 10000 key (.int ki (e.den V))).run P w = .ok () w := by
            intro bb
            show (Instr.checkKey bb (9999 + 1) key (.int ki (e.den V))).run P w = _
            rw [Instr.checkKey]
            simp only [Sem.run_bind, run_underlying hk, Result.andThen_ok]
            rfl
          have hfk : (Instr.findKey key (.int ki (e.den V)) []).run P w = .ok none w := by
            simp only [Instr.findKey, Sem.run_bind, run_underlying hk, Result.andThen_ok, Instr.findNow]
            rfl
          simp only [Instr.lookup, Sem.run_bind, run_underlying ht, Result.andThen_ok, hget, Sem.run_pure, hck, hfk, run_zeroValue hinf hz]
      · exact h.elim
    · exact h.elim
  · exact h.elim
end
end Go.RX
