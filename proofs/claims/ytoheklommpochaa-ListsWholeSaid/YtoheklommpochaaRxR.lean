/- RX, part 2: ranges of expressions, facts, and the operations that simplify by them. -/
import Derived.Test.YtoheklommpochaaRxE
namespace Go.RX

/-! ### Kinds of integers -/
noncomputable def kmin (k : IntKind) : Int := IntKind.rec (motive := fun _ => Int) (-128) (-32768) (-2147483648) (-9223372036854775808) 0 0 0 0 k
noncomputable def kmax (k : IntKind) : Int := IntKind.rec (motive := fun _ => Int) 127 32767 2147483647 9223372036854775807 255 65535 4294967295 18446744073709551615 k
theorem wrap_in {kd : IntKind} {x : Int} (h : kmin kd ≤ x) (h' : x ≤ kmax kd) : kd.wrap x = x := by
  cases kd <;> simp [kmin, kmax] at h h' <;> simp [IntKind.wrap, IntKind.bits, IntKind.signed] <;> omega
theorem wrap_bd (kd : IntKind) (x : Int) : kmin kd ≤ kd.wrap x ∧ kd.wrap x ≤ kmax kd := by
  cases kd <;> simp [IntKind.wrap, IntKind.bits, IntKind.signed, kmin, kmax] <;> omega
theorem bitI_bd (op : BinOp) (kd : IntKind) (x y : Int) : kmin kd ≤ bitI op kd x y ∧ bitI op kd x y ≤ kmax kd := by
  unfold bitI
  cases op <;> exact wrap_bd _ _

/-! ### Small bounds -/
noncomputable def mnI (a b : Int) : Int := ife (leI a b) a b
noncomputable def mxI (a b : Int) : Int := ife (leI a b) b a
theorem mnI_le (a b : Int) : mnI a b ≤ a ∧ mnI a b ≤ b := by
  unfold mnI; cases h : leI a b
  · have : ¬ a ≤ b := fun h' => by rw [leI_iff.2 h'] at h; cases h
    simp only [ife_false]; omega
  · have := leI_iff.1 h; simp only [ife_true]; omega
theorem le_mxI (a b : Int) : a ≤ mxI a b ∧ b ≤ mxI a b := by
  unfold mxI; cases h : leI a b
  · have : ¬ a ≤ b := fun h' => by rw [leI_iff.2 h'] at h; cases h
    simp only [ife_false]; omega
  · have := leI_iff.1 h; simp only [ife_true]; omega
theorem mnI_or (a b : Int) : mnI a b = a ∨ mnI a b = b := by unfold mnI; cases leI a b <;> simp
theorem mxI_or (a b : Int) : mxI a b = a ∨ mxI a b = b := by unfold mxI; cases leI a b <;> simp
theorem mnI_eq (a b : Int) : mnI a b = if b < a then b else a := by
  have := mnI_le a b; have := mnI_or a b; split <;> omega
theorem mxI_eq (a b : Int) : mxI a b = if b > a then b else a := by
  have := le_mxI a b; have := mxI_or a b; split <;> omega
theorem mul_bd (c l h x : Int) (hl : l ≤ x) (hh : x ≤ h) : mnI (c * l) (c * h) ≤ c * x ∧ c * x ≤ mxI (c * l) (c * h) := by
  have a := mnI_le (c * l) (c * h)
  have b := le_mxI (c * l) (c * h)
  rcases Int.le_total 0 c with hc | hc
  · have h1 := Int.mul_le_mul_of_nonneg_left hl hc
    have h2 := Int.mul_le_mul_of_nonneg_left hh hc
    omega
  · have h1 := Int.mul_le_mul_of_nonpos_left hc hl
    have h2 := Int.mul_le_mul_of_nonpos_left hc hh
    omega
theorem mul_bd2 (l h x l' h' y : Int) (hl : l ≤ x) (hh : x ≤ h) (hl' : l' ≤ y) (hh' : y ≤ h') :
    mnI (mnI (l * l') (l * h')) (mnI (h * l') (h * h')) ≤ x * y ∧ x * y ≤ mxI (mxI (l * l') (l * h')) (mxI (h * l') (h * h')) := by
  have a := mul_bd y l h x hl hh
  have b := mul_bd l l' h' y hl' hh'
  have c := mul_bd h l' h' y hl' hh'
  have d := mnI_le (mnI (l * l') (l * h')) (mnI (h * l') (h * h'))
  have e := le_mxI (mxI (l * l') (l * h')) (mxI (h * l') (h * h'))
  have f := mnI_or (y * l) (y * h)
  have g := mxI_or (y * l) (y * h)
  rw [Int.mul_comm y x, Int.mul_comm y l, Int.mul_comm y h] at *
  rcases f with f | f <;> rcases g with g | g <;> rw [f, g] at a <;> omega

/-! ### Ranges -/
structure Rg where
  v : Nat → Int × Int
  f : Nat → Int × Int
  /-- Is a place that is not known chosen among all, or tried one by one? -/
  sel : Bool := false
  /-- Are choices within what is asked told apart? -/
  spl : Bool := false
  /-- How deep is what is left at the end told apart (0: not)? -/
  prv : Nat := 0
def Rg.ok (R : Rg) (V : Va) : Prop := (∀ i, (R.v i).1 ≤ V.v i ∧ V.v i ≤ (R.v i).2) ∧ V.f = tabF

noncomputable def absM (l h : Int) : Int := mxI (mxI l (-l)) (mxI h (-h))
theorem absM_le {l h x : Int} (hl : l ≤ x) (hh : x ≤ h) : (x.natAbs : Int) ≤ absM l h := by
  unfold absM
  have a := le_mxI l (-l); have b := le_mxI h (-h); have c := le_mxI (mxI l (-l)) (mxI h (-h)); omega
theorem abs_le_of {y m : Int} (h : (y.natAbs : Int) ≤ m) : -m ≤ y ∧ y ≤ m := by omega

noncomputable def bitR (op : BinOp) (kd : IntKind) (b : E) : Int × Int :=
  match op, b with
  | .and, .k m => ife (ife (leI 0 m) (leI m (kmax kd)) false) (0, m) (kmin kd, kmax kd)
  | _, _ => (kmin kd, kmax kd)
/-- x and -x: the greater is not below 0. -/
noncomputable def mxLow (a b : E) (l : Int) : Int := (a.addG b).lit (fun n => ife (leI 0 n) (mxI l 0) l) l
theorem mxLow_ok (V : Va) (a b : E) {l m : Int} (h : l ≤ m) (ha : a.den V ≤ m) (hb : b.den V ≤ m) : mxLow a b l ≤ m := by
  unfold mxLow
  have hd := E.den_addG V a b
  rcases E.lit_cases (a.addG b) (fun n => ife (leI 0 n) (mxI l 0) l) l with ⟨n, hn, h'⟩ | h' <;> rw [h']
  · rw [hn] at hd
    simp only [E.den] at hd
    cases hc : leI 0 n
    · exact h
    · have := leI_iff.1 hc
      simp only [ife_true]
      rcases mxI_or l 0 with q | q <;> rw [q] <;> omega
  · exact h
noncomputable def rngT (c : Int) (p q : Int × Int) : Int × Int := ife (leI 0 c) (addI (mulI c p.1) q.1, addI (mulI c p.2) q.2) (addI (mulI c p.2) q.1, addI (mulI c p.1) q.2)
noncomputable def rngMul (p q : Int × Int) : Int × Int := (mnI (mnI (mulI p.1 q.1) (mulI p.1 q.2)) (mnI (mulI p.2 q.1) (mulI p.2 q.2)), mxI (mxI (mulI p.1 q.1) (mulI p.1 q.2)) (mxI (mulI p.2 q.1) (mulI p.2 q.2)))
noncomputable def rngDv (d : Int) (p : Int × Int) : Int × Int := ife (leI 1 d) (p.1.tdiv d, p.2.tdiv d) (-(absM p.1 p.2), absM p.1 p.2)
noncomputable def rngMd (d : Int) (p : Int × Int) : Int × Int := ife (leI 1 d) (ife (leI 0 p.1) (0, mnI p.2 (d - 1)) (ife (leI p.2 0) (mxI p.1 (1 - d), 0) (1 - d, d - 1))) (-(absM p.1 p.2), absM p.1 p.2)
noncomputable def rngWr (kd : IntKind) (p : Int × Int) : Int × Int := ife (ife (leI (kmin kd) p.1) (leI p.2 (kmax kd)) false) p (kmin kd, kmax kd)
noncomputable def E.rng (R : Rg) (e : E) : Int × Int :=
  E.rec (motive := fun _ => Rg → Int × Int) (fun c _ => (c, c)) (fun c _ _ ia ir R => rngT c (ia R) (ir R)) (fun i R => R.v i) (fun _ _ _ => (0, 1)) (fun _ _ _ => (0, 1)) (fun _ _ _ _ ia ib R => (mnI (ia R).1 (ib R).1, mxI (ia R).2 (ib R).2)) (fun _ _ ia ib R => (mnI (ia R).1 (ib R).1, mnI (ia R).2 (ib R).2)) (fun a b ia ib R => (mxLow a b (mxI (ia R).1 (ib R).1), mxI (ia R).2 (ib R).2)) (fun _ _ ia ib R => rngMul (ia R) (ib R)) (fun _ d ia R => rngDv d (ia R)) (fun _ d ia R => rngMd d (ia R)) (fun _ n ia R => ((ia R).1 / (2 ^ n : Int), (ia R).2 / (2 ^ n : Int))) (fun kd _ ia R => rngWr kd (ia R)) (fun op kd _ b _ _ _ => bitR op kd b) (fun f _ _ _ _ _ => (0, Int.ofNat (Nat.mod f 1048576))) e R

theorem bitI_and {kd : IntKind} {x m : Int} (h : 0 ≤ m) (h' : m ≤ kmax kd) : 0 ≤ bitI .and kd x m ∧ bitI .and kd x m ≤ m := by
  have key : ((BitVec.ofInt kd.bits x &&& BitVec.ofInt kd.bits m).toNat : Int) ≤ m := by
    rw [BitVec.toNat_and]
    have h1 : (BitVec.ofInt kd.bits x).toNat &&& (BitVec.ofInt kd.bits m).toNat ≤ (BitVec.ofInt kd.bits m).toNat := Nat.and_le_right
    have h2 : ((BitVec.ofInt kd.bits m).toNat : Int) ≤ m := by
      rw [BitVec.toNat_ofInt]
      have h3 : (0 : Int) < ((2 ^ kd.bits : Nat) : Int) := by exact_mod_cast Nat.pow_pos (by omega)
      have h4 := Int.emod_nonneg m (show ((2 ^ kd.bits : Nat) : Int) ≠ 0 by omega)
      have h5 : m % ((2 ^ kd.bits : Nat) : Int) ≤ m := by
        have e := Int.mul_ediv_add_emod m ((2 ^ kd.bits : Nat) : Int)
        have e2 : 0 ≤ ((2 ^ kd.bits : Nat) : Int) * (m / ((2 ^ kd.bits : Nat) : Int)) := Int.mul_nonneg (by omega) (Int.ediv_nonneg h (by omega))
        omega
      omega
    omega
  simp only [bitI]
  have hk : kmin kd ≤ 0 := by cases kd <;> decide
  rw [wrap_in (by omega) (by omega)]
  omega
theorem leI_false {a b : Int} (h : leI a b = false) : b < a := by
  have : ¬ a ≤ b := fun h' => by rw [leI_iff.2 h'] at h; cases h
  omega
theorem tmod_pos {x d : Int} (hd : 0 < d) : (0 ≤ x → 0 ≤ x.tmod d ∧ x.tmod d ≤ x) ∧ (x ≤ 0 → x.tmod d ≤ 0 ∧ x ≤ x.tmod d) ∧ x.tmod d ≤ d - 1 ∧ 1 - d ≤ x.tmod d := by
  have key : ∀ y : Int, 0 ≤ y → 0 ≤ y.tmod d ∧ y.tmod d ≤ y ∧ y.tmod d ≤ d - 1 := by
    intro y hy
    rw [Int.tmod_eq_emod_of_nonneg hy]
    have h1 := Int.emod_nonneg y (by omega : d ≠ 0)
    have h2 := Int.emod_lt_of_pos y hd
    have h3 : y % d ≤ y := by
      have := Int.mul_ediv_add_emod y d
      have h4 : 0 ≤ d * (y / d) := Int.mul_nonneg (by omega) (Int.ediv_nonneg hy (by omega))
      omega
    omega
  rcases Int.le_total 0 x with hx | hx
  · have := key x hx
    refine ⟨fun _ => ⟨this.1, this.2.1⟩, fun h => ?_, this.2.2, by omega⟩
    have : x = 0 := by omega
    subst this; simp
  · have := key (-x) (by omega)
    rw [Int.neg_tmod] at this
    refine ⟨fun h => ?_, fun _ => ⟨by omega, by omega⟩, by omega, by omega⟩
    have : x = 0 := by omega
    subst this; simp
theorem bitR_ok (V : Va) (op : BinOp) (kd : IntKind) (a b : E) : (bitR op kd b).1 ≤ bitI op kd (a.den V) (b.den V) ∧ bitI op kd (a.den V) (b.den V) ≤ (bitR op kd b).2 := by
  unfold bitR
  split
  · rename_i m
    cases h1 : leI 0 m
    · exact bitI_bd _ _ _ _
    · cases h2 : leI m (kmax kd)
      · exact bitI_bd _ _ _ _
      · exact bitI_and (leI_iff.1 h1) (leI_iff.1 h2)
  · exact bitI_bd _ _ _ _
theorem E.rng_ok {R : Rg} {V : Va} (hR : R.ok V) : ∀ e : E, (e.rng R).1 ≤ e.den V ∧ e.den V ≤ (e.rng R).2 := by
  intro e
  induction e with
  | k c => exact ⟨Int.le_refl _, Int.le_refl _⟩
  | t c a r ia ir =>
    rw [show (E.t c a r).rng R = rngT c (a.rng R) (r.rng R) from rfl]
    simp only [E.den]
    generalize a.rng R = p at ia; generalize r.rng R = q at ir
    obtain ⟨l, h⟩ := p; obtain ⟨l', h'⟩ := q
    simp only [rngT, addI_eq, mulI_eq] at ia ir ⊢
    cases hc : leI 0 c
    · have := leI_false hc
      have h1 := Int.mul_le_mul_of_nonpos_left (by omega : c ≤ 0) ia.1
      have h2 := Int.mul_le_mul_of_nonpos_left (by omega : c ≤ 0) ia.2
      simp only [ife_false]; omega
    · have := leI_iff.1 hc
      have h1 := Int.mul_le_mul_of_nonneg_left ia.1 this
      have h2 := Int.mul_le_mul_of_nonneg_left ia.2 this
      simp only [ife_true]; omega
  | var i => exact hR.1 i
  | lt0 e _ => show (0 : Int) ≤ _ ∧ _ ≤ (1 : Int); simp only [E.den]; split <;> omega
  | eq0 e _ => show (0 : Int) ≤ _ ∧ _ ≤ (1 : Int); simp only [E.den]; split <;> omega
  | ite c a b _ ia ib =>
    rw [show (E.ite c a b).rng R = (mnI (a.rng R).1 (b.rng R).1, mxI (a.rng R).2 (b.rng R).2) from rfl]
    simp only [E.den]
    generalize a.rng R = p at ia; generalize b.rng R = q at ib
    obtain ⟨l, h⟩ := p; obtain ⟨l', h'⟩ := q
    have h1 := mnI_le l l'; have h2 := le_mxI h h'
    simp only at ia ib ⊢
    split <;> omega
  | mn a b ia ib =>
    rw [show (E.mn a b).rng R = (mnI (a.rng R).1 (b.rng R).1, mnI (a.rng R).2 (b.rng R).2) from rfl]
    simp only [E.den]
    generalize a.rng R = p at ia; generalize b.rng R = q at ib
    obtain ⟨l, h⟩ := p; obtain ⟨l', h'⟩ := q
    have h1 := mnI_le l l'; have h2 := mnI_or h h'
    simp only at ia ib ⊢
    split <;> omega
  | mx a b ia ib =>
    rw [show (E.mx a b).rng R = (mxLow a b (mxI (a.rng R).1 (b.rng R).1), mxI (a.rng R).2 (b.rng R).2) from rfl]
    simp only [E.den]
    generalize a.rng R = p at ia; generalize b.rng R = q at ib
    obtain ⟨l, h⟩ := p; obtain ⟨l', h'⟩ := q
    have h1 := mxI_or l l'; have h2 := le_mxI h h'
    simp only at ia ib ⊢
    refine ⟨mxLow_ok V a b ?_ ?_ ?_, ?_⟩ <;> split <;> omega
  | mul a b ia ib =>
    rw [show (E.mul a b).rng R = rngMul (a.rng R) (b.rng R) from rfl]
    simp only [E.den]
    generalize a.rng R = p at ia; generalize b.rng R = q at ib
    obtain ⟨l, h⟩ := p; obtain ⟨l', h'⟩ := q
    simp only [rngMul, mulI_eq]
    exact mul_bd2 _ _ _ _ _ _ ia.1 ia.2 ib.1 ib.2
  | dv a d ia =>
    rw [show (E.dv a d).rng R = rngDv d (a.rng R) from rfl]
    simp only [E.den]
    generalize a.rng R = p at ia
    obtain ⟨l, h⟩ := p
    simp only [rngDv] at ia ⊢
    cases hd : leI 1 d
    · have h1 := absM_le ia.1 ia.2
      have h2 : ((a.den V).tdiv d).natAbs ≤ (a.den V).natAbs := by rw [Int.natAbs_tdiv]; exact Nat.div_le_self _ _
      exact abs_le_of (by omega)
    · have := leI_iff.1 hd
      exact ⟨Int.tdiv_le_tdiv (by omega) ia.1, Int.tdiv_le_tdiv (by omega) ia.2⟩
  | md a d ia =>
    rw [show (E.md a d).rng R = rngMd d (a.rng R) from rfl]
    simp only [E.den]
    generalize a.rng R = p at ia
    obtain ⟨l, h⟩ := p
    simp only [rngMd] at ia ⊢
    cases hd : leI 1 d
    · have h1 := absM_le ia.1 ia.2
      have h2 : ((a.den V).tmod d).natAbs ≤ (a.den V).natAbs := by rw [Int.natAbs_tmod]; exact Nat.mod_le _ _
      exact abs_le_of (by omega)
    · have hd1 := leI_iff.1 hd
      have h1 := tmod_pos (x := a.den V) (by omega : 0 < d)
      have h2 := mnI_or h (d - 1)
      have h3 := mxI_or l (1 - d)
      simp only [ife_true]
      cases hl : leI 0 l
      · simp only [ife_false]
        cases hh : leI h 0
        · simp only [ife_false]; omega
        · have := leI_iff.1 hh
          have h4 := h1.2.1 (by omega)
          simp only [ife_true]; omega
      · have := leI_iff.1 hl
        have h4 := h1.1 (by omega)
        simp only [ife_true]; omega
  | shr a n ia =>
    rw [show (E.shr a n).rng R = ((a.rng R).1 / (2 ^ n : Int), (a.rng R).2 / (2 ^ n : Int)) from rfl]
    simp only [E.den]
    generalize a.rng R = p at ia
    obtain ⟨l, h⟩ := p
    have hp : (0 : Int) < 2 ^ n := Int.pow_pos (by omega)
    exact ⟨Int.ediv_le_ediv hp ia.1, Int.ediv_le_ediv hp ia.2⟩
  | wr kd a ia =>
    rw [show (E.wr kd a).rng R = rngWr kd (a.rng R) from rfl]
    simp only [E.den]
    generalize a.rng R = p at ia
    obtain ⟨l, h⟩ := p
    simp only [rngWr] at ia ⊢
    cases h1 : leI (kmin kd) l
    · exact wrap_bd _ _
    · cases h2 : leI h (kmax kd)
      · exact wrap_bd _ _
      · have h1 := leI_iff.1 h1; have h2 := leI_iff.1 h2
        simp only [ife_true]
        rw [wrap_in (by omega) (by omega)]; exact ia
  | bit op kd a b _ _ =>
    rw [show (E.bit op kd a b).rng R = bitR op kd b from rfl]
    simp only [E.den]
    exact bitR_ok V op kd a b
  | app f a b _ _ =>
    show (0 : Int) ≤ V.f f (a.den V) (b.den V) ∧ V.f f (a.den V) (b.den V) ≤ ((f % 1048576 : Nat) : Int)
    rw [hR.2]; exact tabF_bd f _ _
/-- Within these bounds, by its range. -/
noncomputable def E.within (R : Rg) (l h : Int) (e : E) : Bool := ife (leI l (e.rng R).1) (leI (e.rng R).2 h) false
theorem E.within_ok {R : Rg} {V : Va} (hR : R.ok V) {l h : Int} {e : E} (hw : e.within R l h = true) : l ≤ e.den V ∧ e.den V ≤ h := by
  unfold E.within at hw
  have r := E.rng_ok hR e
  cases h1 : leI l (e.rng R).1
  · rw [h1] at hw; cases hw
  · rw [h1] at hw
    have a := leI_iff.1 h1; have b := leI_iff.1 (show leI (e.rng R).2 h = true from hw)
    omega

/-! ### Facts: expressions known not to be negative -/
def Fs.ok (V : Va) (F : List E) : Prop := ∀ e ∈ F, 0 ≤ e.den V
noncomputable def anyF (R : Rg) (e : E) (F : List E) : Bool :=
  List.rec (motive := fun _ => Bool) false (fun f _ ih => ife (leI 0 ((e.sub f).rng R).1) true ih) F
theorem anyF_ok {R : Rg} {V : Va} (hR : R.ok V) (e : E) : ∀ F : List E, Fs.ok V F → anyF R e F = true → 0 ≤ e.den V
  | [], _, h => by cases h
  | f :: F, hF, h => by
    change ife (leI 0 ((e.sub f).rng R).1) true (anyF R e F) = true at h
    cases hc : leI 0 ((e.sub f).rng R).1
    · rw [hc] at h; exact anyF_ok hR e F (fun x hx => hF x (List.mem_cons_of_mem _ hx)) h
    · have h1 := leI_iff.1 hc
      have h2 := (E.rng_ok hR (e.sub f)).1
      rw [E.den_sub] at h2
      have h3 := hF f (List.mem_cons_self)
      omega
/-- How often a stands in e. -/
noncomputable def E.coef (a : E) (e : E) : Int :=
  E.rec (motive := fun _ => Int) (fun _ => 0) (fun c b _ _ ih => ord3 (b.cmp a) ih c ih)
    (fun _ => 0) (fun _ _ => 0) (fun _ _ => 0) (fun _ _ _ _ _ _ => 0) (fun _ _ _ _ => 0) (fun _ _ _ _ => 0) (fun _ _ _ _ => 0)
    (fun _ _ _ => 0) (fun _ _ _ => 0) (fun _ _ _ => 0) (fun _ _ _ => 0) (fun _ _ _ _ _ _ => 0) (fun _ _ _ _ _ => 0) e
/-- How often f goes into e, by its first term. -/
noncomputable def goesIn (e f : E) : Int := match f with
  | .t c a _ => ife (eqI c 0) 0 ((E.coef a e) / c)
  | _ => 0
noncomputable def anyF2 (R : Rg) (G : List E) (e : E) (F : List E) : Bool :=
  List.rec (motive := fun _ => Bool) false (fun f _ ih => ife (leI 1 (goesIn e f))
    (ife (ife (leI 0 ((e.sub (E.smul (goesIn e f) f)).rng R).1) true (anyF R (e.sub (E.smul (goesIn e f) f)) G)) true ih) ih) F
theorem anyF2_ok {R : Rg} {V : Va} (hR : R.ok V) {G : List E} (hG : Fs.ok V G) (e : E) : ∀ F : List E, Fs.ok V F → anyF2 R G e F = true → 0 ≤ e.den V
  | [], _, h => by cases h
  | f :: F, hF, h => by
    have rest : anyF2 R G e F = true → 0 ≤ e.den V := anyF2_ok hR hG e F (fun x hx => hF x (List.mem_cons_of_mem _ hx))
    change ife (leI 1 (goesIn e f)) (ife (ife (leI 0 ((e.sub (E.smul (goesIn e f) f)).rng R).1) true (anyF R (e.sub (E.smul (goesIn e f) f)) G)) true (anyF2 R G e F)) (anyF2 R G e F) = true at h
    cases h1 : leI 1 (goesIn e f)
    · rw [h1] at h; exact rest h
    · rw [h1, ife_true] at h
      have h1 := leI_iff.1 h1
      have hf := hF f List.mem_cons_self
      have hd : (e.sub (E.smul (goesIn e f) f)).den V = e.den V - goesIn e f * f.den V := by rw [E.den_sub, E.den_smul]
      have hm : 0 ≤ goesIn e f * f.den V := Int.mul_nonneg (by omega) hf
      cases h2 : ife (leI 0 ((e.sub (E.smul (goesIn e f) f)).rng R).1) true (anyF R (e.sub (E.smul (goesIn e f) f)) G)
      · rw [h2] at h; exact rest h
      · cases h3 : leI 0 ((e.sub (E.smul (goesIn e f) f)).rng R).1
        · rw [h3] at h2
          have := anyF_ok hR _ G hG h2
          omega
        · have h3 := leI_iff.1 h3
          have := (E.rng_ok hR (e.sub (E.smul (goesIn e f) f))).1
          omega
/-- Is e surely not negative, by its range or facts? -/
noncomputable def E.geqB (R : Rg) (F : List E) (e : E) : Bool := e.lit (fun n => leI 0 n) (ife (leI 0 (e.rng R).1) true (ife (anyF R e F) true (anyF2 R F e F)))
theorem E.geqB_ok {R : Rg} {V : Va} (hR : R.ok V) {F : List E} (hF : Fs.ok V F) {e : E} (h : e.geqB R F = true) : 0 ≤ e.den V := by
  unfold E.geqB at h
  rcases E.lit_cases e (fun n => leI 0 n) (ife (leI 0 (e.rng R).1) true (ife (anyF R e F) true (anyF2 R F e F))) with ⟨n, rfl, h'⟩ | h' <;> rw [h'] at h
  · exact leI_iff.1 h
  · cases hc : leI 0 (e.rng R).1
    · rw [hc, ife_false] at h
      cases ha : anyF R e F
      · rw [ha] at h; exact anyF2_ok hR hF e F hF h
      · exact anyF_ok hR e F hF ha
    · have h1 := leI_iff.1 hc
      have := (E.rng_ok hR e).1
      omega
/-! ### Two shifts -/
structure Sh2 where
  a : E
  n : Nat
  r : E
/-- Is it a shift? -/
noncomputable def E.isS (e : E) : Bool := E.rec (motive := fun _ => Bool) (fun _ => false) (fun _ _ _ _ _ => false) (fun _ => false) (fun _ _ => false) (fun _ _ => false) (fun _ _ _ _ _ _ => false) (fun _ _ _ _ => false) (fun _ _ _ _ => false) (fun _ _ _ _ => false) (fun _ _ _ => false) (fun _ _ _ => false) (fun _ _ _ => true) (fun _ _ _ => false) (fun _ _ _ _ _ _ => false) (fun _ _ _ _ _ => false) e
noncomputable def E.sn (e : E) : Nat := E.rec (motive := fun _ => Nat) (fun _ => 0) (fun _ _ _ _ _ => 0) (fun _ => 0) (fun _ _ => 0) (fun _ _ => 0) (fun _ _ _ _ _ _ => 0) (fun _ _ _ _ => 0) (fun _ _ _ _ => 0) (fun _ _ _ _ => 0) (fun _ _ _ => 0) (fun _ _ _ => 0) (fun _ n _ => n) (fun _ _ _ => 0) (fun _ _ _ _ _ _ => 0) (fun _ _ _ _ _ => 0) e
noncomputable def pushS (c : Int) (a : E) (o : Option Sh2) : Option Sh2 := match o with | some q => some ⟨q.a, q.n, .t c a q.r⟩ | none => none
/-- The first shift that stands s times, and the rest. -/
noncomputable def E.takeS (s : Int) (e : E) : Option Sh2 :=
  E.rec (motive := fun _ => Int → Option Sh2) (fun _ _ => none) (fun c a r _ ih s => ife (ife (eqI c s) a.isS false) (some ⟨a.g1, a.sn, r⟩) (pushS c a (ih s))) (fun _ _ => none) (fun _ _ _ => none) (fun _ _ _ => none) (fun _ _ _ _ _ _ _ => none) (fun _ _ _ _ _ => none) (fun _ _ _ _ _ => none) (fun _ _ _ _ _ => none) (fun _ _ _ _ => none) (fun _ _ _ _ => none) (fun _ _ _ _ => none) (fun _ _ _ _ => none) (fun _ _ _ _ _ _ _ => none) (fun _ _ _ _ _ _ => none) e s
theorem E.isS_ok {e : E} (h : e.isS = true) : e = .shr e.g1 e.sn := by cases e <;> first | rfl | (cases (show false = true from h))
theorem E.takeS_ok (V : Va) (s : Int) : ∀ (e : E) {q : Sh2}, e.takeS s = some q → e.den V = s * (q.a.den V / (2 ^ q.n : Int)) + q.r.den V := by
  intro e
  induction e with
  | t c a r _ ih =>
    intro q h
    change ife (ife (eqI c s) a.isS false) (some ⟨a.g1, a.sn, r⟩) (pushS c a (r.takeS s)) = some q at h
    cases h1 : ife (eqI c s) a.isS false
    · rw [h1, ife_false] at h
      unfold pushS at h
      split at h
      · rename_i q' hq'
        injection h with h; subst h
        simp only [E.den]; rw [ih hq']; omega
      · cases h
    · rw [h1, ife_true] at h
      injection h with h; subst h
      cases h2 : eqI c s
      · rw [h2] at h1; cases h1
      · rw [h2, ife_true] at h1
        have := eqI_iff.1 h2; subst this
        have h3 := E.isS_ok h1
        show c * a.den V + r.den V = c * (a.g1.den V / (2 ^ a.sn : Int)) + r.den V
        conv => lhs; rw [h3]
        rfl
  | _ => intro q h; cases h
/-- Without the shifts that are surely not below 0. -/
noncomputable def E.dropS (R : Rg) (F : List E) (e : E) : E :=
  E.rec (motive := fun _ => Rg → List E → E → E) (fun _ _ _ e => e) (fun c a r _ ih R F _ => ife (ife (leI 1 c) (ife a.isS (a.g1.geqB R F) false) false) (ih R F r) (.t c a (ih R F r))) (fun _ _ _ e => e) (fun _ _ _ _ e => e) (fun _ _ _ _ e => e) (fun _ _ _ _ _ _ _ _ e => e) (fun _ _ _ _ _ _ e => e) (fun _ _ _ _ _ _ e => e) (fun _ _ _ _ _ _ e => e) (fun _ _ _ _ _ e => e) (fun _ _ _ _ _ e => e) (fun _ _ _ _ _ e => e) (fun _ _ _ _ _ e => e) (fun _ _ _ _ _ _ _ _ e => e) (fun _ _ _ _ _ _ _ e => e) e R F e
theorem E.dropS_ok {R : Rg} {V : Va} (hR : R.ok V) {F : List E} (hF : Fs.ok V F) : ∀ e : E, (e.dropS R F).den V ≤ e.den V := by
  intro e
  induction e with
  | t c a r _ ih =>
    show (ife (ife (leI 1 c) (ife a.isS (a.g1.geqB R F) false) false) (r.dropS R F) (.t c a (r.dropS R F))).den V ≤ _
    cases h : ife (leI 1 c) (ife a.isS (a.g1.geqB R F) false) false
    · simp only [ife_false, E.den]; omega
    · rw [ife_true]
      cases h1 : leI 1 c
      · rw [h1] at h; cases h
      · rw [h1, ife_true] at h
        cases h2 : a.isS
        · rw [h2] at h; cases h
        · rw [h2, ife_true] at h
          have h3 := E.geqB_ok hR hF h
          have h4 := leI_iff.1 h1
          have h5 : 0 ≤ a.den V := by
            rw [E.isS_ok h2]
            exact Int.ediv_nonneg h3 (Int.le_of_lt (Int.pow_pos (by omega)))
          have := Int.mul_nonneg (by omega : (0 : Int) ≤ c) h5
          simp only [E.den]; omega
  | _ => exact Int.le_refl _
noncomputable def E.geqS2 (R : Rg) (F : List E) (p : Sh2) : Bool := match p.r.takeS (-1) with
    | some q => ife (Nat.ble p.n q.n) (ife (q.r.geqB R F) (((E.addK (2 ^ (q.n - p.n) - 1 : Int) (E.smul (2 ^ (q.n - p.n) : Int) p.a)).sub q.a).geqB R F) false) false
    | none => false
noncomputable def E.geqS (R : Rg) (F : List E) (e : E) : Bool := match e.takeS 1 with
  | some p => ife ((e.dropS R F).geqB R F) true (E.geqS2 R F p)
  | none => (e.dropS R F).geqB R F
theorem E.geqS_ok {R : Rg} {V : Va} (hR : R.ok V) {F : List E} (hF : Fs.ok V F) {e : E} (h : e.geqS R F = true) : 0 ≤ e.den V := by
  unfold E.geqS at h
  split at h
  · rename_i p hp
    have e4 := E.takeS_ok V 1 e hp
    cases h0 : (e.dropS R F).geqB R F
    case true =>
      have := E.geqB_ok hR hF h0
      have := E.dropS_ok hR hF e
      omega
    rw [h0, ife_false] at h
    unfold E.geqS2 at h
    split at h
    · rename_i q hq
      cases h1 : Nat.ble p.n q.n
      · rw [h1] at h; cases h
      · cases h2 : q.r.geqB R F
        · rw [h1, h2] at h; cases h
        · rw [h1, h2] at h
          simp only [ife_true] at h
          have e1 := Nat.le_of_ble_eq_true h1
          have e2 := E.geqB_ok hR hF h2
          have e3 := E.geqB_ok hR hF h
          rw [E.den_sub, E.den_addK, E.den_smul] at e3
          have e5 := E.takeS_ok V (-1) p.r hq
          have hn : (2 ^ q.n : Int) = 2 ^ (q.n - p.n) * 2 ^ p.n := by rw [← Int.pow_add]; congr 1; omega
          have hd : (0 : Int) < 2 ^ (q.n - p.n) := Int.pow_pos (by omega)
          have hm : (0 : Int) < 2 ^ p.n := Int.pow_pos (by omega)
          have e6 : q.a.den V / (2 ^ (q.n - p.n) : Int) ≤ p.a.den V := by
            have : q.a.den V < (p.a.den V + 1) * 2 ^ (q.n - p.n) := by rw [Int.add_mul, Int.mul_comm (p.a.den V)]; omega
            have := Int.ediv_lt_of_lt_mul hd this
            omega
          have e7 : q.a.den V / (2 ^ q.n : Int) ≤ p.a.den V / (2 ^ p.n : Int) := by
            rw [hn, ← Int.ediv_ediv_of_nonneg (Int.le_of_lt hd)]
            exact Int.ediv_le_ediv hm e6
          omega
    · cases h
  · have := E.geqB_ok hR hF h
    have := E.dropS_ok hR hF e
    omega
structure Mm where
  c : Int
  mx : Bool
  x : E
  y : E
  r : E
noncomputable def mm1 (u : Bool) (c : Int) (a r : E) (ih : Option Mm) : Option Mm := match a with
  | .mn x y => ife (ife u (leI c 0) (leI 1 c)) (some ⟨c, false, x, y, r⟩) (match ih with | some q => some ⟨q.c, q.mx, q.x, q.y, .t c (.mn x y) q.r⟩ | none => none)
  | .mx x y => ife (ife u (leI 0 c) (leI c (-1))) (some ⟨c, true, x, y, r⟩) (match ih with | some q => some ⟨q.c, q.mx, q.x, q.y, .t c (.mx x y) q.r⟩ | none => none)
  | a => match ih with | some q => some ⟨q.c, q.mx, q.x, q.y, .t c a q.r⟩ | none => none
/-- A term that is a least or greatest of two (u: one of the two is enough). -/
noncomputable def E.mm (u : Bool) (e : E) : Option Mm :=
  E.rec (motive := fun _ => Option Mm) (fun _ => none) (fun c a r _ ih => mm1 u c a r ih)
    (fun _ => none) (fun _ _ => none) (fun _ _ => none) (fun _ _ _ _ _ _ => none) (fun _ _ _ _ => none) (fun _ _ _ _ => none) (fun _ _ _ _ => none)
    (fun _ _ _ => none) (fun _ _ _ => none) (fun _ _ _ => none) (fun _ _ _ => none) (fun _ _ _ _ _ _ => none) (fun _ _ _ _ _ => none) e
theorem E.mm_ok (V : Va) (u : Bool) : ∀ (e : E) {q : Mm}, e.mm u = some q → (e.den V = q.c * q.x.den V + q.r.den V ∨ e.den V = q.c * q.y.den V + q.r.den V) ∧
    ((q.mx = true → 0 ≤ q.c → q.c * q.x.den V + q.r.den V ≤ e.den V ∧ q.c * q.y.den V + q.r.den V ≤ e.den V) ∧
     (q.mx = false → q.c ≤ 0 → q.c * q.x.den V + q.r.den V ≤ e.den V ∧ q.c * q.y.den V + q.r.den V ≤ e.den V)) := by
  intro e
  induction e with
  | t c a r ia ir =>
    intro q h
    change mm1 u c a r (r.mm u) = some q at h
    have other : ∀ b : E, (match r.mm u with | some q => some (⟨q.c, q.mx, q.x, q.y, .t c b q.r⟩ : Mm) | none => none) = some q → (((E.t c b r).den V = q.c * q.x.den V + q.r.den V ∨ (E.t c b r).den V = q.c * q.y.den V + q.r.den V) ∧
        ((q.mx = true → 0 ≤ q.c → q.c * q.x.den V + q.r.den V ≤ (E.t c b r).den V ∧ q.c * q.y.den V + q.r.den V ≤ (E.t c b r).den V) ∧
         (q.mx = false → q.c ≤ 0 → q.c * q.x.den V + q.r.den V ≤ (E.t c b r).den V ∧ q.c * q.y.den V + q.r.den V ≤ (E.t c b r).den V))) := by
      intro b h
      split at h
      · rename_i q' hq
        cases h
        obtain ⟨h1, h2, h3⟩ := ir hq
        simp only [E.den]
        refine ⟨by omega, fun a b => ?_, fun a b => ?_⟩
        · have := h2 a b; omega
        · have := h3 a b; omega
      · cases h
    unfold mm1 at h
    split at h
    · rename_i x y
      cases hs : ife u (leI c 0) (leI 1 c)
      · rw [hs] at h; exact other _ h
      · rw [hs] at h
        cases h
        simp only [E.den]
        refine ⟨by split <;> simp, fun h => (by cases h), fun _ hc => ?_⟩
        by_cases hlt : y.den V < x.den V
        · rw [if_pos hlt]
          have := Int.mul_le_mul_of_nonpos_left hc (Int.le_of_lt hlt)
          omega
        · rw [if_neg hlt]
          have := Int.mul_le_mul_of_nonpos_left hc (Int.not_lt.1 hlt)
          omega
    · rename_i x y
      cases hs : ife u (leI 0 c) (leI c (-1))
      · rw [hs] at h; exact other _ h
      · rw [hs] at h
        cases h
        simp only [E.den]
        refine ⟨by split <;> simp, fun _ hc => ?_, fun h => (by cases h)⟩
        by_cases hlt : y.den V > x.den V
        · rw [if_pos hlt]
          have := Int.mul_le_mul_of_nonneg_left (Int.le_of_lt hlt) hc
          omega
        · rw [if_neg hlt]
          have := Int.mul_le_mul_of_nonneg_left (Int.not_lt.1 hlt) hc
          omega
    · exact other _ h
  | _ => intro q h; cases h
/-- First the terms of which both must be looked at. -/
noncomputable def E.mm2 (e : E) : Option Mm := match e.mm false with | some q => some q | none => e.mm true
theorem E.mm2_ok (V : Va) (e : E) {q : Mm} (h : e.mm2 = some q) : (e.den V = q.c * q.x.den V + q.r.den V ∨ e.den V = q.c * q.y.den V + q.r.den V) ∧
    ((q.mx = true → 0 ≤ q.c → q.c * q.x.den V + q.r.den V ≤ e.den V ∧ q.c * q.y.den V + q.r.den V ≤ e.den V) ∧
     (q.mx = false → q.c ≤ 0 → q.c * q.x.den V + q.r.den V ≤ e.den V ∧ q.c * q.y.den V + q.r.den V ≤ e.den V)) := by
  unfold E.mm2 at h
  split at h
  · rename_i q' hq; cases h; exact E.mm_ok V _ e hq
  · exact E.mm_ok V _ e h
noncomputable def E.geqC (R : Rg) (F : List E) (n : Nat) : E → Bool :=
  Nat.rec (motive := fun _ => E → Bool) (fun e => e.geqB R F) (fun _ ih e => ife (e.geqB R F) true (match e.mm2 with
    | some q => ife (ife q.mx (leI 0 q.c) (leI q.c 0))
        (ife (ih ((E.smul q.c q.x).add q.r)) true (ih ((E.smul q.c q.y).add q.r)))
        (ife (ih ((E.smul q.c q.x).add q.r)) (ih ((E.smul q.c q.y).add q.r)) false)
    | none => e.geqS R F)) n
theorem E.geqC_ok {R : Rg} {V : Va} (hR : R.ok V) {F : List E} (hF : Fs.ok V F) : ∀ (n : Nat) {e : E}, E.geqC R F n e = true → 0 ≤ e.den V
  | 0, e, h => E.geqB_ok hR hF h
  | n + 1, e, h => by
    change ife (e.geqB R F) true (match e.mm2 with
    | some q => ife (ife q.mx (leI 0 q.c) (leI q.c 0))
        (ife (E.geqC R F n ((E.smul q.c q.x).add q.r)) true (E.geqC R F n ((E.smul q.c q.y).add q.r)))
        (ife (E.geqC R F n ((E.smul q.c q.x).add q.r)) (E.geqC R F n ((E.smul q.c q.y).add q.r)) false)
    | none => e.geqS R F) = true at h
    cases hb : e.geqB R F
    · rw [hb, ife_false] at h
      split at h
      · rename_i q hq
        obtain ⟨h1, h2, h3⟩ := E.mm2_ok V e hq
        have ex : ((E.smul q.c q.x).add q.r).den V = q.c * q.x.den V + q.r.den V := by rw [E.den_add, E.den_smul]
        have ey : ((E.smul q.c q.y).add q.r).den V = q.c * q.y.den V + q.r.den V := by rw [E.den_add, E.den_smul]
        cases hs : ife q.mx (leI 0 q.c) (leI q.c 0)
        · rw [hs, ife_false] at h
          cases hx : E.geqC R F n ((E.smul q.c q.x).add q.r)
          · rw [hx] at h; cases h
          · rw [hx] at h
            have a := E.geqC_ok hR hF n hx
            have b := E.geqC_ok hR hF n h
            rw [ex] at a; rw [ey] at b
            omega
        · rw [hs, ife_true] at h
          have both : q.c * q.x.den V + q.r.den V ≤ e.den V ∧ q.c * q.y.den V + q.r.den V ≤ e.den V := by
            cases hm : q.mx
            · rw [hm] at hs; exact h3 hm (leI_iff.1 hs)
            · rw [hm] at hs; exact h2 hm (leI_iff.1 hs)
          cases hx : E.geqC R F n ((E.smul q.c q.x).add q.r)
          · rw [hx] at h
            have b := E.geqC_ok hR hF n h
            rw [ey] at b; omega
          · have a := E.geqC_ok hR hF n hx
            rw [ex] at a; omega
      · exact E.geqS_ok hR hF h
    · exact E.geqB_ok hR hF hb
/-- Is e surely not negative? -/
noncomputable def E.geq0 (R : Rg) (F : List E) (e : E) : Bool := e.lit (fun n => leI 0 n) (E.geqC R F 5 e)
theorem E.geq0_ok {R : Rg} {V : Va} (hR : R.ok V) {F : List E} (hF : Fs.ok V F) {e : E} (h : e.geq0 R F = true) : 0 ≤ e.den V := by
  unfold E.geq0 at h
  rcases E.lit_cases e (fun n => leI 0 n) (E.geqC R F 5 e) with ⟨n, rfl, h'⟩ | h' <;> rw [h'] at h
  · exact leI_iff.1 h
  · exact E.geqC_ok hR hF 5 h

section
variable (R : Rg) (F : List E)
/-- Surely 0 or above, by its parts. -/
noncomputable def E.nn (e : E) : Bool :=
  E.rec (motive := fun _ => Bool) (fun c => leI 0 c) (fun c a r ia ir => ife (ife (leI 0 c) (ife ia ir false) false) true ((E.t c a r).geq0 R F)) (fun i => (E.atom (.var i)).geq0 R F) (fun _ _ => true) (fun _ _ => true) (fun _ _ _ _ ia ib => ife ia ib false)
    (fun a b ia ib => ife (ife ia ib false) true ((E.atom (.mn a b)).geq0 R F)) (fun a b ia ib => ife (ife ia true ib) true ((E.atom (.mx a b)).geq0 R F)) (fun a b ia ib => ife (ife ia ib false) true ((E.atom (.mul a b)).geq0 R F))
    (fun a d ia => ife (ife (leI 0 d) ia false) true ((E.atom (.dv a d)).geq0 R F)) (fun a d ia => ife ia true ((E.atom (.md a d)).geq0 R F)) (fun a n ia => ife ia true ((E.atom (.shr a n)).geq0 R F)) (fun kd a _ => (E.atom (.wr kd a)).geq0 R F)
    (fun op kd a b _ _ => (E.atom (.bit op kd a b)).geq0 R F) (fun f a b _ _ => (E.atom (.app f a b)).geq0 R F) e
theorem E.nn_ok {R : Rg} {F : List E} {V : Va} (hR : R.ok V) (hF : Fs.ok V F) : ∀ e : E, e.nn R F = true → 0 ≤ e.den V := by
  have at0 : ∀ x : E, (E.atom x).geq0 R F = true → 0 ≤ x.den V := fun x h => by have := E.geq0_ok hR hF h; rw [E.den_atom] at this; exact this
  have two : ∀ a b : Bool, ife a b false = true → a = true ∧ b = true := fun a b h => by cases a <;> cases b <;> simp_all
  have orr : ∀ a b : Bool, ife a true b = true → a = true ∨ b = true := fun a b h => by cases a <;> cases b <;> simp_all
  intro e
  induction e with
  | k c => intro h; exact leI_iff.1 h
  | t c a r ia ir =>
    intro h
    rcases orr _ _ (show ife (ife (leI 0 c) (ife (a.nn R F) (r.nn R F) false) false) true ((E.t c a r).geq0 R F) = true from h) with h | h
    · obtain ⟨h1, h2⟩ := two _ _ h
      obtain ⟨h2, h3⟩ := two _ _ h2
      have := Int.mul_nonneg (leI_iff.1 h1) (ia h2); have := ir h3
      simp only [E.den]; omega
    · exact E.geq0_ok hR hF h
  | var i => intro h; exact at0 _ h
  | lt0 a ih => intro _; simp only [E.den]; split <;> omega
  | eq0 a ih => intro _; simp only [E.den]; split <;> omega
  | ite c a b ic ia ib =>
    intro h
    obtain ⟨h1, h2⟩ := two _ _ (show ife (a.nn R F) (b.nn R F) false = true from h)
    have := ia h1; have := ib h2
    simp only [E.den]; split <;> omega
  | mn a b ia ib =>
    intro h
    rcases orr _ _ (show ife (ife (a.nn R F) (b.nn R F) false) true ((E.atom (.mn a b)).geq0 R F) = true from h) with h | h
    · obtain ⟨h1, h2⟩ := two _ _ h
      have := ia h1; have := ib h2
      simp only [E.den]; split <;> omega
    · exact at0 _ h
  | mx a b ia ib =>
    intro h
    rcases orr _ _ (show ife (ife (a.nn R F) true (b.nn R F)) true ((E.atom (.mx a b)).geq0 R F) = true from h) with h | h
    · rcases orr _ _ h with h | h
      · have := ia h
        simp only [E.den]; split <;> omega
      · have := ib h
        simp only [E.den]; split <;> omega
    · exact at0 _ h
  | mul a b ia ib =>
    intro h
    rcases orr _ _ (show ife (ife (a.nn R F) (b.nn R F) false) true ((E.atom (.mul a b)).geq0 R F) = true from h) with h | h
    · obtain ⟨h1, h2⟩ := two _ _ h
      exact Int.mul_nonneg (ia h1) (ib h2)
    · exact at0 _ h
  | dv a d ia =>
    intro h
    rcases orr _ _ (show ife (ife (leI 0 d) (a.nn R F) false) true ((E.atom (.dv a d)).geq0 R F) = true from h) with h | h
    · obtain ⟨h1, h2⟩ := two _ _ h
      exact Int.tdiv_nonneg (ia h2) (leI_iff.1 h1)
    · exact at0 _ h
  | md a d ia =>
    intro h
    rcases orr _ _ (show ife (a.nn R F) true ((E.atom (.md a d)).geq0 R F) = true from h) with h | h
    · exact Int.tmod_nonneg _ (ia h)
    · exact at0 _ h
  | shr a n ia =>
    intro h
    rcases orr _ _ (show ife (a.nn R F) true ((E.atom (.shr a n)).geq0 R F) = true from h) with h | h
    · exact Int.ediv_nonneg (ia h) (Int.le_of_lt (Int.pow_pos (by decide)))
    · exact at0 _ h
  | wr kd a ih => intro h; exact at0 _ h
  | bit op kd a b ia ib => intro h; exact at0 _ h
  | app f a b ia ib => intro h; exact at0 _ h
/-- A product that is surely 0 or above, by its factors' signs. -/
noncomputable def mulNn (e : E) : Bool := match e with
  | .t c (.mul a b) (.k 0) => ife (leI 0 c) (ife (ife (a.nn R F) (b.nn R F) false) true (ife ((a.smulG (-1)).nn R F) ((b.smulG (-1)).nn R F) false))
    (ife (ife (a.nn R F) ((b.smulG (-1)).nn R F) false) true (ife ((a.smulG (-1)).nn R F) (b.nn R F) false))
  | .t c (.shr a _) (.k r) => ife (leI 0 c) (ife (leI 0 r) (a.nn R F) false) false
  | .t c (.dv a d) (.k r) => ife (leI 0 c) (ife (leI 0 r) (ife (leI 0 d) (a.nn R F) false) false) false
  | _ => false
theorem mulNn_ok {R : Rg} {F : List E} {V : Va} (hR : R.ok V) (hF : Fs.ok V F) {e : E} (h : mulNn R F e = true) : 0 ≤ e.den V := by
  have two : ∀ a b : Bool, ife a b false = true → a = true ∧ b = true := fun a b h => by cases a <;> cases b <;> simp_all
  have orr : ∀ a b : Bool, ife a true b = true → a = true ∨ b = true := fun a b h => by cases a <;> cases b <;> simp_all
  unfold mulNn at h
  split at h
  · rename_i c a b
    have neg : ∀ x : E, (x.smulG (-1)).nn R F = true → x.den V ≤ 0 := fun x hx => by have := E.nn_ok hR hF _ hx; rw [E.den_smulG] at this; omega
    have pos : ∀ x : E, x.nn R F = true → 0 ≤ x.den V := fun x hx => E.nn_ok hR hF _ hx
    show 0 ≤ c * (a.den V * b.den V) + 0
    rw [Int.add_zero]
    cases hc : leI 0 c
    · rw [hc, ife_false] at h
      have hc : ¬ 0 ≤ c := fun q => by rw [leI_iff.2 q] at hc; cases hc
      have key : a.den V * b.den V ≤ 0 := by
        rcases orr _ _ h with h | h
        · obtain ⟨h1, h2⟩ := two _ _ h
          exact Int.mul_nonpos_of_nonneg_of_nonpos (pos _ h1) (neg _ h2)
        · obtain ⟨h1, h2⟩ := two _ _ h
          exact Int.mul_nonpos_of_nonpos_of_nonneg (neg _ h1) (pos _ h2)
      exact Int.mul_nonneg_of_nonpos_of_nonpos (by omega) key
    · rw [hc, ife_true] at h
      have key : 0 ≤ a.den V * b.den V := by
        rcases orr _ _ h with h | h
        · obtain ⟨h1, h2⟩ := two _ _ h
          exact Int.mul_nonneg (pos _ h1) (pos _ h2)
        · obtain ⟨h1, h2⟩ := two _ _ h
          exact Int.mul_nonneg_of_nonpos_of_nonpos (neg _ h1) (neg _ h2)
      exact Int.mul_nonneg (leI_iff.1 hc) key
  · rename_i c a n r
    obtain ⟨h1, h⟩ := two _ _ h
    obtain ⟨h2, h⟩ := two _ _ h
    have h3 := E.nn_ok hR hF _ h
    have h4 : 0 ≤ a.den V / (2 ^ n : Int) := Int.ediv_nonneg h3 (Int.le_of_lt (Int.pow_pos (by decide)))
    have h5 := Int.mul_nonneg (leI_iff.1 h1) h4
    have h6 := leI_iff.1 h2
    show 0 ≤ c * (a.den V / (2 ^ n : Int)) + r
    omega
  · rename_i c a d r
    obtain ⟨h1, h⟩ := two _ _ h
    obtain ⟨h2, h⟩ := two _ _ h
    obtain ⟨h3, h⟩ := two _ _ h
    have h4 : 0 ≤ (a.den V).tdiv d := Int.tdiv_nonneg (E.nn_ok hR hF _ h) (leI_iff.1 h3)
    have h5 := Int.mul_nonneg (leI_iff.1 h1) h4
    have h6 := leI_iff.1 h2
    show 0 ≤ c * ((a.den V).tdiv d) + r
    omega
  · cases h
noncomputable def E.geqN (e : E) : Bool := ife (e.geq0 R F) true (mulNn R F e)
theorem E.geqN_ok {R : Rg} {F : List E} {V : Va} (hR : R.ok V) (hF : Fs.ok V F) {e : E} (h : e.geqN R F = true) : 0 ≤ e.den V := by
  unfold E.geqN at h
  cases h1 : e.geq0 R F
  · rw [h1] at h; exact mulNn_ok hR hF h
  · exact E.geq0_ok hR hF h1
end
/-- 1 - e -/
noncomputable def mkNotO : E → E
  | .k n => .k (1 - n)
  | .t c a r => match c, a, r with
    | 1, .lt0 d, .k 0 => .atom (.lt0 (E.addK (-1) (d.smulG (-1))))
    | 1, .ite d x y, .k 0 => .atom (.ite d (mkNotO x) (mkNotO y))
    | c, a, r => E.addK 1 (E.smulG (-1) (.t c a r))
  | e => E.addK 1 (e.smulG (-1))
theorem den_mkNotO (V : Va) : ∀ e : E, (mkNotO e).den V = 1 - e.den V := by
  have gen : ∀ e : E, (E.addK 1 (e.smulG (-1))).den V = 1 - e.den V := fun e => by rw [E.den_addK, E.den_smulG]; omega
  suffices h : ∀ e : E, (mkNotO e).den V = 1 - e.den V ∧ (∀ d x y, e = .ite d x y → (mkNotO x).den V = 1 - x.den V ∧ (mkNotO y).den V = 1 - y.den V) from fun e => (h e).1
  intro e
  induction e with
  | k n => exact ⟨rfl, fun _ _ _ h => by cases h⟩
  | t c a r ia _ =>
    refine ⟨?_, fun _ _ _ h => by cases h⟩
    unfold mkNotO
    split
    · rename_i d
      simp only [E.den_atom, E.den, E.den_addK, E.den_smulG]
      split <;> split <;> omega
    · rename_i d x y _
      have := ia.2 d x y rfl
      simp only [E.den_atom, E.den, this.1, this.2]
      split <;> omega
    · exact gen _
  | ite d x y _ ix iy => exact ⟨gen _, fun d' x' y' h => by injection h with h1 h2 h3; subst h2 h3; exact ⟨ix.1, iy.1⟩⟩
  | _ => exact ⟨gen _, fun _ _ _ h => by cases h⟩
noncomputable def mkNot (e : E) : E := ife e.isK (.k (1 - e.gc)) (mkNotO e)
theorem E.isK_cases (e : E) : (∃ n, e = .k n ∧ e.isK = true ∧ e.gc = n) ∨ e.isK = false := by
  cases e <;> first | exact .inl ⟨_, rfl, rfl, rfl⟩ | exact .inr rfl
theorem den_mkNot (V : Va) (e : E) : (mkNot e).den V = 1 - e.den V := by
  unfold mkNot
  rcases e.isK_cases with ⟨n, rfl, h, _⟩ | h
  · rw [h]; rfl
  · rw [h]; exact den_mkNotO V e
/-- if c ≠ 0 then a else b -/
noncomputable def mkIte0 (c a b : E) : E := ord3 (a.cmp b) (.atom (.ite c a b)) a (.atom (.ite c a b))
theorem den_mkIte0 (V : Va) (c a b : E) : (mkIte0 c a b).den V = if c.den V = 0 then b.den V else a.den V := by
  unfold mkIte0
  cases hc : a.cmp b
  · exact E.den_atom V _
  · have := E.cmp_eq _ _ hc
    subst this
    show a.den V = _
    simp
  · exact E.den_atom V _
noncomputable def sameE (a b : E) : Bool := ord3 (a.cmp b) false true false
theorem sameE_ok {a b : E} (h : sameE a b = true) : a = b := by
  unfold sameE at h
  cases hc : a.cmp b
  · rw [hc] at h; cases (show false = true from h)
  · exact E.cmp_eq _ _ hc
  · rw [hc] at h; cases (show false = true from h)
/-- Where c is below 0, c' is. -/
noncomputable def imp0 (c c' : E) : Bool := match c, c' with
  | .t 1 (.lt0 d) (.k 0), .t 1 (.lt0 d') (.k 0) => (d.sub d').lit (fun n => leI 0 n) false
  | _, _ => false
theorem imp0_ok (V : Va) {c c' : E} (h : imp0 c c' = true) : c.den V ≠ 0 → c'.den V ≠ 0 := by
  unfold imp0 at h
  split at h
  · rename_i d d'
    rcases E.lit_cases (d.sub d') (fun n => leI 0 n) false with ⟨n, hn, h'⟩ | h' <;> rw [h'] at h
    · have h1 := leI_iff.1 h
      have h2 := E.den_sub V d d'
      rw [hn] at h2
      simp only [E.den] at h2 ⊢
      split
      · intro _; rw [if_pos (by omega)]; omega
      · intro hh; simp at hh
    · cases h
  · cases h
noncomputable def mkIteB (c a b : E) : E := match b with
  | .t 1 (.ite c' a' b') (.k 0) => ife (sameE c c') (mkIte0 c a b') (ife (ife (sameE a a') (imp0 c c') false) b (mkIte0 c a b))
  | b => mkIte0 c a b
theorem den_mkIteB (V : Va) (c a b : E) : (mkIteB c a b).den V = if c.den V = 0 then b.den V else a.den V := by
  unfold mkIteB
  split
  · rename_i c' a' b'
    have hb : (E.t 1 (.ite c' a' b') (.k 0)).den V = if c'.den V = 0 then b'.den V else a'.den V := by simp only [E.den]; omega
    cases h1 : sameE c c'
    · cases h2 : sameE a a'
      · simp only [ife_false]; exact den_mkIte0 V _ _ _
      · cases h3 : imp0 c c'
        · simp only [ife_false, ife_true]; exact den_mkIte0 V _ _ _
        · simp only [ife_false, ife_true]
          have := sameE_ok h2; subst this
          by_cases hc : c.den V = 0
          · rw [if_pos hc]
          · rw [if_neg hc, hb, if_neg (imp0_ok V h3 hc)]
    · have := sameE_ok h1; subst this
      simp only [ife_true]
      rw [den_mkIte0, hb]
      by_cases hc : c.den V = 0
      · rw [if_pos hc, if_pos hc, if_pos hc]
      · rw [if_neg hc, if_neg hc]
  · exact den_mkIte0 V _ _ _
noncomputable def mkIte (c a b : E) : E := c.lit (fun n => ife (eqI n 0) b a) (match a with
  | .t 1 (.ite c' a' b') (.k 0) => ife (sameE c c') (mkIteB c a' b) (ife (ife (imp0 c' c) (sameE b b') false) (.t 1 (.ite c' a' b') (.k 0)) (mkIteB c (.t 1 (.ite c' a' b') (.k 0)) b))
  | a => mkIteB c a b)
theorem den_mkIte (V : Va) (c a b : E) : (mkIte c a b).den V = if c.den V = 0 then b.den V else a.den V := by
  unfold mkIte
  generalize hX : (match a with
    | .t 1 (.ite c' a' b') (.k 0) => ife (sameE c c') (mkIteB c a' b) (ife (ife (imp0 c' c) (sameE b b') false) (.t 1 (.ite c' a' b') (.k 0)) (mkIteB c (.t 1 (.ite c' a' b') (.k 0)) b))
    | a => mkIteB c a b) = X
  rcases E.lit_cases c (fun n => ife (eqI n 0) b a) X with ⟨n, rfl, h⟩ | h <;> rw [h]
  · cases h1 : eqI n 0
    · have : ¬ n = 0 := fun h' => by rw [eqI_iff.2 h'] at h1; cases h1
      rw [if_neg (show ¬ (E.k n).den V = 0 from this)]; rfl
    · have := eqI_iff.1 h1; rw [if_pos (show (E.k n).den V = 0 from this)]; rfl
  · rw [← hX]
    split
    · rename_i c' a' b'
      cases h1 : sameE c c'
      · rw [ife_false]
        cases h2 : imp0 c' c
        · exact den_mkIteB V _ _ _
        · cases h3 : sameE b b'
          · exact den_mkIteB V _ _ _
          · have := sameE_ok h3; subst this
            simp only [ife_true, E.den]
            by_cases hc : c.den V = 0
            · have hc' : c'.den V = 0 := Classical.byContradiction fun q => imp0_ok V h2 q hc
              rw [if_pos hc, if_pos hc']; omega
            · rw [if_neg hc]
      · have := sameE_ok h1; subst this
        rw [ife_true, den_mkIteB]
        by_cases hc : c.den V = 0
        · rw [if_pos hc, if_pos hc]
        · rw [if_neg hc, if_neg hc]
          simp only [E.den]
          rw [if_neg hc]; omega
    · exact den_mkIteB V _ _ _
/-! ### The operations -/
section ops
variable (R : Rg) (F : List E)
/-- e, wrapped into a kind. -/
noncomputable def mkWr0 (kd : IntKind) (e : E) : E :=
  ife (ife ((E.addK (-(kmin kd)) e).geq0 R F) ((E.sub (.k (kmax kd)) e).geq0 R F) false) e (.atom (.wr kd e))
noncomputable def mkWr (kd : IntKind) (e : E) : E := ife (e.within R (kmin kd) (kmax kd)) e (e.lit (fun n => .k (kd.wrap n)) (mkWr0 R F kd e))
theorem den_mkWr {R : Rg} {F : List E} {V : Va} (hR : R.ok V) (hF : Fs.ok V F) (kd : IntKind) (e : E) : (mkWr R F kd e).den V = kd.wrap (e.den V) := by
  unfold mkWr
  cases hw : e.within R (kmin kd) (kmax kd)
  · rw [ife_false]
    rcases E.lit_cases e (fun n => E.k (kd.wrap n)) (mkWr0 R F kd e) with ⟨n, rfl, h⟩ | h <;> rw [h]
    · rfl
    · unfold mkWr0
      cases h1 : (E.addK (-(kmin kd)) e).geq0 R F
      · exact E.den_atom V _
      · cases h2 : (E.sub (.k (kmax kd)) e).geq0 R F
        · exact E.den_atom V _
        · have a := E.geq0_ok hR hF h1
          have b := E.geq0_ok hR hF h2
          rw [E.den_addK] at a
          rw [E.den_sub] at b
          simp only [E.den] at b
          simp only [ife_true]
          exact (wrap_in (by omega) (by omega)).symm
  · have := E.within_ok hR hw
    rw [ife_true]
    exact (wrap_in this.1 this.2).symm
noncomputable def mulAt (a b : E) : E := ord3 (a.cmp b) (.atom (.mul a b)) (.atom (.mul a b)) (.atom (.mul b a))
theorem den_mulAt (V : Va) (a b : E) : (mulAt a b).den V = a.den V * b.den V := by
  unfold mulAt
  cases a.cmp b
  · exact E.den_atom V _
  · exact E.den_atom V _
  · exact (E.den_atom V _).trans (Int.mul_comm _ _)
noncomputable def mulA (a y : E) : E :=
  E.rec (motive := fun _ => E) (fun n => E.smul n (.atom a)) (fun c b _ _ ih => (E.smul c (mulAt a b)).add ih)
    (fun _ => .k 0) (fun _ _ => .k 0) (fun _ _ => .k 0) (fun _ _ _ _ _ _ => .k 0) (fun _ _ _ _ => .k 0) (fun _ _ _ _ => .k 0) (fun _ _ _ _ => .k 0)
    (fun _ _ _ => .k 0) (fun _ _ _ => .k 0) (fun _ _ _ => .k 0) (fun _ _ _ => .k 0) (fun _ _ _ _ _ _ => .k 0) (fun _ _ _ _ _ => .k 0) y
noncomputable def lin (e : E) : Bool :=
  E.rec (motive := fun _ => Bool) (fun _ => true) (fun _ _ _ _ ih => ih) (fun _ => false) (fun _ _ => false) (fun _ _ => false) (fun _ _ _ _ _ _ => false) (fun _ _ _ _ => false) (fun _ _ _ _ => false) (fun _ _ _ _ => false)
    (fun _ _ _ => false) (fun _ _ _ => false) (fun _ _ _ => false) (fun _ _ _ => false) (fun _ _ _ _ _ _ => false) (fun _ _ _ _ _ => false) e
theorem den_mulA (V : Va) (a : E) : ∀ y : E, lin y = true → (mulA a y).den V = a.den V * y.den V := by
  intro y
  induction y with
  | k n => intro _; show (E.smul n (.atom a)).den V = _; rw [E.den_smul, E.den_atom, Int.mul_comm]; rfl
  | t c b r _ ir =>
    intro h
    show ((E.smul c (mulAt a b)).add (mulA a r)).den V = _
    rw [E.den_add, E.den_smul, den_mulAt, ir h]
    simp only [E.den]
    rw [Int.mul_add, Int.mul_left_comm]
  | _ => intro h; cases h
noncomputable def mulX (y x : E) : E :=
  E.rec (motive := fun _ => E) (fun n => E.smul n y) (fun c a _ _ ih => (E.smul c (mulA a y)).add ih)
    (fun _ => .k 0) (fun _ _ => .k 0) (fun _ _ => .k 0) (fun _ _ _ _ _ _ => .k 0) (fun _ _ _ _ => .k 0) (fun _ _ _ _ => .k 0) (fun _ _ _ _ => .k 0)
    (fun _ _ _ => .k 0) (fun _ _ _ => .k 0) (fun _ _ _ => .k 0) (fun _ _ _ => .k 0) (fun _ _ _ _ _ _ => .k 0) (fun _ _ _ _ _ => .k 0) x
theorem den_mulX (V : Va) (y : E) (hy : lin y = true) : ∀ x : E, lin x = true → (mulX y x).den V = x.den V * y.den V := by
  intro x
  induction x with
  | k n => intro _; show (E.smul n y).den V = _; rw [E.den_smul]; rfl
  | t c a r _ ir =>
    intro h
    show ((E.smul c (mulA a y)).add (mulX y r)).den V = _
    rw [E.den_add, E.den_smul, den_mulA V a y hy, ir h]
    simp only [E.den]
    rw [Int.add_mul, Int.mul_assoc]
  | _ => intro h; cases h
noncomputable def mkMul (x y : E) : E :=
  x.lit (fun a => y.lit (fun b => .k (a * b)) (y.smul a)) (y.lit (fun b => x.smul b) (ife (lin x) (ife (lin y) (mulX y x) (mulAt x y)) (mulAt x y)))
theorem den_mkMul (V : Va) (x y : E) : (mkMul x y).den V = x.den V * y.den V := by
  unfold mkMul
  rcases E.lit_cases x (fun a => y.lit (fun b => E.k (a * b)) (y.smul a)) (y.lit (fun b => x.smul b) (ife (lin x) (ife (lin y) (mulX y x) (mulAt x y)) (mulAt x y))) with ⟨a, rfl, h⟩ | h <;> rw [h]
  · rcases E.lit_cases y (fun b => E.k (a * b)) (y.smul a) with ⟨b, rfl, h'⟩ | h' <;> rw [h']
    · rfl
    · rw [E.den_smul]; rfl
  · rcases E.lit_cases y (fun b => x.smul b) (ife (lin x) (ife (lin y) (mulX y x) (mulAt x y)) (mulAt x y)) with ⟨b, rfl, h'⟩ | h' <;> rw [h']
    · rw [E.den_smul, Int.mul_comm]; rfl
    · cases h1 : lin x
      · exact den_mulAt V x y
      · cases h2 : lin y
        · exact den_mulAt V x y
        · exact den_mulX V y h2 x h1
/-- min -/
noncomputable def mkMnG (x y : E) : E :=
  ife ((y.sub x).geqN R F) x (ife ((x.sub y).geqN R F) y (match x.cmp y with | .gt => .atom (.mn y x) | _ => .atom (.mn x y)))
noncomputable def mkMn1 (x y : E) : E :=
  x.lit (fun a => y.lit (fun b => .k (mnI a b)) (mkMnG R F x y)) (y.lit (fun _ => mkMnG R F y x) (mkMnG R F x y))
theorem den_mkMnG {R : Rg} {F : List E} {V : Va} (hR : R.ok V) (hF : Fs.ok V F) (x y : E) : (mkMnG R F x y).den V = if y.den V < x.den V then y.den V else x.den V := by
  unfold mkMnG
  cases h1 : (y.sub x).geqN R F
  · cases h2 : (x.sub y).geqN R F
    · simp only [ife_false]
      cases x.cmp y <;> simp only [E.den_atom, E.den]
      split <;> split <;> omega
    · have a := E.geqN_ok hR hF h2; rw [E.den_sub] at a
      simp only [ife_false, ife_true]
      split <;> omega
  · have a := E.geqN_ok hR hF h1; rw [E.den_sub] at a
    simp only [ife_true]
    split <;> omega
theorem den_mkMn1 {R : Rg} {F : List E} {V : Va} (hR : R.ok V) (hF : Fs.ok V F) (x y : E) : (mkMn1 R F x y).den V = if y.den V < x.den V then y.den V else x.den V := by
  unfold mkMn1
  rcases E.lit_cases x (fun a => y.lit (fun b => E.k (mnI a b)) (mkMnG R F x y)) (y.lit (fun _ => mkMnG R F y x) (mkMnG R F x y)) with ⟨a, rfl, h⟩ | h <;> rw [h]
  · rcases E.lit_cases y (fun b => E.k (mnI a b)) (mkMnG R F (.k a) y) with ⟨b, rfl, h'⟩ | h' <;> rw [h']
    · exact mnI_eq a b
    · exact den_mkMnG hR hF _ _
  · rcases E.lit_cases y (fun _ => mkMnG R F y x) (mkMnG R F x y) with ⟨b, rfl, h'⟩ | h' <;> rw [h']
    · rw [den_mkMnG hR hF]
      split <;> split <;> omega
    · exact den_mkMnG hR hF _ _
/-- The two of a choice. -/
noncomputable def iteOf (x : E) : Option (E × E × E) := match x with
  | .t 1 (.ite c a b) (.k 0) => some (c, a, b)
  | _ => none
theorem iteOf_ok (V : Va) {x : E} {q : E × E × E} (h : iteOf x = some q) : x.den V = if q.1.den V = 0 then q.2.2.den V else q.2.1.den V := by
  unfold iteOf at h
  split at h
  · cases h; simp only [E.den]; omega
  · cases h
noncomputable def mkMn (x y : E) : E := y.lit (fun b => match iteOf x with | some q => mkIte q.1 (mkMn1 R F q.2.1 (.k b)) (mkMn1 R F q.2.2 (.k b)) | none => mkMn1 R F x (.k b))
  (x.lit (fun a => match iteOf y with | some q => mkIte q.1 (mkMn1 R F (.k a) q.2.1) (mkMn1 R F (.k a) q.2.2) | none => mkMn1 R F (.k a) y) (mkMn1 R F x y))
theorem den_mkMn {R : Rg} {F : List E} {V : Va} (hR : R.ok V) (hF : Fs.ok V F) (x y : E) : (mkMn R F x y).den V = if y.den V < x.den V then y.den V else x.den V := by
  unfold mkMn
  generalize hX : (x.lit (fun a => match iteOf y with | some q => mkIte q.1 (mkMn1 R F (.k a) q.2.1) (mkMn1 R F (.k a) q.2.2) | none => mkMn1 R F (.k a) y) (mkMn1 R F x y)) = X
  rcases E.lit_cases y (fun b => match iteOf x with | some q => mkIte q.1 (mkMn1 R F q.2.1 (.k b)) (mkMn1 R F q.2.2 (.k b)) | none => mkMn1 R F x (.k b)) X with ⟨b, rfl, h⟩ | h <;> rw [h]
  · split
    · rename_i q hq
      rw [den_mkIte, den_mkMn1 hR hF, den_mkMn1 hR hF, iteOf_ok V hq]
      by_cases hc : q.1.den V = 0
      · rw [if_pos hc, if_pos hc]
      · rw [if_neg hc, if_neg hc]
    · exact den_mkMn1 hR hF _ _
  · rw [← hX]
    rcases E.lit_cases x (fun a => match iteOf y with | some q => mkIte q.1 (mkMn1 R F (.k a) q.2.1) (mkMn1 R F (.k a) q.2.2) | none => mkMn1 R F (.k a) y) (mkMn1 R F x y) with ⟨a, rfl, h'⟩ | h' <;> rw [h']
    · split
      · rename_i q hq
        rw [den_mkIte, den_mkMn1 hR hF, den_mkMn1 hR hF, iteOf_ok V hq]
        by_cases hc : q.1.den V = 0
        · rw [if_pos hc, if_pos hc]
        · rw [if_neg hc, if_neg hc]
      · exact den_mkMn1 hR hF _ _
    · exact den_mkMn1 hR hF _ _
/-- max; what is clipped on both sides is spelt 'min' of 'max'. -/
noncomputable def clampMx (x y : E) : E :=
  match x, y with
  | .k l, .t 1 (.mn (.k h) z) (.k 0) => bif leI l h then .atom (.mn (.k h) (.atom (.mx (.k l) z))) else .atom (.mx x y)
  | .t 1 (.mn (.k h) z) (.k 0), .k l => bif leI l h then .atom (.mn (.k h) (.atom (.mx (.k l) z))) else .atom (.mx y x)
  | x, y => match x.cmp y with | .gt => .atom (.mx y x) | _ => .atom (.mx x y)
theorem den_clampMx (V : Va) (x y : E) : (clampMx x y).den V = if y.den V > x.den V then y.den V else x.den V := by
  unfold clampMx
  split
  · rename_i l h z
    cases hc : leI l h
    · simp only [cond_false, E.den_atom, E.den]
    · have := leI_iff.1 hc
      simp only [cond_true, E.den_atom, E.den, Int.one_mul, Int.add_zero]
      generalize z.den V = u
      by_cases h1 : u > l <;> by_cases h2 : u < h <;> simp [h1, h2] <;> (repeat' split) <;> omega
  · rename_i h z l
    cases hc : leI l h
    · simp only [cond_false, E.den_atom, E.den, Int.one_mul, Int.add_zero]
      generalize z.den V = u
      by_cases h2 : u < h <;> simp [h2] <;> (repeat' split) <;> omega
    · have := leI_iff.1 hc
      simp only [cond_true, E.den_atom, E.den, Int.one_mul, Int.add_zero]
      generalize z.den V = u
      by_cases h1 : u > l <;> by_cases h2 : u < h <;> simp [h1, h2] <;> (repeat' split) <;> omega
  · cases x.cmp y <;> simp only [E.den_atom, E.den]
    split <;> split <;> omega
noncomputable def ordMn (x y : E) : E := match x.cmp y with | .gt => .atom (.mn y x) | _ => .atom (.mn x y)
theorem den_ordMn (V : Va) (x y : E) : (ordMn x y).den V = if y.den V < x.den V then y.den V else x.den V := by
  unfold ordMn
  cases x.cmp y <;> simp only [E.den_atom, E.den]
  split <;> split <;> omega
/-- max of a min: the min is spelt first, where its bound is not below. -/
noncomputable def clampY (x y : E) : E := match x with
  | .t 1 (.mn a b) (.k 0) => ife ((a.sub y).geq0 R F) (ordMn a (clampMx b y)) (ife ((b.sub y).geq0 R F) (ordMn b (clampMx a y)) (clampMx x y))
  | x => clampMx x y
theorem den_clampY {R : Rg} {F : List E} {V : Va} (hR : R.ok V) (hF : Fs.ok V F) (x y : E) : (clampY R F x y).den V = if y.den V > x.den V then y.den V else x.den V := by
  unfold clampY
  split
  · rename_i a b
    have hx : (E.t 1 (.mn a b) (.k 0)).den V = if b.den V < a.den V then b.den V else a.den V := by simp only [E.den]; omega
    cases h1 : (a.sub y).geq0 R F
    · cases h2 : (b.sub y).geq0 R F
      · exact den_clampMx V _ y
      · have q := E.geq0_ok hR hF h2; rw [E.den_sub] at q
        rw [ife_false, ife_true, den_ordMn, den_clampMx, hx]
        (repeat' split) <;> omega
    · have q := E.geq0_ok hR hF h1; rw [E.den_sub] at q
      rw [ife_true, den_ordMn, den_clampMx, hx]
      (repeat' split) <;> omega
  · exact den_clampMx V _ y
noncomputable def isMn (x : E) : Bool := match x with | .t 1 (.mn _ _) (.k 0) => true | _ => false
noncomputable def clampG (x y : E) : E := ife (ife x.isK true y.isK) (clampMx x y) (ife (isMn x) (clampY R F x y) (ife (isMn y) (clampY R F y x) (clampMx x y)))
theorem den_clampG {R : Rg} {F : List E} {V : Va} (hR : R.ok V) (hF : Fs.ok V F) (x y : E) : (clampG R F x y).den V = if y.den V > x.den V then y.den V else x.den V := by
  unfold clampG
  cases ife x.isK true y.isK
  · cases isMn x
    · cases isMn y
      · exact den_clampMx V x y
      · rw [ife_false, ife_false, ife_true, den_clampY hR hF]
        split <;> split <;> omega
    · exact den_clampY hR hF x y
  · exact den_clampMx V x y
noncomputable def mkMxG (x y : E) : E :=
  ife ((x.sub y).geqN R F) x (ife ((y.sub x).geqN R F) y (clampG R F x y))
noncomputable def mkMx1 (x y : E) : E :=
  x.lit (fun a => y.lit (fun b => .k (mxI a b)) (mkMxG R F x y)) (y.lit (fun _ => mkMxG R F y x) (mkMxG R F x y))
theorem den_mkMxG {R : Rg} {F : List E} {V : Va} (hR : R.ok V) (hF : Fs.ok V F) (x y : E) : (mkMxG R F x y).den V = if y.den V > x.den V then y.den V else x.den V := by
  unfold mkMxG
  cases h1 : (x.sub y).geqN R F
  · cases h2 : (y.sub x).geqN R F
    · exact den_clampG hR hF x y
    · have a := E.geqN_ok hR hF h2; rw [E.den_sub] at a
      simp only [ife_false, ife_true]
      split <;> omega
  · have a := E.geqN_ok hR hF h1; rw [E.den_sub] at a
    simp only [ife_true]
    split <;> omega
theorem den_mkMx1 {R : Rg} {F : List E} {V : Va} (hR : R.ok V) (hF : Fs.ok V F) (x y : E) : (mkMx1 R F x y).den V = if y.den V > x.den V then y.den V else x.den V := by
  unfold mkMx1
  rcases E.lit_cases x (fun a => y.lit (fun b => E.k (mxI a b)) (mkMxG R F x y)) (y.lit (fun _ => mkMxG R F y x) (mkMxG R F x y)) with ⟨a, rfl, h⟩ | h <;> rw [h]
  · rcases E.lit_cases y (fun b => E.k (mxI a b)) (mkMxG R F (.k a) y) with ⟨b, rfl, h'⟩ | h' <;> rw [h']
    · exact mxI_eq a b
    · exact den_mkMxG hR hF _ _
  · rcases E.lit_cases y (fun _ => mkMxG R F y x) (mkMxG R F x y) with ⟨b, rfl, h'⟩ | h' <;> rw [h']
    · rw [den_mkMxG hR hF]
      split <;> split <;> omega
    · exact den_mkMxG hR hF _ _
noncomputable def mkMx (x y : E) : E := y.lit (fun b => match iteOf x with | some q => mkIte q.1 (mkMx1 R F q.2.1 (.k b)) (mkMx1 R F q.2.2 (.k b)) | none => mkMx1 R F x (.k b))
  (x.lit (fun a => match iteOf y with | some q => mkIte q.1 (mkMx1 R F (.k a) q.2.1) (mkMx1 R F (.k a) q.2.2) | none => mkMx1 R F (.k a) y) (mkMx1 R F x y))
theorem den_mkMx {R : Rg} {F : List E} {V : Va} (hR : R.ok V) (hF : Fs.ok V F) (x y : E) : (mkMx R F x y).den V = if y.den V > x.den V then y.den V else x.den V := by
  unfold mkMx
  generalize hX : (x.lit (fun a => match iteOf y with | some q => mkIte q.1 (mkMx1 R F (.k a) q.2.1) (mkMx1 R F (.k a) q.2.2) | none => mkMx1 R F (.k a) y) (mkMx1 R F x y)) = X
  rcases E.lit_cases y (fun b => match iteOf x with | some q => mkIte q.1 (mkMx1 R F q.2.1 (.k b)) (mkMx1 R F q.2.2 (.k b)) | none => mkMx1 R F x (.k b)) X with ⟨b, rfl, h⟩ | h <;> rw [h]
  · split
    · rename_i q hq
      rw [den_mkIte, den_mkMx1 hR hF, den_mkMx1 hR hF, iteOf_ok V hq]
      by_cases hc : q.1.den V = 0
      · rw [if_pos hc, if_pos hc]
      · rw [if_neg hc, if_neg hc]
    · exact den_mkMx1 hR hF _ _
  · rw [← hX]
    rcases E.lit_cases x (fun a => match iteOf y with | some q => mkIte q.1 (mkMx1 R F (.k a) q.2.1) (mkMx1 R F (.k a) q.2.2) | none => mkMx1 R F (.k a) y) (mkMx1 R F x y) with ⟨a, rfl, h'⟩ | h' <;> rw [h']
    · split
      · rename_i q hq
        rw [den_mkIte, den_mkMx1 hR hF, den_mkMx1 hR hF, iteOf_ok V hq]
        by_cases hc : q.1.den V = 0
        · rw [if_pos hc, if_pos hc]
        · rw [if_neg hc, if_neg hc]
      · exact den_mkMx1 hR hF _ _
    · exact den_mkMx1 hR hF _ _
/-- What a number divides of a linear form: (quotient, rest): e = d * quotient + rest. -/
noncomputable def partsT (d c : Int) (a : E) (p : E × E) : E × E := ife (eqI (c % d) 0) (.t (c / d) a p.1, p.2) (p.1, .t c a p.2)
noncomputable def E.parts (d : Int) (e : E) : E × E :=
  E.rec (motive := fun _ => Int → E → E × E) (fun n d _ => (.k (n / d), .k (n % d))) (fun c a r _ ih d _ => partsT d c a (ih d r)) (fun _ _ e => (.k 0, e)) (fun _ _ _ e => (.k 0, e)) (fun _ _ _ e => (.k 0, e)) (fun _ _ _ _ _ _ _ e => (.k 0, e)) (fun _ _ _ _ _ e => (.k 0, e)) (fun _ _ _ _ _ e => (.k 0, e)) (fun _ _ _ _ _ e => (.k 0, e)) (fun _ _ _ _ e => (.k 0, e)) (fun _ _ _ _ e => (.k 0, e)) (fun _ _ _ _ e => (.k 0, e)) (fun _ _ _ _ e => (.k 0, e)) (fun _ _ _ _ _ _ _ e => (.k 0, e)) (fun _ _ _ _ _ _ e => (.k 0, e)) e d e
theorem E.den_parts (V : Va) {d : Int} : ∀ e : E, d * (e.parts d).1.den V + (e.parts d).2.den V = e.den V := by
  intro e
  induction e with
  | k n => exact Int.mul_ediv_add_emod n d
  | t c a r _ ih =>
    rw [show (E.t c a r).parts d = partsT d c a (r.parts d) from rfl]
    unfold partsT
    generalize r.parts d = p at ih
    obtain ⟨q, s⟩ := p
    simp only [E.den] at ih ⊢
    cases hc : eqI (c % d) 0
    · simp only [ife_false, E.den]; omega
    · have h0 := eqI_iff.1 hc
      have h1 : d * (c / d) = c := by have := Int.mul_ediv_add_emod c d; omega
      simp only [ife_true, E.den, Int.mul_add]
      have h2 : d * (c / d * a.den V) = c * a.den V := by rw [← Int.mul_assoc, h1]
      omega
  | _ => exact (show ∀ z : Int, d * 0 + z = z from fun z => by omega) _
/-- shift to the right -/
noncomputable def mkShr (e : E) (n : Nat) : E :=
  e.lit (fun a => .k (a / (2 ^ n : Int))) (match e.parts (2 ^ n : Int) with
    | (q, s) => s.lit (fun b => q.addK (b / (2 ^ n : Int))) (ife (ife (leI 0 (s.rng R).1) (leI (s.rng R).2 (2 ^ n - 1 : Int)) false) q (q.addG (.atom (.shr s n)))))
theorem div_shift {m q s : Int} (hm : 0 < m) : (m * q + s) / m = q + s / m := by
  rw [Int.add_comm, Int.add_mul_ediv_left _ _ (by omega)]; omega
theorem den_mkShr {R : Rg} {V : Va} (hR : R.ok V) (e : E) (n : Nat) : (mkShr R e n).den V = e.den V / (2 ^ n : Int) := by
  unfold mkShr
  have hp : (0 : Int) < 2 ^ n := Int.pow_pos (by omega)
  generalize hX : (match e.parts (2 ^ n : Int) with
    | (q, s) => s.lit (fun b => q.addK (b / (2 ^ n : Int))) (ife (ife (leI 0 (s.rng R).1) (leI (s.rng R).2 (2 ^ n - 1 : Int)) false) q (q.addG (.atom (.shr s n))))) = X
  rcases E.lit_cases e (fun a => E.k (a / (2 ^ n : Int))) X with ⟨a, rfl, h⟩ | h <;> rw [h]
  · rfl
  · rw [← hX]
    have hd := E.den_parts V (d := (2 ^ n : Int)) e
    generalize e.parts (2 ^ n : Int) = p at hd
    obtain ⟨q, s⟩ := p
    simp only at hd ⊢
    rw [← hd, div_shift hp]
    rcases E.lit_cases s (fun b => q.addK (b / (2 ^ n : Int))) (ife (ife (leI 0 (s.rng R).1) (leI (s.rng R).2 (2 ^ n - 1 : Int)) false) q (q.addG (.atom (.shr s n)))) with ⟨b, rfl, h'⟩ | h' <;> rw [h']
    · rw [E.den_addK]; rfl
    · cases h1 : leI 0 (s.rng R).1
      · simp only [ife_false, E.den_addG, E.den_atom, E.den]
      · cases h2 : leI (s.rng R).2 (2 ^ n - 1 : Int)
        · simp only [ife_false, ife_true, E.den_addG, E.den_atom, E.den]
        · have a := leI_iff.1 h1; have b := leI_iff.1 h2
          have c := E.rng_ok hR s
          simp only [ife_true]
          rw [Int.ediv_eq_zero_of_lt (by omega) (by omega)]; omega
/-- a quotient toward 0, by a number above 0 -/
noncomputable def mkDv0 (e : E) (d : Int) : E :=
  e.lit (fun a => .k (a.tdiv d)) (match e.parts d with
    | (q, s) => ife (s.lit (fun b => eqI b 0) false) q (ife (ife (e.geq0 R F) (leI (e.rng R).2 (d - 1)) false) (.k 0) (.atom (.dv e d))))
theorem den_mkDv0 {R : Rg} {F : List E} {V : Va} (hR : R.ok V) (hF : Fs.ok V F) (e : E) {d : Int} (hd : 0 < d) : (mkDv0 R F e d).den V = (e.den V).tdiv d := by
  unfold mkDv0
  generalize hX : (match e.parts d with
    | (q, s) => ife (s.lit (fun b => eqI b 0) false) q (ife (ife (e.geq0 R F) (leI (e.rng R).2 (d - 1)) false) (.k 0) (.atom (.dv e d)))) = X
  rcases E.lit_cases e (fun a => E.k (a.tdiv d)) X with ⟨a, rfl, h⟩ | h <;> rw [h]
  · rfl
  · rw [← hX]
    have hp := E.den_parts V (d := d) e
    generalize e.parts d = p at hp
    obtain ⟨q, s⟩ := p
    simp only at hp ⊢
    cases h0 : s.lit (fun b => eqI b 0) false
    · simp only [ife_false]
      cases h1 : e.geq0 R F
      · simp only [ife_false, E.den_atom, E.den]
      · cases h2 : leI (e.rng R).2 (d - 1)
        · simp only [ife_true, ife_false, E.den_atom, E.den]
        · have a := E.geq0_ok hR hF h1; have b := leI_iff.1 h2
          have c := (E.rng_ok hR e).2
          simp only [ife_true, E.den]
          exact (Int.tdiv_eq_zero_of_lt a (by omega)).symm
    · rcases E.lit_cases s (fun b => eqI b 0) false with ⟨b, rfl, h'⟩ | h' <;> rw [h'] at h0
      · have := eqI_iff.1 h0; subst this
        simp only [ife_true]
        simp only [E.den] at hp
        rw [← hp, Int.add_zero, Int.mul_tdiv_cancel_left _ (by omega)]
      · cases h0
noncomputable def p2 (d : Int) : Option Nat := bif eqI d 2 then some 1 else bif eqI d 4 then some 2 else bif eqI d 8 then some 3 else bif eqI d 16 then some 4 else bif eqI d 32 then some 5 else bif eqI d 64 then some 6 else none
theorem p2_ok {d : Int} {n : Nat} (h : p2 d = some n) : d = 2 ^ n := by
  unfold p2 at h
  cases h1 : eqI d 2
  · cases h2 : eqI d 4
    · cases h3 : eqI d 8
      · cases h4 : eqI d 16
        · cases h5 : eqI d 32
          · cases h6 : eqI d 64
            · simp [h1, h2, h3, h4, h5, h6] at h
            · have := eqI_iff.1 h6; simp [h1, h2, h3, h4, h5, h6] at h; subst h; rw [this]; rfl
          · have := eqI_iff.1 h5; simp [h1, h2, h3, h4, h5] at h; subst h; rw [this]; rfl
        · have := eqI_iff.1 h4; simp [h1, h2, h3, h4] at h; subst h; rw [this]; rfl
      · have := eqI_iff.1 h3; simp [h1, h2, h3] at h; subst h; rw [this]; rfl
    · have := eqI_iff.1 h2; simp [h1, h2] at h; subst h; rw [this]; rfl
  · have := eqI_iff.1 h1; simp [h1] at h; subst h; rw [this]; rfl
noncomputable def mkDv (e : E) (d : Int) : E :=
  e.lit (fun a => .k (a.tdiv d)) (ife (e.geq0 R F) (match p2 d with | some n => mkShr R e n | none => mkDv0 R F e d) (mkDv0 R F e d))
theorem den_mkDv {R : Rg} {F : List E} {V : Va} (hR : R.ok V) (hF : Fs.ok V F) (e : E) {d : Int} (hd : 0 < d) : (mkDv R F e d).den V = (e.den V).tdiv d := by
  have old := den_mkDv0 hR hF e hd
  unfold mkDv
  rcases E.lit_cases e (fun a => E.k (a.tdiv d)) (ife (e.geq0 R F) (match p2 d with | some n => mkShr R e n | none => mkDv0 R F e d) (mkDv0 R F e d)) with ⟨a, rfl, h⟩ | h <;> rw [h]
  · rfl
  · cases h1 : e.geq0 R F
    · exact old
    · rw [ife_true]
      split
      · rename_i n hn
        rw [den_mkShr hR, Int.tdiv_eq_ediv_of_nonneg (E.geq0_ok hR hF h1), p2_ok hn]
      · exact old
/-- a rest toward 0, by a number above 0 -/
noncomputable def mkMdP (d : Int) (n : Nat) : E → E :=
  Nat.rec (motive := fun _ => E → E) (fun e => .atom (.md e d)) (fun _ ih e => ife ((E.sub (.k (d - 1)) e).geq0 R F) e (ife ((e.addK (-d)).geq0 R F) (ih (e.addK (-d))) (.atom (.md e d)))) n
theorem den_mkMdP {R : Rg} {F : List E} {V : Va} (hR : R.ok V) (hF : Fs.ok V F) {d : Int} (hd : 0 < d) : ∀ (n : Nat) (e : E), 0 ≤ e.den V → (mkMdP R F d n e).den V = (e.den V).tmod d
  | 0, e, _ => by show (E.atom (.md e d)).den V = _; rw [E.den_atom]; rfl
  | n + 1, e, he => by
    show (ife ((E.sub (.k (d - 1)) e).geq0 R F) e (ife ((e.addK (-d)).geq0 R F) (mkMdP R F d n (e.addK (-d))) (.atom (.md e d)))).den V = _
    cases h1 : (E.sub (.k (d - 1)) e).geq0 R F
    · cases h2 : (e.addK (-d)).geq0 R F
      · simp only [ife_false, E.den_atom, E.den]
      · have a := E.geq0_ok hR hF h2
        rw [E.den_addK] at a
        simp only [ife_false, ife_true]
        rw [den_mkMdP hR hF hd n _ (by rw [E.den_addK]; exact a), E.den_addK, Int.tmod_eq_emod_of_nonneg a, Int.tmod_eq_emod_of_nonneg he, ← Int.sub_eq_add_neg, Int.sub_emod_right]
    · have b := E.geq0_ok hR hF h1
      rw [E.den_sub] at b; simp only [E.den] at b
      simp only [ife_true]
      rw [Int.tmod_eq_emod_of_nonneg he, Int.emod_eq_of_lt he (by omega)]
noncomputable def mkMd1 (e : E) (d : Int) : E :=
  e.lit (fun a => .k (a.tmod d)) (ife (leI 1 d) (ife (e.geq0 R F) (mkMdP R F d 3 e)
    (ife (ife ((E.addK (d - 1) e).geq0 R F) ((E.sub (.k (d - 1)) e).geq0 R F) false) e (ife ((e.smulG (-1)).geq0 R F) (E.smulG (-1) (mkMdP R F d 3 (e.smulG (-1)))) (.atom (.md e d))))) (.atom (.md e d)))
theorem den_mkMd1 {R : Rg} {F : List E} {V : Va} (hR : R.ok V) (hF : Fs.ok V F) (e : E) (d : Int) : (mkMd1 R F e d).den V = (e.den V).tmod d := by
  unfold mkMd1
  generalize hX : (ife (leI 1 d) (ife (e.geq0 R F) (mkMdP R F d 3 e)
    (ife (ife ((E.addK (d - 1) e).geq0 R F) ((E.sub (.k (d - 1)) e).geq0 R F) false) e (ife ((e.smulG (-1)).geq0 R F) (E.smulG (-1) (mkMdP R F d 3 (e.smulG (-1)))) (.atom (.md e d))))) (.atom (.md e d))) = X
  rcases E.lit_cases e (fun a => E.k (a.tmod d)) X with ⟨a, rfl, h⟩ | h <;> rw [h]
  · rfl
  · rw [← hX]
    cases h0 : leI 1 d
    · simp only [ife_false, E.den_atom, E.den]
    · have hd := leI_iff.1 h0
      rw [ife_true]
      cases h1 : e.geq0 R F
      · rw [ife_false]
        cases h2 : ife ((E.addK (d - 1) e).geq0 R F) ((E.sub (.k (d - 1)) e).geq0 R F) false
        · rw [ife_false]
          cases h3 : (e.smulG (-1)).geq0 R F
          · simp only [ife_false, E.den_atom, E.den]
          · have a := E.geq0_ok hR hF h3
            rw [ife_true, E.den_smulG, den_mkMdP hR hF (by omega) 3 _ a, E.den_smulG, Int.neg_mul, Int.one_mul, Int.neg_mul, Int.one_mul, Int.neg_tmod, Int.neg_neg]
        · cases h3 : (E.addK (d - 1) e).geq0 R F
          · rw [h3] at h2; cases h2
          · rw [h3, ife_true] at h2
            have a := E.geq0_ok hR hF h3; have b := E.geq0_ok hR hF h2
            rw [E.den_addK] at a; rw [E.den_sub] at b; simp only [E.den] at b
            rw [ife_true]
            rcases Int.lt_or_le (e.den V) 0 with hn | hn
            · have : (-(e.den V)).tmod d = -(e.den V) := by rw [Int.tmod_eq_emod_of_nonneg (by omega), Int.emod_eq_of_lt (by omega) (by omega)]
              rw [Int.neg_tmod] at this; omega
            · rw [Int.tmod_eq_emod_of_nonneg hn, Int.emod_eq_of_lt hn (by omega)]
      · rw [ife_true]
        exact (den_mkMdP hR hF (by omega) 3 e (E.geq0_ok hR hF h1))
noncomputable def mkMd (e : E) (d : Int) : E := ife (eqI d 1) (.k 0) (mkMd1 R F e d)
theorem den_mkMd {R : Rg} {F : List E} {V : Va} (hR : R.ok V) (hF : Fs.ok V F) (e : E) (d : Int) : (mkMd R F e d).den V = (e.den V).tmod d := by
  unfold mkMd
  cases h : eqI d 1
  · exact den_mkMd1 hR hF e d
  · have := eqI_iff.1 h
    subst this
    rw [ife_true, Int.tmod_one]; rfl
/-- Is e below 0? (1 or 0) -/
noncomputable def mkLt0b (e : E) : E :=
  e.lit (fun n => ife (leI 0 n) (.k 0) (.k 1)) (ife (e.geq0 R F) (.k 0) (ife ((E.addK (-1) (e.smulG (-1))).geq0 R F) (.k 1) (ife (mulNn R F e) (.k 0) (ife (mulNn R F (E.addK (-1) (e.smulG (-1)))) (.k 1) (.atom (.lt0 e))))))
theorem den_mkLt0b {R : Rg} {F : List E} {V : Va} (hR : R.ok V) (hF : Fs.ok V F) (e : E) : (mkLt0b R F e).den V = if e.den V < 0 then 1 else 0 := by
  unfold mkLt0b
  rcases E.lit_cases e (fun n => ife (leI 0 n) (E.k 0) (.k 1)) (ife (e.geq0 R F) (.k 0) (ife ((E.addK (-1) (e.smulG (-1))).geq0 R F) (.k 1) (ife (mulNn R F e) (.k 0) (ife (mulNn R F (E.addK (-1) (e.smulG (-1)))) (.k 1) (.atom (.lt0 e)))))) with ⟨n, rfl, h⟩ | h <;> rw [h]
  · cases h1 : leI 0 n
    · have := leI_false h1; rw [if_pos (show (E.k n).den V < 0 from this)]; rfl
    · have := leI_iff.1 h1; rw [if_neg (show ¬ (E.k n).den V < 0 from by show ¬ n < 0; omega)]; rfl
  · cases h1 : e.geq0 R F
    · cases h2 : (E.addK (-1) (e.smulG (-1))).geq0 R F
      · cases h3 : mulNn R F e
        · cases h4 : mulNn R F (E.addK (-1) (e.smulG (-1)))
          · simp only [ife_false, E.den_atom, E.den]
          · have a := mulNn_ok hR hF h4
            rw [E.den_addK, E.den_smulG] at a
            simp only [ife_false, ife_true]
            rw [if_pos (by omega)]; rfl
        · have a := mulNn_ok hR hF h3
          simp only [ife_false, ife_true]
          rw [if_neg (by omega)]; rfl
      · have a := E.geq0_ok hR hF h2
        rw [E.den_addK, E.den_smulG] at a
        rw [if_pos (by omega)]; rfl
    · have a := E.geq0_ok hR hF h1
      rw [if_neg (by omega)]; rfl
noncomputable def mkLt0a (e : E) : E := ife (leI 0 (e.rng R).1) (.k 0) (ife (leI (e.rng R).2 (-1)) (.k 1) (mkLt0b R F e))
theorem den_mkLt0a {R : Rg} {F : List E} {V : Va} (hR : R.ok V) (hF : Fs.ok V F) (e : E) : (mkLt0a R F e).den V = if e.den V < 0 then 1 else 0 := by
  unfold mkLt0a
  have r := E.rng_ok hR e
  cases h1 : leI 0 (e.rng R).1
  · cases h2 : leI (e.rng R).2 (-1)
    · exact den_mkLt0b hR hF e
    · have := leI_iff.1 h2
      rw [if_pos (by omega)]; rfl
  · have := leI_iff.1 h1
    rw [if_neg (by omega)]; rfl
/-- Another that is below 0 just where e is. -/
noncomputable def ltS (e : E) : E := match e with
  | .t c (.mn (.k K) x) (.k r) => bif eqI c 1 then (bif leI 0 (K + r) then x.addG (.k r) else .k (-1)) else bif eqI c (-1) then (bif leI K r then .k 0 else (E.smulG (-1) x).addG (.k r)) else e
  | .t c (.mx (.k K) x) (.k r) => bif eqI c 1 then (bif leI 0 (K + r) then .k 0 else x.addG (.k r)) else bif eqI c (-1) then (bif leI K r then (E.smulG (-1) x).addG (.k r) else .k (-1)) else e
  | .t c a (.k r) => bif leI 2 c then .t 1 a (.k (r / c)) else bif leI c (-2) then .t (-1) a (.k (r / (-c))) else e
  | e => e
theorem ltS_ok (V : Va) (e : E) : (ltS e).den V < 0 ↔ e.den V < 0 := by
  unfold ltS
  split
  · rename_i c K x r
    obtain ⟨M, hM, hd⟩ : ∃ M : Int, (M = x.den V ∧ x.den V < K ∨ M = K ∧ ¬ (x.den V < K)) ∧ (E.t c (.mn (.k K) x) (.k r)).den V = c * M + r := by
      by_cases h : x.den V < K
      · exact ⟨_, .inl ⟨rfl, h⟩, by show c * (if x.den V < K then x.den V else K) + r = _; rw [if_pos h]⟩
      · exact ⟨_, .inr ⟨rfl, h⟩, by show c * (if x.den V < K then x.den V else K) + r = _; rw [if_neg h]⟩
    rw [hd]
    cases h1 : eqI c 1
    · simp only [cond_false]
      cases h2 : eqI c (-1)
      · simp only [cond_false]; rw [hd]
      · have := eqI_iff.1 h2; subst this
        simp only [cond_true]
        cases h3 : leI K r
        · have h3 := leI_false h3
          simp only [cond_false, E.den_addG, E.den_smulG, E.den]
          omega
        · have h3 := leI_iff.1 h3
          simp only [cond_true, E.den]
          omega
    · have := eqI_iff.1 h1; subst this
      simp only [cond_true]
      cases h3 : leI 0 (K + r)
      · have h3 := leI_false h3
        simp only [cond_false, E.den]
        omega
      · have h3 := leI_iff.1 h3
        simp only [cond_true, E.den_addG, E.den]
        omega
  · rename_i c K x r
    obtain ⟨M, hM, hd⟩ : ∃ M : Int, (M = x.den V ∧ x.den V > K ∨ M = K ∧ ¬ (x.den V > K)) ∧ (E.t c (.mx (.k K) x) (.k r)).den V = c * M + r := by
      by_cases h : x.den V > K
      · exact ⟨_, .inl ⟨rfl, h⟩, by show c * (if x.den V > K then x.den V else K) + r = _; rw [if_pos h]⟩
      · exact ⟨_, .inr ⟨rfl, h⟩, by show c * (if x.den V > K then x.den V else K) + r = _; rw [if_neg h]⟩
    rw [hd]
    cases h1 : eqI c 1
    · simp only [cond_false]
      cases h2 : eqI c (-1)
      · simp only [cond_false]; rw [hd]
      · have := eqI_iff.1 h2; subst this
        simp only [cond_true]
        cases h3 : leI K r
        · have h3 := leI_false h3
          simp only [cond_false, E.den]
          omega
        · have h3 := leI_iff.1 h3
          simp only [cond_true, E.den_addG, E.den_smulG, E.den]
          omega
    · have := eqI_iff.1 h1; subst this
      simp only [cond_true]
      cases h3 : leI 0 (K + r)
      · have h3 := leI_false h3
        simp only [cond_false, E.den_addG, E.den]
        omega
      · have h3 := leI_iff.1 h3
        simp only [cond_true, E.den]
        omega
  · rename_i c a r _ _
    have key : ∀ (c A r : Int), 0 < c → (A + r / c < 0 ↔ c * A + r < 0) := by
      intro c A r hc
      have h1 := Int.emod_add_mul_ediv r c
      have h2 := Int.emod_nonneg r (show c ≠ 0 by omega)
      have h3 := Int.emod_lt_of_pos r hc
      have e1 : c * A + r = c * (A + r / c) + r % c := by rw [Int.mul_add]; omega
      rw [e1]
      constructor
      · intro h
        have := Int.mul_le_mul_of_nonneg_left (show A + r / c ≤ -1 by omega) (Int.le_of_lt hc)
        omega
      · intro h
        rcases Int.lt_or_le (A + r / c) 0 with h4 | h4
        · exact h4
        · have := Int.mul_nonneg (Int.le_of_lt hc) h4
          omega
    cases h1 : leI 2 c
    · simp only [cond_false]
      cases h2 : leI c (-2)
      · simp only [cond_false]
      · have h2 := leI_iff.1 h2
        simp only [cond_true, E.den]
        have := key (-c) (-(a.den V)) r (by omega)
        rw [Int.neg_mul_neg] at this
        rw [← this]
        constructor <;> intro h <;> omega
    · have h1 := leI_iff.1 h1
      simp only [cond_true, E.den]
      rw [← key c (a.den V) r (by omega)]
      constructor <;> intro h <;> omega
  · exact Iff.rfl
noncomputable def mkLt0c (e : E) : E := mkLt0a R F (ltS (ltS (ltS e)))
theorem den_mkLt0c {R : Rg} {F : List E} {V : Va} (hR : R.ok V) (hF : Fs.ok V F) (e : E) : (mkLt0c R F e).den V = if e.den V < 0 then 1 else 0 := by
  unfold mkLt0c
  rw [den_mkLt0a hR hF]
  have := (ltS_ok V (ltS (ltS e))).trans ((ltS_ok V (ltS e)).trans (ltS_ok V e))
  by_cases h : e.den V < 0
  · rw [if_pos h, if_pos (this.2 h)]
  · rw [if_neg h, if_neg (fun hh => h (this.1 hh))]
noncomputable def mkLt0 (e : E) : E := ife e.isK (ife (leI 0 e.gc) (.k 0) (.k 1)) (mkLt0c R F e)
theorem den_mkLt0 {R : Rg} {F : List E} {V : Va} (hR : R.ok V) (hF : Fs.ok V F) (e : E) : (mkLt0 R F e).den V = if e.den V < 0 then 1 else 0 := by
  unfold mkLt0
  rcases e.isK_cases with ⟨n, rfl, h, h'⟩ | h
  · rw [h, h', ife_true]
    cases h1 : leI 0 n
    · have := leI_false h1; rw [if_pos (show (E.k n).den V < 0 from this)]; rfl
    · have := leI_iff.1 h1; rw [if_neg (show ¬ (E.k n).den V < 0 from by show ¬ n < 0; omega)]; rfl
  · rw [h]; exact den_mkLt0c hR hF e
/-- Is e below 0? By its form alone. -/
noncomputable def ltC (e : E) : E := (ltS (ltS (ltS e))).lit (fun m => ife (leI 0 m) (.k 0) (.k 1)) (.atom (.lt0 (ltS (ltS (ltS e)))))
theorem den_ltC (V : Va) (e : E) : (ltC e).den V = if e.den V < 0 then 1 else 0 := by
  unfold ltC
  have hh := (ltS_ok V (ltS (ltS e))).trans ((ltS_ok V (ltS e)).trans (ltS_ok V e))
  generalize ltS (ltS (ltS e)) = d at hh
  rcases E.lit_cases d (fun m => ife (leI 0 m) (E.k 0) (.k 1)) (.atom (.lt0 d)) with ⟨m, rfl, h⟩ | h <;> rw [h]
  · simp only [E.den] at hh
    cases h1 : leI 0 m
    · have := leI_false h1
      rw [if_pos (hh.1 this)]; rfl
    · have := leI_iff.1 h1
      rw [if_neg (fun h2 => by have := hh.2 h2; omega)]; rfl
  · rw [E.den_atom]
    simp only [E.den]
    by_cases h1 : e.den V < 0
    · rw [if_pos h1, if_pos (hh.2 h1)]
    · rw [if_neg h1, if_neg (fun h2 => h1 (hh.1 h2))]
/-- One of e, -e. -/
noncomputable def E.posE (e : E) : E := match e with | .t c _ _ => ife (leI 0 c) e (e.smulG (-1)) | _ => e
theorem E.posE_zero (V : Va) (e : E) : e.posE.den V = 0 ↔ e.den V = 0 := by
  unfold E.posE
  split
  · rename_i c a r
    cases leI 0 c
    · simp only [ife_false]; rw [E.den_smulG]; omega
    · rfl
  · rfl
/-- Is e 0? (1 or 0); one of e, -e is kept -/
noncomputable def mkEq0a (e : E) : E :=
  e.lit (fun n => ife (eqI n 0) (.k 1) (.k 0)) (ife ((E.addK (-1) e).geq0 R F) (.k 0) (ife ((E.addK (-1) (e.smulG (-1))).geq0 R F) (.k 0)
    (ife (ife (e.geq0 R F) ((e.smulG (-1)).geq0 R F) false) (.k 1) (.atom (.eq0 e.posE)))))
theorem den_mkEq0a {R : Rg} {F : List E} {V : Va} (hR : R.ok V) (hF : Fs.ok V F) (e : E) : (mkEq0a R F e).den V = if e.den V = 0 then 1 else 0 := by
  unfold mkEq0a
  generalize hX : (ife ((E.addK (-1) e).geq0 R F) (E.k 0) (ife ((E.addK (-1) (e.smulG (-1))).geq0 R F) (.k 0)
    (ife (ife (e.geq0 R F) ((e.smulG (-1)).geq0 R F) false) (.k 1) (.atom (.eq0 e.posE))))) = X
  rcases E.lit_cases e (fun n => ife (eqI n 0) (E.k 1) (.k 0)) X with ⟨n, rfl, h⟩ | h <;> rw [h]
  · cases h1 : eqI n 0
    · have : ¬ n = 0 := fun h' => by rw [eqI_iff.2 h'] at h1; cases h1
      rw [if_neg (show ¬ (E.k n).den V = 0 from this)]; rfl
    · have := eqI_iff.1 h1; rw [if_pos (show (E.k n).den V = 0 from this)]; rfl
  · rw [← hX]
    cases h1 : (E.addK (-1) e).geq0 R F
    · cases h2 : (E.addK (-1) (e.smulG (-1))).geq0 R F
      · have fin : (E.atom (.eq0 e.posE)).den V = if e.den V = 0 then 1 else 0 := by
          rw [E.den_atom]; simp only [E.den]
          by_cases h0 : e.den V = 0
          · rw [if_pos h0, if_pos ((E.posE_zero V e).2 h0)]
          · rw [if_neg h0, if_neg (fun h' => h0 ((E.posE_zero V e).1 h'))]
        simp only [ife_false]
        cases h3 : e.geq0 R F
        · simp only [ife_false]; exact fin
        · cases h4 : (e.smulG (-1)).geq0 R F
          · simp only [ife_true, ife_false]; exact fin
          · have a := E.geq0_ok hR hF h3; have b := E.geq0_ok hR hF h4
            rw [E.den_smulG] at b
            rw [if_pos (by omega)]; rfl
      · have a := E.geq0_ok hR hF h2
        rw [E.den_addK, E.den_smulG] at a
        rw [if_neg (by omega)]; rfl
    · have a := E.geq0_ok hR hF h1
      rw [E.den_addK] at a
      rw [if_neg (by omega)]; rfl
/-- Is it 0 or 1? -/
noncomputable def is01 (a : E) : Bool := match a.rng R with | (l, h) => ife (leI 0 l) (leI h 1) false
noncomputable def mkEq0c (e : E) : E := match e with
  | .t c a r => r.lit (fun n => ife (is01 R a) (ife (eqI n 0) (ife (eqI c 0) (mkEq0a R F e) (mkNot (.atom a))) (ife (eqI (c + n) 0) (.atom a) (.k 0))) (mkEq0a R F e)) (mkEq0a R F e)
  | e => mkEq0a R F e
theorem den_mkEq0c {R : Rg} {F : List E} {V : Va} (hR : R.ok V) (hF : Fs.ok V F) (e : E) : (mkEq0c R F e).den V = if e.den V = 0 then 1 else 0 := by
  unfold mkEq0c
  split
  · rename_i c a r
    have old := den_mkEq0a hR hF (.t c a r)
    rcases E.lit_cases r (fun n => ife (is01 R a) (ife (eqI n 0) (ife (eqI c 0) (mkEq0a R F (.t c a r)) (mkNot (.atom a))) (ife (eqI (c + n) 0) (.atom a) (.k 0))) (mkEq0a R F (.t c a r))) (mkEq0a R F (.t c a r)) with ⟨n, rfl, h⟩ | h <;> rw [h]
    · cases hb : is01 R a
      · rw [ife_false]; exact old
      · rw [ife_true]
        have hr := E.rng_ok hR a
        unfold is01 at hb
        generalize a.rng R = q at hb hr
        obtain ⟨lo, hi⟩ := q
        simp only at hb hr
        have h01 : a.den V = 0 ∨ a.den V = 1 := by
          cases h1 : leI 0 lo
          · rw [h1] at hb; cases hb
          · rw [h1] at hb
            have h1 := leI_iff.1 h1; have h2 := leI_iff.1 hb
            omega
        have he : (E.t c a (.k n)).den V = c * a.den V + n := rfl
        cases hn : eqI n 0
        · have hn : ¬ n = 0 := fun h' => by rw [eqI_iff.2 h'] at hn; cases hn
          rw [ife_false]
          cases hc : eqI (c + n) 0
          · have hc : ¬ c + n = 0 := fun h' => by rw [eqI_iff.2 h'] at hc; cases hc
            rw [ife_false, he]
            rcases h01 with h0 | h0 <;> rw [h0]
            · rw [if_neg (by omega)]; rfl
            · rw [if_neg (by omega)]; rfl
          · have hc := eqI_iff.1 hc
            rw [ife_true, he, E.den_atom]
            rcases h01 with h0 | h0 <;> rw [h0]
            · rw [if_neg (by omega)]
            · rw [if_pos (by omega)]
        · have hn := eqI_iff.1 hn
          rw [ife_true]
          cases hc : eqI c 0
          · have hc : ¬ c = 0 := fun h' => by rw [eqI_iff.2 h'] at hc; cases hc
            rw [ife_false, he, den_mkNot, E.den_atom]
            rcases h01 with h0 | h0 <;> rw [h0]
            · rw [if_pos (by omega)]; omega
            · rw [if_neg (by omega)]; omega
          · rw [ife_true]; exact old
    · exact old
  · exact den_mkEq0a hR hF _
noncomputable def mkEq0 (e : E) : E := ife e.isK (ife (eqI e.gc 0) (.k 1) (.k 0)) (mkEq0c R F e)
theorem den_mkEq0 {R : Rg} {F : List E} {V : Va} (hR : R.ok V) (hF : Fs.ok V F) (e : E) : (mkEq0 R F e).den V = if e.den V = 0 then 1 else 0 := by
  unfold mkEq0
  rcases e.isK_cases with ⟨n, rfl, h, h'⟩ | h
  · rw [h, h', ife_true, eqI_eq]
    show (ife (decide (n = 0)) (E.k 1) (.k 0)).den V = if n = 0 then 1 else 0
    by_cases h0 : n = 0
    · rw [if_pos h0, decide_eq_true h0]; rfl
    · rw [if_neg h0, decide_eq_false h0]; rfl
  · rw [h]; exact den_mkEq0c hR hF e
end ops
theorem and3 (x : Int) : bitI .and .i64 x 3 = bitI .and .i64 x 1 + bitI .and .i64 x 2 := by
  have n3 : ∀ n : Nat, n &&& 3 = (n &&& 1) + (n &&& 2) := by
    intro n
    have h1 : n &&& 3 = n % 4 := Nat.and_two_pow_sub_one_eq_mod n 2
    have h2 : n &&& 1 = n % 2 := Nat.and_one_is_mod n
    have h3 : n &&& 2 = 2 * ((n / 2) % 2) := by
      apply Nat.eq_of_testBit_eq
      intro i
      rw [Nat.testBit_and, show 2 = 2 ^ 1 from rfl, Nat.testBit_two_pow]
      rcases i with _ | _ | i
      · simp [Nat.testBit_zero]
      · simp [Nat.testBit_succ, Nat.testBit_zero]
      · have : ¬ (1 = i + 1 + 1) := by omega
        rw [decide_eq_false this, Bool.and_false]
        rw [Nat.testBit_succ, Nat.mul_div_cancel_left _ (by omega)]
        rw [Nat.testBit_succ]
        have : n / 2 % 2 / 2 = 0 := by omega
        rw [this]; simp
    rw [h1, h2, h3]; omega
  have e : ∀ m : Nat, m ≤ 3 → bitI .and .i64 x (m : Int) = (((BitVec.ofInt 64 x).toNat &&& m : Nat) : Int) := by
    intro m hm
    have hle : (BitVec.ofInt 64 x).toNat &&& m ≤ m := Nat.and_le_right
    have h1 : (BitVec.ofInt 64 (m : Int)).toNat = m := by
      rw [BitVec.toNat_ofInt]
      omega
    show IntKind.i64.wrap ((BitVec.ofInt 64 x &&& BitVec.ofInt 64 (m : Int)).toNat : Int) = _
    rw [BitVec.toNat_and, h1]
    exact wrap_in (by simp only [kmin]; omega) (by simp only [kmax]; omega)
  have a := e 3 (by omega); have b := e 1 (by omega); have c := e 2 (by omega)
  have d := n3 (BitVec.ofInt 64 x).toNat
  rw [show ((3 : Nat) : Int) = 3 from rfl] at a
  rw [show ((1 : Nat) : Int) = 1 from rfl] at b
  rw [show ((2 : Nat) : Int) = 2 from rfl] at c
  rw [a, b, c, d]; push_cast; rfl
/-- bits; '&' with a mask 2^n - 1 of a number that is not negative is a rest -/
noncomputable def mkBit0 (op : BinOp) (kd : IntKind) (x y : E) : E :=
  x.lit (fun a => y.lit (fun b => .k (bitI op kd a b)) (.atom (.bit op kd x y))) (.atom (.bit op kd x y))
theorem den_mkBit0 (V : Va) (op : BinOp) (kd : IntKind) (x y : E) : (mkBit0 op kd x y).den V = bitI op kd (x.den V) (y.den V) := by
  unfold mkBit0
  rcases E.lit_cases x (fun a => y.lit (fun b => E.k (bitI op kd a b)) (.atom (.bit op kd x y))) (.atom (.bit op kd x y)) with ⟨a, rfl, h⟩ | h <;> rw [h]
  · rcases E.lit_cases y (fun b => E.k (bitI op kd a b)) (.atom (.bit op kd (.k a) y)) with ⟨b, rfl, h'⟩ | h' <;> rw [h']
    · rfl
    · rw [E.den_atom]; rfl
  · rw [E.den_atom]; rfl
/-- '& 3' by its two bits. -/
noncomputable def mkBit (op : BinOp) (kd : IntKind) (x y : E) : E := match op, kd, y with
  | .and, .i64, .k 3 => (mkBit0 .and .i64 x (.k 1)).add (mkBit0 .and .i64 x (.k 2))
  | op, kd, y => mkBit0 op kd x y
theorem den_mkBit (V : Va) (op : BinOp) (kd : IntKind) (x y : E) : (mkBit op kd x y).den V = bitI op kd (x.den V) (y.den V) := by
  unfold mkBit
  split
  · rw [E.den_add, den_mkBit0, den_mkBit0]
    simp only [E.den]
    exact (and3 _).symm
  · exact den_mkBit0 V _ _ _ _
end Go.RX
