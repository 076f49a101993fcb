/- RX, part 1: symbolic integers. Expressions E with a value 'den' under a valuation, linear normal forms, ranges, facts. -/
import Derived.Control
namespace Go.RX

inductive E where
  | k (c : Int)
  | t (c : Int) (a r : E)
  | var (i : Nat)
  | lt0 (e : E)
  | eq0 (e : E)
  | ite (c a b : E)
  | mn (a b : E)
  | mx (a b : E)
  | mul (a b : E)
  | dv (a : E) (d : Int)
  | md (a : E) (d : Int)
  | shr (a : E) (n : Nat)
  | wr (kd : IntKind) (a : E)
  | bit (op : BinOp) (kd : IntKind) (a b : E)
  | app (f : Nat) (a b : E)
  deriving Inhabited

/-- A valuation: of the variables, of the functions that contracts bring. -/
structure Va where
  v : Nat → Int
  f : Nat → Int → Int → Int
  /-- Where the numbers of a list that came as an argument lie. -/
  a : Nat → Option Addr := fun _ => none

/-- What '&', '|', '^', '&^' give. -/
def bitI (op : BinOp) (kd : IntKind) (x y : Int) : Int :=
  let a := BitVec.ofInt kd.bits x
  let b := BitVec.ofInt kd.bits y
  match op with
  | .and => kd.wrap (a &&& b).toNat
  | .or => kd.wrap (a ||| b).toNat
  | .xor => kd.wrap (a ^^^ b).toNat
  | _ => kd.wrap (a &&& ~~~b).toNat

def E.den (V : Va) : E → Int
  | .k c => c
  | .t c a r => c * a.den V + r.den V
  | .var i => V.v i
  | .lt0 e => if e.den V < 0 then 1 else 0
  | .eq0 e => if e.den V = 0 then 1 else 0
  | .ite c a b => if c.den V = 0 then b.den V else a.den V
  | .mn a b => if b.den V < a.den V then b.den V else a.den V
  | .mx a b => if b.den V > a.den V then b.den V else a.den V
  | .mul a b => a.den V * b.den V
  | .dv a d => (a.den V).tdiv d
  | .md a d => (a.den V).tmod d
  | .shr a n => a.den V / (2 ^ n : Int)
  | .wr kd a => kd.wrap (a.den V)
  | .bit op kd a b => bitI op kd (a.den V) (b.den V)
  | .app f a b => V.f f (a.den V) (b.den V)

/-! ### Bools by recursors: what the kernel runs often -/
noncomputable def ife {α : Type} (b : Bool) (x y : α) : α := Bool.rec y x b
theorem ife_eq {α : Type} (b : Bool) (x y : α) : ife b x y = if b then x else y := by cases b <;> rfl
@[simp] theorem ife_true {α : Type} (x y : α) : ife true x y = x := rfl
@[simp] theorem ife_false {α : Type} (x y : α) : ife false x y = y := rfl

noncomputable def natC {α : Type} (n : Nat) (z : α) (s : Nat → α) : α := Nat.rec z (fun m _ => s m) n

/-- a ≤ b. -/
def leI (a b : Int) : Bool := match a, b with
  | .ofNat m, .ofNat n => Nat.ble m n
  | .negSucc _, .ofNat _ => true
  | .ofNat _, .negSucc _ => false
  | .negSucc m, .negSucc n => Nat.ble n m
theorem leI_eq (a b : Int) : leI a b = decide (a ≤ b) := by
  rw [Bool.eq_iff_iff]; cases a <;> cases b <;> simp [leI] <;> omega
def eqI (a b : Int) : Bool := match a, b with
  | .ofNat m, .ofNat n => Nat.beq m n
  | .negSucc m, .negSucc n => Nat.beq m n
  | _, _ => false
theorem eqI_eq (a b : Int) : eqI a b = decide (a = b) := by
  rw [Bool.eq_iff_iff]; cases a <;> cases b <;> simp [eqI] <;> omega
theorem leI_iff {a b : Int} : leI a b = true ↔ a ≤ b := by rw [leI_eq]; simp
theorem eqI_iff {a b : Int} : eqI a b = true ↔ a = b := by rw [eqI_eq]; simp

/-! ### An order on expressions -/
def cmpN (a b : Nat) : Ordering := bif Nat.beq a b then .eq else bif Nat.ble a b then .lt else .gt
def cmpI (a b : Int) : Ordering := bif eqI a b then .eq else bif leI a b then .lt else .gt
theorem cmpN_eq {a b : Nat} (h : cmpN a b = .eq) : a = b := by
  unfold cmpN at h
  cases h1 : Nat.beq a b
  · rw [h1] at h; cases h2 : Nat.ble a b <;> simp [h2] at h
  · exact Nat.eq_of_beq_eq_true h1
theorem cmpI_eq {a b : Int} (h : cmpI a b = .eq) : a = b := by
  unfold cmpI at h
  cases h1 : eqI a b
  · rw [h1] at h; cases h2 : leI a b <;> simp [h2] at h
  · exact eqI_iff.1 h1

def IntKind.no : IntKind → Nat
  | .i8 => 0 | .i16 => 1 | .i32 => 2 | .i64 => 3 | .u8 => 4 | .u16 => 5 | .u32 => 6 | .u64 => 7
theorem IntKind.no_inj {a b : IntKind} (h : IntKind.no a = IntKind.no b) : a = b := by cases a <;> cases b <;> simp_all [IntKind.no]
def bopNo : BinOp → Nat
  | .add => 0 | .sub => 1 | .mul => 2 | .quo => 3 | .rem => 4 | .and => 5 | .or => 6 | .xor => 7 | .shl => 8 | .shr => 9 | .andNot => 10
  | .eql => 11 | .neq => 12 | .lss => 13 | .leq => 14 | .gtr => 15 | .geq => 16
theorem bopNo_inj {a b : BinOp} (h : bopNo a = bopNo b) : a = b := by cases a <;> cases b <;> simp_all [bopNo]

def E.tag : E → Nat
  | .k _ => 0 | .t .. => 1 | .var _ => 2 | .lt0 _ => 3 | .eq0 _ => 4 | .ite .. => 5 | .mn .. => 6 | .mx .. => 7 | .mul .. => 8
  | .dv .. => 9 | .md .. => 10 | .shr .. => 11 | .wr .. => 12 | .bit .. => 13 | .app .. => 14

def E.cmp (x : E) : E → Ordering :=
  match x with
  | .k c => fun y => match y with | .k d => cmpI c d | y => cmpN 0 y.tag
  | .t c a r => fun y => match y with | .t d b s => (a.cmp b).then ((cmpI c d).then (r.cmp s)) | y => cmpN 1 y.tag
  | .var i => fun y => match y with | .var j => cmpN i j | y => cmpN 2 y.tag
  | .lt0 e => fun y => match y with | .lt0 f => e.cmp f | y => cmpN 3 y.tag
  | .eq0 e => fun y => match y with | .eq0 f => e.cmp f | y => cmpN 4 y.tag
  | .ite c a b => fun y => match y with | .ite d p q => (c.cmp d).then ((a.cmp p).then (b.cmp q)) | y => cmpN 5 y.tag
  | .mn a b => fun y => match y with | .mn p q => (a.cmp p).then (b.cmp q) | y => cmpN 6 y.tag
  | .mx a b => fun y => match y with | .mx p q => (a.cmp p).then (b.cmp q) | y => cmpN 7 y.tag
  | .mul a b => fun y => match y with | .mul p q => (a.cmp p).then (b.cmp q) | y => cmpN 8 y.tag
  | .dv a d => fun y => match y with | .dv p q => (a.cmp p).then (cmpI d q) | y => cmpN 9 y.tag
  | .md a d => fun y => match y with | .md p q => (a.cmp p).then (cmpI d q) | y => cmpN 10 y.tag
  | .shr a n => fun y => match y with | .shr p m => (a.cmp p).then (cmpN n m) | y => cmpN 11 y.tag
  | .wr kd a => fun y => match y with | .wr l p => (a.cmp p).then (cmpN (IntKind.no kd) (IntKind.no l)) | y => cmpN 12 y.tag
  | .bit o kd a b => fun y => match y with
    | .bit o' l p q => (a.cmp p).then ((b.cmp q).then ((cmpN (bopNo o) (bopNo o')).then (cmpN (IntKind.no kd) (IntKind.no l)))) | y => cmpN 13 y.tag
  | .app f a b => fun y => match y with | .app g p q => (cmpN f g).then ((a.cmp p).then (b.cmp q)) | y => cmpN 14 y.tag

theorem then_eq {a b : Ordering} (h : a.then b = .eq) : a = .eq ∧ b = .eq := by cases a <;> cases b <;> simp_all [Ordering.then]

theorem E.cmp_eq : ∀ (x y : E), x.cmp y = .eq → x = y := by
  intro x
  induction x with
  | k c => intro y h; cases y <;> simp only [E.cmp] at h <;> first | (rw [cmpI_eq h]) | (have := cmpN_eq h; simp [E.tag] at this)
  | t c a r ia ir =>
    intro y h
    cases y <;> simp only [E.cmp] at h
    case t d b s => obtain ⟨h1, h2⟩ := then_eq h; obtain ⟨h2, h3⟩ := then_eq h2; rw [ia _ h1, cmpI_eq h2, ir _ h3]
    all_goals (have := cmpN_eq h; simp [E.tag] at this)
  | var i => intro y h; cases y <;> simp only [E.cmp] at h <;> first | (rw [cmpN_eq h]) | (have := cmpN_eq h; simp [E.tag] at this)
  | lt0 e ih =>
    intro y h
    cases y <;> simp only [E.cmp] at h
    case lt0 f => rw [ih _ h]
    all_goals (have := cmpN_eq h; simp [E.tag] at this)
  | eq0 e ih =>
    intro y h
    cases y <;> simp only [E.cmp] at h
    case eq0 f => rw [ih _ h]
    all_goals (have := cmpN_eq h; simp [E.tag] at this)
  | ite c a b ic ia ib =>
    intro y h
    cases y <;> simp only [E.cmp] at h
    case ite d p q => obtain ⟨h1, h2⟩ := then_eq h; obtain ⟨h2, h3⟩ := then_eq h2; rw [ic _ h1, ia _ h2, ib _ h3]
    all_goals (have := cmpN_eq h; simp [E.tag] at this)
  | mn a b ia ib =>
    intro y h
    cases y <;> simp only [E.cmp] at h
    case mn p q => obtain ⟨h1, h2⟩ := then_eq h; rw [ia _ h1, ib _ h2]
    all_goals (have := cmpN_eq h; simp [E.tag] at this)
  | mx a b ia ib =>
    intro y h
    cases y <;> simp only [E.cmp] at h
    case mx p q => obtain ⟨h1, h2⟩ := then_eq h; rw [ia _ h1, ib _ h2]
    all_goals (have := cmpN_eq h; simp [E.tag] at this)
  | mul a b ia ib =>
    intro y h
    cases y <;> simp only [E.cmp] at h
    case mul p q => obtain ⟨h1, h2⟩ := then_eq h; rw [ia _ h1, ib _ h2]
    all_goals (have := cmpN_eq h; simp [E.tag] at this)
  | dv a d ia =>
    intro y h
    cases y <;> simp only [E.cmp] at h
    case dv p q => obtain ⟨h1, h2⟩ := then_eq h; rw [ia _ h1, cmpI_eq h2]
    all_goals (have := cmpN_eq h; simp [E.tag] at this)
  | md a d ia =>
    intro y h
    cases y <;> simp only [E.cmp] at h
    case md p q => obtain ⟨h1, h2⟩ := then_eq h; rw [ia _ h1, cmpI_eq h2]
    all_goals (have := cmpN_eq h; simp [E.tag] at this)
  | shr a n ia =>
    intro y h
    cases y <;> simp only [E.cmp] at h
    case shr p q => obtain ⟨h1, h2⟩ := then_eq h; rw [ia _ h1, cmpN_eq h2]
    all_goals (have := cmpN_eq h; simp [E.tag] at this)
  | wr k a ia =>
    intro y h
    cases y <;> simp only [E.cmp] at h
    case wr l p => obtain ⟨h1, h2⟩ := then_eq h; rw [ia _ h1, IntKind.no_inj (cmpN_eq h2)]
    all_goals (have := cmpN_eq h; simp [E.tag] at this)
  | bit o k a b ia ib =>
    intro y h
    cases y <;> simp only [E.cmp] at h
    case bit o' l p q => obtain ⟨h1, h2⟩ := then_eq h; obtain ⟨h2, h3⟩ := then_eq h2; obtain ⟨h3, h4⟩ := then_eq h3; rw [ia _ h1, ib _ h2, bopNo_inj (cmpN_eq h3), IntKind.no_inj (cmpN_eq h4)]
    all_goals (have := cmpN_eq h; simp [E.tag] at this)
  | app f a b ia ib =>
    intro y h
    cases y <;> simp only [E.cmp] at h
    case app g p q => obtain ⟨h1, h2⟩ := then_eq h; obtain ⟨h2, h3⟩ := then_eq h2; rw [cmpN_eq h1, ia _ h2, ib _ h3]
    all_goals (have := cmpN_eq h; simp [E.tag] at this)

/-! ### Linear forms: a chain of 't's that ends in a 'k' -/
def E.ins (c : Int) (a : E) : E → E
  | .t c' a' r' => match a.cmp a' with
    | .lt => .t c a (.t c' a' r')
    | .eq => bif eqI (c + c') 0 then r' else .t (c + c') a' r'
    | .gt => .t c' a' (E.ins c a r')
  | r => .t c a r
theorem E.den_ins (V : Va) (c : Int) (a : E) : ∀ r : E, (E.ins c a r).den V = c * a.den V + r.den V := by
  intro r
  induction r with
  | t c' a' r' _ ih =>
    simp only [E.ins]
    cases h : a.cmp a' with
    | lt => rfl
    | eq =>
      have := E.cmp_eq _ _ h
      subst this
      cases h0 : eqI (c + c') 0
      · simp only [cond_false, E.den, Int.add_mul]; omega
      · have := eqI_iff.1 h0
        have e : c * a.den V + c' * a.den V = 0 := by rw [← Int.add_mul, this]; simp
        simp only [cond_true, E.den]; omega
    | gt => simp only [E.den, ih]; omega
  | _ => simp only [E.ins, E.den]
def E.addK (n : Int) : E → E
  | .k m => .k (m + n)
  | .t c a r => .t c a (E.addK n r)
  | e => bif eqI n 0 then e else .t 1 e (.k n)
theorem E.den_addK (V : Va) (n : Int) : ∀ e : E, (E.addK n e).den V = e.den V + n := by
  intro e
  induction e with
  | k m => rfl
  | t c a r _ ih => simp only [E.addK, E.den, ih]; omega
  | _ =>
    simp only [E.addK]
    cases h0 : eqI n 0
    · simp only [cond_false, E.den]; omega
    · have := eqI_iff.1 h0; subst this; simp
def E.addG : E → E → E
  | .k n, y => y.addK n
  | .t c a r, y => E.ins c a (r.addG y)
  | e, y => E.ins 1 e y
theorem E.den_addG (V : Va) : ∀ x y : E, (x.addG y).den V = x.den V + y.den V := by
  intro x
  induction x with
  | k n => intro y; simp only [E.addG, E.den_addK, E.den]; omega
  | t c a r _ ih => intro y; simp only [E.addG, E.den_ins, E.den, ih]; omega
  | _ => intro y; simp only [E.addG, E.den_ins]; omega
/-- The sum; quick where both are numbers. -/
noncomputable def E.lit {α : Type} (e : E) (num : Int → α) (other : α) : α :=
  E.rec (motive := fun _ => α) num (fun _ _ _ _ _ => other) (fun _ => other) (fun _ _ => other) (fun _ _ => other) (fun _ _ _ _ _ _ => other) (fun _ _ _ _ => other) (fun _ _ _ _ => other) (fun _ _ _ _ => other)
    (fun _ _ _ => other) (fun _ _ _ => other) (fun _ _ _ => other) (fun _ _ _ => other) (fun _ _ _ _ _ _ => other) (fun _ _ _ _ _ => other) e
theorem E.lit_k {α : Type} (n : Int) (f : Int → α) (o : α) : (E.k n).lit f o = f n := rfl
theorem E.lit_cases {α : Type} (e : E) (f : Int → α) (o : α) : (∃ n, e = .k n ∧ e.lit f o = f n) ∨ e.lit f o = o := by
  cases e <;> first | exact .inl ⟨_, rfl, rfl⟩ | exact .inr rfl
noncomputable def E.add (x y : E) : E := x.lit (fun a => y.lit (fun b => .k (a + b)) (x.addG y)) (x.addG y)
theorem E.den_add (V : Va) (x y : E) : (x.add y).den V = x.den V + y.den V := by
  unfold E.add
  rcases E.lit_cases x (fun a => y.lit (fun b => E.k (a + b)) (x.addG y)) (x.addG y) with ⟨a, rfl, h⟩ | h <;> rw [h]
  · rcases E.lit_cases y (fun b => E.k (a + b)) ((E.k a).addG y) with ⟨b, rfl, h'⟩ | h' <;> rw [h']
    · rfl
    · exact E.den_addG V _ _
  · exact E.den_addG V _ _
def E.smulG (n : Int) : E → E
  | .k m => .k (n * m)
  | .t c a r => .t (n * c) a (E.smulG n r)
  | e => .t n e (.k 0)
theorem E.den_smulG (V : Va) (n : Int) : ∀ e : E, (E.smulG n e).den V = n * e.den V := by
  intro e
  induction e with
  | k m => rfl
  | t c a r _ ih => simp only [E.smulG, E.den, ih, Int.mul_add, Int.mul_assoc]
  | _ => simp only [E.smulG, E.den]; omega
def E.smul (n : Int) (e : E) : E := bif eqI n 0 then .k 0 else E.smulG n e
theorem E.den_smul (V : Va) (n : Int) (e : E) : (E.smul n e).den V = n * e.den V := by
  unfold E.smul
  cases h0 : eqI n 0
  · exact E.den_smulG V n e
  · have := eqI_iff.1 h0; subst this; simp [E.den]
noncomputable def E.sub (x y : E) : E := x.lit (fun a => y.lit (fun b => .k (a - b)) (x.addG (y.smulG (-1)))) (x.addG (y.smulG (-1)))
theorem E.den_sub (V : Va) (x y : E) : (x.sub y).den V = x.den V - y.den V := by
  unfold E.sub
  rcases E.lit_cases x (fun a => y.lit (fun b => E.k (a - b)) (x.addG (y.smulG (-1)))) (x.addG (y.smulG (-1))) with ⟨a, rfl, h⟩ | h <;> rw [h]
  · rcases E.lit_cases y (fun b => E.k (a - b)) ((E.k a).addG (y.smulG (-1))) with ⟨b, rfl, h'⟩ | h' <;> rw [h']
    · rfl
    · rw [E.den_addG, E.den_smulG]; omega
  · rw [E.den_addG, E.den_smulG]; omega
def E.atom (a : E) : E := .t 1 a (.k 0)
theorem E.den_atom (V : Va) (a : E) : (E.atom a).den V = a.den V := by simp only [E.atom, E.den]; omega
end Go.RX
