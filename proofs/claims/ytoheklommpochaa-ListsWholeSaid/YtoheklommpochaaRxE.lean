/- RX, part 1: symbolic integers. Expressions E with a value 'den' under a valuation, linear normal forms, ranges, facts. -/
import Derived.Control
namespace Go.RX

inductive E where
  | k (c : Int)
  | t (c : Int) (a r : E)
  | var (i : Nat)
  | lt0 (e : E)
  | eq0 (e : E)
  | ite (c a b : E)
  | mn (a b : E)
  | mx (a b : E)
  | mul (a b : E)
  | dv (a : E) (d : Int)
  | md (a : E) (d : Int)
  | shr (a : E) (n : Nat)
  | wr (kd : IntKind) (a : E)
  | bit (op : BinOp) (kd : IntKind) (a b : E)
  | app (f : Nat) (a b : E)
  deriving Inhabited

/-- A valuation: of the variables, of the functions that contracts bring. -/
structure Va where
  v : Nat → Int
  f : Nat → Int → Int → Int
  /-- Where the numbers of a list that came as an argument lie. -/
  a : Nat → Option Addr := fun _ => none

/-- What '&', '|', '^', '&^' give. -/
def bitI (op : BinOp) (kd : IntKind) (x y : Int) : Int :=
  let a := BitVec.ofInt kd.bits x
  let b := BitVec.ofInt kd.bits y
  match op with
  | .and => kd.wrap (a &&& b).toNat
  | .or => kd.wrap (a ||| b).toNat
  | .xor => kd.wrap (a ^^^ b).toNat
  | _ => kd.wrap (a &&& ~~~b).toNat

def E.den (V : Va) : E → Int
  | .k c => c
  | .t c a r => c * a.den V + r.den V
  | .var i => V.v i
  | .lt0 e => if e.den V < 0 then 1 else 0
  | .eq0 e => if e.den V = 0 then 1 else 0
  | .ite c a b => if c.den V = 0 then b.den V else a.den V
  | .mn a b => if b.den V < a.den V then b.den V else a.den V
  | .mx a b => if b.den V > a.den V then b.den V else a.den V
  | .mul a b => a.den V * b.den V
  | .dv a d => (a.den V).tdiv d
  | .md a d => (a.den V).tmod d
  | .shr a n => a.den V / (2 ^ n : Int)
  | .wr kd a => kd.wrap (a.den V)
  | .bit op kd a b => bitI op kd (a.den V) (b.den V)
  | .app f a b => V.f f (a.den V) (b.den V)

/-- A table's value: the table as one number to the base 2^20, its greatest value first. -/
def tabF (n : Nat) (i _j : Int) : Int := ((min (n / 1048576 ^ (i.toNat + 1) % 1048576) (n % 1048576) : Nat) : Int)
theorem tabF_bd (n : Nat) (i j : Int) : 0 ≤ tabF n i j ∧ tabF n i j ≤ ((n % 1048576 : Nat) : Int) := by
  unfold tabF
  exact ⟨by omega, Int.ofNat_le.2 (Nat.min_le_right _ _)⟩

/-! ### Bools by recursors: what the kernel runs often -/
noncomputable def ife {α : Type} (b : Bool) (x y : α) : α := Bool.rec y x b
theorem ife_eq {α : Type} (b : Bool) (x y : α) : ife b x y = if b then x else y := by cases b <;> rfl
@[simp] theorem ife_true {α : Type} (x y : α) : ife true x y = x := rfl
@[simp] theorem ife_false {α : Type} (x y : α) : ife false x y = y := rfl

noncomputable def natC {α : Type} (n : Nat) (z : α) (s : Nat → α) : α := Nat.rec z (fun m _ => s m) n

/-- a ≤ b. -/
noncomputable def leI (a b : Int) : Bool :=
  Int.rec (motive := fun _ => Int → Bool) (fun m b => Int.rec (motive := fun _ => Bool) (fun n => Nat.ble m n) (fun _ => false) b) (fun m b => Int.rec (motive := fun _ => Bool) (fun _ => true) (fun n => Nat.ble n m) b) a b
theorem leI_eq (a b : Int) : leI a b = decide (a ≤ b) := by
  cases a with
  | ofNat m => cases b with
    | ofNat n => rw [Bool.eq_iff_iff, show leI (.ofNat m) (.ofNat n) = Nat.ble m n from rfl, Nat.ble_eq, decide_eq_true_iff, Int.ofNat_eq_natCast, Int.ofNat_eq_natCast]; omega
    | negSucc n => rw [Bool.eq_iff_iff, show leI (.ofNat m) (.negSucc n) = false from rfl, decide_eq_true_iff]; constructor <;> intro h <;> first | cases h | (exfalso; rw [Int.ofNat_eq_natCast] at h; omega)
  | negSucc m => cases b with
    | ofNat n => rw [Bool.eq_iff_iff, show leI (.negSucc m) (.ofNat n) = true from rfl, decide_eq_true_iff]; constructor <;> intro h <;> first | rfl | (rw [Int.ofNat_eq_natCast]; omega)
    | negSucc n => rw [Bool.eq_iff_iff, show leI (.negSucc m) (.negSucc n) = Nat.ble n m from rfl, Nat.ble_eq, decide_eq_true_iff]; omega
noncomputable def eqI (a b : Int) : Bool :=
  Int.rec (motive := fun _ => Int → Bool) (fun m b => Int.rec (motive := fun _ => Bool) (fun n => Nat.beq m n) (fun _ => false) b) (fun m b => Int.rec (motive := fun _ => Bool) (fun _ => false) (fun n => Nat.beq m n) b) a b
theorem eqI_eq (a b : Int) : eqI a b = decide (a = b) := by
  cases a with
  | ofNat m => cases b with
    | ofNat n => rw [Bool.eq_iff_iff, show eqI (.ofNat m) (.ofNat n) = Nat.beq m n from rfl, Nat.beq_eq, decide_eq_true_iff]; exact ⟨fun h => by rw [h], fun h => by cases h; rfl⟩
    | negSucc n => rw [Bool.eq_iff_iff, show eqI (.ofNat m) (.negSucc n) = false from rfl, decide_eq_true_iff]; simp
  | negSucc m => cases b with
    | ofNat n => rw [Bool.eq_iff_iff, show eqI (.negSucc m) (.ofNat n) = false from rfl, decide_eq_true_iff]; simp
    | negSucc n => rw [Bool.eq_iff_iff, show eqI (.negSucc m) (.negSucc n) = Nat.beq m n from rfl, Nat.beq_eq, decide_eq_true_iff]; simp
/-! Sums and products, by recursors. -/
noncomputable def snn (m n : Nat) : Int := ife (Nat.ble n m) (.ofNat (Nat.sub m n)) (.negSucc (Nat.sub (Nat.sub n m) 1))
theorem snn_eq (m n : Nat) : snn m n = (m : Int) - n := by
  unfold snn
  cases h : Nat.ble n m
  · have : ¬ n ≤ m := fun h' => by rw [Nat.ble_eq_true_of_le h'] at h; cases h
    rw [ife_false, show Nat.sub (Nat.sub n m) 1 = n - m - 1 from rfl]; omega
  · have := Nat.le_of_ble_eq_true h
    rw [ife_true, show Nat.sub m n = m - n from rfl, Int.ofNat_eq_natCast]; omega
noncomputable def addI (a b : Int) : Int :=
  Int.rec (motive := fun _ => Int → Int) (fun m b => Int.rec (motive := fun _ => Int) (fun n => .ofNat (Nat.add m n)) (fun n => snn m (Nat.succ n)) b)
    (fun m b => Int.rec (motive := fun _ => Int) (fun n => snn n (Nat.succ m)) (fun n => .negSucc (Nat.succ (Nat.add m n))) b) a b
theorem addI_eq (a b : Int) : addI a b = a + b := by
  cases a with
  | ofNat m => cases b with
    | ofNat n => rfl
    | negSucc n => exact (snn_eq _ _).trans (by rw [Int.ofNat_eq_natCast]; omega)
  | negSucc m => cases b with
    | ofNat n => exact (snn_eq _ _).trans (by rw [Int.ofNat_eq_natCast]; omega)
    | negSucc n => rfl
noncomputable def negI (a : Int) : Int := Int.rec (motive := fun _ => Int) (fun m => snn 0 m) (fun m => .ofNat (Nat.succ m)) a
theorem negI_eq (a : Int) : negI a = -a := by
  cases a with
  | ofNat m => exact (snn_eq _ _).trans (by rw [Int.ofNat_eq_natCast]; omega)
  | negSucc m => rfl
noncomputable def mulI (a b : Int) : Int :=
  Int.rec (motive := fun _ => Int → Int) (fun m b => Int.rec (motive := fun _ => Int) (fun n => .ofNat (Nat.mul m n)) (fun n => snn 0 (Nat.mul m (Nat.succ n))) b)
    (fun m b => Int.rec (motive := fun _ => Int) (fun n => snn 0 (Nat.mul (Nat.succ m) n)) (fun n => .ofNat (Nat.mul (Nat.succ m) (Nat.succ n))) b) a b
theorem mulI_eq (a b : Int) : mulI a b = a * b := by
  cases a with
  | ofNat m => cases b with
    | ofNat n => rfl
    | negSucc n =>
      refine (snn_eq _ _).trans ?_
      rw [show Nat.mul m (Nat.succ n) = m * (n + 1) from rfl, Int.negSucc_eq, Int.ofNat_eq_natCast, Int.mul_neg, Int.natCast_mul]; simp
  | negSucc m => cases b with
    | ofNat n =>
      refine (snn_eq _ _).trans ?_
      rw [show Nat.mul (Nat.succ m) n = (m + 1) * n from rfl, Int.negSucc_eq, Int.ofNat_eq_natCast, Int.neg_mul, Int.natCast_mul]; simp
    | negSucc n =>
      show (Int.ofNat ((m + 1) * (n + 1)) : Int) = _
      rw [Int.negSucc_eq, Int.negSucc_eq, Int.ofNat_eq_natCast, Int.neg_mul_neg, Int.natCast_mul]; simp
theorem leI_iff {a b : Int} : leI a b = true ↔ a ≤ b := by rw [leI_eq]; simp
theorem eqI_iff {a b : Int} : eqI a b = true ↔ a = b := by rw [eqI_eq]; simp

/-! ### An order on expressions -/
noncomputable def cmpN (a b : Nat) : Ordering := ife (Nat.beq a b) .eq (ife (Nat.ble a b) .lt .gt)
noncomputable def cmpI (a b : Int) : Ordering := ife (eqI a b) .eq (ife (leI a b) .lt .gt)
theorem cmpN_eq {a b : Nat} (h : cmpN a b = .eq) : a = b := by
  unfold cmpN at h
  cases h1 : Nat.beq a b
  · rw [h1] at h; cases h2 : Nat.ble a b <;> simp [h2] at h
  · exact Nat.eq_of_beq_eq_true h1
theorem cmpI_eq {a b : Int} (h : cmpI a b = .eq) : a = b := by
  unfold cmpI at h
  cases h1 : eqI a b
  · rw [h1] at h; cases h2 : leI a b <;> simp [h2] at h
  · exact eqI_iff.1 h1

noncomputable def IntKind.no (k : IntKind) : Nat := IntKind.rec (motive := fun _ => Nat) 0 1 2 3 4 5 6 7 k
theorem IntKind.no_inj {a b : IntKind} (h : IntKind.no a = IntKind.no b) : a = b := by cases a <;> cases b <;> simp_all [IntKind.no]
noncomputable def bopNo (o : BinOp) : Nat := BinOp.rec (motive := fun _ => Nat) 0 1 2 3 4 5 6 7 8 9 10 11 12 13 14 15 16 o
theorem bopNo_inj {a b : BinOp} (h : bopNo a = bopNo b) : a = b := by cases a <;> cases b <;> simp_all [bopNo]

noncomputable def E.tag (e : E) : Nat := E.rec (motive := fun _ => Nat) (fun _ => 0) (fun _ _ _ _ _ => 1) (fun _ => 2) (fun _ _ => 3) (fun _ _ => 4) (fun _ _ _ _ _ _ => 5) (fun _ _ _ _ => 6) (fun _ _ _ _ => 7) (fun _ _ _ _ => 8) (fun _ _ _ => 9) (fun _ _ _ => 10) (fun _ _ _ => 11) (fun _ _ _ => 12) (fun _ _ _ _ _ _ => 13) (fun _ _ _ _ _ => 14) e
/-! The parts of an expression. -/
noncomputable def E.g1 (e : E) : E := E.rec (motive := fun _ => E) (fun _ => .k 0) (fun _ a _ _ _ => a) (fun _ => .k 0) (fun e _ => e) (fun e _ => e) (fun _ a _ _ _ _ => a) (fun a _ _ _ => a) (fun a _ _ _ => a) (fun a _ _ _ => a) (fun a _ _ => a) (fun a _ _ => a) (fun a _ _ => a) (fun _ a _ => a) (fun _ _ a _ _ _ => a) (fun _ a _ _ _ => a) e
noncomputable def E.g2 (e : E) : E := E.rec (motive := fun _ => E) (fun _ => .k 0) (fun _ _ r _ _ => r) (fun _ => .k 0) (fun _ _ => .k 0) (fun _ _ => .k 0) (fun _ _ b _ _ _ => b) (fun _ b _ _ => b) (fun _ b _ _ => b) (fun _ b _ _ => b) (fun _ _ _ => .k 0) (fun _ _ _ => .k 0) (fun _ _ _ => .k 0) (fun _ _ _ => .k 0) (fun _ _ _ b _ _ => b) (fun _ _ b _ _ => b) e
noncomputable def E.g3 (e : E) : E := E.rec (motive := fun _ => E) (fun _ => .k 0) (fun _ _ _ _ _ => .k 0) (fun _ => .k 0) (fun _ _ => .k 0) (fun _ _ => .k 0) (fun c _ _ _ _ _ => c) (fun _ _ _ _ => .k 0) (fun _ _ _ _ => .k 0) (fun _ _ _ _ => .k 0) (fun _ _ _ => .k 0) (fun _ _ _ => .k 0) (fun _ _ _ => .k 0) (fun _ _ _ => .k 0) (fun _ _ _ _ _ _ => .k 0) (fun _ _ _ _ _ => .k 0) e
noncomputable def E.gc (e : E) : Int := E.rec (motive := fun _ => Int) (fun c => c) (fun c _ _ _ _ => c) (fun _ => 0) (fun _ _ => 0) (fun _ _ => 0) (fun _ _ _ _ _ _ => 0) (fun _ _ _ _ => 0) (fun _ _ _ _ => 0) (fun _ _ _ _ => 0) (fun _ d _ => d) (fun _ d _ => d) (fun _ _ _ => 0) (fun _ _ _ => 0) (fun _ _ _ _ _ _ => 0) (fun _ _ _ _ _ => 0) e
noncomputable def E.gn (e : E) : Nat := E.rec (motive := fun _ => Nat) (fun _ => 0) (fun _ _ _ _ _ => 0) (fun i => i) (fun _ _ => 0) (fun _ _ => 0) (fun _ _ _ _ _ _ => 0) (fun _ _ _ _ => 0) (fun _ _ _ _ => 0) (fun _ _ _ _ => 0) (fun _ _ _ => 0) (fun _ _ _ => 0) (fun _ n _ => n) (fun k _ _ => IntKind.no k) (fun _ k _ _ _ _ => IntKind.no k) (fun f _ _ _ _ => f) e
noncomputable def E.gb (e : E) : Nat := E.rec (motive := fun _ => Nat) (fun _ => 0) (fun _ _ _ _ _ => 0) (fun _ => 0) (fun _ _ => 0) (fun _ _ => 0) (fun _ _ _ _ _ _ => 0) (fun _ _ _ _ => 0) (fun _ _ _ _ => 0) (fun _ _ _ _ => 0) (fun _ _ _ => 0) (fun _ _ _ => 0) (fun _ _ _ => 0) (fun _ _ _ => 0) (fun o _ _ _ _ _ => bopNo o) (fun _ _ _ _ _ => 0) e
noncomputable def thenO (a b : Ordering) : Ordering := Ordering.rec (motive := fun _ => Ordering → Ordering) (fun _ => .lt) (fun b => b) (fun _ => .gt) a b
theorem then_eq {a b : Ordering} (h : thenO a b = .eq) : a = .eq ∧ b = .eq := by
  cases a
  · cases (show Ordering.lt = .eq from h)
  · exact ⟨rfl, h⟩
  · cases (show Ordering.gt = .eq from h)
noncomputable def E.cmp (x : E) : E → Ordering :=
  E.rec (motive := fun _ => E → Ordering) (fun c y => ife (Nat.beq y.tag 0) (cmpI c y.gc) (cmpN 0 y.tag)) (fun c _ _ ia ir y => ife (Nat.beq y.tag 1) (thenO (ia y.g1) (thenO (cmpI c y.gc) (ir y.g2))) (cmpN 1 y.tag)) (fun i y => ife (Nat.beq y.tag 2) (cmpN i y.gn) (cmpN 2 y.tag)) (fun _ ie y => ife (Nat.beq y.tag 3) (ie y.g1) (cmpN 3 y.tag)) (fun _ ie y => ife (Nat.beq y.tag 4) (ie y.g1) (cmpN 4 y.tag)) (fun _ _ _ ic ia ib y => ife (Nat.beq y.tag 5) (thenO (ic y.g3) (thenO (ia y.g1) (ib y.g2))) (cmpN 5 y.tag)) (fun _ _ ia ib y => ife (Nat.beq y.tag 6) (thenO (ia y.g1) (ib y.g2)) (cmpN 6 y.tag)) (fun _ _ ia ib y => ife (Nat.beq y.tag 7) (thenO (ia y.g1) (ib y.g2)) (cmpN 7 y.tag)) (fun _ _ ia ib y => ife (Nat.beq y.tag 8) (thenO (ia y.g1) (ib y.g2)) (cmpN 8 y.tag)) (fun _ d ia y => ife (Nat.beq y.tag 9) (thenO (ia y.g1) (cmpI d y.gc)) (cmpN 9 y.tag)) (fun _ d ia y => ife (Nat.beq y.tag 10) (thenO (ia y.g1) (cmpI d y.gc)) (cmpN 10 y.tag)) (fun _ n ia y => ife (Nat.beq y.tag 11) (thenO (ia y.g1) (cmpN n y.gn)) (cmpN 11 y.tag)) (fun kd _ ia y => ife (Nat.beq y.tag 12) (thenO (ia y.g1) (cmpN (IntKind.no kd) y.gn)) (cmpN 12 y.tag)) (fun o kd _ _ ia ib y => ife (Nat.beq y.tag 13) (thenO (ia y.g1) (thenO (ib y.g2) (thenO (cmpN (bopNo o) y.gb) (cmpN (IntKind.no kd) y.gn)))) (cmpN 13 y.tag)) (fun f _ _ ia ib y => ife (Nat.beq y.tag 14) (thenO (cmpN f y.gn) (thenO (ia y.g1) (ib y.g2))) (cmpN 14 y.tag)) x
theorem E.cmp_eq : ∀ (x y : E), x.cmp y = .eq → x = y := by
  intro x
  induction x with
  | k c =>
    intro y h
    cases y
    case k d => rw [cmpI_eq (show cmpI c d = .eq from h)]
    all_goals first | cases (show Ordering.lt = .eq from h) | cases (show Ordering.gt = .eq from h)
  | t c a r ia ir =>
    intro y h
    cases y
    case t d b s => obtain ⟨h1, h2⟩ := then_eq (show thenO (a.cmp b) (thenO (cmpI c d) (r.cmp s)) = .eq from h); obtain ⟨h2, h3⟩ := then_eq h2; rw [ia _ h1, cmpI_eq h2, ir _ h3]
    all_goals first | cases (show Ordering.lt = .eq from h) | cases (show Ordering.gt = .eq from h)
  | var i =>
    intro y h
    cases y
    case var j => rw [cmpN_eq (show cmpN i j = .eq from h)]
    all_goals first | cases (show Ordering.lt = .eq from h) | cases (show Ordering.gt = .eq from h)
  | lt0 e ih =>
    intro y h
    cases y
    case lt0 f => rw [ih f h]
    all_goals first | cases (show Ordering.lt = .eq from h) | cases (show Ordering.gt = .eq from h)
  | eq0 e ih =>
    intro y h
    cases y
    case eq0 f => rw [ih f h]
    all_goals first | cases (show Ordering.lt = .eq from h) | cases (show Ordering.gt = .eq from h)
  | ite c a b ic ia ib =>
    intro y h
    cases y
    case ite d p q => obtain ⟨h1, h2⟩ := then_eq (show thenO (c.cmp d) (thenO (a.cmp p) (b.cmp q)) = .eq from h); obtain ⟨h2, h3⟩ := then_eq h2; rw [ic _ h1, ia _ h2, ib _ h3]
    all_goals first | cases (show Ordering.lt = .eq from h) | cases (show Ordering.gt = .eq from h)
  | mn a b ia ib =>
    intro y h
    cases y
    case mn p q => obtain ⟨h1, h2⟩ := then_eq (show thenO (a.cmp p) (b.cmp q) = .eq from h); rw [ia _ h1, ib _ h2]
    all_goals first | cases (show Ordering.lt = .eq from h) | cases (show Ordering.gt = .eq from h)
  | mx a b ia ib =>
    intro y h
    cases y
    case mx p q => obtain ⟨h1, h2⟩ := then_eq (show thenO (a.cmp p) (b.cmp q) = .eq from h); rw [ia _ h1, ib _ h2]
    all_goals first | cases (show Ordering.lt = .eq from h) | cases (show Ordering.gt = .eq from h)
  | mul a b ia ib =>
    intro y h
    cases y
    case mul p q => obtain ⟨h1, h2⟩ := then_eq (show thenO (a.cmp p) (b.cmp q) = .eq from h); rw [ia _ h1, ib _ h2]
    all_goals first | cases (show Ordering.lt = .eq from h) | cases (show Ordering.gt = .eq from h)
  | dv a d ia =>
    intro y h
    cases y
    case dv p q => obtain ⟨h1, h2⟩ := then_eq (show thenO (a.cmp p) (cmpI d q) = .eq from h); rw [ia _ h1, cmpI_eq h2]
    all_goals first | cases (show Ordering.lt = .eq from h) | cases (show Ordering.gt = .eq from h)
  | md a d ia =>
    intro y h
    cases y
    case md p q => obtain ⟨h1, h2⟩ := then_eq (show thenO (a.cmp p) (cmpI d q) = .eq from h); rw [ia _ h1, cmpI_eq h2]
    all_goals first | cases (show Ordering.lt = .eq from h) | cases (show Ordering.gt = .eq from h)
  | shr a n ia =>
    intro y h
    cases y
    case shr p q => obtain ⟨h1, h2⟩ := then_eq (show thenO (a.cmp p) (cmpN n q) = .eq from h); rw [ia _ h1, cmpN_eq h2]
    all_goals first | cases (show Ordering.lt = .eq from h) | cases (show Ordering.gt = .eq from h)
  | wr k a ia =>
    intro y h
    cases y
    case wr l p => obtain ⟨h1, h2⟩ := then_eq (show thenO (a.cmp p) (cmpN (IntKind.no k) (IntKind.no l)) = .eq from h); rw [ia _ h1, IntKind.no_inj (cmpN_eq h2)]
    all_goals first | cases (show Ordering.lt = .eq from h) | cases (show Ordering.gt = .eq from h)
  | bit o k a b ia ib =>
    intro y h
    cases y
    case bit o' l p q => obtain ⟨h1, h2⟩ := then_eq (show thenO (a.cmp p) (thenO (b.cmp q) (thenO (cmpN (bopNo o) (bopNo o')) (cmpN (IntKind.no k) (IntKind.no l)))) = .eq from h); obtain ⟨h2, h3⟩ := then_eq h2; obtain ⟨h3, h4⟩ := then_eq h3; rw [ia _ h1, ib _ h2, bopNo_inj (cmpN_eq h3), IntKind.no_inj (cmpN_eq h4)]
    all_goals first | cases (show Ordering.lt = .eq from h) | cases (show Ordering.gt = .eq from h)
  | app f a b ia ib =>
    intro y h
    cases y
    case app g p q => obtain ⟨h1, h2⟩ := then_eq (show thenO (cmpN f g) (thenO (a.cmp p) (b.cmp q)) = .eq from h); obtain ⟨h2, h3⟩ := then_eq h2; rw [cmpN_eq h1, ia _ h2, ib _ h3]
    all_goals first | cases (show Ordering.lt = .eq from h) | cases (show Ordering.gt = .eq from h)

/-! ### Linear forms: a chain of 't's that ends in a 'k' -/
/-- The one of three. -/
noncomputable def ord3 {α : Type} (o : Ordering) (l e g : α) : α := Ordering.rec (motive := fun _ => α) l e g o
noncomputable def E.ins (c : Int) (a r : E) : E :=
  E.rec (motive := fun _ => Int → E → E → E) (fun _ c a r => .t c a r) (fun c' a' r' _ ih c a _ => ord3 (a.cmp a') (.t c a (.t c' a' r')) (ife (eqI (addI c c') 0) r' (.t (addI c c') a' r')) (.t c' a' (ih c a r'))) (fun _ c a r => .t c a r) (fun _ _ c a r => .t c a r) (fun _ _ c a r => .t c a r) (fun _ _ _ _ _ _ c a r => .t c a r) (fun _ _ _ _ c a r => .t c a r) (fun _ _ _ _ c a r => .t c a r) (fun _ _ _ _ c a r => .t c a r) (fun _ _ _ c a r => .t c a r) (fun _ _ _ c a r => .t c a r) (fun _ _ _ c a r => .t c a r) (fun _ _ _ c a r => .t c a r) (fun _ _ _ _ _ _ c a r => .t c a r) (fun _ _ _ _ _ c a r => .t c a r) r c a r
theorem E.den_ins (V : Va) (c : Int) (a : E) : ∀ r : E, (E.ins c a r).den V = c * a.den V + r.den V := by
  intro r
  induction r with
  | t c' a' r' _ ih =>
    show (ord3 (a.cmp a') (.t c a (.t c' a' r')) (ife (eqI (addI c c') 0) r' (.t (addI c c') a' r')) (.t c' a' (E.ins c a r'))).den V = _
    cases h : a.cmp a' with
    | lt => rfl
    | eq =>
      have := E.cmp_eq _ _ h
      subst this
      show (ife (eqI (addI c c') 0) r' (.t (addI c c') a r')).den V = _
      rw [addI_eq]
      cases h0 : eqI (c + c') 0
      · simp only [ife_false, E.den, Int.add_mul]; omega
      · have := eqI_iff.1 h0
        have e : c * a.den V + c' * a.den V = 0 := by rw [← Int.add_mul, this]; simp
        simp only [ife_true, E.den]; omega
    | gt => show (E.t c' a' (E.ins c a r')).den V = _; simp only [E.den, ih]; omega
  | _ => rfl
noncomputable def addKo (n : Int) (e : E) : E := ife (eqI n 0) e (.t 1 e (.k n))
noncomputable def E.addK (n : Int) (e : E) : E :=
  E.rec (motive := fun _ => Int → E → E) (fun m n _ => .k (addI m n)) (fun c a r _ ih n _ => .t c a (ih n r)) (fun _ n e => addKo n e) (fun _ _ n e => addKo n e) (fun _ _ n e => addKo n e) (fun _ _ _ _ _ _ n e => addKo n e) (fun _ _ _ _ n e => addKo n e) (fun _ _ _ _ n e => addKo n e) (fun _ _ _ _ n e => addKo n e) (fun _ _ _ n e => addKo n e) (fun _ _ _ n e => addKo n e) (fun _ _ _ n e => addKo n e) (fun _ _ _ n e => addKo n e) (fun _ _ _ _ _ _ n e => addKo n e) (fun _ _ _ _ _ n e => addKo n e) e n e
theorem E.den_addK (V : Va) (n : Int) : ∀ e : E, (E.addK n e).den V = e.den V + n := by
  intro e
  induction e with
  | k m => show addI m n = m + n; exact addI_eq _ _
  | t c a r _ ih => show (E.t c a (E.addK n r)).den V = _; simp only [E.den, ih]; omega
  | _ =>
    refine Eq.trans (show _ = (addKo n _).den V from rfl) ?_
    unfold addKo
    cases h0 : eqI n 0
    · simp only [ife_false, E.den]; omega
    · have := eqI_iff.1 h0; subst this; simp
noncomputable def E.addG (x y : E) : E :=
  E.rec (motive := fun _ => E → E → E) (fun n y _ => y.addK n) (fun c a r _ ih y _ => E.ins c a (ih y r)) (fun _ y x => E.ins 1 x y) (fun _ _ y x => E.ins 1 x y) (fun _ _ y x => E.ins 1 x y) (fun _ _ _ _ _ _ y x => E.ins 1 x y) (fun _ _ _ _ y x => E.ins 1 x y) (fun _ _ _ _ y x => E.ins 1 x y) (fun _ _ _ _ y x => E.ins 1 x y) (fun _ _ _ y x => E.ins 1 x y) (fun _ _ _ y x => E.ins 1 x y) (fun _ _ _ y x => E.ins 1 x y) (fun _ _ _ y x => E.ins 1 x y) (fun _ _ _ _ _ _ y x => E.ins 1 x y) (fun _ _ _ _ _ y x => E.ins 1 x y) x y x
theorem E.den_addG (V : Va) : ∀ x y : E, (x.addG y).den V = x.den V + y.den V := by
  intro x
  induction x with
  | k n => intro y; show (y.addK n).den V = _; simp only [E.den_addK, E.den]; omega
  | t c a r _ ih => intro y; show (E.ins c a (r.addG y)).den V = _; simp only [E.den_ins, E.den, ih]; omega
  | _ => intro y; refine Eq.trans (show _ = (E.ins 1 _ y).den V from rfl) ?_; simp only [E.den_ins]; omega
/-- Is it a number? -/
noncomputable def E.isK (e : E) : Bool := E.rec (motive := fun _ => Bool) (fun _ => true) (fun _ _ _ _ _ => false) (fun _ => false) (fun _ _ => false) (fun _ _ => false) (fun _ _ _ _ _ _ => false) (fun _ _ _ _ => false) (fun _ _ _ _ => false) (fun _ _ _ _ => false) (fun _ _ _ => false) (fun _ _ _ => false) (fun _ _ _ => false) (fun _ _ _ => false) (fun _ _ _ _ _ _ => false) (fun _ _ _ _ _ => false) e
/-- The sum; quick where both are numbers. -/
noncomputable def E.lit {α : Type} (e : E) (num : Int → α) (other : α) : α := ife e.isK (num e.gc) other
theorem E.lit_k {α : Type} (n : Int) (f : Int → α) (o : α) : (E.k n).lit f o = f n := rfl
theorem E.lit_cases {α : Type} (e : E) (f : Int → α) (o : α) : (∃ n, e = .k n ∧ e.lit f o = f n) ∨ e.lit f o = o := by
  cases e <;> first | exact .inl ⟨_, rfl, rfl⟩ | exact .inr rfl
noncomputable def E.add (x y : E) : E := x.addG y
theorem E.den_add (V : Va) (x y : E) : (x.add y).den V = x.den V + y.den V := E.den_addG V x y
noncomputable def E.smulG (n : Int) (e : E) : E :=
  E.rec (motive := fun _ => Int → E → E) (fun m n _ => .k (mulI n m)) (fun c a r _ ih n _ => .t (mulI n c) a (ih n r)) (fun _ n e => .t n e (.k 0)) (fun _ _ n e => .t n e (.k 0)) (fun _ _ n e => .t n e (.k 0)) (fun _ _ _ _ _ _ n e => .t n e (.k 0)) (fun _ _ _ _ n e => .t n e (.k 0)) (fun _ _ _ _ n e => .t n e (.k 0)) (fun _ _ _ _ n e => .t n e (.k 0)) (fun _ _ _ n e => .t n e (.k 0)) (fun _ _ _ n e => .t n e (.k 0)) (fun _ _ _ n e => .t n e (.k 0)) (fun _ _ _ n e => .t n e (.k 0)) (fun _ _ _ _ _ _ n e => .t n e (.k 0)) (fun _ _ _ _ _ n e => .t n e (.k 0)) e n e
theorem E.den_smulG (V : Va) (n : Int) : ∀ e : E, (E.smulG n e).den V = n * e.den V := by
  intro e
  induction e with
  | k m => exact mulI_eq _ _
  | t c a r _ ih => show (E.t (mulI n c) a (E.smulG n r)).den V = _; simp only [mulI_eq, E.den, ih, Int.mul_add, Int.mul_assoc]
  | _ => refine Eq.trans (show _ = (E.t n _ (.k 0)).den V from rfl) ?_; simp only [E.den]; omega
noncomputable def E.smul (n : Int) (e : E) : E := ife (eqI n 0) (.k 0) (E.smulG n e)
theorem E.den_smul (V : Va) (n : Int) (e : E) : (E.smul n e).den V = n * e.den V := by
  unfold E.smul
  cases h0 : eqI n 0
  · exact E.den_smulG V n e
  · have := eqI_iff.1 h0; subst this; simp [E.den]
noncomputable def E.sub (x y : E) : E := x.addG (y.smulG (-1))
theorem E.den_sub (V : Va) (x y : E) : (x.sub y).den V = x.den V - y.den V := by
  unfold E.sub
  rw [E.den_addG, E.den_smulG]; omega
def E.atom (a : E) : E := .t 1 a (.k 0)
theorem E.den_atom (V : Va) (a : E) : (E.atom a).den V = a.den V := by simp only [E.atom, E.den]; omega
end Go.RX
