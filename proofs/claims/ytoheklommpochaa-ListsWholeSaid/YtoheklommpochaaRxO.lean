/- RX, part 5: results (trees), lists for the kernel, the operations on memory. -/
import Derived.Test.YtoheklommpochaaRxH
namespace Go.RX

inductive Rs (α : Type) where
  | bad (why : Nat)
  | leaf (a : α)
  | fork (c : E) (x y : Rs α)
  | both (x y : Rs α)
def Rs.All {α : Type} (V : Va) (p : α → Prop) : Rs α → Prop
  | .bad _ => False
  | .leaf a => p a
  | .fork c x y => if c.den V = 0 then y.All V p else x.All V p
  | .both x y => x.All V p ∧ y.All V p
noncomputable def mkFork {α : Type} (c : E) (x y : Rs α) : Rs α := c.lit (fun n => ife (eqI n 0) y x) (.fork c x y)
theorem All_mkFork {α : Type} {V : Va} {p : α → Prop} {c : E} {x y : Rs α} (h : (mkFork c x y).All V p) : if c.den V = 0 then y.All V p else x.All V p := by
  unfold mkFork at h
  rcases E.lit_cases c (fun n => ife (eqI n 0) y x) (.fork c x y) with ⟨n, rfl, h'⟩ | h' <;> rw [h'] at h
  · cases h1 : eqI n 0
    · have : ¬ n = 0 := fun h' => by rw [eqI_iff.2 h'] at h1; cases h1
      rw [h1] at h; rw [if_neg (show ¬ (E.k n).den V = 0 from this)]; exact h
    · have := eqI_iff.1 h1
      rw [h1] at h; rw [if_pos (show (E.k n).den V = 0 from this)]; exact h
  · exact h

/-! ### Lists by recursors -/
section
variable {β : Type}
noncomputable def lnth (l : List β) : Nat → Option β :=
  List.rec (motive := fun _ => Nat → Option β) (fun _ => none) (fun x _ ih n => natC n (some x) ih) l
theorem lnth_eq (l : List β) : ∀ n, lnth l n = l[n]? := by
  induction l with
  | nil => intro n; simp [lnth]
  | cons x l ih =>
    intro n
    cases n with
    | zero => rfl
    | succ n => show lnth l n = _; rw [ih n]; simp
noncomputable def ldrop (l : List β) : Nat → List β :=
  List.rec (motive := fun _ => Nat → List β) (fun _ => []) (fun x l ih n => natC n (x :: l) ih) l
theorem ldrop_eq (l : List β) : ∀ n, ldrop l n = l.drop n := by
  induction l with
  | nil => intro n; simp [ldrop]
  | cons x l ih =>
    intro n
    cases n with
    | zero => rfl
    | succ n => show ldrop l n = _; rw [ih n]; simp
noncomputable def ltake (l : List β) : Nat → List β :=
  List.rec (motive := fun _ => Nat → List β) (fun _ => []) (fun x _ ih n => natC n [] (fun m => x :: ih m)) l
theorem ltake_eq (l : List β) : ∀ n, ltake l n = l.take n := by
  induction l with
  | nil => intro n; simp [ltake]
  | cons x l ih =>
    intro n
    cases n with
    | zero => rfl
    | succ n => show x :: ltake l n = _; rw [ih n]; simp
noncomputable def llen (l : List β) : Nat := List.rec (motive := fun _ => Nat) 0 (fun _ _ ih => Nat.succ ih) l
theorem llen_eq (l : List β) : llen l = l.length := by
  induction l with
  | nil => rfl
  | cons x l ih => show Nat.succ (llen l) = _; rw [ih]; rfl
noncomputable def lapp (l m : List β) : List β := List.rec (motive := fun _ => List β) m (fun x _ ih => x :: ih) l
theorem lapp_eq (l m : List β) : lapp l m = l ++ m := by
  induction l with
  | nil => rfl
  | cons x l ih => show x :: lapp l m = _; rw [ih]; rfl
/-- xs laid over l from o on. -/
noncomputable def lspl (xs l : List β) : Nat → List β :=
  List.rec (motive := fun _ => Nat → List β) (fun _ => xs) (fun x l ih n => natC n (lapp xs (ldrop (x :: l) (llen xs))) (fun m => x :: ih m)) l
theorem lspl_eq (xs l : List β) : ∀ o, o ≤ l.length → lspl xs l o = l.take o ++ xs ++ l.drop (o + xs.length) := by
  induction l with
  | nil => intro o h; simp at h; subst h; simp [lspl]
  | cons x l ih =>
    intro o h
    cases o with
    | zero => show lapp xs (ldrop (x :: l) (llen xs)) = _; rw [lapp_eq, ldrop_eq, llen_eq]; simp
    | succ o =>
      show x :: lspl xs l o = _
      rw [ih o (by simpa using h), show o + 1 + xs.length = (o + xs.length) + 1 from by omega]; simp
/-- Is there a cell n - 1? -/
noncomputable def llong (l : List β) (n : Nat) : Bool := Nat.ble n (llen l)
theorem llong_iff {l : List β} {n : Nat} : llong l n = true ↔ n ≤ l.length := by unfold llong; rw [llen_eq]; simp
end

/-- The operation s in world w: its value and world, and what they stand for. -/
def Does (P : Program) {α : Type} (V : Va) (W0 : World) (N : Env) (g : G) (p : α → Prop) (k : AV → G → Rs α) (w : World) (s : Sem Value) : Prop :=
  ∃ v w' a g' N', s.run P w = .ok v w' ∧ Grel V N' W0 g' w' ∧ Ext g N g' N' ∧ a.rel V N' v ∧ (k a g').All V p
def DoesU (P : Program) {α : Type} (V : Va) (W0 : World) (N : Env) (g : G) (p : α → Prop) (k : G → Rs α) (w : World) (s : Sem Unit) : Prop :=
  ∃ w' g' N', s.run P w = .ok () w' ∧ Grel V N' W0 g' w' ∧ Ext g N g' N' ∧ (k g').All V p

section
variable {P : Program} {α : Type} {V : Va} {W0 : World} {N : Env} {g : G} {p : α → Prop} {k : AV → G → Rs α} {w : World}
theorem Does.val (r : Grel V N W0 g w) {a : AV} {v : Value} (h : a.rel V N v) (hk : (k a g).All V p) {s : Sem Value} (hs : s.run P w = .ok v w) : Does P V W0 N g p k w s :=
  ⟨v, w, a, g, N, hs, r, Ext.refl _ _, h, hk⟩

/-! ### Numbers out of expressions -/
/-- e is -> k, where it has one value; else a fork for each, where it has few. -/
noncomputable def frk (R : Rg) (e : E) (k : Int → G → Rs α) (g : G) (m : Nat) : Int → Rs α :=
  Nat.rec (motive := fun _ => Int → Rs α) (fun lo => k lo (g.addF2 (e.sub (.k lo)) (E.sub (.k lo) e)))
    (fun _ ih lo => mkFork (mkEq0 R g.fs (e.sub (.k lo))) (k lo (g.addF2 (e.sub (.k lo)) (E.sub (.k lo) e))) (ih (lo + 1))) m
/-- Is it n, surely? -/
noncomputable def isN (R : Rg) (F : List E) (e : E) (n : Int) : Bool := ife ((e.sub (.k n)).geq0 R F) ((E.sub (.k n) e).geq0 R F) false
theorem isN_ok {R : Rg} (hR : R.ok V) {F : List E} (hF : Fs.ok V F) {e : E} {n : Int} (h : isN R F e n = true) : e.den V = n := by
  unfold isN at h
  cases h1 : (e.sub (.k n)).geq0 R F
  · rw [h1] at h; cases h
  · rw [h1] at h
    have a := E.geq0_ok hR hF h1; have b := E.geq0_ok hR hF h
    rw [E.den_sub] at a b
    simp only [E.den] at a b
    omega
/-- The number that e - f, or e + f, is. -/
noncomputable def cand (e f : E) : Option Int := (e.sub f).lit (fun n => some n) ((e.add f).lit (fun n => some n) none)
/-- The value that the facts leave to e. -/
noncomputable def pinL (R : Rg) (F : List E) (e : E) (L : List E) : Option Int :=
  List.rec (motive := fun _ => Option Int) none (fun f _ ih => match cand e f with | some n => ife (isN R F e n) (some n) ih | none => ih) L
noncomputable def pin (R : Rg) (F : List E) (e : E) : Option Int := pinL R F e F
theorem pinL_ok {R : Rg} (hR : R.ok V) {F : List E} (hF : Fs.ok V F) {e : E} {n : Int} : ∀ (L : List E), pinL R F e L = some n → e.den V = n
  | [], h => by cases h
  | f :: L, h => by
    change (match cand e f with | some n => ife (isN R F e n) (some n) (pinL R F e L) | none => pinL R F e L) = some n at h
    split at h
    · rename_i m _
      cases h1 : isN R F e m
      · rw [h1] at h; exact pinL_ok hR hF L h
      · rw [h1] at h
        injection h with h; subst h
        exact isN_ok hR hF h1
    · exact pinL_ok hR hF L h
theorem pin_ok {R : Rg} (hR : R.ok V) {F : List E} (hF : Fs.ok V F) {e : E} {n : Int} (h : pin R F e = some n) : e.den V = n := pinL_ok hR hF F h
noncomputable def concr0 (R : Rg) (e : E) (g : G) (k : Int → G → Rs α) : Rs α :=
  match e.rng R with
    | (lo, hi) => ife (leI (hi - lo) 300) (frk R e k g (hi - lo).toNat lo) (.bad 10)
noncomputable def concr (R : Rg) (e : E) (g : G) (k : Int → G → Rs α) : Rs α :=
  e.lit (fun n => k n g) (match pin R g.fs e with | some n => k n g | none => concr0 R e g k)
def Knows (V : Va) (N : Env) (W0 : World) (w : World) (g g' : G) : Prop := Grel V N W0 g' w ∧ Ext g N g' N ∧ g'.heap = g.heap
theorem Knows.facts {g : G} (r : Grel V N W0 g w) {e : E} {n : Int} (h : e.den V = n) : Knows V N W0 w g { g with fs := e.sub (.k n) :: (E.sub (.k n) e) :: g.fs } := by
  refine ⟨?_, ⟨Env.le.refl _, fun _ _ => ⟨rfl, rfl⟩, Nat.le_refl _, rfl, rfl, fun _ _ _ h => h⟩, rfl⟩
  have h1 : 0 ≤ (E.sub (.k n) e).den V := by rw [E.den_sub]; simp only [E.den]; omega
  have h2 : 0 ≤ (e.sub (.k n)).den V := by rw [E.den_sub]; simp only [E.den]; omega
  exact (r.fact h1).fact h2
theorem frk_ok {R : Rg} (hR : R.ok V) {e : E} {k : Int → G → Rs α} {g : G} (r : Grel V N W0 g w) : ∀ (m : Nat) (lo : Int), lo ≤ e.den V → e.den V ≤ lo + m → (frk R e k g m lo).All V p →
    ∃ n g', e.den V = n ∧ Knows V N W0 w g g' ∧ (k n g').All V p
  | 0, lo, h1, h2, h => ⟨lo, _, by omega, Knows.facts r (by omega), h⟩
  | m + 1, lo, h1, h2, h => by
    change (mkFork _ _ (frk R e k g m (lo + 1))).All V p at h
    have h := All_mkFork h
    have hd : (e.sub (.k lo)).den V = e.den V - lo := E.den_sub V e (.k lo)
    rw [den_mkEq0 hR r.facts, hd] at h
    by_cases he : e.den V - lo = 0
    · rw [if_pos he, if_neg (by omega)] at h
      exact ⟨lo, _, by omega, Knows.facts r (by omega), h⟩
    · rw [if_neg he, if_pos rfl] at h
      exact frk_ok hR r m (lo + 1) (by omega) (by omega) h
theorem concr_ok {R : Rg} (hR : R.ok V) {e : E} {k : Int → G → Rs α} {g : G} (r : Grel V N W0 g w) (h : (concr R e g k).All V p) :
    ∃ n g', e.den V = n ∧ Knows V N W0 w g g' ∧ (k n g').All V p := by
  unfold concr at h
  generalize hX : (match pin R g.fs e with | some n => k n g | none => concr0 R e g k) = X at h
  rcases E.lit_cases e (fun n => k n g) X with ⟨n, rfl, h'⟩ | h' <;> rw [h'] at h
  · exact ⟨n, g, rfl, ⟨r, Ext.refl _ _, rfl⟩, h⟩
  · rw [← hX] at h
    split at h
    · rename_i n hp
      exact ⟨n, g, pin_ok hR r.facts hp, ⟨r, Ext.refl _ _, rfl⟩, h⟩
    · unfold concr0 at h
      have hr := E.rng_ok hR e
      generalize e.rng R = q at h hr
      obtain ⟨lo, hi⟩ := q
      simp only at h hr
      cases hc : leI (hi - lo) 300
      · rw [hc] at h; exact h.elim
      · rw [hc] at h
        exact frk_ok hR r _ _ hr.1 (by omega) h
/-- A natural number. -/
noncomputable def natK (n : Int) (k : Nat → Rs α) : Rs α := match n with | .ofNat m => k m | .negSucc _ => .bad 11
theorem natK_ok {n : Int} {k : Nat → Rs α} (h : (natK n k).All V p) : ∃ m : Nat, n = m ∧ (k m).All V p := by
  cases n with
  | ofNat m => exact ⟨m, rfl, h⟩
  | negSucc m => exact h.elim

/-! ### New blocks -/
noncomputable def aNew (cs : List AV) (elem : TypeId) (g : G) (k : AV → G → Rs α) : Rs α :=
  ife (Nat.ble (Nat.succ g.nx) g.lim) (k (.ptr g.nx 0) (g.new (.cells cs elem false true))) (.bad 20)
theorem aNew_ok (r : Grel V N W0 g w) {cs : List AV} {elem : TypeId} {vs : Array Value} (hv : AV.rels V N cs vs.toList) (h : (aNew cs elem g k).All V p)
    {s : Sem Value} (hs : s.run P w = .ok (.pointer (some ⟨w.heap.size, 0, none⟩)) (w.alloc (.cells vs elem))) : Does P V W0 N g p k w s := by
  unfold aNew at h
  cases hl : Nat.ble (Nat.succ g.nx) g.lim
  · rw [hl] at h; exact h.elim
  · rw [hl] at h
    have hlen := rels_length hv
    simp only [Array.length_toList] at hlen
    have hf := r.fresh g.nx (Nat.le_refl _) (by have := Nat.le_of_ble_eq_true hl; omega)
    obtain ⟨h1, h2⟩ := r.new (o := .cells cs elem false true) (x := .cells vs elem) (by have := Nat.le_of_ble_eq_true hl; omega) rfl (fun _ _ _ e => by injection e with _ _ e; exact e.symm)
      ⟨vs, (0, 0), rfl, fun _ => rfl, by omega, fun _ => hlen, by simp [Env.bind, objSize], by
        rw [show cs.length = vs.toList.length from by simp [hlen], List.take_length]
        exact AV.rels.mono (Env.le_bind hf.1 hf.2) _ _ hv⟩
    exact ⟨_, _, .ptr g.nx 0, _, _, hs, h1, h2, by simp only [AV.rel]; exact ⟨w.heap.size, by simp [Env.bind], rfl⟩, h⟩

/-! ### alloc, box -/
noncomputable def aAlloc (P : Program) (t : TypeId) (g : G) (k : AV → G → Rs α) : Rs α :=
  match P.info? t with
  | some i => match i.zero with
    | some z => ife (ofVal z).known (aNew (ofVal z).cells t g k) (.bad 21)
    | none => .bad 22
  | none => .bad 23
theorem run_typeInfo {P : Program} {t : TypeId} {i : TypeInfo} (h : P.info? t = some i) (w : World) : (typeInfo t).run P w = .ok i w := by
  simp [typeInfo, h]
theorem run_zeroValue {P : Program} {t : TypeId} {i : TypeInfo} {z : Value} (h : P.info? t = some i) (h' : i.zero = some z) (w : World) : (zeroValue t).run P w = .ok z w := by
  simp [zeroValue, run_typeInfo h, h']
theorem run_sizeOf {P : Program} {t : TypeId} {i : TypeInfo} (h : P.info? t = some i) (w : World) : (sizeOf t).run P w = .ok i.size w := by
  simp [sizeOf, run_typeInfo h]
theorem aAlloc_ok (r : Grel V N W0 g w) {t : TypeId} (h : (aAlloc P t g k).All V p) : Does P V W0 N g p k w (Instr.alloc t true (.tuple #[])) := by
  unfold aAlloc at h
  split at h
  · rename_i i hi
    split at h
    · rename_i z hz
      cases hk : (ofVal z).known
      · rw [hk] at h; exact h.elim
      · rw [hk] at h
        refine aNew_ok r (AV.rel_cells hk (ofVal_rel V N z)) h ?_
        simp [Instr.alloc, run_zeroValue hi hz, newVar, newRow, World.alloc_eq]
    · exact h.elim
  · exact h.elim
noncomputable def aBox (t : TypeId) (x : AV) (g : G) (k : AV → G → Rs α) : Rs α := ife x.known (aNew x.cells t g k) (.bad 24)
theorem aBox_ok (r : Grel V N W0 g w) {t : TypeId} {x : AV} {v : Value} (hx : x.rel V N v) (h : (aBox t x g k).All V p) : Does P V W0 N g p k w (Instr.box t v) := by
  unfold aBox at h
  cases hk : x.known
  · rw [hk] at h; exact h.elim
  · rw [hk] at h
    refine aNew_ok r (AV.rel_cells hk hx) h ?_
    simp [Instr.box, newVar, newRow, World.alloc_eq]

/-! ### load, store -/
def aggD : TypeDesc → Bool
  | .struct _ => true
  | .array _ _ => true
  | _ => false
theorem run_isAgg {P : Program} {t : TypeId} {d : TypeDesc} (h : P.underlying t = some d) (w : World) : (isAgg t).run P w = .ok (aggD d) w := by
  unfold isAgg
  simp only [Sem.run_bind, run_underlying h, Result.andThen_ok]
  cases d <;> rfl
/-- What stands at o, o + st, ..: n of them. -/
noncomputable def cands (f : Nat → Option AV) (st : Nat) (n : Nat) : Nat → Option (List AV) :=
  Nat.rec (motive := fun _ => Nat → Option (List AV)) (fun _ => some []) (fun _ ih o => match f o, ih (o + st) with
    | some x, some l => some (x :: l)
    | _, _ => none) n
theorem cands_get {f : Nat → Option AV} {st : Nat} : ∀ (n o : Nat) {l : List AV}, cands f st n o = some l → ∀ m, m < n → ∃ x, f (o + m * st) = some x ∧ l[m]? = some x
  | 0, _, _, _, _, h => by omega
  | n + 1, o, l, hl, m, h => by
    change (match f o, cands f st n (o + st) with
      | some x, some l => some (x :: l)
      | _, _ => none) = some l at hl
    split at hl
    · rename_i x l' hx hl'
      cases hl
      cases m with
      | zero => exact ⟨x, by rw [Nat.zero_mul, Nat.add_zero]; exact hx, rfl⟩
      | succ m =>
        obtain ⟨y, h1, h2⟩ := cands_get n (o + st) hl' m (by omega)
        exact ⟨y, by rw [show o + (m + 1) * st = o + st + m * st from by rw [Nat.add_mul]; omega]; exact h1, by simpa using h2⟩
    · cases hl
/-! ### Tables: a choice among literal numbers as one expression -/
noncomputable def natOf (q : Nat) (a : AV) : Option Nat := match a with
  | .int kd (.k (.ofNat v)) => ife (Nat.beq (IntKind.no kd) q) (ife (Nat.ble v 1048575) (some v) none) none
  | _ => none
theorem natOf_ok {q : Nat} {a : AV} {v : Nat} (h : natOf q a = some v) : ∃ kd, IntKind.no kd = q ∧ a = .int kd (.k (Int.ofNat v)) ∧ v < 1048576 := by
  unfold natOf at h
  split at h
  · rename_i kd v'
    cases h1 : Nat.beq (IntKind.no kd) q
    · rw [h1] at h; cases h
    · cases h2 : Nat.ble v' 1048575
      · rw [h1, h2] at h; cases h
      · rw [h1, h2] at h; cases h
        exact ⟨kd, Nat.eq_of_beq_eq_true h1, rfl, by have := Nat.le_of_ble_eq_true h2; omega⟩
  · cases h
noncomputable def natsOf (q : Nat) (l : List AV) : Option (List Nat) :=
  List.rec (motive := fun _ => Option (List Nat)) (some []) (fun x _ ih => match natOf q x with
    | some v => match ih with | some l => some (v :: l) | none => none
    | none => none) l
theorem natsOf_ok {q : Nat} : ∀ {l : List AV} {ns : List Nat}, natsOf q l = some ns → ns.length = l.length ∧ ∀ (m : Nat) (a : AV), l[m]? = some a → ∃ kd v, IntKind.no kd = q ∧ a = .int kd (.k (Int.ofNat v)) ∧ ns[m]? = some v ∧ v < 1048576
  | [], ns, h => by cases h; exact ⟨rfl, fun m a h => by simp at h⟩
  | x :: l, ns, h => by
    change (match natOf q x with
      | some v => match natsOf q l with | some l => some (v :: l) | none => none
      | none => none) = some ns at h
    split at h
    · rename_i v hv
      split at h
      · rename_i l' hl
        cases h
        obtain ⟨h1, h2⟩ := natsOf_ok hl
        refine ⟨by simp [h1], fun m a ha => ?_⟩
        cases m with
        | zero =>
          simp at ha; subst ha
          obtain ⟨kd, k1, k2, k3⟩ := natOf_ok hv
          exact ⟨kd, v, k1, k2, rfl, k3⟩
        | succ m =>
          obtain ⟨kd, v', k1, k2, k3, k4⟩ := h2 m a (by simpa using ha)
          exact ⟨kd, v', k1, k2, by simpa using k3, k4⟩
      · cases h
    · cases h
noncomputable def maxL (l : List Nat) : Nat := List.rec (motive := fun _ => Nat) 0 (fun x _ ih => ife (Nat.ble ih x) x ih) l
theorem le_maxL : ∀ (l : List Nat), ∀ x ∈ l, x ≤ maxL l
  | [], x, h => by cases h
  | y :: l, x, h => by
    show x ≤ ife (Nat.ble (maxL l) y) y (maxL l)
    have ih := le_maxL l
    cases hb : Nat.ble (maxL l) y
    · have : ¬ maxL l ≤ y := fun h' => by rw [Nat.ble_eq_true_of_le h'] at hb; cases hb
      rw [ife_false]
      rcases List.mem_cons.1 h with rfl | h
      · omega
      · exact ih x h
    · have := Nat.le_of_ble_eq_true hb
      rw [ife_true]
      rcases List.mem_cons.1 h with rfl | h
      · omega
      · have := ih x h; omega
theorem maxL_lt : ∀ (l : List Nat), (∀ x ∈ l, x < 1048576) → maxL l < 1048576
  | [], _ => by decide
  | y :: l, h => by
    show ife (Nat.ble (maxL l) y) y (maxL l) < _
    have ih := maxL_lt l fun x hx => h x (List.mem_cons_of_mem _ hx)
    have := h y (List.mem_cons_self)
    cases Nat.ble (maxL l) y <;> assumption
noncomputable def codeL (l : List Nat) : Nat := List.rec (motive := fun _ => Nat) 0 (fun x _ ih => Nat.add x (Nat.mul 1048576 ih)) l
theorem codeL_digit : ∀ (l : List Nat) (j : Nat), (∀ x ∈ l, x < 1048576) → codeL l / 1048576 ^ j % 1048576 = (l[j]?).getD 0
  | [], j, _ => by simp [codeL]
  | x :: l, 0, h => by
    show (x + 1048576 * codeL l) / 1048576 ^ 0 % 1048576 = _
    have := h x List.mem_cons_self
    simp only [Nat.pow_zero, Nat.div_one, List.getElem?_cons_zero, Option.getD_some]
    omega
  | x :: l, j + 1, h => by
    show (x + 1048576 * codeL l) / 1048576 ^ (j + 1) % 1048576 = _
    have hx := h x List.mem_cons_self
    rw [Nat.pow_succ, Nat.mul_comm (1048576 ^ j), ← Nat.div_div_eq_div_mul]
    have : (x + 1048576 * codeL l) / 1048576 = codeL l := by omega
    rw [this, codeL_digit l j fun y hy => h y (List.mem_cons_of_mem _ hy)]
    simp
/-- Every m-th, from place c on (0 ahead of the beginning: z places). -/
noncomputable def nthN (l : List Nat) (n : Nat) : Nat := List.rec (motive := fun _ => Nat → Nat) (fun _ => 0) (fun x _ ih n => Nat.rec (motive := fun _ => Nat) x (fun m _ => ih m) n) l n
theorem nthN_eq : ∀ (l : List Nat) (n : Nat), nthN l n = (l[n]?).getD 0
  | [], n => by simp [nthN]
  | x :: l, 0 => rfl
  | x :: l, n + 1 => by show nthN l n = _; rw [nthN_eq l n]; simp
/-- The places j from j0 on: what stands at m j - c, or 0. -/
noncomputable def everyN (l : List Nat) (m c : Nat) (J : Nat) : Nat → List Nat :=
  Nat.rec (motive := fun _ => Nat → List Nat) (fun _ => []) (fun _ ih j => ife (Nat.ble c (Nat.mul m j)) (nthN l (Nat.sub (Nat.mul m j) c)) 0 :: ih (Nat.succ j)) J
theorem everyN_get (l : List Nat) (m c : Nat) : ∀ (J j0 j : Nat), j < J → (everyN l m c J j0)[j]? = some (if c ≤ m * (j0 + j) then (l[m * (j0 + j) - c]?).getD 0 else 0)
  | 0, _, _, h => by omega
  | J + 1, j0, j, h => by
    show (ife (Nat.ble c (Nat.mul m j0)) (nthN l (Nat.sub (Nat.mul m j0) c)) 0 :: everyN l m c J (Nat.succ j0))[j]? = _
    cases j with
    | zero =>
      simp only [List.getElem?_cons_zero, Nat.add_zero]
      rw [ife_eq, nthN_eq]
      congr 1
      show (if Nat.ble c (m * j0) = true then (l[m * j0 - c]?).getD 0 else 0) = _
      by_cases hc : c ≤ m * j0
      · rw [if_pos hc, if_pos (Nat.ble_eq_true_of_le hc)]
      · rw [if_neg hc, if_neg (fun h => hc (Nat.le_of_ble_eq_true h))]
    | succ j =>
      simp only [List.getElem?_cons_succ]
      rw [everyN_get l m c J (Nat.succ j0) j (by omega), show Nat.succ j0 + j = j0 + (j + 1) from by omega]
theorem everyN_mem (l : List Nat) (m c : Nat) {b : Nat} (hb : 0 < b) (h : ∀ x ∈ l, x < b) : ∀ (J j0 : Nat), ∀ x ∈ everyN l m c J j0, x < b
  | 0, _, x, hx => by cases hx
  | J + 1, j0, x, hx => by
    change x ∈ ife (Nat.ble c (Nat.mul m j0)) (nthN l (Nat.sub (Nat.mul m j0) c)) 0 :: everyN l m c J (Nat.succ j0) at hx
    rcases List.mem_cons.1 hx with rfl | hx
    · cases Nat.ble c (Nat.mul m j0)
      · exact hb
      · rw [ife_true, nthN_eq]
        cases hq : l[Nat.sub (Nat.mul m j0) c]? with
        | none => exact hb
        | some y => exact h y (List.mem_of_getElem? hq)
    · exact everyN_mem l m c hb h J _ x hx
noncomputable def allEqN (v : Nat) (l : List Nat) : Bool := List.rec (motive := fun _ => Bool) true (fun x _ ih => ife (Nat.beq x v) ih false) l
theorem allEqN_ok {v : Nat} : ∀ {l : List Nat}, allEqN v l = true → ∀ x ∈ l, x = v
  | [], _, x, hx => by cases hx
  | y :: l, h, x, hx => by
    change ife (Nat.beq y v) (allEqN v l) false = true at h
    cases hb : Nat.beq y v
    · rw [hb] at h; cases h
    · rw [hb] at h
      rcases List.mem_cons.1 hx with rfl | hx
      · exact Nat.eq_of_beq_eq_true hb
      · exact allEqN_ok h x hx
noncomputable def tabE (l : List Nat) (e : E) : E := .atom (.app (Nat.add (maxL l) (Nat.mul 1048576 (codeL l))) e (.k 0))
theorem tabE_ok {V : Va} (hV : V.f = tabF) {l : List Nat} (h : ∀ x ∈ l, x < 1048576) {e : E} {j v : Nat} (he : e.den V = j) (hj : l[j]? = some v) : (tabE l e).den V = v := by
  unfold tabE
  rw [E.den_atom]
  simp only [E.den, hV, he]
  unfold tabF
  have h1 : Nat.add (maxL l) (Nat.mul 1048576 (codeL l)) = maxL l + 1048576 * codeL l := rfl
  have hm := maxL_lt l h
  have h2 : (maxL l + 1048576 * codeL l) % 1048576 = maxL l := by omega
  have h3 : (maxL l + 1048576 * codeL l) / 1048576 = codeL l := by omega
  rw [h1, h2, Int.toNat_natCast, Nat.pow_succ, Nat.mul_comm (1048576 ^ j), ← Nat.div_div_eq_div_mul, h3, codeL_digit l j h, hj]
  have := le_maxL l v (List.mem_of_getElem? hj)
  simp only [Option.getD_some]
  congr 1
  omega
/-- The table's value at e, with e's factor and what stands ahead taken into the table. -/
noncomputable def tabN (l : List Nat) (e : E) : E := match l with
  | [] => .k 0
  | v :: l' => ife (allEqN v l') (.k (Int.ofNat v)) (match e with
    | .t (.ofNat m) a (.k (.negSucc c)) => ife (Nat.ble 1 m) (tabE (everyN l m (Nat.succ c) (Nat.succ (Nat.div (Nat.add (llen l') (Nat.succ c)) m)) 0) (.atom a)) (tabE l e)
    | .t (.ofNat m) a (.k (.ofNat 0)) => ife (Nat.ble 1 m) (tabE (everyN l m 0 (Nat.succ (Nat.div (llen l') m)) 0) (.atom a)) (tabE l e)
    | e => tabE l e)
theorem tabN_ok {V : Va} (hV : V.f = tabF) {l : List Nat} (h : ∀ x ∈ l, x < 1048576) {e : E} {j v : Nat} (he : e.den V = j) (hj : l[j]? = some v) : (tabN l e).den V = v := by
  have plain := tabE_ok hV h he hj
  cases l with
  | nil => simp at hj
  | cons y l' =>
    have key : ∀ (m c : Nat) (a : E), 1 ≤ m → (m : Int) * a.den V = j + c → (tabE (everyN (y :: l') m c (Nat.succ (Nat.div (Nat.add (llen l') c) m)) 0) (.atom a)).den V = v := by
      intro m c a hm ha
      have hjl : j < (y :: l').length := by
        rcases Nat.lt_or_ge j (y :: l').length with hh | hh
        · exact hh
        · rw [List.getElem?_eq_none hh] at hj; cases hj
      have h0 : 0 ≤ a.den V := by
        rcases Int.lt_or_le (a.den V) 0 with q | q
        · have := Int.mul_le_mul_of_nonneg_left (show a.den V ≤ -1 by omega) (show (0 : Int) ≤ (m : Int) by omega)
          omega
        · exact q
      have hn : m * (a.den V).toNat = j + c := by
        have : ((m * (a.den V).toNat : Nat) : Int) = ((j + c : Nat) : Int) := by
          rw [Int.natCast_mul, Int.toNat_of_nonneg h0, ha]; omega
        exact Int.ofNat_inj.1 this
      refine tabE_ok hV (everyN_mem _ _ _ (by decide) h _ _) (j := (a.den V).toNat) (by rw [E.den_atom]; omega) ?_
      have hlt : (a.den V).toNat < Nat.succ (Nat.div (Nat.add (llen l') c) m) := by
        have : (a.den V).toNat ≤ (l'.length + c) / m := by
          rw [Nat.le_div_iff_mul_le hm, Nat.mul_comm, hn]
          simp at hjl; omega
        rw [llen_eq]
        exact Nat.lt_succ_of_le this
      rw [everyN_get _ _ _ _ _ _ hlt, Nat.zero_add, hn, if_pos (by omega), show j + c - c = j from by omega, hj]
      rfl
    show (ife (allEqN y l') (.k (Int.ofNat y)) _ : E).den V = v
    cases hq : allEqN y l'
    · rw [ife_false]
      split
      · rename_i m a c
        cases hb : Nat.ble 1 m
        · exact plain
        · rw [ife_true]
          refine key m (Nat.succ c) a (Nat.le_of_ble_eq_true hb) ?_
          simp only [E.den, Int.negSucc_eq, Int.ofNat_eq_natCast] at he
          omega
      · rename_i m a
        cases hb : Nat.ble 1 m
        · exact plain
        · rw [ife_true]
          refine key m 0 a (Nat.le_of_ble_eq_true hb) ?_
          simp only [E.den, Int.ofNat_eq_natCast] at he
          omega
      · exact plain
    · rw [ife_true]
      show (Int.ofNat y : Int) = v
      cases j with
      | zero => simp at hj; subst hj; rfl
      | succ j =>
        have := allEqN_ok hq v (List.mem_of_getElem? (by simpa using hj))
        rw [this]; rfl
/-- One of l, by e: short lists and those that are not all literal by tests. -/
noncomputable def selT (e : E) (l : List AV) : Option AV := match l with
  | .int kd _x :: l' => ife (llong l' 4) (match natsOf (IntKind.no kd) l with | some ns => some (.int kd (tabN ns e)) | none => selL e l 0) (selL e l 0)
  | l => selL e l 0
theorem selT_ok {V : Va} (hV : V.f = tabF) {N : Env} {e : E} {l : List AV} {x : AV} (h : selT e l = some x) {m : Nat} {a : AV} {v : Value} (hm : e.den V = m) (ha : l[m]? = some a) (hv : a.rel V N v) : x.rel V N v := by
  have plain : ∀ {l : List AV}, selL e l 0 = some x → l[m]? = some a → x.rel V N v := fun h ha => selL_ok _ _ _ h m a v (by omega) ha hv
  unfold selT at h
  split at h
  · rename_i kd y l'
    cases hl : llong l' 4
    · rw [hl, ife_false] at h; exact plain h ha
    · rw [hl, ife_true] at h
      split at h
      · rename_i ns hns
        cases h
        obtain ⟨_, h2⟩ := natsOf_ok hns
        obtain ⟨kd', v', k1, k2, k3, k4⟩ := h2 m a ha
        have := IntKind.no_inj k1
        subst this k2
        simp only [AV.rel, E.den] at hv ⊢
        rw [hv]
        congr 1
        rw [tabN_ok hV (fun y hx => ?_) hm k3]; rfl
        obtain ⟨j, hj⟩ := List.getElem?_of_mem hx
        have hjl : j < ns.length := by
          rcases Nat.lt_or_ge j ns.length with hh | hh
          · exact hh
          · rw [List.getElem?_eq_none hh] at hj; cases hj
        rw [(natsOf_ok hns).1] at hjl
        obtain ⟨_, v'', _, _, q3, q4⟩ := h2 j _ (List.getElem?_eq_getElem hjl)
        rw [hj] at q3; injection q3 with q3; omega
      · exact plain h ha
  · exact plain h ha
noncomputable def selC (e : E) (o : Option (List AV)) : Option AV := match o with | some l => selT e l | none => none
theorem selC_ok {V : Va} (hV : V.f = tabF) {N : Env} {e : E} {f : Nat → Option AV} {st n o m : Nat} {x : AV} (h : selC e (cands f st n o) = some x) (he : e.den V = m) (hm : m < n) : ∃ a, f (o + m * st) = some a ∧ ∀ v, a.rel V N v → x.rel V N v := by
  unfold selC at h
  split at h
  · rename_i l hl
    obtain ⟨a, h1, h2⟩ := cands_get n o hl m hm
    exact ⟨a, h1, fun v hv => selT_ok hV h (by omega) h2 hv⟩
  · cases h
noncomputable def aLoad (P : Program) (t : TypeId) (a : AV) (g : G) (k : AV → G → Rs α) : Rs α :=
  match a with
  | .ptr id off => match hget g.heap id with
    | some (.cells cs _ _ _) => match P.underlying t with
      | some d => ife (aggD d) (match P.info? t with
          | some i => ife (llong cs (off + i.size)) (k (.agg (ltake (ldrop cs off) i.size)) g) (.bad 30)
          | none => .bad 31)
        (match lnth cs off with | some x => k x g | none => .bad 32)
      | none => .bad 33
    | _ => .bad 34
  | .aptr id m => match P.underlying t with
    | some d => ife (aggD d) (.bad 36) (k (.int .i64 (.atom (.var (argVar id m)))) g)
    | none => .bad 37
  | .sptr id off e n st => match hget g.heap id with
    | some (.cells cs _ _ _) => match P.underlying t with
      | some d => ife (aggD d) (match P.info? t with
          | some i => match selC e (cands (fun o => ife (llong cs (o + i.size)) (some (.agg (ltake (ldrop cs o) i.size))) none) st n off) with
            | some x => k x g
            | none => .bad 38
          | none => .bad 31)
        (match selC e (cands (fun o => lnth cs o) st n off) with | some x => k x g | none => .bad 39)
      | none => .bad 33
    | _ => .bad 34
  | _ => .bad 35
theorem aLoad_at (r : Grel V N W0 g w) {t : TypeId} {a : AV} {v : Value} (ha : a.rel V N v) (h : (aLoad P t a g k).All V p) :
    ∃ b u x, v = .pointer (some b) ∧ (loadVar t b).run P w = .ok u w ∧ x.rel V N u ∧ (k x g).All V p := by
  unfold aLoad at h
  split at h
  · rename_i id off
    simp only [AV.rel] at ha
    obtain ⟨b, hb, rfl⟩ := ha
    split at h
    · rename_i cs elem opn own hcs
      obtain ⟨b', c, fr, hb', hc, _, hlen, _, _, hrel⟩ := r.cells hcs
      rw [hb] at hb'; injection hb' with hb'; subst hb'
      split at h
      · rename_i d hd
        cases hag : aggD d
        · rw [hag] at h
          simp only [ife_false, lnth_eq] at h
          split at h
          · rename_i x hx
            obtain ⟨u, hu, hux⟩ := rels_get off hrel hx
            refine ⟨_, u, x, rfl, ?_, hux, h⟩
            have hu' : c[off]? = some u := by
              have : off < cs.length := by
                rcases Nat.lt_or_ge off cs.length with hh | hh
                · exact hh
                · rw [List.getElem?_eq_none hh] at hx; cases hx
              rw [List.getElem?_take, if_pos this] at hu
              simpa using hu
            simp [loadVar, run_isAgg hd, hag, cell_at hc, hu']
          · exact h.elim
        · rw [hag] at h
          simp only [ife_true] at h
          split at h
          · rename_i i hi
            cases hll : llong cs (off + i.size)
            · rw [hll] at h; exact h.elim
            · rw [hll] at h
              have hle := llong_iff.1 hll
              rw [ltake_eq, ldrop_eq] at h
              refine ⟨_, .agg ((c.toList.drop off).take i.size).toArray, _, rfl, ?_, ?_, h⟩
              rotate_left
              · simp only [AV.rel]
                refine ⟨_, rfl, ?_⟩
                have e : (c.toList.drop off).take i.size = ((c.toList.take cs.length).drop off).take i.size := by
                  rw [List.drop_take, List.take_take, Nat.min_eq_left (by omega)]
                rw [List.toList_toArray, e]
                exact rels_take _ (rels_drop _ hrel)
              · simp [loadVar, run_isAgg hd, hag, run_sizeOf hi, run_loadCells hc (show off + i.size ≤ c.size by omega)]
          · exact h.elim
      · exact h.elim
    · exact h.elim
  · rename_i id m
    simp only [AV.rel] at ha
    obtain ⟨ad, hb, rfl, hlt⟩ := ha
    split at h
    · rename_i d hd
      cases hag : aggD d
      · rw [hag, ife_false] at h
        obtain ⟨k1, k2⟩ := (r.os.2.keep r.size r.below).2 id ad m hb hlt
        refine ⟨_, .int .i64 (V.v (argVar id m)), _, rfl, ?_, by simp only [AV.rel]; rw [E.den_atom]; simp only [E.den], h⟩
        simp [loadVar, run_isAgg hd, hag, k2]
      · rw [hag] at h; exact h.elim
    · exact h.elim
  · rename_i id off e n st
    simp only [AV.rel] at ha
    obtain ⟨b, m, hb, rfl, hm, hlt⟩ := ha
    split at h
    · rename_i cs elem opn own hcs
      obtain ⟨b', c, fr, hb', hc, _, hlen, _, _, hrel⟩ := r.cells hcs
      rw [hb] at hb'; injection hb' with hb'; subst hb'
      split at h
      · rename_i d hd
        cases hag : aggD d
        · rw [hag, ife_false] at h
          split at h
          · rename_i x hx
            obtain ⟨a, h1, h2⟩ := selC_ok (V := V) r.os.2.1 (N := N) hx hm hlt
            rw [lnth_eq] at h1
            obtain ⟨u, hu, hux⟩ := rels_get (off + m * st) hrel h1
            refine ⟨_, u, x, rfl, ?_, h2 u hux, h⟩
            have hu' : c[off + m * st]? = some u := by
              have : off + m * st < cs.length := by
                rcases Nat.lt_or_ge (off + m * st) cs.length with hh | hh
                · exact hh
                · rw [List.getElem?_eq_none hh] at h1; cases h1
              rw [List.getElem?_take, if_pos this] at hu
              simpa using hu
            simp [loadVar, run_isAgg hd, hag, cell_at hc, hu']
          · exact h.elim
        · rw [hag, ife_true] at h
          split at h
          · rename_i i hi
            split at h
            · rename_i x hx
              obtain ⟨a, h1, h2⟩ := selC_ok (V := V) r.os.2.1 (N := N) hx hm hlt
              cases hll : llong cs (off + m * st + i.size)
              · rw [hll] at h1; cases h1
              · rw [hll, ife_true] at h1
                injection h1 with h1
                have hle := llong_iff.1 hll
                rw [ltake_eq, ldrop_eq] at h1
                refine ⟨_, .agg ((c.toList.drop (off + m * st)).take i.size).toArray, x, rfl, ?_, h2 _ ?_, h⟩
                · simp [loadVar, run_isAgg hd, hag, run_sizeOf hi, run_loadCells hc (show off + m * st + i.size ≤ c.size by omega)]
                · rw [← h1]
                  simp only [AV.rel]
                  refine ⟨_, rfl, ?_⟩
                  have e' : (c.toList.drop (off + m * st)).take i.size = ((c.toList.take cs.length).drop (off + m * st)).take i.size := by
                    rw [List.drop_take, List.take_take, Nat.min_eq_left (by omega)]
                  rw [List.toList_toArray, e']
                  exact rels_take _ (rels_drop _ hrel)
            · exact h.elim
          · exact h.elim
      · exact h.elim
    · exact h.elim
  · exact h.elim
theorem aLoad_ok (r : Grel V N W0 g w) {t : TypeId} {a : AV} {v : Value} (ha : a.rel V N v) (h : (aLoad P t a g k).All V p) : Does P V W0 N g p k w (Instr.loadAt t v) := by
  obtain ⟨b, u, x, rfl, h1, h2, h3⟩ := aLoad_at r ha h
  refine Does.val r h2 h3 ?_
  show (do loadVar t (← Instr.sureAddr (.pointer (some b))) : Sem Value).run P w = _
  simpa [Instr.sureAddr] using h1
noncomputable def allOne (l : List AV) : Bool := List.rec (motive := fun _ => Bool) true (fun x _ ih => ife x.one ih false) l
theorem allOne_ok : ∀ {l : List AV}, allOne l = true → l.all AV.one = true
  | [], _ => rfl
  | x :: l, h => by
    change ife x.one (allOne l) false = true at h
    cases hx : x.one
    · rw [hx] at h; cases h
    · rw [hx] at h; simp only [List.all_cons, hx, Bool.true_and]; exact allOne_ok h
/-- Cells of the block id, from off on, written over by xs. -/
noncomputable def aPut (id off : Nat) (xs : List AV) (g : G) (k : G → Rs α) : Rs α :=
  match hget g.heap id with
  | some (.cells cs elem opn true) => ife (noneEq id g.ro) (ife (ife (allOne xs) (llong cs (off + llen xs)) false) (k (g.setHW (hput g.heap id (.cells (lspl xs cs off) elem opn true)) id)) (.bad 40)) (.bad 45)
  | _ => .bad 41
theorem aPut_ok (r : Grel V N W0 g w) {id off : Nat} {xs : List AV} {kk : G → Rs α} (h : (aPut id off xs g kk).All V p) {b : Nat} (hb : N.b id = some b) {vs : List Value} (hv : AV.rels V N xs vs) :
    DoesU P V W0 N g p kk w (storeCells ⟨b, off, none⟩ vs) := by
  unfold aPut at h
  split at h
  · rename_i cs elem opn hcs
    obtain ⟨b', c, fr, hb', hc, how, hlen, hop, hN, hrel⟩ := r.cells hcs
    rw [hb] at hb'; injection hb' with hb'; subst hb'
    have hfr := (how rfl).1; subst hfr
    cases hro : noneEq id g.ro
    · rw [hro] at h; exact h.elim
    rw [hro, ife_true] at h
    cases h1 : allOne xs
    · rw [h1] at h; exact h.elim
    · cases h2 : llong cs (off + llen xs)
      · rw [h1, h2] at h; exact h.elim
      · rw [h1, h2] at h
        simp only [ife_true] at h
        have hle := llong_iff.1 h2
        rw [llen_eq] at hle
        have hl := rels_length hv
        rw [lspl_eq _ _ _ (by omega)] at h
        have hrun := run_storeCells (P := P) vs hc off 0 (by omega) (rels_one (allOne_ok h1) hv)
        refine ⟨_, _, N, hrun, (r.write (cs' := cs.take off ++ xs ++ cs.drop (off + xs.length)) hcs hb hc ?_ ?_ ?_ ?_).wl (id :: g.wl), ⟨Env.le.refl _, fun _ _ => ⟨rfl, rfl⟩, Nat.le_refl _, rfl, rfl, fun i hi o ho => ?_⟩, h⟩
        rotate_right
        · show hget (hput g.heap id _) i = some o
          rw [hget_hput, if_neg (Ne.symm (noneEq_ok hro i hi))]; exact ho
        · exact splice_size (by omega)
        · simp; omega
        · intro ho; rw [hop ho]; simp; omega
        · have e : (cs.take off ++ xs ++ cs.drop (off + xs.length)).length = cs.length := by simp; omega
          rw [e]
          have e2 : (splice c (off + 0) vs).toList.take cs.length = (c.toList.take cs.length).take off ++ vs ++ (c.toList.take cs.length).drop (off + vs.length) := by
            simp only [splice, Nat.add_zero]
            rw [List.take_append, List.take_append, List.take_of_length_le (l := vs) (by simp; omega), List.take_take, List.take_take, Nat.min_comm, List.drop_take]
            simp only [List.length_append, List.length_take, Array.length_toList]
            rw [show cs.length - (min off c.size + vs.length) = cs.length - (off + vs.length) from by omega]
          rw [e2, hl]
          exact rels_append (rels_append (rels_take _ hrel) hv) (rels_drop _ hrel)
  · exact h.elim
/-- x in one of the cells off, off + st, .. -/
noncomputable def updS (e : E) (x : AV) (cs : List AV) (st n : Nat) : Nat → Int → Option (List AV) :=
  Nat.rec (motive := fun _ => Nat → Int → Option (List AV)) (fun _ _ => some cs) (fun _ ih o i => match lnth cs o, ih (o + st) (i + 1) with
    | some old, some l => match mrg (.atom (.eq0 (e.sub (.k i)))) 6 x old with
      | some z => some (lspl [z] l o)
      | none => none
    | _, _ => none) n
theorem updS_ok {V : Va} {N : Env} {e : E} {x : AV} {cs : List AV} {st : Nat} (hst : 0 < st) : ∀ (n o : Nat) (i : Int) {l : List AV}, updS e x cs st n o i = some l → l.length = cs.length ∧
    (∀ j, j < o → l[j]? = cs[j]?) ∧
    (∀ (m : Nat), e.den V = i + m → m < n → o + m * st < cs.length ∧ ∀ (us : List Value) (v : Value), AV.rels V N cs us → x.rel V N v → AV.rels V N l (us.set (o + m * st) v)) ∧
    ((e.den V < i ∨ i + n ≤ e.den V) → ∀ us : List Value, AV.rels V N cs us → AV.rels V N l us)
  | 0, o, i, l, h => by
    cases h
    exact ⟨rfl, fun _ _ => rfl, fun m _ hm => by omega, fun _ us hu => hu⟩
  | n + 1, o, i, l, h => by
    change (match lnth cs o, updS e x cs st n (o + st) (i + 1) with
      | some old, some l => match mrg (.atom (.eq0 (e.sub (.k i)))) 6 x old with
        | some z => some (lspl [z] l o)
        | none => none
      | _, _ => none) = some l at h
    split at h
    · rename_i old l' ho hl'
      split at h
      · rename_i z hz
        cases h
        rw [lnth_eq] at ho
        have hoc : o < cs.length := by
          rcases Nat.lt_or_ge o cs.length with hh | hh
          · exact hh
          · rw [List.getElem?_eq_none hh] at ho; cases ho
        obtain ⟨k1, k2, k3, k4⟩ := updS_ok hst n (o + st) (i + 1) hl'
        have hs : lspl [z] l' o = l'.set o z := by
          rw [lspl_eq _ _ _ (by omega)]
          apply List.ext_getElem?
          intro j
          rw [List.getElem?_set]
          simp only [List.append_assoc, List.getElem?_append, List.length_take, List.length_cons, List.length_nil, Nat.min_eq_left (show o ≤ l'.length by omega), List.getElem?_take, List.getElem?_drop]
          by_cases h1 : j < o
          · rw [if_pos h1, if_pos h1, if_neg (by omega)]
          · rw [if_neg h1]
            by_cases h2 : o = j
            · subst h2
              rw [if_pos rfl, if_pos (by omega), if_pos (by omega)]; simp
            · rw [if_neg h2, if_neg (by omega)]
              congr 1; omega
        rw [hs]
        have hj := mrg_ok (V := V) 6 _ _ _ hz
        have hd : (E.atom (.eq0 (e.sub (.k i)))).den V = if e.den V - i = 0 then 1 else 0 := by
          rw [E.den_atom]; simp only [E.den, E.den_sub]
        have setr : ∀ (l : List AV) (us : List Value) (p : Nat) (a : AV) (v : Value), AV.rels V N l us → a.rel V N v → AV.rels V N (l.set p a) (us.set p v) := by
          intro l
          induction l with
          | nil => intro us p a v h _; rw [rels_nil.1 h]; simp [rels_nil]
          | cons y l ih =>
            intro us p a v h ha
            obtain ⟨u, us, rfl, q1, q2⟩ := rels_cons.1 h
            cases p with
            | zero => exact rels_cons' ha q2
            | succ p => exact rels_cons' q1 (ih us p a v q2 ha)
        have same : ∀ (us : List Value), AV.rels V N cs us → ∃ u, us[o]? = some u ∧ old.rel V N u := fun us hu => rels_get o hu ho
        refine ⟨by simp [k1], fun j hj' => ?_, fun m hm hlt => ?_, fun hout us hu => ?_⟩
        · rw [List.getElem?_set, if_neg (by omega)]; exact k2 j (by omega)
        · cases m with
          | zero =>
            have hi : e.den V - i = 0 := by push_cast at hm; omega
            refine ⟨by omega, fun us v hu hv => ?_⟩
            rw [Nat.zero_mul, Nat.add_zero]
            refine setr l' us o z v (k4 (.inl (by omega)) us hu) (hj N v ?_)
            rw [hd, if_pos hi, if_neg (by omega)]; exact hv
          | succ m =>
            obtain ⟨q1, q2⟩ := k3 m (by push_cast at hm; omega) (by omega)
            have e1 : o + (m + 1) * st = o + st + m * st := by rw [Nat.add_mul]; omega
            rw [e1]
            refine ⟨q1, fun us v hu hv => ?_⟩
            obtain ⟨u, hu1, hu2⟩ := same us hu
            have hne : ¬ (e.den V - i = 0) := by push_cast at hm; omega
            have := setr l' _ o z u (q2 us v hu hv) (hj N u (by rw [hd, if_neg hne, if_pos rfl]; exact hu2))
            have e2 : (us.set (o + st + m * st) v).set o u = us.set (o + st + m * st) v := by
              apply List.ext_getElem?
              intro j
              rw [List.getElem?_set]
              split
              · rename_i hoj
                subst hoj
                have hlen : o < us.length := by
                  rcases Nat.lt_or_ge o us.length with hh | hh
                  · exact hh
                  · rw [List.getElem?_eq_none hh] at hu1; cases hu1
                rw [if_pos (by simpa using hlen), List.getElem?_set, if_neg (by omega)]
                exact hu1.symm
              · rfl
            rw [e2] at this; exact this
        · obtain ⟨u, hu1, hu2⟩ := same us hu
          have hne : ¬ (e.den V - i = 0) := by push_cast at hout; omega
          have := setr l' us o z u (k4 (by push_cast at hout; omega) us hu) (hj N u (by rw [hd, if_neg hne, if_pos rfl]; exact hu2))
          have e2 : us.set o u = us := by
            apply List.ext_getElem?
            intro j
            rw [List.getElem?_set]
            split
            · rename_i hoj
              subst hoj
              have hlen : o < us.length := by
                rcases Nat.lt_or_ge o us.length with hh | hh
                · exact hh
                · rw [List.getElem?_eq_none hh] at hu1; cases hu1
              rw [if_pos hlen]; exact hu1.symm
            · rfl
          rw [e2] at this; exact this
      · cases h
    · cases h
noncomputable def aPutS (id off : Nat) (e : E) (n st : Nat) (x : AV) (g : G) (k : G → Rs α) : Rs α :=
  match hget g.heap id with
  | some (.cells cs elem opn true) => ife (noneEq id g.ro) (ife (ife x.one (Nat.ble 1 st) false) (match updS e x cs st n off 0 with
    | some l => k (g.setHW (hput g.heap id (.cells l elem opn true)) id)
    | none => .bad 46) (.bad 47)) (.bad 45)
  | _ => .bad 41
theorem aPutS_ok (r : Grel V N W0 g w) {id off n st m : Nat} {e : E} {x : AV} {kk : G → Rs α} (h : (aPutS id off e n st x g kk).All V p) {b : Nat} (hb : N.b id = some b) (hm : e.den V = m) (hlt : m < n) {v : Value} (hv : x.rel V N v) :
    DoesU P V W0 N g p kk w (storeCells ⟨b, off + m * st, none⟩ [v]) := by
  unfold aPutS at h
  split at h
  · rename_i cs elem opn hcs
    obtain ⟨b', c, fr, hb', hc, how, hlen, hop, hN, hrel⟩ := r.cells hcs
    rw [hb] at hb'; injection hb' with hb'; subst hb'
    have hfr := (how rfl).1; subst hfr
    cases hro : noneEq id g.ro
    · rw [hro] at h; exact h.elim
    rw [hro, ife_true] at h
    cases h1 : x.one
    · rw [h1] at h; exact h.elim
    · cases h2 : Nat.ble 1 st
      · rw [h1, h2] at h; exact h.elim
      · rw [h1, h2] at h
        simp only [ife_true] at h
        split at h
        · rename_i l hl
          obtain ⟨q1, _, q3, _⟩ := updS_ok (V := V) (N := N) (Nat.le_of_ble_eq_true h2) n off 0 hl
          obtain ⟨q4, q5⟩ := q3 m (by omega) hlt
          have hrun := run_storeCells (P := P) [v] hc (off + m * st) 0 (by simp; omega) (fun u hu => by simp at hu; subst hu; exact AV.rel_one h1 hv)
          refine ⟨_, _, N, hrun, (r.write (cs' := l) hcs hb hc ?_ ?_ ?_ ?_).wl (id :: g.wl), ⟨Env.le.refl _, fun _ _ => ⟨rfl, rfl⟩, Nat.le_refl _, rfl, rfl, fun i hi o ho => ?_⟩, h⟩
          rotate_right
          · show hget (hput g.heap id _) i = some o
            rw [hget_hput, if_neg (Ne.symm (noneEq_ok hro i hi))]; exact ho
          · exact splice_size (by simp; omega)
          · omega
          · intro ho; rw [hop ho]; omega
          · rw [q1]
            have := q5 _ v hrel hv
            have e2 : (splice c (off + m * st + 0) [v]).toList.take cs.length = (c.toList.take cs.length).set (off + m * st) v := by
              simp only [splice, Nat.add_zero]
              apply List.ext_getElem?
              intro j
              rw [List.getElem?_set]
              simp only [List.getElem?_take, List.append_assoc, List.getElem?_append, List.length_take, List.length_cons, List.length_nil, List.getElem?_drop, Array.length_toList, Nat.min_eq_left (show off + m * st ≤ c.size by omega)]
              by_cases hj : j < cs.length
              · rw [if_pos hj]
                by_cases hjo : j < off + m * st
                · rw [if_pos hjo, if_pos hjo, if_neg (by omega), if_pos hj]
                · rw [if_neg hjo]
                  by_cases he : off + m * st = j
                  · rw [if_pos he, if_pos (by omega), if_pos (by omega)]; simp [he]
                  · rw [if_neg he, if_neg (by omega), if_pos hj]
                    congr 1; omega
              · rw [if_neg hj, if_neg (by omega), if_neg hj]
            rw [e2]; exact this
        · exact h.elim
  · exact h.elim
noncomputable def aStore (P : Program) (t : TypeId) (a x : AV) (g : G) (k : G → Rs α) : Rs α :=
  match a with
  | .ptr id off => match P.info? t with
    | some i => ife (ife x.known (Nat.beq (llen x.cells) i.size) false) (aPut id off x.cells g k) (.bad 42)
    | none => .bad 43
  | .sptr id off e n st => match P.info? t with
    | some i => ife (ife x.one (Nat.beq 1 i.size) false) (aPutS id off e n st x g k) (.bad 48)
    | none => .bad 43
  | _ => .bad 44
theorem aStore_ok (r : Grel V N W0 g w) {t : TypeId} {a x : AV} {v u : Value} (ha : a.rel V N v) (hx : x.rel V N u) {kk : G → Rs α} (h : (aStore P t a x g kk).All V p) :
    DoesU P V W0 N g p kk w (Instr.storeAt t v u) := by
  unfold aStore at h
  split at h
  · rename_i id off
    simp only [AV.rel] at ha
    obtain ⟨b, hb, rfl⟩ := ha
    split at h
    · rename_i i hi
      cases h1 : x.known
      · rw [h1] at h; exact h.elim
      · cases h2 : Nat.beq (llen x.cells) i.size
        · rw [h1, h2] at h; exact h.elim
        · rw [h1, h2] at h
          have h3 := Nat.eq_of_beq_eq_true h2
          have hc := AV.rel_cells h1 hx
          have hl := rels_length hc
          rw [llen_eq] at h3
          obtain ⟨w', g', N', hrun, r1, r2, r3⟩ := aPut_ok (P := P) r h hb hc
          refine ⟨w', g', N', ?_, r1, r2, r3⟩
          have hsz : u.cells.size = i.size := by rw [← Array.length_toList, hl, h3]
          simp [Instr.storeAt, Instr.sureAddr, storeVar, run_sizeOf hi, hsz, hrun]
    · exact h.elim
  · rename_i id off e n st
    simp only [AV.rel] at ha
    obtain ⟨b, m, hb, rfl, hm, hlt⟩ := ha
    split at h
    · rename_i i hi
      cases h1 : x.one
      · rw [h1] at h; exact h.elim
      · cases h2 : Nat.beq 1 i.size
        · rw [h1, h2] at h; exact h.elim
        · rw [h1, h2] at h
          have h3 := Nat.eq_of_beq_eq_true h2
          obtain ⟨w', g', N', hrun, r1, r2, r3⟩ := aPutS_ok (P := P) r h hb hm hlt hx
          refine ⟨w', g', N', ?_, r1, r2, r3⟩
          have hu : u.cells = #[u] := by
            have := AV.rel_one h1 hx
            cases u <;> first | rfl | cases this
          simp [Instr.storeAt, Instr.sureAddr, storeVar, run_sizeOf hi, hu, ← h3, hrun]
    · exact h.elim
  · exact h.elim
end
end Go.RX
