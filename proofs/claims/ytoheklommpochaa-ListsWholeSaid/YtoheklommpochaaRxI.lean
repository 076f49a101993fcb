/- RX, part 11b: equality by Bools; joins of values, of slots and of blocks. -/
import Derived.Test.YtoheklommpochaaRxX
namespace Go.RX
noncomputable def eqE (a b : E) : Bool := match a.cmp b with | .eq => true | _ => false
theorem eqE_ok {a b : E} (h : eqE a b = true) : a = b := by
  unfold eqE at h
  split at h
  · rename_i hc; exact E.cmp_eq _ _ hc
  · cases h
noncomputable def Cap.eqb (a b : Cap) : Bool := match a, b with
  | .lit m, .lit n => Nat.beq m n
  | .full m, .full n => Nat.beq m n
  | .any, .any => true
  | _, _ => false
theorem Cap.eqb_ok {a b : Cap} (h : a.eqb b = true) : a = b := by
  unfold Cap.eqb at h
  split at h
  · rw [Nat.eq_of_beq_eq_true h]
  · rw [Nat.eq_of_beq_eq_true h]
  · rfl
  · cases h
noncomputable def leqb {β : Type} (f : β → β → Bool) (l : List β) : List β → Bool :=
  List.rec (motive := fun _ => List β → Bool) (fun m => match m with | [] => true | _ => false)
    (fun x _ ih m => match m with | [] => false | y :: m => ife (f x y) (ih m) false) l
theorem leqb_ok {β : Type} {f : β → β → Bool} (hf : ∀ x y, f x y = true → x = y) : ∀ (l m : List β), leqb f l m = true → l = m
  | [], [], _ => rfl
  | [], _ :: _, h => by cases h
  | _ :: _, [], h => by cases h
  | x :: l, y :: m, h => by
    change ife (f x y) (leqb f l m) false = true at h
    cases hx : f x y
    · rw [hx] at h; cases h
    · rw [hx] at h
      rw [hf x y hx, leqb_ok hf l m h]
noncomputable def and2 (a b : Bool) : Bool := ife a b false
theorem and2_ok {a b : Bool} (h : and2 a b = true) : a = true ∧ b = true := by
  unfold and2 at h; cases a <;> cases b <;> simp_all
noncomputable def AV.eq1 (ih : AV → AV → Bool) (a b : AV) : Bool := match a, b with
  | .int ka a, .int kb b => and2 (Nat.beq (IntKind.no ka) (IntKind.no kb)) (eqE a b)
  | .bool a, .bool b => eqE a b
  | .ptr i o, .ptr j p => and2 (Nat.beq i j) (Nat.beq o p)
  | .nilptr, .nilptr => true
  | .slice i o l k, .slice j p m q => and2 (and2 (Nat.beq i j) (Nat.beq o p)) (and2 (Nat.beq l m) (k.eqb q))
  | .nilslice, .nilslice => true
  | .xsl i e, .xsl j f => and2 (Nat.beq i j) (eqE e f)
  | .aptr i m, .aptr j n => and2 (Nat.beq i j) (Nat.beq m n)
  | .sptr i o e m s, .sptr j p f n q => and2 (and2 (Nat.beq i j) (Nat.beq o p)) (and2 (eqE e f) (and2 (Nat.beq m n) (Nat.beq s q)))
  | .map i, .map j => Nat.beq i j
  | .func f x y, .func g z u => and2 (Nat.beq f g) (and2 (leqb ih x z) (leqb ih y u))
  | .nilfunc, .nilfunc => true
  | .agg x, .agg y => leqb ih x y
  | .tup x, .tup y => leqb ih x y
  | .str x, .str y => leqb ih x y
  | .top, .top => true
  | _, _ => false
noncomputable def AV.eqb (n : Nat) : AV → AV → Bool := Nat.rec (motive := fun _ => AV → AV → Bool) (fun _ _ => false) (fun _ ih => AV.eq1 ih) n
theorem AV.eqb_ok : ∀ (n : Nat) (a b : AV), AV.eqb n a b = true → a = b
  | 0, _, _, h => by cases h
  | n + 1, a, b, h => by
    have hl := fun l m => leqb_ok (AV.eqb_ok n) l m
    change AV.eq1 (AV.eqb n) a b = true at h
    unfold AV.eq1 at h
    split at h
    · obtain ⟨h1, h2⟩ := and2_ok h
      rw [IntKind.no_inj (Nat.eq_of_beq_eq_true h1), eqE_ok h2]
    · rw [eqE_ok h]
    · obtain ⟨h1, h2⟩ := and2_ok h
      rw [Nat.eq_of_beq_eq_true h1, Nat.eq_of_beq_eq_true h2]
    · rfl
    · obtain ⟨h1, h2⟩ := and2_ok h
      obtain ⟨h3, h4⟩ := and2_ok h1
      obtain ⟨h5, h6⟩ := and2_ok h2
      rw [Nat.eq_of_beq_eq_true h3, Nat.eq_of_beq_eq_true h4, Nat.eq_of_beq_eq_true h5, Cap.eqb_ok h6]
    · rfl
    · obtain ⟨h1, h2⟩ := and2_ok h
      rw [Nat.eq_of_beq_eq_true h1, eqE_ok h2]
    · obtain ⟨h1, h2⟩ := and2_ok h
      rw [Nat.eq_of_beq_eq_true h1, Nat.eq_of_beq_eq_true h2]
    · obtain ⟨h1, h2⟩ := and2_ok h
      obtain ⟨h3, h4⟩ := and2_ok h1
      obtain ⟨h5, h6⟩ := and2_ok h2
      obtain ⟨h7, h8⟩ := and2_ok h6
      rw [Nat.eq_of_beq_eq_true h3, Nat.eq_of_beq_eq_true h4, eqE_ok h5, Nat.eq_of_beq_eq_true h7, Nat.eq_of_beq_eq_true h8]
    · rw [Nat.eq_of_beq_eq_true h]
    · obtain ⟨h1, h2⟩ := and2_ok h
      obtain ⟨h3, h4⟩ := and2_ok h2
      rw [Nat.eq_of_beq_eq_true h1, hl _ _ h3, hl _ _ h4]
    · rfl
    · rw [hl _ _ h]
    · rw [hl _ _ h]
    · rw [hl _ _ h]
    · rfl
    · cases h
noncomputable def PT.eqb (t : PT) : PT → Bool :=
  PT.rec (motive := fun _ => PT → Bool) (fun v u => match u with | .lf u => AV.eqb 8 v u | _ => false)
    (fun _ _ _ _ ia ib ic id u => match u with | .nd a b c d => and2 (and2 (ia a) (ib b)) (and2 (ic c) (id d)) | _ => false) t
theorem PT.eqb_ok : ∀ (t u : PT), t.eqb u = true → t = u
  | .lf v, .lf u, h => by rw [AV.eqb_ok 8 v u h]
  | .lf _, .nd _ _ _ _, h => by cases h
  | .nd _ _ _ _, .lf _, h => by cases h
  | .nd a b c d, .nd a' b' c' d', h => by
    change and2 (and2 (a.eqb a') (b.eqb b')) (and2 (c.eqb c') (d.eqb d')) = true at h
    obtain ⟨h1, h2⟩ := and2_ok h
    obtain ⟨h1, h3⟩ := and2_ok h1
    obtain ⟨h2, h4⟩ := and2_ok h2
    rw [PT.eqb_ok a a' h1, PT.eqb_ok b b' h3, PT.eqb_ok c c' h2, PT.eqb_ok d d' h4]
noncomputable def beqB (a b : Bool) : Bool := ife a b (ife b false true)
theorem beqB_ok {a b : Bool} (h : beqB a b = true) : a = b := by cases a <;> cases b <;> first | rfl | cases h
noncomputable def Ob.eqb (a b : Ob) : Bool := match a, b with
  | .cells x e p o, .cells y f q r => and2 (and2 (Nat.beq e f) (and2 (beqB p q) (beqB o r))) (leqb (AV.eqb 8) x y)
  | .emap p, .emap q => beqB p q
  | .row i t p, .row j u q => and2 (and2 (Nat.beq i j) (leqb eqI t u)) (beqB p q)
  | _, _ => false
theorem Ob.eqb_ok {a b : Ob} (h : a.eqb b = true) : a = b := by
  unfold Ob.eqb at h
  split at h
  · obtain ⟨h1, h2⟩ := and2_ok h
    obtain ⟨h3, h4⟩ := and2_ok h1
    obtain ⟨h5, h6⟩ := and2_ok h4
    rw [Nat.eq_of_beq_eq_true h3, beqB_ok h5, beqB_ok h6, leqb_ok (AV.eqb_ok 8) _ _ h2]
  · rw [beqB_ok h]
  · obtain ⟨h1, h2⟩ := and2_ok h
    obtain ⟨h3, h4⟩ := and2_ok h1
    rw [Nat.eq_of_beq_eq_true h3, beqB_ok h2, leqb_ok (fun x y hx => eqI_iff.1 hx) _ _ h4]
  · cases h
abbrev Heap := List (Nat × Ob)
noncomputable def heqb (h h' : Heap) : Bool := leqb (fun x y => and2 (Nat.beq x.1 y.1) (x.2.eqb y.2)) h h'
theorem heqb_ok {h h' : Heap} (e : heqb h h' = true) : h = h' :=
  leqb_ok (fun x y hx => by
    obtain ⟨h1, h2⟩ := and2_ok hx
    exact Prod.ext (Nat.eq_of_beq_eq_true h1) (Ob.eqb_ok h2)) _ _ e
noncomputable def same (x y : PT × Heap) : Bool := and2 (x.1.eqb y.1) (heqb x.2 y.2)
theorem same_ok {x y : PT × Heap} (h : same x y = true) : x = y := by
  obtain ⟨h1, h2⟩ := and2_ok h
  exact Prod.ext (PT.eqb_ok _ _ h1) (heqb_ok h2)
/-! ### Joins of slots -/
/-- May a difference be forgotten? -/
noncomputable def dull (x : AV) : Bool := match x with
  | .top => true
  | .tup [] => true
  | _ => false
noncomputable def isPtr (x : AV) : Bool := match x with
  | .ptr _ _ => true
  | .aptr _ _ => true
  | .sptr _ _ _ _ _ => true
  | _ => false
noncomputable def soft (x y : AV) : Bool := ife (dull x) true (ife (dull y) true (ife (isPtr x) (isPtr y) false))
noncomputable def mrgT (c : E) (x y : AV) : Option AV := match mrg c 6 x y with
  | some z => some z
  | none => ife (AV.eqb 8 x y) (some x) (ife (soft x y) (some .top) none)
theorem mrgT_ok {V : Va} {c : E} {x y z : AV} (h : mrgT c x y = some z) : Joins V c x y z := by
  unfold mrgT at h
  split at h
  · rename_i u hu
    cases h
    exact mrg_ok 6 _ _ _ hu
  · cases he : AV.eqb 8 x y
    · rw [he, ife_false] at h
      cases hs : soft x y
      · rw [hs] at h; cases h
      · rw [hs] at h; cases h
        intro N v _
        simp only [AV.rel]
    · rw [he, ife_true] at h; cases h
      have := AV.eqb_ok 8 _ _ he
      subst this
      intro N v hv
      split at hv <;> exact hv
theorem mrgL_len {f : AV → AV → Option AV} : ∀ (l m q : List AV), mrgL f l m = some q → q.length = l.length ∧ q.length = m.length
  | [], [], q, h => by cases h; exact ⟨rfl, rfl⟩
  | [], _ :: _, q, h => by cases h
  | _ :: _, [], q, h => by cases h
  | x :: l, y :: m, q, h => by
    change (match f x y, mrgL f l m with
        | some z, some l => some (z :: l)
        | _, _ => none) = some q at h
    split at h
    · rename_i z l' hz hl
      cases h
      have := mrgL_len l m l' hl
      simp only [List.length_cons]
      omega
    · cases h
noncomputable def mrgP (c : E) (t : PT) : PT → Option PT :=
  PT.rec (motive := fun _ => PT → Option PT) (fun v u => match u with
      | .lf u => match mrgT c v u with | some z => some (.lf z) | none => none
      | _ => none)
    (fun _ _ _ _ i0 i1 i2 i3 u => match u with
      | .nd a b c d => match i0 a, i1 b, i2 c, i3 d with
        | some x, some y, some z, some w => some (.nd x y z w)
        | _, _, _, _ => none
      | _ => none) t
theorem mrgP_ok {V : Va} {c : E} : ∀ (d : Nat) (t u q : PT), mrgP c t u = some q → (if c.den V = 0 then u else t).full d → q.full d ∧ ∀ n N v, ((if c.den V = 0 then u else t).getD n).rel V N v → (q.getD n).rel V N v
  | d, .lf x, .lf y, q, h, hf => by
    change (match mrgT c x y with | some z => some (PT.lf z) | none => none) = some q at h
    split at h
    · rename_i z hz
      cases h
      have hj := mrgT_ok (V := V) hz
      have hd : d = 0 := by
        cases d with
        | zero => rfl
        | succ d => split at hf <;> exact hf.elim
      subst hd
      refine ⟨trivial, fun n N v hv => ?_⟩
      show z.rel V N v
      refine hj N v ?_
      by_cases hc : c.den V = 0
      · rw [if_pos hc] at hv ⊢; exact hv
      · rw [if_neg hc] at hv ⊢; exact hv
    · cases h
  | _, .lf _, .nd _ _ _ _, _, h, _ => by cases h
  | _, .nd _ _ _ _, .lf _, _, h, _ => by cases h
  | d, .nd a0 a1 a2 a3, .nd b0 b1 b2 b3, q, h, hf => by
    change (match mrgP c a0 b0, mrgP c a1 b1, mrgP c a2 b2, mrgP c a3 b3 with
        | some x, some y, some z, some w => some (PT.nd x y z w)
        | _, _, _, _ => none) = some q at h
    split at h
    · rename_i x y z w hx hy hz hw
      cases h
      cases d with
      | zero => split at hf <;> exact hf.elim
      | succ d =>
        have hfl : (if c.den V = 0 then b0 else a0).full d ∧ (if c.den V = 0 then b1 else a1).full d ∧ (if c.den V = 0 then b2 else a2).full d ∧ (if c.den V = 0 then b3 else a3).full d := by
          by_cases hc : c.den V = 0
          · rw [if_pos hc] at hf; rw [if_pos hc, if_pos hc, if_pos hc, if_pos hc]; exact hf
          · rw [if_neg hc] at hf; rw [if_neg hc, if_neg hc, if_neg hc, if_neg hc]; exact hf
        have i0 := mrgP_ok d a0 b0 x hx hfl.1
        have i1 := mrgP_ok d a1 b1 y hy hfl.2.1
        have i2 := mrgP_ok d a2 b2 z hz hfl.2.2.1
        have i3 := mrgP_ok d a3 b3 w hw hfl.2.2.2
        refine ⟨⟨i0.1, i1.1, i2.1, i3.1⟩, fun n N v hv => ?_⟩
        by_cases hc : c.den V = 0
        · simp only [if_pos hc] at hv i0 i1 i2 i3
          cases n with
          | z => exact i0.2 .z N v hv
          | d0 n => exact i0.2 n N v hv
          | d1 n => exact i1.2 n N v hv
          | d2 n => exact i2.2 n N v hv
          | d3 n => exact i3.2 n N v hv
        · simp only [if_neg hc] at hv i0 i1 i2 i3
          cases n with
          | z => exact i0.2 .z N v hv
          | d0 n => exact i0.2 n N v hv
          | d1 n => exact i1.2 n N v hv
          | d2 n => exact i2.2 n N v hv
          | d3 n => exact i3.2 n N v hv
    · cases h

/-! ### Joins of blocks -/
noncomputable def mrgO (c : E) (a b : Ob) : Option Ob := match a, b with
  | .cells xs e o w, .cells ys e' o' w' => ife (and2 (Nat.beq e e') (and2 (beqB o o') (beqB w w'))) (match mrgL (mrgT c) xs ys with | some l => some (.cells l e o w) | none => none) none
  | a, b => ife (a.eqb b) (some a) none
/-- What a stands for, o stands for. -/
def ObLe (V : Va) (a o : Ob) : Prop := o.own = a.own ∧ ∀ N id x, a.rel V N id x → o.rel V N id x
theorem mrgO_ok {V : Va} {c : E} {a b o : Ob} (h : mrgO c a b = some o) : ObLe V (if c.den V = 0 then b else a) o := by
  unfold mrgO at h
  split at h
  · rename_i xs e op w ys e' op' w'
    cases hb : and2 (Nat.beq e e') (and2 (beqB op op') (beqB w w'))
    · rw [hb] at h; cases h
    · rw [hb, ife_true] at h
      obtain ⟨h1, h2⟩ := and2_ok hb
      obtain ⟨h3, h4⟩ := and2_ok h2
      have h1 := Nat.eq_of_beq_eq_true h1
      have h3 := beqB_ok h3
      have h4 := beqB_ok h4
      subst h1 h3 h4
      split at h
      · rename_i l hl
        cases h
        have hj := mrgL_ok (V := V) (fun x y z hz => mrgT_ok hz) _ _ _ hl
        have hlen := mrgL_len _ _ _ hl
        by_cases hc : c.den V = 0
        · rw [if_pos hc]
          refine ⟨rfl, fun N id x hr => ?_⟩
          obtain ⟨q, fr, h1, h2, h3, h4, h5, h6⟩ := hr
          refine ⟨q, fr, h1, h2, by rw [hlen.2]; exact h3, fun ho => by rw [hlen.2]; exact h4 ho, h5, ?_⟩
          rw [hlen.2]
          exact hj N _ (by rw [if_pos hc]; exact h6)
        · rw [if_neg hc]
          refine ⟨rfl, fun N id x hr => ?_⟩
          obtain ⟨q, fr, h1, h2, h3, h4, h5, h6⟩ := hr
          refine ⟨q, fr, h1, h2, by rw [hlen.1]; exact h3, fun ho => by rw [hlen.1]; exact h4 ho, h5, ?_⟩
          rw [hlen.1]
          exact hj N _ (by rw [if_neg hc]; exact h6)
      · cases h
  · cases he : a.eqb b
    · rw [he] at h; cases h
    · rw [he] at h; cases h
      have := Ob.eqb_ok he
      subst this
      refine ⟨by split <;> rfl, fun N id x hr => by split at hr <;> exact hr⟩
noncomputable def mrgH (c : E) (ha hb : Heap) : Option Heap :=
  List.rec (motive := fun _ => Option Heap) (some []) (fun p _ ih => match ih with
    | none => none
    | some l => match hget hb p.1 with
      | none => some l
      | some ob => match mrgO c p.2 ob with
        | some o => some ((p.1, o) :: l)
        | none => none) ha
theorem mrgH_ok {c : E} {hb : Heap} : ∀ (ha : Heap) {h : Heap}, mrgH c ha hb = some h → ∀ id o, hget h id = some o → ∃ a b, hget ha id = some a ∧ hget hb id = some b ∧ mrgO c a b = some o
  | [], h, hh, id, o, ho => by cases hh; cases ho
  | p :: ha, h, hh, id, o, ho => by
    change (match mrgH c ha hb with
      | none => none
      | some l => match hget hb p.1 with
        | none => some l
        | some ob => match mrgO c p.2 ob with
          | some o => some ((p.1, o) :: l)
          | none => none) = some h at hh
    split at hh
    · cases hh
    · rename_i l hl
      have ih := mrgH_ok ha hl id
      split at hh
      · rename_i hn
        cases hh
        obtain ⟨a, b, h1, h2, h3⟩ := ih o ho
        have hne : ¬ p.1 = id := fun e => by rw [e, h2] at hn; cases hn
        exact ⟨a, b, by rw [hget_cons, if_neg hne]; exact h1, h2, h3⟩
      · rename_i ob hob
        split at hh
        · rename_i o' ho'
          cases hh
          rw [hget_cons] at ho
          split at ho
          · rename_i he
            cases ho
            subst he
            exact ⟨p.2, ob, by rw [hget_cons, if_pos rfl], hob, ho'⟩
          · rename_i hne
            obtain ⟨a, b, h1, h2, h3⟩ := ih o ho
            exact ⟨a, b, by rw [hget_cons, if_neg hne]; exact h1, h2, h3⟩
        · cases hh

/-! ### Trees of results -/
noncomputable def Rs.bnd {α β : Type} (t : Rs α) (f : α → Rs β) : Rs β :=
  Rs.rec (motive := fun _ => Rs β) (fun n => .bad n) f (fun c _ _ ix iy => .fork c ix iy) (fun _ _ ix iy => .both ix iy) t
theorem Rs.All_bnd {α β : Type} {V : Va} {p : β → Prop} {f : α → Rs β} : ∀ (t : Rs α), (t.bnd f).All V p → t.All V fun a => (f a).All V p
  | .bad _, h => h
  | .leaf _, h => h
  | .fork c x y, h => by
    change (Rs.fork c (x.bnd f) (y.bnd f)).All V p at h
    simp only [Rs.All] at h ⊢
    split
    · rename_i hc; rw [if_pos hc] at h; exact Rs.All_bnd y h
    · rename_i hc; rw [if_neg hc] at h; exact Rs.All_bnd x h
  | .both x y, h => by
    change (Rs.both (x.bnd f) (y.bnd f)).All V p at h
    exact ⟨Rs.All_bnd x h.1, Rs.All_bnd y h.2⟩
/-- The leaf that V chooses. -/
noncomputable def Rs.sel {α : Type} (V : Va) : Rs α → Option α
  | .leaf a => some a
  | .fork c x y => if c.den V = 0 then y.sel V else x.sel V
  | _ => none
end Go.RX
