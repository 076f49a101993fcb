/- RX, part 15b: equality by Bools. -/
import Derived.Test.YtpmnkgpncgoldaaRxG
namespace Go.RX
noncomputable def eqE (a b : E) : Bool := match a.cmp b with | .eq => true | _ => false
theorem eqE_ok {a b : E} (h : eqE a b = true) : a = b := by
  unfold eqE at h
  split at h
  · rename_i hc; exact E.cmp_eq _ _ hc
  · cases h
noncomputable def Cap.eqb (a b : Cap) : Bool := match a, b with
  | .lit m, .lit n => Nat.beq m n
  | .full m, .full n => Nat.beq m n
  | .any, .any => true
  | _, _ => false
theorem Cap.eqb_ok {a b : Cap} (h : a.eqb b = true) : a = b := by
  unfold Cap.eqb at h
  split at h
  · rw [Nat.eq_of_beq_eq_true h]
  · rw [Nat.eq_of_beq_eq_true h]
  · rfl
  · cases h
noncomputable def leqb {β : Type} (f : β → β → Bool) (l : List β) : List β → Bool :=
  List.rec (motive := fun _ => List β → Bool) (fun m => match m with | [] => true | _ => false)
    (fun x _ ih m => match m with | [] => false | y :: m => ife (f x y) (ih m) false) l
theorem leqb_ok {β : Type} {f : β → β → Bool} (hf : ∀ x y, f x y = true → x = y) : ∀ (l m : List β), leqb f l m = true → l = m
  | [], [], _ => rfl
  | [], _ :: _, h => by cases h
  | _ :: _, [], h => by cases h
  | x :: l, y :: m, h => by
    change ife (f x y) (leqb f l m) false = true at h
    cases hx : f x y
    · rw [hx] at h; cases h
    · rw [hx] at h
      rw [hf x y hx, leqb_ok hf l m h]
noncomputable def and2 (a b : Bool) : Bool := ife a b false
theorem and2_ok {a b : Bool} (h : and2 a b = true) : a = true ∧ b = true := by
  unfold and2 at h; cases a <;> cases b <;> simp_all
noncomputable def AV.eq1 (ih : AV → AV → Bool) (a b : AV) : Bool := match a, b with
  | .int ka a, .int kb b => and2 (Nat.beq (IntKind.no ka) (IntKind.no kb)) (eqE a b)
  | .bool a, .bool b => eqE a b
  | .ptr i o, .ptr j p => and2 (Nat.beq i j) (Nat.beq o p)
  | .nilptr, .nilptr => true
  | .slice i o l k, .slice j p m q => and2 (and2 (Nat.beq i j) (Nat.beq o p)) (and2 (Nat.beq l m) (k.eqb q))
  | .nilslice, .nilslice => true
  | .xsl i e m, .xsl j f n => and2 (Nat.beq i j) (and2 (eqE e f) (Nat.beq m n))
  | .map i, .map j => Nat.beq i j
  | .func f x y, .func g z u => and2 (Nat.beq f g) (and2 (leqb ih x z) (leqb ih y u))
  | .nilfunc, .nilfunc => true
  | .agg x, .agg y => leqb ih x y
  | .tup x, .tup y => leqb ih x y
  | .str x, .str y => leqb ih x y
  | .top, .top => true
  | _, _ => false
noncomputable def AV.eqb (n : Nat) : AV → AV → Bool := Nat.rec (motive := fun _ => AV → AV → Bool) (fun _ _ => false) (fun _ ih => AV.eq1 ih) n
theorem AV.eqb_ok : ∀ (n : Nat) (a b : AV), AV.eqb n a b = true → a = b
  | 0, _, _, h => by cases h
  | n + 1, a, b, h => by
    have hl := fun l m => leqb_ok (AV.eqb_ok n) l m
    change AV.eq1 (AV.eqb n) a b = true at h
    unfold AV.eq1 at h
    split at h
    · obtain ⟨h1, h2⟩ := and2_ok h
      rw [IntKind.no_inj (Nat.eq_of_beq_eq_true h1), eqE_ok h2]
    · rw [eqE_ok h]
    · obtain ⟨h1, h2⟩ := and2_ok h
      rw [Nat.eq_of_beq_eq_true h1, Nat.eq_of_beq_eq_true h2]
    · rfl
    · obtain ⟨h1, h2⟩ := and2_ok h
      obtain ⟨h3, h4⟩ := and2_ok h1
      obtain ⟨h5, h6⟩ := and2_ok h2
      rw [Nat.eq_of_beq_eq_true h3, Nat.eq_of_beq_eq_true h4, Nat.eq_of_beq_eq_true h5, Cap.eqb_ok h6]
    · rfl
    · obtain ⟨h1, h2⟩ := and2_ok h
      obtain ⟨h3, h4⟩ := and2_ok h2
      rw [Nat.eq_of_beq_eq_true h1, eqE_ok h3, Nat.eq_of_beq_eq_true h4]
    · rw [Nat.eq_of_beq_eq_true h]
    · obtain ⟨h1, h2⟩ := and2_ok h
      obtain ⟨h3, h4⟩ := and2_ok h2
      rw [Nat.eq_of_beq_eq_true h1, hl _ _ h3, hl _ _ h4]
    · rfl
    · rw [hl _ _ h]
    · rw [hl _ _ h]
    · rw [hl _ _ h]
    · rfl
    · cases h
noncomputable def PT.eqb (t : PT) : PT → Bool :=
  PT.rec (motive := fun _ => PT → Bool) (fun v u => match u with | .lf u => AV.eqb 8 v u | _ => false)
    (fun _ _ il ir u => match u with | .nd l r => and2 (il l) (ir r) | _ => false) t
theorem PT.eqb_ok : ∀ (t u : PT), t.eqb u = true → t = u
  | .lf v, .lf u, h => by rw [AV.eqb_ok 8 v u h]
  | .lf _, .nd _ _, h => by cases h
  | .nd _ _, .lf _, h => by cases h
  | .nd l r, .nd l' r', h => by
    change and2 (l.eqb l') (r.eqb r') = true at h
    obtain ⟨h1, h2⟩ := and2_ok h
    rw [PT.eqb_ok l l' h1, PT.eqb_ok r r' h2]
noncomputable def beqB (a b : Bool) : Bool := ife a b (ife b false true)
theorem beqB_ok {a b : Bool} (h : beqB a b = true) : a = b := by cases a <;> cases b <;> first | rfl | cases h
noncomputable def Ob.eqb (a b : Ob) : Bool := match a, b with
  | .cells x e p o, .cells y f q r => and2 (and2 (Nat.beq e f) (and2 (beqB p q) (beqB o r))) (leqb (AV.eqb 8) x y)
  | .emap p, .emap q => beqB p q
  | _, _ => false
theorem Ob.eqb_ok {a b : Ob} (h : a.eqb b = true) : a = b := by
  unfold Ob.eqb at h
  split at h
  · obtain ⟨h1, h2⟩ := and2_ok h
    obtain ⟨h3, h4⟩ := and2_ok h1
    obtain ⟨h5, h6⟩ := and2_ok h4
    rw [Nat.eq_of_beq_eq_true h3, beqB_ok h5, beqB_ok h6, leqb_ok (AV.eqb_ok 8) _ _ h2]
  · rw [beqB_ok h]
  · cases h
abbrev Heap := List (Nat × Ob)
noncomputable def heqb (h h' : Heap) : Bool := leqb (fun x y => and2 (Nat.beq x.1 y.1) (x.2.eqb y.2)) h h'
theorem heqb_ok {h h' : Heap} (e : heqb h h' = true) : h = h' :=
  leqb_ok (fun x y hx => by
    obtain ⟨h1, h2⟩ := and2_ok hx
    exact Prod.ext (Nat.eq_of_beq_eq_true h1) (Ob.eqb_ok h2)) _ _ e
noncomputable def same (x y : PT × Heap) : Bool := and2 (x.1.eqb y.1) (heqb x.2 y.2)
theorem same_ok {x y : PT × Heap} (h : same x y = true) : x = y := by
  obtain ⟨h1, h2⟩ := and2_ok h
  exact Prod.ext (PT.eqb_ok _ _ h1) (heqb_ok h2)
end Go.RX
