/- RX, part 14: regions that draw their order and only read. -/
import Derived.Test.YtoheklommpochaaRxJ
import Derived.Still
import Derived.Below
namespace Go.RX
open Go.RowKit

/-! ### Worlds with more blocks -/
structure Garb (w w' : World) : Prop where
  below : Below w.heap.size w w'
  soft : ∀ b, w.heap.size ≤ b → ∀ c e fr, w'.heap[b]? = some (.cells c e fr) → fr = (0, 0)
theorem Garb.refl (w : World) : Garb w w := ⟨⟨rfl, rfl, rfl, Nat.le_refl _, fun _ _ => rfl⟩, fun b hb c e fr h => by rw [Array.getElem?_eq_none hb] at h; cases h⟩
theorem Garb.drew (w : World) (n : Nat) : Garb w { w with drawn := n } := ⟨⟨rfl, rfl, rfl, Nat.le_refl _, fun _ _ => rfl⟩, fun b hb c e fr h => by
  have h : w.heap[b]? = _ := h
  rw [Array.getElem?_eq_none hb] at h; cases h⟩
theorem Garb.trans {a b c : World} (h : Garb a b) (h' : Garb b c) : Garb a c := by
  refine ⟨h.below.trans (h'.below.mono h.below.size), fun i hi x e fr hx => ?_⟩
  rcases Nat.lt_or_ge i b.heap.size with hlt | hge
  · rw [h'.below.block i hlt] at hx; exact h.soft i hi x e fr hx
  · exact h'.soft i hge x e fr hx
section
variable {P : Program} {α : Type} {V : Va} {W0 : World} {N : Env} {g : G} {p : α → Prop} {w : World}
theorem Grel.garb {w' : World} (r : Grel V N W0 g w) (h : Garb w w') : Grel V N W0 g w' := by
  have key : ∀ b x, w.heap[b]? = some x → w'.heap[b]? = some x := fun b x hx => by
    have hb : b < w.heap.size := by
      rcases Nat.lt_or_ge b w.heap.size with hb | hb
      · exact hb
      · rw [Array.getElem?_eq_none hb] at hx; cases hx
    rw [h.below.block b hb]; exact hx
  refine ⟨⟨h.below.os.trans r.os.1, r.os.2⟩, h.below.tape.trans r.tape, h.below.output.trans r.output, Nat.le_trans r.size h.below.size, fun b hb => ?_, fun b hb c e fr hx => ?_, fun id o hx => ?_, r.apart, r.fresh, r.facts⟩
  · rw [h.below.block b (Nat.lt_of_lt_of_le hb r.size)]; exact r.below b hb
  · rcases Nat.lt_or_ge b w.heap.size with hlt | hge
    · rw [h.below.block b hlt] at hx; exact r.soft b hb c e fr hx
    · exact h.soft b hge c e fr hx
  · obtain ⟨b, h1, h2, h3⟩ := r.ob id o hx
    refine ⟨b, h1, ?_, h3⟩
    cases o with
    | cells cs elem opn own =>
      obtain ⟨c, fr, e, q⟩ := h2
      exact ⟨c, fr, key b _ e, q⟩
    | emap _ =>
      obtain ⟨kk, e⟩ := h2
      exact ⟨kk, key b _ e⟩
    | row =>
      obtain ⟨c, el, fr, e, q⟩ := h2
      exact ⟨c, el, fr, key b _ e, q⟩
theorem Grel.toGarb {w' : World} {N : Env} (r : Grel V N w g w') : Garb w w' := ⟨⟨r.os.1, r.tape, r.output, r.size, r.below⟩, r.soft⟩
/-- What runs apart leaves all else as it is. -/
theorem Grel.apartRun {N N' : Env} {W0 w w' : World} {g g' : G} (r : Grel V N W0 g w) (r' : Grel V N' w g' w') : Grel V N W0 g w' := r.garb r'.toGarb
theorem Grel.start {W : World} {g : G} {N : Env} (ha : ArgsOk V W) (hN : ∀ id, N.b id = none ∧ N.c id = none) (hh : g.heap = []) (hf : Fs.ok V g.fs) : Grel V N W g W := by
  refine ⟨⟨rfl, ha⟩, rfl, rfl, Nat.le_refl _, fun _ _ => rfl, fun b hb c e fr h => ?_, fun id o h => ?_, fun id o id' o' h => ?_, fun id _ _ => hN id, hf⟩
  · rw [Array.getElem?_eq_none hb] at h; cases h
  · rw [hh] at h; cases h
  · rw [hh] at h; cases h

/-! ### The same blocks, to be read only -/
def Ob.ro : Ob → Ob
  | .cells cs e opn _ => .cells cs e opn false
  | .emap _ => .emap false
  | .row i t _ => .row i t false
noncomputable def roHeap (h : List (Nat × Ob)) : List (Nat × Ob) := List.rec (motive := fun _ => List (Nat × Ob)) [] (fun x _ ih => (x.1, x.2.ro) :: ih) h
theorem hget_ro (id : Nat) : ∀ h : List (Nat × Ob), hget (roHeap h) id = (hget h id).map Ob.ro
  | [] => rfl
  | x :: h => by
    show hget ((x.1, x.2.ro) :: roHeap h) id = _
    rw [hget_cons, hget_cons, hget_ro id h]
    split <;> rfl
theorem Ob.ro_own (o : Ob) : o.ro.own = false := by cases o <;> rfl
theorem Grel.args (r : Grel V N W0 g w) : ArgsOk V w := r.os.2.keep r.size r.below
theorem Grel.ro (r : Grel V N W0 g w) : Grel V N w { g with heap := roHeap g.heap } w := by
  refine ⟨⟨rfl, r.args⟩, rfl, rfl, Nat.le_refl _, fun _ _ => rfl, fun b hb c e fr h => ?_, fun id o h => ?_, fun id o id' o' h h' hne hown => ?_, r.fresh, r.facts⟩
  · rw [Array.getElem?_eq_none hb] at h; cases h
  · simp only [hget_ro] at h
    cases ho : hget g.heap id with
    | none => rw [ho] at h; cases h
    | some x =>
      rw [ho] at h
      simp only [Option.map_some, Option.some.injEq] at h
      subst h
      obtain ⟨b, h1, h2, h3⟩ := r.ob id x ho
      refine ⟨b, h1, ?_, fun e => by rw [Ob.ro_own] at e; cases e⟩
      cases x with
      | cells cs elem opn own =>
        obtain ⟨c, fr, e, _, q⟩ := h2
        exact ⟨c, fr, e, fun e => (by cases e), q⟩
      | emap _ => exact h2
      | row =>
        obtain ⟨c, el, fr, e, _, q⟩ := h2
        exact ⟨c, el, fr, e, fun e => (by cases e), q⟩
  · simp only [hget_ro] at h
    cases ho : hget g.heap id with
    | none => rw [ho] at h; cases h
    | some x =>
      rw [ho] at h
      simp only [Option.map_some, Option.some.injEq] at h
      subst h
      rw [Ob.ro_own] at hown; cases hown

/-! ### Any order -/
variable {ops : Array Oper} {Q : Exit → Act → World → Prop} {S : World → Prop} {SI : Nat → World → Prop} {md : Region.Mode}
/-- In act a, in every world of S, o gives v and leaves all as it is. -/
def QuietIn (P : Program) (ops : Array Oper) (S : World → Prop) (o : Oper) (v : Value) (a : Act) : Prop :=
  (Region.wanted o (yielded ops a.tmps) = true ∧ ∀ w, S w → uponV P (fun u w' => u = v ∧ Garb w w') ((execOp a.eval o).run P w)) ∨
  (Region.wanted o (yielded ops a.tmps) = false ∧ v = undef)
theorem QuietIn.wpOp {i : Nat} {o : Oper} {v : Value} {a : Act} (hi : ops[i]? = some o) (hy : QuietIn P ops S o v a) {K : Act → World → Prop} (hS : S w) (h : ∀ w', Garb w w' → K (a.put o.dst v) w') : wpOp P ops Q i K a w := by
  unfold Go.wpOp
  simp only [hi]
  rcases hy with ⟨hw, hv⟩ | ⟨hw, rfl⟩
  · simp only [hw, if_true]
    exact .inl (uponV_upon (uponV_mono (fun u w' ⟨e, h'⟩ => by rw [e]; exact h w' h') (hv w hS)))
  · simp only [hw, Bool.false_eq_true, if_false]; exact h w (Garb.refl w)
theorem QuietIn.of_same {o : Oper} {v : Value} {a a' : Act} (hy : QuietIn P ops S o v a) (he : execOp a'.eval o = execOp a.eval o)
    (hw : Region.wanted o (yielded ops a'.tmps) = Region.wanted o (yielded ops a.tmps)) : QuietIn P ops S o v a' := by
  unfold QuietIn at *
  rw [he, hw]
  exact hy
/-- An operation apart from o does what it does whether o's slot is filled or not. -/
theorem wpOp_apart {j : Nat} {o oj : Oper} {v : Value} (hj : ops[j]? = some oj) (hap : o.apart ops oj = true) (hsj : ∀ cs b, oj.op ≠ .select cs b)
    (hQ : ∀ c a w, ¬ Q (.panic c) a w) (hQo : ¬ LetsOut Q) {K : Act → World → Prop} {a : Act} (h : wpOp P ops Q j K (a.put o.dst v) w) :
    wpOp P ops Q j (fun a' w' => (∃ u ds, a' = ({ a with defers := ds } : Act).put oj.dst u) ∧ K (a'.put o.dst v) w') a w := by
  obtain ⟨h1, h2, _⟩ := Oper.apart_spec hap
  unfold Go.wpOp at *
  simp only [hj] at *
  rw [wanted_put oj a o.dst v h1] at h
  have same : ∀ u w', K ((a.put o.dst v).put oj.dst u) w' → (∃ u' ds, a.put oj.dst u = ({ a with defers := ds } : Act).put oj.dst u') ∧ K ((a.put oj.dst u).put o.dst v) w' :=
    fun u w' hk => ⟨⟨u, a.defers, rfl⟩, by rw [← Act.put_comm a v u h2]; exact hk⟩
  split
  · rename_i hw
    rw [if_pos hw] at h
    rcases h with h | ⟨_, h⟩
    · refine .inl ?_
      unfold Oper.wp at *
      rw [execOp_put oj hsj a o.dst v h1] at h
      cases hr : (execOp a.eval oj).run P w with
      | ok n w' =>
        rw [hr] at h
        cases n <;> simp only [Oper.upon] at h ⊢
        case value u => exact same _ _ h
        case skip => exact same _ _ h
        case defer d =>
          refine ⟨⟨undef, d :: a.defers, rfl⟩, ?_⟩
          rw [← Act.put_comm _ v undef h2, ← Act.put_defers]
          exact h
        case enter f args =>
          refine h.mono fun e w'' he => ?_
          cases e with
          | returned u => exact same _ _ he
          | panicked c => exact (hQ _ _ _ he).elim
          | outgrown => exact he
        case row r args => exact h.mono fun u w'' he => same _ _ he
      | halt x w' =>
        rw [hr] at h
        cases x <;> simp only [Oper.upon] at h ⊢
        exact (hQ _ _ _ h).elim
    · exact (hQo h).elim
  · rename_i hw
    rw [if_neg hw] at h
    exact same _ _ h
/-! ### Who comes behind whom -/
/-- What is listed has what it waits for listed. -/
def Closed (md : Region.Mode) (ops : Array Oper) (listed : Array Bool) : Prop :=
  ∀ k o, ops[k]? = some o → listed.getD k false = true → ∀ e ∈ o.after, Region.binds md e = true → listed.getD e.on false = true
noncomputable def maskOf (md : Region.Mode) (acc : List Nat) (l : List Edge) : Nat :=
  List.rec (motive := fun _ => Nat) 0 (fun e _ ih => ife (Region.binds md e) (Nat.lor (Nat.lor (Nat.pow 2 e.on) ((lnth acc e.on).getD 0)) ih) ih) l
noncomputable def masks (md : Region.Mode) (l : List Oper) : List Nat → List Nat :=
  List.rec (motive := fun _ => List Nat → List Nat) (fun acc => acc) (fun o _ ih acc => ih (acc ++ [maskOf md acc o.after.toList])) l
/-- All of 0 .. j - 1 come ahead of j. -/
noncomputable def lastB (md : Region.Mode) (ops : Array Oper) (j : Nat) : Bool :=
  ife (Nat.beq (Nat.succ j) ops.toList.length) (match lnth (masks md ops.toList []) j with | some m => Nat.beq (Nat.succ m) (Nat.pow 2 j) | none => false) false
theorem mask_bit {acc : List Nat} {i : Nat} : ∀ {l : List Edge}, (maskOf md acc l).testBit i = true → ∃ e ∈ l, Region.binds md e = true ∧ (i = e.on ∨ ∃ m, acc[e.on]? = some m ∧ m.testBit i = true)
  | [], h => by simp [maskOf] at h
  | e :: l, h => by
    change (ife (Region.binds md e) (Nat.lor (Nat.lor (Nat.pow 2 e.on) ((lnth acc e.on).getD 0)) (maskOf md acc l)) (maskOf md acc l)).testBit i = true at h
    cases hb : Region.binds md e
    · rw [hb, ife_false] at h
      obtain ⟨e', h1, h2⟩ := mask_bit h
      exact ⟨e', List.mem_cons_of_mem _ h1, h2⟩
    · rw [hb, ife_true] at h
      have h : ((2 ^ e.on ||| (lnth acc e.on).getD 0) ||| maskOf md acc l).testBit i = true := h
      rw [Nat.testBit_or, Nat.testBit_or, Bool.or_eq_true, Bool.or_eq_true] at h
      rcases h with (h | h) | h
      · rw [Nat.testBit_two_pow] at h
        exact ⟨e, List.mem_cons_self, hb, .inl (by simpa using h : e.on = i).symm⟩
      · refine ⟨e, List.mem_cons_self, hb, .inr ?_⟩
        rw [lnth_eq] at h
        cases hm : acc[e.on]? with
        | none => rw [hm] at h; simp at h
        | some m => rw [hm] at h; exact ⟨m, rfl, h⟩
      · obtain ⟨e', h1, h2⟩ := mask_bit h
        exact ⟨e', List.mem_cons_of_mem _ h1, h2⟩
/-- A mask's bits come ahead. -/
def MaskOk (md : Region.Mode) (ops : Array Oper) (acc : List Nat) : Prop :=
  ∀ (k m : Nat) (o : Oper), acc[k]? = some m → ops[k]? = some o → ∀ i, m.testBit i = true → ∀ listed, Closed md ops listed → (∀ e ∈ o.after, Region.binds md e = true → listed.getD e.on false = true) → listed.getD i false = true
theorem masks_ok : ∀ (l : List Oper) (acc : List Nat), (∀ j, l[j]? = ops[acc.length + j]?) → MaskOk md ops acc → MaskOk md ops (masks md l acc)
  | [], _, _, h => h
  | o :: l, acc, hl, h => by
    show MaskOk md ops (masks md l (acc ++ [maskOf md acc o.after.toList]))
    refine masks_ok l _ (fun j => ?_) ?_
    · have := hl (j + 1)
      simpa [Nat.add_assoc, Nat.add_comm 1 j] using this
    · intro k m o' hk ho i hi listed hc hall
      rw [List.getElem?_append] at hk
      split at hk
      · exact h k m o' hk ho i hi listed hc hall
      · rename_i hge
        have hk0 : k = acc.length := by
          rcases Nat.lt_or_ge (k - acc.length) 1 with h1 | h1
          · omega
          · rw [List.getElem?_eq_none (by simpa using h1)] at hk; cases hk
        subst hk0
        simp only [Nat.sub_self, List.getElem?_cons_zero, Option.some.injEq] at hk
        subst hk
        have h0 : ops[acc.length]? = some o := by simpa using (hl 0).symm
        rw [h0] at ho; injection ho with ho; subst ho
        obtain ⟨e, he, hb, hor⟩ := mask_bit hi
        have hl1 := hall e (by simpa using he) hb
        rcases hor with rfl | ⟨m, hm, hbit⟩
        · exact hl1
        · cases hoe : ops[e.on]? with
          | none =>
            have h1 : e.on < acc.length := by
              rcases Nat.lt_or_ge e.on acc.length with h1 | h1
              · exact h1
              · rw [List.getElem?_eq_none h1] at hm; cases hm
            have h2 : acc.length < ops.size := (Array.getElem?_eq_some_iff.1 h0).1
            rw [Array.getElem?_eq_none_iff] at hoe
            omega
          | some oe => exact h e.on m oe hm hoe i hbit listed hc (hc e.on oe hoe hl1)
theorem lastB_ok {j : Nat} (h : lastB md ops j = true) {listed : Array Bool} (hc : Closed md ops listed) (hj : j ∈ Region.ready md ops listed) : ∀ i, i < ops.size → i ≠ j → listed.getD i false = true := by
  intro i hi hij
  unfold lastB at h
  cases h1 : Nat.beq (Nat.succ j) ops.toList.length
  · rw [h1] at h; cases h
  · rw [h1, ife_true] at h
    have h1 := Nat.eq_of_beq_eq_true h1
    obtain ⟨_, o, ho, hall⟩ := mem_ready.1 hj
    split at h
    · rename_i m hm
      rw [lnth_eq] at hm
      have hmm := Nat.eq_of_beq_eq_true h
      have hok : MaskOk md ops (masks md ops.toList []) := masks_ok ops.toList [] (fun j => by simp) (fun k m o hk => by simp at hk)
      refine hok j m o hm ho i ?_ listed hc hall
      have : m = 2 ^ j - 1 := by have : Nat.pow 2 j = 2 ^ j := rfl; omega
      rw [this, Nat.testBit_two_pow_sub_one]
      have : i < j := by simp at h1; omega
      simpa using this
    · cases h
theorem Closed.add {listed : Array Bool} {i : Nat} (hc : Closed md ops listed) (hi : i ∈ Region.ready md ops listed) : Closed md ops (listed.setIfInBounds i true) := by
  intro k o ho hk e he hb
  by_cases hik : i = k
  · subst hik
    obtain ⟨_, o', ho', hall⟩ := mem_ready.1 hi
    rw [ho] at ho'; injection ho' with ho'; subst ho'
    exact getD_set_true (hall e he hb)
  · rw [getD_set_ne false hik] at hk
    exact getD_set_true (hc k o ho hk e he hb)
theorem Closed.none (n : Nat) : Closed md ops (Array.replicate n false) := by
  intro k o _ hk
  exfalso
  by_cases h : k < n <;> simp [h] at hk
/-- Late: all that stands in qs comes ahead of j. -/
noncomputable def lateB (qs : Nat) (md : Region.Mode) (ops : List Oper) (j : Nat) : Bool := match lnth (masks md ops []) j with | some m => Nat.beq (Nat.land m qs) qs | none => false
theorem lateB_ok {qs j : Nat} (h : lateB qs md ops.toList j = true) {listed : Array Bool} (hc : Closed md ops listed) (hj : j ∈ Region.ready md ops listed) {i : Nat} (hi : qs.testBit i = true) : listed.getD i false = true := by
  unfold lateB at h
  obtain ⟨_, o, ho, hall⟩ := mem_ready.1 hj
  split at h
  · rename_i m hm
    rw [lnth_eq] at hm
    have hmm : m &&& qs = qs := Nat.eq_of_beq_eq_true h
    have hok : MaskOk md ops (masks md ops.toList []) := masks_ok ops.toList [] (fun j => by simp) (fun k m o hk => by simp at hk)
    refine hok j m o hm ho i ?_ listed hc hall
    rw [← hmm, Nat.testBit_and, Bool.and_eq_true] at hi
    exact hi.1
  · cases h
/-- Whatever order is picked from here on, and in whatever larger world; S i holds behind the operation i. -/
def AnyG (P : Program) (md : Region.Mode) (ops : Array Oper) (Q : Exit → Act → World → Prop) (S : Nat → World → Prop) : Nat → Array Bool → Act → World → Prop
  | 0, listed, a, w => ∀ w', Garb w w' → Region.ready md ops listed = [] ∧ Q .normal a w'
  | fuel + 1, listed, a, w => ∀ w', Garb w w' → (Region.ready md ops listed = [] → Q .normal a w') ∧
    ∀ i ∈ Region.ready md ops listed, wpOp P ops Q i (fun a' w'' => S i w'' ∧ AnyG P md ops Q S fuel (listed.setIfInBounds i true) a' w'') a w'
theorem AnyG.garb : ∀ {fuel : Nat} {listed : Array Bool} {a : Act} {w w' : World}, AnyG P md ops Q SI fuel listed a w → Garb w w' → AnyG P md ops Q SI fuel listed a w'
  | 0, _, _, _, _, h, hg => fun w'' h' => h w'' (hg.trans h')
  | _ + 1, _, _, _, _, h, hg => fun w'' h' => h w'' (hg.trans h')
theorem AnyG.any : ∀ (fuel : Nat) (listed : Array Bool) (a : Act) (w : World), AnyG P md ops Q SI fuel listed a w → wpAny P md ops Q fuel listed a w
  | 0, _, _, w, h => h w (Garb.refl w)
  | fuel + 1, _, _, w, h => ⟨(h w (Garb.refl w)).1, fun i hi => wpOp_mono (fun a' w' h' => AnyG.any fuel _ a' w' h'.2) ((h w (Garb.refl w)).2 i hi)⟩
/-- Operations that neither read nor write memory. -/
noncomputable def pureOp (o : Op) : Bool := match o with
  | .move _ => true
  | .assign _ => true
  | .extract _ _ => true
  | _ => false
noncomputable def pureAt (ops : List Oper) (j : Nat) : Bool := match lnth ops j with | some o => pureOp o.op | none => false
theorem wpOp_pure {j : Nat} (hp : pureAt ops.toList j = true) {K : Act → World → Prop} {a : Act} (h : wpOp P ops Q j K a w) : wpOp P ops Q j (fun a' w'' => w'' = w ∧ K a' w'') a w := by
  unfold pureAt at hp
  rw [lnth_eq, Array.getElem?_toList] at hp
  unfold Go.wpOp at *
  split at hp
  · rename_i o ho
    simp only [ho] at h ⊢
    split
    · rename_i hw
      rw [if_pos hw] at h
      rcases h with h | h
      · refine .inl ?_
        unfold Oper.wp at *
        unfold pureOp at hp
        split at hp
        · rename_i x hx
          simp only [execOp, hx, Sem.run_pure, Oper.upon] at h ⊢
          exact ⟨trivial, h⟩
        · rename_i x hx
          simp only [execOp, hx, Sem.run_pure, Oper.upon] at h ⊢
          exact ⟨trivial, h⟩
        · rename_i x n hx
          have key : (∃ v, (execOp a.eval o).run P w = .ok (.value v) w) ∨ ∃ s w', (execOp a.eval o).run P w = .halt s w' := by
            simp only [execOp, hx]
            unfold Instr.extract
            split
            · split <;> simp [stuck]
            · simp [stuck]
          rcases key with ⟨v, hv⟩ | ⟨s, w', hv⟩
          · rw [hv] at h ⊢
            exact ⟨rfl, h⟩
          · rw [hv] at h ⊢
            cases s <;> exact h
        · cases hp
      · exact .inr h
    · rename_i hw
      rw [if_neg hw] at h
      exact ⟨trivial, h⟩
  · cases hp
theorem QuietIn.pure {j : Nat} {o : Oper} {v : Value} {a : Act} (hy : QuietIn P ops S o v a) (ho : ops[j]? = some o) (hp : pureAt ops.toList j = true) (hw : S w) : QuietIn P ops (fun _ => True) o v a := by
  unfold pureAt at hp
  rw [lnth_eq, Array.getElem?_toList, ho] at hp
  rcases hy with ⟨h1, h2⟩ | h
  · refine .inl ⟨h1, fun w' _ => ?_⟩
    have h2 := h2 w hw
    simp only at hp
    unfold pureOp at hp
    split at hp
    · rename_i x hx
      simp only [execOp, hx, Sem.run_pure, uponV] at h2 ⊢
      exact ⟨h2.1, Garb.refl _⟩
    · rename_i x hx
      simp only [execOp, hx, Sem.run_pure, uponV] at h2 ⊢
      exact ⟨h2.1, Garb.refl _⟩
    · rename_i x n hx
      simp only [execOp, hx] at h2 ⊢
      unfold Instr.extract at h2 ⊢
      split at h2
      · split at h2
        · simp only [Sem.run_bind, Sem.run_pure, Result.andThen_ok, uponV] at h2 ⊢
          exact ⟨h2.1, Garb.refl _⟩
        · simp [stuck, uponV] at h2
      · simp [stuck, uponV] at h2
    · cases hp
  · exact .inr h
theorem AnyG.first {i : Nat} {o : Oper} {v : Value} (hi : ops[i]? = some o) (hsel : Region.noSelect ops = true) (hQ : ∀ c a w, ¬ Q (.panic c) a w) (hQo : ¬ LetsOut Q)
    (hS : ∀ w w', S w → Garb w w' → S w') (hSi : ∀ w, S w → SI i w)
    (hSj : ∀ (j : Nat) (listed : Array Bool) (w : World), Closed md ops listed → j ∈ Region.ready md ops listed → i ∈ Region.ready md ops listed → j ≠ i → pureAt ops.toList j = false → SI j w → S w) : ∀ (fuel : Nat) (listed : Array Bool) (a : Act) (w : World),
      (∀ j oj, ops[j]? = some oj → j ≠ i → listed.getD j true = false → (∀ e ∈ oj.after, Region.binds md e = true → e.on ≠ i) → o.apart ops oj = true) →
      Closed md ops listed → i ∈ Region.ready md ops listed → QuietIn P ops S o v a → S w →
      AnyG P md ops Q SI fuel (listed.setIfInBounds i true) (a.put o.dst v) w → AnyG P md ops Q SI (fuel + 1) listed a w := by
  intro fuel
  induction fuel with
  | zero =>
    intro listed a w _ hcl hr hy hs H w' hw'
    refine ⟨fun h => (by rw [h] at hr; cases hr), fun j hj => ?_⟩
    by_cases hji : j = i
    · subst hji
      exact hy.wpOp hi (hS _ _ hs hw') fun w'' h'' => ⟨hSi _ (hS _ _ hs (hw'.trans h'')), H.garb (hw'.trans h'')⟩
    · have := ready_mono hj hji
      rw [(H w' hw').1] at this
      cases this
  | succ fuel ih =>
    intro listed a w hfree hcl hr hy hs H w' hw'
    refine ⟨fun h => (by rw [h] at hr; cases hr), fun j hj => ?_⟩
    by_cases hji : j = i
    · subst hji
      exact hy.wpOp hi (hS _ _ hs hw') fun w'' h'' => ⟨hSi _ (hS _ _ hs (hw'.trans h'')), H.garb (hw'.trans h'')⟩
    · have h1 := (H w' hw').2 j (ready_mono hj hji)
      obtain ⟨hjun, oj, hoj, hall⟩ := mem_ready.1 hj
      have hnot : ∀ e ∈ oj.after, Region.binds md e = true → e.on ≠ i := fun e he hb heq => by
        have h1 := hall e he hb
        have h0 := (mem_ready.1 hr).1
        rw [heq] at h1
        rcases Nat.lt_or_ge i listed.size with h' | h'
        · simp [h'] at h0 h1; rw [h0] at h1; cases h1
        · simp [Array.getElem?_eq_none h'] at h1
      have hap := hfree j oj hoj hji hjun hnot
      have h2 := wpOp_apart hoj hap (Region.noSelect_spec hsel j oj · · hoj) hQ hQo h1
      have hfree' : ∀ k ok, ops[k]? = some ok → k ≠ i → (listed.setIfInBounds j true).getD k true = false →
          (∀ e ∈ ok.after, Region.binds md e = true → e.on ≠ i) → o.apart ops ok = true := fun k ok hk hki hun hno => by
        refine hfree k ok hk hki ?_ hno
        by_cases hjk : j = k
        · subst hjk; exact hjun
        · rw [getD_set_ne true hjk] at hun; exact hun
      have h2' : wpOp P ops Q j (fun a' w'' => (pureAt ops.toList j = true → w'' = w') ∧ ((∃ u ds, a' = ({ a with defers := ds } : Act).put oj.dst u) ∧ (fun a' w'' => SI j w'' ∧ AnyG P md ops Q SI fuel ((listed.setIfInBounds i true).setIfInBounds j true) a' w'') (a'.put o.dst v) w'')) a w' := by
        cases hpu : pureAt ops.toList j
        · exact wpOp_mono (fun a' w'' h3 => ⟨fun h => (by cases h), h3⟩) h2
        · exact wpOp_mono (fun a' w'' h3 => ⟨fun _ => h3.1, h3.2⟩) (wpOp_pure hpu h2)
      refine wpOp_mono (fun a' w'' h3 => ?_) h2'
      obtain ⟨hpw, ⟨u, ds, rfl⟩, h4, h5⟩ := h3
      obtain ⟨_, _, h6⟩ := Oper.apart_spec hap
      have hs2 : S w'' := by
        cases hpu : pureAt ops.toList j
        · exact hSj j listed w'' hcl hj hr hji hpu h4
        · rw [hpw hpu]; exact hS _ _ hs hw'
      have hy' : QuietIn P ops S o v (({ a with defers := ds } : Act).put oj.dst u) :=
        (show QuietIn P ops S o v { a with defers := ds } from hy.of_same rfl rfl).of_same (execOp_put o (Region.noSelect_spec hsel i o · · hi) _ oj.dst u h6) (wanted_put o _ oj.dst u h6)
      refine ⟨h4, ih (listed.setIfInBounds j true) _ w'' hfree' (hcl.add hj) (ready_mono hr (Ne.symm hji)) hy' hs2 ?_⟩
      rw [Array.setIfInBounds_comm _ _ hji]
      exact h5
/-- S, behind every operation but one that comes last. -/
def LastS (md : Region.Mode) (ops : Array Oper) (S : World → Prop) : Nat → World → Prop := fun i w => lastB md ops i = false → S w
theorem AnyG.firstL {i : Nat} {o : Oper} {v : Value} (hi : ops[i]? = some o) (hsel : Region.noSelect ops = true) (hQ : ∀ c a w, ¬ Q (.panic c) a w) (hQo : ¬ LetsOut Q)
    (hS : ∀ w w', S w → Garb w w' → S w') : ∀ (fuel : Nat) (listed : Array Bool) (a : Act) (w : World),
      (∀ j oj, ops[j]? = some oj → j ≠ i → listed.getD j true = false → (∀ e ∈ oj.after, Region.binds md e = true → e.on ≠ i) → o.apart ops oj = true) →
      Closed md ops listed → i ∈ Region.ready md ops listed → QuietIn P ops S o v a → S w →
      AnyG P md ops Q (LastS md ops S) fuel (listed.setIfInBounds i true) (a.put o.dst v) w → AnyG P md ops Q (LastS md ops S) (fuel + 1) listed a w :=
  AnyG.first hi hsel hQ hQo hS (fun _ h _ => h) fun j listed w hcl hj hr hji _ h4 => by
    refine h4 ?_
    cases hl : lastB md ops j
    · rfl
    · have hlt : i < ops.size := (Array.getElem?_eq_some_iff.1 hi).1
      have := lastB_ok hl hcl hj i hlt (Ne.symm hji)
      have h0 := (mem_ready.1 hr).1
      rcases Nat.lt_or_ge i listed.size with h' | h'
      · simp [h'] at h0 this; rw [h0] at this; cases this
      · simp [Array.getElem?_eq_none h'] at this
noncomputable def isOnly (j : Nat) (l : List Nat) : Bool := match l with | [i] => Nat.beq i j | _ => false
theorem isOnly_ok {j : Nat} {l : List Nat} (h : isOnly j l = true) : l = [j] := by
  unfold isOnly at h
  split at h
  · rw [Nat.eq_of_beq_eq_true h]
  · cases h
noncomputable def memB (j : Nat) (l : List Nat) : Bool := ife (noneEq j l) false true
theorem noneEq_not {j : Nat} : ∀ {l : List Nat}, noneEq j l = false → j ∈ l
  | [], h => by cases h
  | x :: l, h => by
    change ife (Nat.beq x j) false (noneEq j l) = false at h
    cases hb : Nat.beq x j
    · rw [hb] at h; exact List.mem_cons_of_mem _ (noneEq_not h)
    · rw [Nat.eq_of_beq_eq_true hb]; exact List.mem_cons_self
theorem memB_ok {j : Nat} {l : List Nat} (h : memB j l = true) : j ∈ l := by
  unfold memB at h
  cases hn : noneEq j l
  · exact noneEq_not hn
  · rw [hn] at h; cases h
/-! ### Regions by masks -/
noncomputable def orL (l : List Nat) : Nat := List.rec (motive := fun _ => Nat) 0 (fun x _ ih => Nat.lor (Nat.pow 2 x) ih) l
theorem orL_bit {d : Nat} : ∀ {l : List Nat}, (orL l).testBit d = true ↔ d ∈ l
  | [] => by simp [orL]
  | x :: l => by
    show ((2 ^ x ||| orL l) : Nat).testBit d = true ↔ d ∈ x :: l
    rw [Nat.testBit_or, Bool.or_eq_true, orL_bit, Nat.testBit_two_pow, List.mem_cons]
    simp only [decide_eq_true_eq]
    exact ⟨fun h => h.imp Eq.symm id, fun h => h.imp Eq.symm id⟩
noncomputable def aftL (l : List Edge) : Nat := List.rec (motive := fun _ => Nat) 0 (fun e _ ih => ife (Region.binds .any e) (Nat.lor (Nat.pow 2 e.on) ih) ih) l
theorem aftL_bit {d : Nat} : ∀ {l : List Edge}, (aftL l).testBit d = true ↔ ∃ e ∈ l, Region.binds .any e = true ∧ e.on = d
  | [] => by simp [aftL]
  | e :: l => by
    show (ife (Region.binds .any e) (2 ^ e.on ||| aftL l) (aftL l) : Nat).testBit d = true ↔ _
    have ih := aftL_bit (d := d) (l := l)
    cases hb : Region.binds .any e
    · rw [ife_false, ih]
      exact ⟨fun ⟨x, h1, h2⟩ => ⟨x, List.mem_cons_of_mem _ h1, h2⟩, fun ⟨x, h1, h2, h3⟩ => by
        rcases List.mem_cons.1 h1 with rfl | h1
        · rw [hb] at h2; cases h2
        · exact ⟨x, h1, h2, h3⟩⟩
    · rw [ife_true, Nat.testBit_or, Bool.or_eq_true, ih, Nat.testBit_two_pow]
      simp only [decide_eq_true_eq]
      constructor
      · rintro (h | ⟨x, h1, h2⟩)
        · exact ⟨e, List.mem_cons_self, hb, h⟩
        · exact ⟨x, List.mem_cons_of_mem _ h1, h2⟩
      · rintro ⟨x, h1, h2, h3⟩
        rcases List.mem_cons.1 h1 with rfl | h1
        · exact .inl h3
        · exact .inr ⟨x, h1, h2, h3⟩
noncomputable def dstM (o : Oper) : Nat := match o.dst with | some d => Nat.pow 2 d | none => 0
/-- What an operation looks at, where it writes, what comes ahead of it. -/
structure Inf where
  look : Nat
  dst : Nat
  aft : Nat
noncomputable def infOf (ops : Array Oper) (o : Oper) : Inf := ⟨orL (o.looksAt ops), dstM o, aftL o.after.toList⟩
noncomputable def infs (ops : Array Oper) (l : List Oper) : List Inf := List.rec (motive := fun _ => List Inf) [] (fun o _ ih => infOf ops o :: ih) l
theorem infs_get {ops : Array Oper} : ∀ {l : List Oper} (i : Nat), (infs ops l)[i]? = (l[i]?).map (infOf ops)
  | [], i => by simp [infs]
  | o :: l, 0 => by simp [infs]
  | o :: l, i + 1 => by
    show (infOf ops o :: infs ops l)[i + 1]? = _
    rw [List.getElem?_cons_succ, infs_get i, List.getElem?_cons_succ]
/-- All bits of a stand in L. -/
noncomputable def subM (a L : Nat) : Bool := Nat.beq (Nat.land a L) a
theorem subM_iff {a L : Nat} : subM a L = true ↔ ∀ i, a.testBit i = true → L.testBit i = true := by
  unfold subM
  constructor
  · intro h i hi
    have h : a &&& L = a := Nat.eq_of_beq_eq_true h
    rw [← h, Nat.testBit_and, Bool.and_eq_true] at hi
    exact hi.2
  · intro h
    have : a &&& L = a := by
      apply Nat.eq_of_testBit_eq
      intro i
      rw [Nat.testBit_and]
      cases hi : a.testBit i
      · rfl
      · rw [h i hi]; rfl
    show Nat.beq (a &&& L) a = true
    rw [this]; simp
noncomputable def apartM (x y : Inf) : Bool :=
  ife (Nat.beq (Nat.land x.dst y.look) 0) (ife (ife (Nat.beq x.dst 0) true (ife (Nat.beq x.dst y.dst) false true)) (Nat.beq (Nat.land y.dst x.look) 0) false) false
theorem land_zero {d l : Nat} (h : Nat.beq (Nat.land (Nat.pow 2 d) l) 0 = true) : l.testBit d = false := by
  have h : 2 ^ d &&& l = 0 := Nat.eq_of_beq_eq_true h
  cases hl : l.testBit d
  · rfl
  · have : (2 ^ d &&& l).testBit d = true := by rw [Nat.testBit_and, hl, Nat.testBit_two_pow]; simp
    rw [h] at this; simp at this
theorem apartM_ok {ops : Array Oper} {x y : Oper} (h : apartM (infOf ops x) (infOf ops y) = true) : x.apart ops y = true := by
  unfold apartM at h
  cases h1 : Nat.beq (Nat.land (infOf ops x).dst (infOf ops y).look) 0
  · rw [h1] at h; cases h
  rw [h1, ife_true] at h
  cases h2 : ife (Nat.beq (infOf ops x).dst 0) true (ife (Nat.beq (infOf ops x).dst (infOf ops y).dst) false true)
  · rw [h2] at h; cases h
  rw [h2, ife_true] at h
  have look : ∀ {o : Oper} {d : Nat}, (orL (o.looksAt ops)).testBit d = false → d ∉ o.looksAt ops := by
    intro o d hb hm
    rw [orL_bit.2 hm] at hb; cases hb
  have pos : ∀ d : Nat, Nat.beq (Nat.pow 2 d) 0 = false := by
    intro d
    cases hb : Nat.beq (Nat.pow 2 d) 0
    · rfl
    · have e : 2 ^ d = 0 := Nat.eq_of_beq_eq_true hb
      have : 0 < 2 ^ d := Nat.pow_pos (by omega)
      omega
  unfold Oper.apart
  cases hx : x.dst with
  | none =>
    cases hy : y.dst with
    | none => rfl
    | some e =>
      have h3 : (infOf ops y).dst = Nat.pow 2 e := by simp [infOf, dstM, hy]
      rw [h3] at h
      have := look (land_zero h)
      simp [this]
  | some d =>
    have hd : (infOf ops x).dst = Nat.pow 2 d := by simp [infOf, dstM, hx]
    rw [hd] at h1 h2
    rw [pos, ife_false] at h2
    have l1 := look (land_zero h1)
    cases hy : y.dst with
    | none => simp [l1]
    | some e =>
      have h3 : (infOf ops y).dst = Nat.pow 2 e := by simp [infOf, dstM, hy]
      rw [h3] at h h2
      have l2 := look (land_zero h)
      have hne : ¬ e = d := by
        intro q
        subst q
        rw [show Nat.beq (Nat.pow 2 e) (Nat.pow 2 e) = true from by simp] at h2
        cases h2
      simp [l1, l2, hne]
/-- What is not apart from x (the j-th), and does not come behind it. -/
noncomputable def naM (j : Nat) (x : Inf) (l : List Inf) : Nat → Nat :=
  List.rec (motive := fun _ => Nat → Nat) (fun _ => 0) (fun y _ ih k => ife (ife (Nat.beq k j) true (ife (Nat.testBit y.aft j) true (apartM x y))) (ih (Nat.succ k)) (Nat.lor (Nat.pow 2 k) (ih (Nat.succ k)))) l
theorem naM_bit {j : Nat} {x : Inf} : ∀ {l : List Inf} {k i : Nat} {y : Inf}, l[i]? = some y → (naM j x l k).testBit (k + i) = false → k + i = j ∨ y.aft.testBit j = true ∨ apartM x y = true
  | [], _, _, _, h, _ => by simp at h
  | z :: l, k, i, y, h, hb => by
    change (ife (ife (Nat.beq k j) true (ife (Nat.testBit z.aft j) true (apartM x z))) (naM j x l (Nat.succ k)) (Nat.lor (Nat.pow 2 k) (naM j x l (Nat.succ k)))).testBit (k + i) = false at hb
    cases i with
    | zero =>
      simp at h; subst h
      cases hc : ife (Nat.beq k j) true (ife (Nat.testBit z.aft j) true (apartM x z))
      · rw [hc, ife_false] at hb
        have hb : ((2 ^ k ||| naM j x l (Nat.succ k)) : Nat).testBit (k + 0) = false := hb
        rw [Nat.testBit_or, Nat.testBit_two_pow] at hb
        simp at hb
      · cases h1 : Nat.beq k j
        · rw [h1, ife_false] at hc
          cases h2 : Nat.testBit z.aft j
          · rw [h2, ife_false] at hc; exact .inr (.inr hc)
          · exact .inr (.inl rfl)
        · exact .inl (Nat.eq_of_beq_eq_true h1)
    | succ i =>
      have h' : l[i]? = some y := by simpa using h
      have e : k + (i + 1) = Nat.succ k + i := by omega
      rw [e] at hb ⊢
      refine naM_bit h' ?_
      cases hc : ife (Nat.beq k j) true (ife (Nat.testBit z.aft j) true (apartM x z))
      · rw [hc, ife_false] at hb
        have hb : ((2 ^ k ||| naM j x l (Nat.succ k)) : Nat).testBit (Nat.succ k + i) = false := hb
        rw [Nat.testBit_or, Bool.or_eq_false_iff] at hb
        exact hb.2
      · rw [hc, ife_true] at hb; exact hb
noncomputable def freeM (I : List Inf) (L j : Nat) : Bool := match lnth I j with | some x => subM (naM j x I 0) L | none => false
noncomputable def readyM (L : Nat) (l : List Inf) : Nat → List Nat :=
  List.rec (motive := fun _ => Nat → List Nat) (fun _ => []) (fun y _ ih i => ife (Nat.testBit L i) (ih (Nat.succ i)) (ife (subM y.aft L) (i :: ih (Nat.succ i)) (ih (Nat.succ i)))) l
/-- The mask says what is listed. -/
def LM (listed : Array Bool) (L n : Nat) : Prop := listed.size = n ∧ ∀ j, listed.getD j false = L.testBit j
theorem LM.at {listed : Array Bool} {L n : Nat} (h : LM listed L n) {j : Nat} (hj : j < n) : listed.getD j true = L.testBit j := by
  rw [← h.2 j]
  have : j < listed.size := by rw [h.1]; exact hj
  simp [this]
theorem LM.start (n : Nat) : LM (Array.replicate n false) 0 n := by
  refine ⟨by simp, fun j => ?_⟩
  by_cases h : j < n <;> simp [h]
theorem LM.set {listed : Array Bool} {L n : Nat} (h : LM listed L n) {j : Nat} (hj : j < n) : LM (listed.setIfInBounds j true) (Nat.lor L (Nat.pow 2 j)) n := by
  refine ⟨by simpa using h.1, fun k => ?_⟩
  show _ = (L ||| 2 ^ j).testBit k
  rw [Nat.testBit_or, Nat.testBit_two_pow]
  by_cases e : j = k
  · subst e
    have : j < listed.size := by rw [h.1]; exact hj
    simp [this]
  · rw [getD_set_ne false e, h.2 k]
    simp [e]
theorem readyM_eq {ops : Array Oper} {listed : Array Bool} {L : Nat} (h : LM listed L ops.size) : Region.ready .any ops listed = readyM L (infs ops ops.toList) 0 := by
  have key : ∀ (f : Nat → Bool), (∀ i o, ops[i]? = some o → f i = (!L.testBit i && subM (aftL o.after.toList) L)) → ∀ (l : List Oper) (i : Nat), l = ops.toList.drop i → i + l.length = ops.size →
      readyM L (infs ops l) i = (List.range' i l.length).filter f := by
    intro f hf l
    induction l with
    | nil => intro i _ _; rfl
    | cons o l ih =>
      intro i hl hn
      simp only [List.length_cons] at hn
      have ho : ops[i]? = some o := by
        rw [← Array.getElem?_toList]
        have : (ops.toList.drop i)[0]? = some o := by rw [← hl]; rfl
        simpa using this
      have hl' : l = ops.toList.drop (i + 1) := by
        have : (ops.toList.drop i).tail = l := by rw [← hl]; rfl
        rw [← this, List.tail_drop]
      have ih' := ih (i + 1) hl' (by omega)
      show ife (Nat.testBit L i) (readyM L (infs ops l) (Nat.succ i)) (ife (subM (aftL o.after.toList) L) (i :: readyM L (infs ops l) (Nat.succ i)) (readyM L (infs ops l) (Nat.succ i))) = _
      rw [List.length_cons, List.range'_succ, List.filter_cons, hf i o ho, show readyM L (infs ops l) (Nat.succ i) = _ from ih']
      cases L.testBit i <;> cases subM (aftL o.after.toList) L <;> rfl
  have := key (fun i => !listed.getD i true && ((ops[i]?).map (·.after.all fun e => !Region.binds .any e || listed.getD e.on false)).getD false) (fun i o ho => by
    have hi : i < ops.size := (Array.getElem?_eq_some_iff.1 ho).1
    have e2 : (o.after.all fun e => !Region.binds .any e || listed.getD e.on false) = subM (aftL o.after.toList) L := by
      rw [Bool.eq_iff_iff, subM_iff, Array.all_eq_true']
      constructor
      · intro hq d hd
        obtain ⟨e, he, hb, rfl⟩ := aftL_bit.1 hd
        have := hq e (by simpa using he)
        rw [hb] at this
        rw [← h.2]; simpa using this
      · intro hq e he
        cases hb : Region.binds .any e
        · rfl
        · have := hq e.on (aftL_bit.2 ⟨e, by simpa using he, hb, rfl⟩)
          rw [h.2, this]; rfl
    rw [h.at hi, ho, Option.map_some, Option.getD_some, e2]) ops.toList 0 (by simp) (by simp)
  rw [this]
  unfold Region.ready
  rw [List.range_eq_range', Array.length_toList]
theorem freeM_ok {ops : Array Oper} {listed : Array Bool} {L j : Nat} (h : LM listed L ops.size) (hf : freeM (infs ops ops.toList) L j = true) : Region.free .any ops listed j = true := by
  unfold freeM at hf
  rw [lnth_eq, infs_get] at hf
  split at hf
  · rename_i x hx
    rw [Option.map_eq_some_iff] at hx
    obtain ⟨o, ho, rfl⟩ := hx
    rw [Array.getElem?_toList] at ho
    unfold Region.free
    simp only [ho]
    rw [List.all_eq_true]
    intro k hk
    rw [List.mem_range] at hk
    obtain ⟨ok, hok⟩ : ∃ ok, ops[k]? = some ok := ⟨_, Array.getElem?_eq_getElem hk⟩
    rw [h.at hk, hok]
    simp only
    cases hL : L.testBit k
    · have hnb : (naM j (infOf ops o) (infs ops ops.toList) 0).testBit (0 + k) = false := by
        cases hb : (naM j (infOf ops o) (infs ops ops.toList) 0).testBit (0 + k)
        · rfl
        · rw [Nat.zero_add] at hb
          rw [subM_iff.1 hf k hb] at hL; cases hL
      have hik : (infs ops ops.toList)[k]? = some (infOf ops ok) := by rw [infs_get, Array.getElem?_toList, hok]; rfl
      rcases naM_bit hik hnb with e | e | e
      · rw [Nat.zero_add] at e; subst e; simp
      · obtain ⟨e', he, hb, hon⟩ := aftL_bit.1 e
        have : (ok.after.any fun e => Region.binds .any e && e.on == j) = true := by
          rw [Array.any_eq_true']
          exact ⟨e', by simpa using he, by rw [hb, hon]; simp⟩
        rw [this]; simp
      · rw [apartM_ok e]; simp
    · simp
  · cases hf
end
end Go.RX
