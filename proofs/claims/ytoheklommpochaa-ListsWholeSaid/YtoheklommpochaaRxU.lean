/- RX, part 15e: runs apart that hand out new blocks. -/
import Derived.Test.YtoheklommpochaaRxK
namespace Go.RX
section
variable {V : Va} {N N1 N' : Env} {W0 w w1 : World} {g g1 : G}
/-! ### The same with other numbers -/
noncomputable def lmap {β γ : Type} (f : β → γ) (l : List β) : List γ := List.rec (motive := fun _ => List γ) [] (fun x _ ih => f x :: ih) l
noncomputable def AV.sh (d : Nat) (n : Nat) : AV → AV :=
  Nat.rec (motive := fun _ => AV → AV) (fun _ => .top) (fun _ ih a => match a with
    | .int kd e => .int kd e
    | .bool e => .bool e
    | .ptr id off => .ptr (Nat.add id d) off
    | .nilptr => .nilptr
    | .slice id off len k => .slice (Nat.add id d) off len k
    | .nilslice => .nilslice
    | .sptr id off e m st => .sptr (Nat.add id d) off e m st
    | .map id => .map (Nat.add id d)
    | .func f fi ca => .func f (lmap ih fi) (lmap ih ca)
    | .nilfunc => .nilfunc
    | .agg cs => .agg (lmap ih cs)
    | .tup cs => .tup (lmap ih cs)
    | .str cs => .str (lmap ih cs)
    | .xsl i l => ife (Nat.ble 16 i) .top (.xsl i l)
    | .aptr i m => .aptr i m
    | .top => .top) n
/-- N' says of id + d what N1 says of id. -/
structure Sh (d : Nat) (N1 N' : Env) : Prop where
  b : ∀ id x, N1.b id = some x → N'.b (id + d) = some x
  c : ∀ id x, N1.c id = some x → N'.c (id + d) = some x
theorem lmap_rels {f : AV → AV} (hf : ∀ a v, AV.rel V N1 a v → AV.rel V N' (f a) v) : ∀ (l : List AV) (m : List Value), AV.rels V N1 l m → AV.rels V N' (lmap f l) m
  | [], m, h => by rw [rels_nil.1 h]; exact rels_nil.2 rfl
  | a :: l, m, h => by
    obtain ⟨v, vs, rfl, h1, h2⟩ := rels_cons.1 h
    exact rels_cons' (hf a v h1) (lmap_rels hf l vs h2)
theorem lmap_len {β γ : Type} (f : β → γ) (l : List β) : (lmap f l).length = l.length := by
  induction l with
  | nil => rfl
  | cons x l ih => show (f x :: lmap f l).length = _; simp [ih]
theorem AV.sh_rel {d : Nat} (hs : Sh d N1 N') : ∀ (n : Nat) (a : AV) (v : Value), a.rel V N1 v → (AV.sh d n a).rel V N' v
  | 0, _, _, _ => by show AV.top.rel V N' _; simp only [AV.rel]
  | n + 1, a, v, h => by
    have ih := AV.sh_rel hs n
    cases a with
    | int kd e => exact h
    | bool e => exact h
    | ptr id off =>
      simp only [AV.rel] at h
      obtain ⟨b, h1, h2⟩ := h
      show (AV.ptr (id + d) off).rel V N' v
      simp only [AV.rel]
      exact ⟨b, hs.b _ _ h1, h2⟩
    | nilptr => exact h
    | slice id off len k =>
      simp only [AV.rel] at h
      obtain ⟨b, c, h1, h2, h3⟩ := h
      show (AV.slice (id + d) off len k).rel V N' v
      simp only [AV.rel]
      refine ⟨b, c, hs.b _ _ h1, h2, ?_⟩
      cases k with
      | lit _ => exact h3
      | any => exact h3
      | full esz =>
        simp only [Cap.rel] at h3 ⊢
        obtain ⟨q, q1, q2⟩ := h3
        exact ⟨q, hs.c _ _ q1, q2⟩
    | nilslice => exact h
    | sptr id off e m st =>
      simp only [AV.rel] at h
      obtain ⟨b, q, h1, h2⟩ := h
      show (AV.sptr (id + d) off e m st).rel V N' v
      simp only [AV.rel]
      exact ⟨b, q, hs.b _ _ h1, h2⟩
    | map id =>
      simp only [AV.rel] at h
      obtain ⟨b, h1, h2⟩ := h
      show (AV.map (id + d)).rel V N' v
      simp only [AV.rel]
      exact ⟨b, hs.b _ _ h1, h2⟩
    | func f fi ca =>
      simp only [AV.rel] at h
      obtain ⟨x, y, h1, h2, h3⟩ := h
      show (AV.func f (lmap (AV.sh d n) fi) (lmap (AV.sh d n) ca)).rel V N' v
      simp only [AV.rel]
      exact ⟨x, y, h1, lmap_rels ih _ _ h2, lmap_rels ih _ _ h3⟩
    | nilfunc => exact h
    | agg cs =>
      simp only [AV.rel] at h
      obtain ⟨x, h1, h2⟩ := h
      show (AV.agg (lmap (AV.sh d n) cs)).rel V N' v
      simp only [AV.rel]
      exact ⟨x, h1, lmap_rels ih _ _ h2⟩
    | tup cs =>
      simp only [AV.rel] at h
      obtain ⟨x, h1, h2⟩ := h
      show (AV.tup (lmap (AV.sh d n) cs)).rel V N' v
      simp only [AV.rel]
      exact ⟨x, h1, lmap_rels ih _ _ h2⟩
    | str cs =>
      simp only [AV.rel] at h
      obtain ⟨x, h1, h2⟩ := h
      show (AV.str (lmap (AV.sh d n) cs)).rel V N' v
      simp only [AV.rel]
      exact ⟨x, h1, lmap_rels ih _ _ h2⟩
    | xsl i l =>
      show (ife (Nat.ble 16 i) AV.top (.xsl i l)).rel V N' v
      cases hb : Nat.ble 16 i
      · have : ¬ 16 ≤ i := fun q => by rw [Nat.ble_eq_true_of_le q] at hb; cases hb
        simp only [AV.rel, ife_false] at h ⊢
        obtain ⟨A, m, c, k1, k2, k3, k4, _⟩ := h
        exact ⟨A, m, c, k1, k2, k3, k4, fun h16 => absurd h16 this⟩
      · rw [ife_true]; simp only [AV.rel]
    | aptr i m => simp only [AV.rel] at h; show (AV.aptr i m).rel V N' v; simp only [AV.rel]; exact h
    | top => show AV.top.rel V N' _; simp only [AV.rel]
noncomputable def Ob.sh (d : Nat) (o : Ob) : Ob := match o with
  | .cells cs e opn own => .cells (lmap (AV.sh d 6) cs) e opn own
  | .emap own => .emap own
  | .row i t own => .row i t own
theorem Ob.sh_own (d : Nat) (o : Ob) : (o.sh d).own = o.own := by cases o <;> rfl
theorem Ob.sh_rel {d : Nat} (hs : Sh d N1 N') {id : Nat} {o : Ob} {x : Option Obj} (h : o.rel V N1 id x) : (o.sh d).rel V N' (id + d) x := by
  cases o with
  | cells cs e opn own =>
    obtain ⟨c, fr, h1, h2, h3, h4, h5, h6⟩ := h
    refine ⟨c, fr, h1, h2, by rw [lmap_len]; exact h3, fun ho => by rw [lmap_len]; exact h4 ho, hs.c _ _ h5, ?_⟩
    rw [lmap_len]
    exact lmap_rels (AV.sh_rel hs 6) _ _ h6
  | emap own => exact h
  | row => exact h
/-- The blocks of h1 with other numbers, ahead of h. -/
noncomputable def hjoin (d : Nat) (h1 h : Heap) : Heap := List.rec (motive := fun _ => Heap) h (fun p _ ih => (Nat.add p.1 d, p.2.sh d) :: ih) h1
theorem hget_hjoin_new {d id : Nat} {o : Ob} (h : Heap) : ∀ {h1 : Heap}, hget h1 id = some o → hget (hjoin d h1 h) (id + d) = some (o.sh d)
  | [], e => by cases e
  | p :: l, e => by
    show hget ((p.1 + d, p.2.sh d) :: hjoin d l h) (id + d) = _
    rw [hget_cons] at e ⊢
    split at e
    · rename_i q; injection e with e; subst e; rw [if_pos (by rw [q])]
    · rename_i q; rw [if_neg (fun q' => q (by simp only at q'; omega))]; exact hget_hjoin_new h e
theorem hget_hjoin {d : Nat} {h : Heap} : ∀ {h1 : Heap} {id : Nat} {o : Ob}, hget (hjoin d h1 h) id = some o → (∃ i o1, id = i + d ∧ hget h1 i = some o1 ∧ o = o1.sh d) ∨ hget h id = some o
  | [], _, _, e => .inr e
  | p :: l, id, o, e => by
    change hget ((p.1 + d, p.2.sh d) :: hjoin d l h) id = some o at e
    rw [hget_cons] at e
    split at e
    · rename_i q
      injection e with e
      exact .inl ⟨p.1, p.2, q.symm, by rw [hget_cons, if_pos rfl], e.symm⟩
    · rename_i q
      rcases hget_hjoin e with ⟨i, o1, rfl, e2, rfl⟩ | e2
      · refine .inl ⟨i, o1, rfl, ?_, rfl⟩
        rw [hget_cons, if_neg (fun q' => q (by simp only; omega))]; exact e2
      · exact .inr e2
theorem hget_hjoin_old {d id : Nat} {h : Heap} : ∀ {h1 : Heap}, (∀ i, i + d = id → hget h1 i = none) → hget (hjoin d h1 h) id = hget h id
  | [], _ => rfl
  | p :: l, hn => by
    have hp : ¬ p.1 + d = id := fun e => by
      have := hn p.1 e
      rw [hget_cons, if_pos rfl] at this; cases this
    show hget ((p.1 + d, p.2.sh d) :: hjoin d l h) id = _
    rw [hget_cons, if_neg hp]
    refine hget_hjoin_old fun i e => ?_
    have := hn i e
    rw [hget_cons, if_neg (fun q => hp (by rw [q]; exact e))] at this; exact this
noncomputable def allOwn (h : Heap) : Bool := List.rec (motive := fun _ => Bool) true (fun p _ ih => ife p.2.own ih false) h
theorem allOwn_ok : ∀ {h : Heap} {id : Nat} {o : Ob}, allOwn h = true → hget h id = some o → o.own = true
  | [], _, _, _, e => by cases e
  | p :: l, id, o, ha, e => by
    change ife p.2.own (allOwn l) false = true at ha
    cases hp : p.2.own
    · rw [hp] at ha; cases ha
    · rw [hp, ife_true] at ha
      rw [hget_cons] at e
      split at e
      · injection e with e; subst e; exact hp
      · exact allOwn_ok ha e
/-- Those of these numbers alone. -/
noncomputable def hkeep (l : List Nat) (h : Heap) : Heap := List.rec (motive := fun _ => Heap) [] (fun p _ ih => ife (noneEq p.1 l) ih (p :: ih)) h
theorem hget_hkeep {l : List Nat} {id : Nat} {o : Ob} : ∀ {h : Heap}, hget (hkeep l h) id = some o → hget h id = some o ∧ noneEq id l = false
  | [], e => by cases e
  | p :: m, e => by
    change hget (ife (noneEq p.1 l) (hkeep l m) (p :: hkeep l m)) id = some o at e
    rw [hget_cons]
    cases hn : noneEq p.1 l
    · rw [hn, ife_false, hget_cons] at e
      split at e
      · rename_i q; subst q; rw [if_pos rfl]; exact ⟨e, hn⟩
      · rename_i q; rw [if_neg q]; exact hget_hkeep e
    · rw [hn, ife_true] at e
      obtain ⟨h1, h2⟩ := hget_hkeep e
      rw [if_neg (fun q => by subst q; rw [hn] at h2; cases h2)]
      exact ⟨h1, h2⟩
/-- Behind a run apart with numbers from 0 to S. -/
noncomputable def G.take (g : G) (S : Nat) (h1 : Heap) : G := G.rec (fun heap nx lim fs ro wl => ⟨hjoin nx h1 heap, Nat.add nx S, lim, fs, ro, wl⟩) g
theorem Grel.lt (r : Grel V N W0 g w) {id : Nat} {o : Ob} (h : hget g.heap id = some o) : ∃ b, N.b id = some b ∧ b < w.heap.size := by
  obtain ⟨b, h1, h2, _⟩ := r.ob id o h
  refine ⟨b, h1, ?_⟩
  rcases Nat.lt_or_ge b w.heap.size with hb | hb
  · exact hb
  · rw [Array.getElem?_eq_none hb] at h2
    cases o with
    | cells => obtain ⟨c, fr, h3, _⟩ := h2; cases h3
    | emap => obtain ⟨k, h3⟩ := h2; cases h3
    | row => obtain ⟨c, el, fr, h3, _⟩ := h2; cases h3
theorem Grel.taken {S : Nat} {h1 : Heap} (r : Grel V N W0 g w) (r1 : Grel V N1 w g1 w1) (hN : ∀ id, ¬ id < S → N1.b id = none ∧ N1.c id = none) (hS : g.nx + S ≤ g.lim)
    (hsub : ∀ id o, hget h1 id = some o → hget g1.heap id = some o) (hown : allOwn h1 = true) :
    ∃ N', Grel V N' W0 (g.take S h1) w1 ∧ Ext g N (g.take S h1) N' ∧ Sh g.nx N1 N' := by
  let N' : Env := ⟨fun id => if g.nx ≤ id ∧ id < g.nx + S then N1.b (id - g.nx) else N.b id, fun id => if g.nx ≤ id ∧ id < g.nx + S then N1.c (id - g.nx) else N.c id⟩
  have hsh : Sh g.nx N1 N' := by
    constructor
    · intro id x hx
      have hlt : id < S := Classical.byContradiction fun h => by rw [(hN id h).1] at hx; cases hx
      show (if g.nx ≤ id + g.nx ∧ id + g.nx < g.nx + S then N1.b (id + g.nx - g.nx) else N.b (id + g.nx)) = some x
      rw [if_pos ⟨by omega, by omega⟩, Nat.add_sub_cancel]; exact hx
    · intro id x hx
      have hlt : id < S := Classical.byContradiction fun h => by rw [(hN id h).2] at hx; cases hx
      show (if g.nx ≤ id + g.nx ∧ id + g.nx < g.nx + S then N1.c (id + g.nx - g.nx) else N.c (id + g.nx)) = some x
      rw [if_pos ⟨by omega, by omega⟩, Nat.add_sub_cancel]; exact hx
  have hle : N.le N' := by
    constructor
    · intro id x hx
      show (if g.nx ≤ id ∧ id < g.nx + S then N1.b (id - g.nx) else N.b id) = some x
      rw [if_neg]; exact hx
      intro hh
      rw [(r.fresh id hh.1 (by omega)).1] at hx; cases hx
    · intro id x hx
      show (if g.nx ≤ id ∧ id < g.nx + S then N1.c (id - g.nx) else N.c id) = some x
      rw [if_neg]; exact hx
      intro hh
      rw [(r.fresh id hh.1 (by omega)).2] at hx; cases hx
  have hnew : ∀ i o1, hget h1 i = some o1 → ∃ b, N1.b i = some b ∧ o1.rel V N1 i w1.heap[b]? ∧ w.heap.size ≤ b := by
    intro i o1 h
    obtain ⟨b, e1, e2, e3⟩ := r1.ob i o1 (hsub i o1 h)
    exact ⟨b, e1, e2, e3 (allOwn_ok hown h)⟩
  refine ⟨N', ⟨⟨r1.os.1.trans r.os.1, r.os.2⟩, r1.tape.trans r.tape, r1.output.trans r.output, Nat.le_trans r.size r1.size, fun b hb => ?_, fun b hb c e fr he => ?_, fun id o ho => ?_, fun id o id' o' ho ho' hne ho1 b hb hb' => ?_, fun id h1 h2 => ?_, r.facts⟩, ⟨hle, fun id hid => ?_, Nat.le_add_right _ _, rfl, rfl, fun id hid o ho => ?_⟩, hsh⟩
  · rw [r1.below b (Nat.lt_of_lt_of_le hb r.size)]; exact r.below b hb
  · rcases Nat.lt_or_ge b w.heap.size with h | h
    · rw [r1.below b h] at he; exact r.soft b hb c e fr he
    · exact r1.soft b h c e fr he
  · rcases hget_hjoin (show hget (hjoin g.nx h1 g.heap) id = some o from ho) with ⟨i, o1, rfl, e2, rfl⟩ | e2
    · obtain ⟨b, f1, f2, f3⟩ := hnew i o1 e2
      exact ⟨b, hsh.b _ _ f1, Ob.sh_rel hsh f2, fun _ => Nat.le_trans r.size f3⟩
    · obtain ⟨b, f1, f2, f3⟩ := r.ob id o e2
      obtain ⟨b', g1', g2⟩ := r.lt e2
      rw [f1] at g1'; injection g1' with g1'; subst g1'
      exact ⟨b, hle.1 _ _ f1, by rw [r1.below b g2]; exact f2.mono hle, f3⟩
  · -- apart
    rcases hget_hjoin (show hget (hjoin g.nx h1 g.heap) id = some o from ho) with ⟨i, o1, rfl, e1, rfl⟩ | e1 <;>
      rcases hget_hjoin (show hget (hjoin g.nx h1 g.heap) id' = some o' from ho') with ⟨i', o1', rfl, e2, rfl⟩ | e2
    · obtain ⟨c, f1, _, _⟩ := hnew i o1 e1
      obtain ⟨c', f1', _, _⟩ := hnew i' o1' e2
      rw [hsh.b _ _ f1] at hb; rw [hsh.b _ _ f1'] at hb'
      injection hb with hb; injection hb' with hb'; subst hb hb'
      exact r1.apart i o1 i' o1' (hsub _ _ e1) (hsub _ _ e2) (fun e => hne (by rw [e])) (allOwn_ok hown e1) _ f1 f1'
    · obtain ⟨c, f1, _, f3⟩ := hnew i o1 e1
      rw [hsh.b _ _ f1] at hb; injection hb with hb; subst hb
      obtain ⟨c', q1, q2⟩ := r.lt e2
      rw [hle.1 _ _ q1] at hb'; injection hb' with hb'; omega
    · obtain ⟨c', f1', _, f3⟩ := hnew i' o1' e2
      rw [hsh.b _ _ f1'] at hb'; injection hb' with hb'; subst hb'
      obtain ⟨c, q1, q2⟩ := r.lt e1
      rw [hle.1 _ _ q1] at hb; injection hb with hb; omega
    · obtain ⟨c, q1, q2⟩ := r.lt e1
      obtain ⟨c', q1', q2'⟩ := r.lt e2
      rw [hle.1 _ _ q1] at hb; rw [hle.1 _ _ q1'] at hb'
      injection hb with hb; injection hb' with hb'; subst hb hb'
      exact r.apart id o id' o' e1 e2 hne ho1 _ q1 q1'
  · have h1 : g.nx + S ≤ id := h1
    have h2 : id < g.lim := h2
    show (if g.nx ≤ id ∧ id < g.nx + S then N1.b (id - g.nx) else N.b id) = none ∧ (if g.nx ≤ id ∧ id < g.nx + S then N1.c (id - g.nx) else N.c id) = none
    rw [if_neg (by omega), if_neg (by omega)]
    exact r.fresh id (by omega) h2
  · show (if g.nx ≤ id ∧ id < g.nx + S then N1.b (id - g.nx) else N.b id) = N.b id ∧ (if g.nx ≤ id ∧ id < g.nx + S then N1.c (id - g.nx) else N.c id) = N.c id
    rw [if_neg (fun h => hid ⟨h.1, by omega⟩), if_neg (fun h => hid ⟨h.1, by omega⟩)]; exact ⟨rfl, rfl⟩
  · show hget (hjoin g.nx h1 g.heap) id = some o
    refine (hget_hjoin_old fun i e => ?_).trans ho
    cases hq : hget h1 i with
    | none => rfl
    | some o1 =>
      exfalso
      obtain ⟨b, q1, _⟩ := hnew i o1 hq
      have hlt : i < S := Classical.byContradiction fun h => by rw [(hN i h).1] at q1; cases q1
      obtain ⟨c, q2, _⟩ := r.lt ho
      rw [← e, (r.fresh (i + g.nx) (by omega) (by omega)).1] at q2; cases q2
/-! ### A run for any number, told for one -/
/-- Variable 15 is x; no lists. -/
def Va.wth (V : Va) (x : Int) : Va := ⟨fun i => if i = 15 then x else V.v i, V.f, fun _ => none⟩
theorem Va.wth_ok {R : Rg} {V : Va} (hR : R.ok V) {x : Int} (h : (R.v 15).1 ≤ x ∧ x ≤ (R.v 15).2) : R.ok (V.wth x) := by
  refine ⟨fun i => ?_, hR.2⟩
  show _ ≤ (if i = 15 then x else V.v i) ∧ (if i = 15 then x else V.v i) ≤ _
  split
  · rename_i e; subst e; exact h
  · exact hR.1 i
/-- e, with s for variable 15. -/
noncomputable def E.sbs (R : Rg) (e : E) (s : E) : E :=
  E.rec (motive := fun _ => Rg → E → E) (fun c _ _ => .k c) (fun c _ _ ia ir R s => (E.smul c (ia R s)).add (ir R s)) (fun i _ s => ife (Nat.beq i 15) s (.atom (.var i)))
    (fun _ ie R s => mkLt0 R [] (ie R s)) (fun _ ie R s => mkEq0 R [] (ie R s)) (fun _ _ _ ic ia ib R s => mkIte (ic R s) (ia R s) (ib R s))
    (fun _ _ ia ib R s => mkMn R [] (ia R s) (ib R s)) (fun _ _ ia ib R s => mkMx R [] (ia R s) (ib R s)) (fun _ _ ia ib R s => mkMul (ia R s) (ib R s))
    (fun _ d ia R s => ife (leI 1 d) (mkDv R [] (ia R s) d) (.atom (.dv (ia R s) d))) (fun _ d ia R s => mkMd R [] (ia R s) d) (fun _ n ia R s => mkShr R (ia R s) n)
    (fun kd _ ia R s => mkWr R [] kd (ia R s)) (fun op kd _ _ ia ib R s => mkBit op kd (ia R s) (ib R s)) (fun f _ _ ia ib R s => .atom (.app f (ia R s) (ib R s))) e R s
theorem E.sbs_ok {R : Rg} {V : Va} (hR : R.ok V) (s : E) : ∀ e : E, (e.sbs R s).den V = e.den (V.wth (s.den V)) := by
  have hF : Fs.ok V [] := fun _ h => by cases h
  intro e
  induction e with
  | k c => rfl
  | t c a r ia ir => show ((E.smul c (a.sbs R s)).add (r.sbs R s)).den V = _; rw [E.den_add, E.den_smul, ia, ir]; rfl
  | var i =>
    show (ife (Nat.beq i 15) s (.atom (.var i))).den V = (if i = 15 then s.den V else V.v i)
    cases h : Nat.beq i 15
    · rw [ife_false, E.den_atom, if_neg (fun e => by rw [e] at h; cases h)]; rfl
    · rw [ife_true, if_pos (Nat.eq_of_beq_eq_true h)]
  | lt0 e ih => show (mkLt0 R [] (e.sbs R s)).den V = _; rw [den_mkLt0 hR hF, ih]; rfl
  | eq0 e ih => show (mkEq0 R [] (e.sbs R s)).den V = _; rw [den_mkEq0 hR hF, ih]; rfl
  | ite c a b ic ia ib => show (mkIte (c.sbs R s) (a.sbs R s) (b.sbs R s)).den V = _; rw [den_mkIte, ic, ia, ib]; rfl
  | mn a b ia ib => show (mkMn R [] (a.sbs R s) (b.sbs R s)).den V = _; rw [den_mkMn hR hF, ia, ib]; rfl
  | mx a b ia ib => show (mkMx R [] (a.sbs R s) (b.sbs R s)).den V = _; rw [den_mkMx hR hF, ia, ib]; rfl
  | mul a b ia ib => show (mkMul (a.sbs R s) (b.sbs R s)).den V = _; rw [den_mkMul, ia, ib]; rfl
  | dv a d ia =>
    show (ife (leI 1 d) (mkDv R [] (a.sbs R s) d) (.atom (.dv (a.sbs R s) d))).den V = _
    cases h : leI 1 d
    · rw [ife_false, E.den_atom]; simp only [E.den, ia]
    · have := leI_iff.1 h
      rw [ife_true, den_mkDv hR hF _ (by omega), ia]; rfl
  | md a d ia => show (mkMd R [] (a.sbs R s) d).den V = _; rw [den_mkMd hR hF, ia]; rfl
  | shr a n ia => show (mkShr R (a.sbs R s) n).den V = _; rw [den_mkShr hR, ia]; rfl
  | wr kd a ia => show (mkWr R [] kd (a.sbs R s)).den V = _; rw [den_mkWr hR hF, ia]; rfl
  | bit op kd a b ia ib => show (mkBit op kd (a.sbs R s) (b.sbs R s)).den V = _; rw [den_mkBit, ia, ib]; rfl
  | app f a b ia ib => show (E.atom (.app f (a.sbs R s) (b.sbs R s))).den V = _; rw [E.den_atom]; simp only [E.den, ia, ib]; rfl
noncomputable def consM {γ : Type} (a : Option γ) (b : Option (List γ)) : Option (List γ) := match a, b with | some y, some m => some (y :: m) | _, _ => none
theorem consM_ok {γ : Type} {a : Option γ} {b : Option (List γ)} {l : List γ} (h : consM a b = some l) : ∃ y m, a = some y ∧ b = some m ∧ l = y :: m := by
  unfold consM at h
  split at h
  · cases h; exact ⟨_, _, rfl, rfl, rfl⟩
  · cases h
noncomputable def omap {β γ : Type} (f : β → Option γ) (l : List β) : Option (List γ) := List.rec (motive := fun _ => Option (List γ)) (some []) (fun x _ ih => consM (f x) ih) l
noncomputable def AV.sbs (R : Rg) (s : E) (n : Nat) : AV → Option AV :=
  Nat.rec (motive := fun _ => AV → Option AV) (fun _ => none) (fun _ ih a => match a with
    | .int kd e => some (.int kd (e.sbs R s))
    | .bool e => some (.bool (e.sbs R s))
    | .ptr id off => some (.ptr id off)
    | .nilptr => some .nilptr
    | .slice id off len k => some (.slice id off len k)
    | .nilslice => some .nilslice
    | .nilfunc => some .nilfunc
    | .agg cs => (match omap ih cs with | some l => some (.agg l) | none => none)
    | .tup cs => (match omap ih cs with | some l => some (.tup l) | none => none)
    | .top => some .top
    | _ => none) n
theorem omap_rels {V V' : Va} {f : AV → Option AV} (hf : ∀ a b v, f a = some b → AV.rel V' N a v → AV.rel V N b v) : ∀ (l m : List AV) (vs : List Value), omap f l = some m → AV.rels V' N l vs → AV.rels V N m vs ∧ m.length = l.length
  | [], m, vs, h, hr => by cases h; exact ⟨rels_nil.2 (rels_nil.1 hr), rfl⟩
  | x :: l, m, vs, h, hr => by
    obtain ⟨y, m', hy, hm, rfl⟩ := consM_ok (show consM (f x) (omap f l) = some m from h)
    obtain ⟨v, vs, rfl, h1, h2⟩ := rels_cons.1 hr
    have := omap_rels hf l m' vs hm h2
    exact ⟨rels_cons' (hf x y v hy h1) this.1, by simp [this.2]⟩
theorem AV.sbs_rel {R : Rg} {V : Va} (hR : R.ok V) (s : E) : ∀ (n : Nat) (a b : AV) (v : Value), a.sbs R s n = some b → a.rel (V.wth (s.den V)) N v → b.rel V N v
  | 0, _, _, _, h, _ => by cases h
  | n + 1, a, b, v, h, hr => by
    cases a with
    | int kd e => cases h; simp only [AV.rel] at hr ⊢; rw [E.sbs_ok hR]; exact hr
    | bool e => cases h; simp only [AV.rel] at hr ⊢; rw [E.sbs_ok hR]; exact hr
    | ptr id off => cases h; simp only [AV.rel] at hr ⊢; exact hr
    | nilptr => cases h; exact hr
    | slice id off len k => cases h; simp only [AV.rel] at hr ⊢; exact hr
    | nilslice => cases h; exact hr
    | nilfunc => cases h; exact hr
    | agg cs =>
      change (match omap (AV.sbs R s n) cs with | some l => some (AV.agg l) | none => none) = some b at h
      split at h
      · rename_i l hl
        cases h
        simp only [AV.rel] at hr ⊢
        obtain ⟨x, e, h1⟩ := hr
        exact ⟨x, e, (omap_rels (fun a b v => AV.sbs_rel hR s n a b v) _ _ _ hl h1).1⟩
      · cases h
    | tup cs =>
      change (match omap (AV.sbs R s n) cs with | some l => some (AV.tup l) | none => none) = some b at h
      split at h
      · rename_i l hl
        cases h
        simp only [AV.rel] at hr ⊢
        obtain ⟨x, e, h1⟩ := hr
        exact ⟨x, e, (omap_rels (fun a b v => AV.sbs_rel hR s n a b v) _ _ _ hl h1).1⟩
      · cases h
    | top => cases h; simp only [AV.rel]
    | xsl _ _ => cases h
    | aptr _ _ => cases h
    | sptr _ _ _ _ _ => cases h
    | map _ => cases h
    | func _ _ _ => cases h
    | str _ => cases h
/-! Blocks of one value. -/
noncomputable def repl (n : Nat) (x : AV) : List AV := Nat.rec [] (fun _ ih => x :: ih) n
theorem repl_eq (n : Nat) (x : AV) : repl n x = List.replicate n x := by
  induction n with
  | zero => rfl
  | succ n ih => show x :: repl n x = _; rw [ih, List.replicate_succ]
noncomputable def allEqA (x : AV) (l : List AV) : Bool := List.rec (motive := fun _ => Bool) true (fun y _ ih => ife (AV.eqb 8 x y) ih false) l
theorem allEqA_ok {x : AV} : ∀ {l : List AV}, allEqA x l = true → l = List.replicate l.length x
  | [], _ => rfl
  | y :: l, h => by
    change ife (AV.eqb 8 x y) (allEqA x l) false = true at h
    cases hb : AV.eqb 8 x y
    · rw [hb] at h; cases h
    · rw [hb] at h
      have := AV.eqb_ok 8 _ _ hb
      subst this
      rw [List.length_cons, List.replicate_succ, ← allEqA_ok h]
noncomputable def rept (l : List AV) : Option (Nat × AV) := match l with
  | x :: m => ife (llong m 15) (ife (allEqA x m) (some (Nat.succ (llen m), x)) none) none
  | [] => none
theorem rept_ok {l : List AV} {q : Nat × AV} (h : rept l = some q) : l = List.replicate q.1 q.2 := by
  unfold rept at h
  split at h
  · rename_i x m
    cases h1 : llong m 15
    · rw [h1] at h; cases h
    · cases h2 : allEqA x m
      · rw [h1, h2] at h; cases h
      · rw [h1, h2] at h; cases h
        show x :: m = List.replicate (Nat.succ (llen m)) x
        rw [llen_eq, List.replicate_succ, ← allEqA_ok h2]
  · cases h
noncomputable def sbsL (R : Rg) (s : E) (cs : List AV) : Option (List AV) := match rept cs with
  | some q => (match AV.sbs R s 6 q.2 with | some y => some (repl q.1 y) | none => none)
  | none => omap (AV.sbs R s 6) cs
theorem sbsL_ok {R : Rg} {V : Va} (hR : R.ok V) {s : E} {l m : List AV} {vs : List Value} (h : sbsL R s l = some m) (hr : AV.rels (V.wth (s.den V)) N l vs) : AV.rels V N m vs ∧ m.length = l.length := by
  unfold sbsL at h
  split at h
  · rename_i q hq
    split at h
    · rename_i y hy
      cases h
      have hl := rept_ok hq
      rw [hl] at hr ⊢
      rw [repl_eq]
      refine ⟨?_, by simp⟩
      have : ∀ (n : Nat) (vs : List Value), AV.rels (V.wth (s.den V)) N (List.replicate n q.2) vs → AV.rels V N (List.replicate n y) vs := by
        intro n
        induction n with
        | zero => intro vs h; exact rels_nil.2 (rels_nil.1 h)
        | succ n ih =>
          intro vs h
          rw [List.replicate_succ] at h ⊢
          obtain ⟨v, vs, rfl, h1, h2⟩ := rels_cons.1 h
          exact rels_cons' (AV.sbs_rel hR s 6 _ _ _ hy h1) (ih vs h2)
      exact this _ _ hr
    · cases h
  · exact omap_rels (fun a b v => AV.sbs_rel hR s 6 a b v) _ _ _ h hr
noncomputable def Ob.sbs (R : Rg) (s : E) (o : Ob) : Option Ob := match o with
  | .cells cs e opn own => (match sbsL R s cs with | some l => some (.cells l e opn own) | none => none)
  | .emap own => some (.emap own)
  | .row _ _ _ => none
theorem Ob.sbs_ok {R : Rg} {V : Va} (hR : R.ok V) {s : E} {o o' : Ob} (h : o.sbs R s = some o') : o'.own = o.own ∧ ∀ {id : Nat} {x : Option Obj}, o.rel (V.wth (s.den V)) N id x → o'.rel V N id x := by
  cases o with
  | cells cs el opn own =>
    change (match sbsL R s cs with | some l => some (Ob.cells l el opn own) | none => none) = some o' at h
    split at h
    · rename_i l hl
      cases h
      refine ⟨rfl, fun hr => ?_⟩
      obtain ⟨c, fr, h1, h2, h3, h4, h5, h6⟩ := hr
      have := sbsL_ok hR hl h6
      have e : l.length = cs.length := this.2
      refine ⟨c, fr, h1, h2, by rw [e]; exact h3, fun ho => by rw [e]; exact h4 ho, h5, ?_⟩
      rw [e]; exact this.1
    · cases h
  | emap own =>
    cases h
    exact ⟨rfl, fun hr => hr⟩
  | row => cases h
noncomputable def psbs (R : Rg) (s : E) (p : Nat × Ob) : Option (Nat × Ob) := match p.2.sbs R s with | some o => some (p.1, o) | none => none
noncomputable def hsbs (R : Rg) (s : E) (h : Heap) : Option Heap := omap (psbs R s) h
theorem hsbs_get {R : Rg} {s : E} : ∀ {h h' : Heap}, hsbs R s h = some h' → ∀ id o', hget h' id = some o' → ∃ o, hget h id = some o ∧ o.sbs R s = some o'
  | [], h', e, id, o', ho => by cases e; cases ho
  | p :: l, h', e, id, o', ho => by
    obtain ⟨y, m, hy, hm, rfl⟩ := consM_ok (show consM (psbs R s p) (hsbs R s l) = some h' from e)
    unfold psbs at hy
    split at hy
    · rename_i q hp
      cases hy
      rw [hget_cons] at ho ⊢
      split at ho
      · rename_i e; rw [if_pos e]; cases ho; exact ⟨p.2, rfl, hp⟩
      · rename_i e; rw [if_neg e]; exact hsbs_get hm id o' ho
    · cases hy
/-- A world that stands for g with x stands for what is told of x. -/
theorem Grel.sbs {R : Rg} {V : Va} (hR : R.ok V) {s : E} {g : G} (r : Grel (V.wth (s.den V)) N W0 g w) (ha : ArgsOk V W0) {h' : Heap} (h : hsbs R s g.heap = some h') : Grel V N W0 ⟨h', g.nx, g.lim, [], g.ro, []⟩ w := by
  refine ⟨⟨r.os.1, ha⟩, r.tape, r.output, r.size, r.below, r.soft, fun id o' ho' => ?_, fun id o id' o' h1 h2 hne how => ?_, r.fresh, fun _ h => by cases h⟩
  · obtain ⟨o, ho, hs⟩ := hsbs_get h id o' ho'
    obtain ⟨b, h1, h2, h3⟩ := r.ob id o ho
    have := Ob.sbs_ok (N := N) hR hs
    exact ⟨b, h1, this.2 h2, fun hw => h3 (by rw [← this.1]; exact hw)⟩
  · obtain ⟨p, hp, hs⟩ := hsbs_get h id o h1
    obtain ⟨p', hp', hs'⟩ := hsbs_get h id' o' h2
    exact r.apart id p id' p' hp hp' hne (by rw [← (Ob.sbs_ok (N := N) hR hs).1]; exact how)
end
end Go.RX
