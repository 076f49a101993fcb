/- RX, part 4: blocks and worlds; loads, stores and new blocks. -/
import Derived.Test.YtoheklommpochaaRxV
namespace Go.RX

/-- The lists that came as arguments: where they lie, what they hold. -/
def argVar (id i : Nat) : Nat := (i + 1) * 16 + id
inductive Ob where
  | cells (cs : List AV) (elem : TypeId) (opn own : Bool)
  | emap (own : Bool)
  /-- The numbers of a list that came in, and these behind them. -/
  | row (i : Nat) (tail : List Int) (own : Bool)
  deriving Inhabited
def Ob.own : Ob → Bool
  | .cells _ _ _ o => o
  | .emap o => o
  | .row _ _ o => o
def Ob.rel (V : Va) (N : Env) (id : Nat) (o : Ob) (x : Option Obj) : Prop :=
  match o with
  | .cells cs elem opn own => ∃ c fr, x = some (.cells c elem fr) ∧ (own = true → fr = (0, 0)) ∧ cs.length ≤ c.size ∧ (opn = false → c.size = cs.length) ∧ N.c id = some c.size ∧ AV.rels V N cs (c.toList.take cs.length)
  | .emap _ => ∃ k, x = some (.map #[] k)
  | .row i tl own => ∃ c el fr, x = some (.cells c el fr) ∧ (own = true → fr = (0, 0)) ∧ (∀ j : Nat, (j : Int) < V.v i → c[j]? = some (.int .i64 (V.v (argVar i j)))) ∧ ∀ (j : Nat) (t : Int), tl[j]? = some t → c[(V.v i).toNat + j]? = some (.int .i64 t)

/-- The blocks: numbers fall. -/
noncomputable def hget (h : List (Nat × Ob)) (id : Nat) : Option Ob :=
  List.rec (motive := fun _ => Option Ob) none (fun p _ ih => ife (Nat.beq p.1 id) (some p.2) ih) h
noncomputable def hdel (h : List (Nat × Ob)) (id : Nat) : List (Nat × Ob) :=
  List.rec (motive := fun _ => List (Nat × Ob)) [] (fun p _ ih => ife (Nat.beq p.1 id) ih (p :: ih)) h
/-- Put: over the block of this number, or at its place. -/
noncomputable def hput (h : List (Nat × Ob)) (id : Nat) (o : Ob) : List (Nat × Ob) :=
  List.rec (motive := fun _ => List (Nat × Ob)) [(id, o)] (fun p l ih => ife (Nat.beq p.1 id) ((id, o) :: l) (ife (Nat.ble p.1 id) ((id, o) :: p :: l) (p :: ih))) h
theorem hget_cons (p : Nat × Ob) (l : List (Nat × Ob)) (id : Nat) : hget (p :: l) id = if p.1 = id then some p.2 else hget l id := by
  show ife (Nat.beq p.1 id) (some p.2) (hget l id) = _
  cases h : Nat.beq p.1 id
  · have : ¬ p.1 = id := fun h' => by rw [h'] at h; simp at h
    rw [if_neg this]; rfl
  · rw [if_pos (Nat.eq_of_beq_eq_true h)]; rfl
theorem hget_hput (h : List (Nat × Ob)) (id : Nat) (o : Ob) (j : Nat) : hget (hput h id o) j = if id = j then some o else hget h j := by
  induction h with
  | nil => show hget [(id, o)] j = _; rw [hget_cons]
  | cons p l ih =>
    show hget (ife (Nat.beq p.1 id) ((id, o) :: l) (ife (Nat.ble p.1 id) ((id, o) :: p :: l) (p :: hput l id o))) j = _
    cases h1 : Nat.beq p.1 id
    · have hne : ¬ p.1 = id := fun h' => by rw [h'] at h1; simp at h1
      cases h2 : Nat.ble p.1 id
      · simp only [ife_false, hget_cons, ih]
        split <;> split <;> first | rfl | omega
      · simp only [ife_false, ife_true, hget_cons]
    · have he := Nat.eq_of_beq_eq_true h1
      simp only [ife_true, hget_cons]
      by_cases hj : id = j
      · simp [hj]
      · simp [hj, he]
theorem hget_hdel (h : List (Nat × Ob)) (id j : Nat) : hget (hdel h id) j = if id = j then none else hget h j := by
  induction h with
  | nil => show none = _; split <;> rfl
  | cons p l ih =>
    show hget (ife (Nat.beq p.1 id) (hdel l id) (p :: hdel l id)) j = _
    cases h1 : Nat.beq p.1 id
    · have hne : ¬ p.1 = id := fun h' => by rw [h'] at h1; simp at h1
      simp only [ife_false, hget_cons, ih]
      split <;> split <;> first | rfl | omega
    · have he := Nat.eq_of_beq_eq_true h1
      simp only [ife_true, hget_cons, ih]
      split <;> first | rfl | (split <;> first | rfl | omega)

theorem hdel_hput (h : List (Nat × Ob)) (id : Nat) (o : Ob) : hdel (hput h id o) id = hdel h id := by
  have self : ∀ (x : Ob) (l : List (Nat × Ob)), hdel ((id, x) :: l) id = hdel l id := fun x l => by
    show ife (Nat.beq id id) (hdel l id) ((id, x) :: hdel l id) = _
    rw [show Nat.beq id id = true from by simp]; rfl
  induction h with
  | nil => exact self o []
  | cons p l ih =>
    show hdel (ife (Nat.beq p.1 id) ((id, o) :: l) (ife (Nat.ble p.1 id) ((id, o) :: p :: l) (p :: hput l id o))) id = ife (Nat.beq p.1 id) (hdel l id) (p :: hdel l id)
    cases h1 : Nat.beq p.1 id
    · cases h2 : Nat.ble p.1 id
      · simp only [ife_false]
        show ife (Nat.beq p.1 id) (hdel (hput l id o) id) (p :: hdel (hput l id o) id) = _
        rw [h1, ih]; rfl
      · simp only [ife_false, ife_true]
        rw [self]
        show ife (Nat.beq p.1 id) (hdel l id) (p :: hdel l id) = _
        rw [h1]; rfl
    · simp only [ife_true]; exact self o l

structure G where
  heap : List (Nat × Ob)
  nx : Nat
  lim : Nat
  fs : List E
  /-- Blocks that stay as they are. -/
  ro : List Nat := []
  /-- Blocks written so far (a hint: nothing hangs on it). -/
  wl : List Nat := []
  deriving Inhabited

def ArgsOk (V : Va) (W : World) : Prop := V.f = tabF ∧ ∀ id ad (i : Nat), V.a id = some ad → (i : Int) < V.v id → ad.block < W.heap.size ∧ W.cell? (ad.add i) = some (.int .i64 (V.v (argVar id i)))
theorem addr_block (a : Addr) (n : Nat) : (a.add n).block = a.block := by unfold Addr.add; split <;> rfl
theorem ArgsOk.keep {V : Va} {W W' : World} (h : ArgsOk V W) (hs : W.heap.size ≤ W'.heap.size) (hb : ∀ b, b < W.heap.size → W'.heap[b]? = W.heap[b]?) : ArgsOk V W' := ⟨h.1, fun id ad i h1 h2 => by
  obtain ⟨k1, k2⟩ := h.2 id ad i h1 h2
  refine ⟨by omega, ?_⟩
  rw [← k2]
  unfold World.cell?
  rw [hb _ (by rw [addr_block]; exact k1)]⟩
/-- The world stands for G over the base world W0. -/
structure Grel (V : Va) (N : Env) (W0 : World) (g : G) (w : World) : Prop where
  os : w.os = W0.os ∧ ArgsOk V W0
  tape : w.tape = W0.tape
  output : w.output = W0.output
  size : W0.heap.size ≤ w.heap.size
  below : ∀ b, b < W0.heap.size → w.heap[b]? = W0.heap[b]?
  soft : ∀ b, W0.heap.size ≤ b → ∀ c e fr, w.heap[b]? = some (.cells c e fr) → fr = (0, 0)
  ob : ∀ id o, hget g.heap id = some o → ∃ b, N.b id = some b ∧ o.rel V N id w.heap[b]? ∧ (o.own = true → W0.heap.size ≤ b)
  apart : ∀ id o id' o', hget g.heap id = some o → hget g.heap id' = some o' → id ≠ id' → o.own = true → ∀ b, N.b id = some b → N.b id' ≠ some b
  fresh : ∀ id, g.nx ≤ id → id < g.lim → N.b id = none ∧ N.c id = none
  facts : Fs.ok V g.fs

/-- From (g, N) to (g', N'): new numbers are taken from g's own range. -/
structure Ext (g : G) (N : Env) (g' : G) (N' : Env) : Prop where
  le : N.le N'
  out : ∀ id, ¬ (g.nx ≤ id ∧ id < g.lim) → N'.b id = N.b id ∧ N'.c id = N.c id
  nx : g.nx ≤ g'.nx
  lim : g'.lim = g.lim
  ro : g'.ro = g.ro
  keep : ∀ id ∈ g.ro, ∀ o, hget g.heap id = some o → hget g'.heap id = some o
theorem Ext.refl (g : G) (N : Env) : Ext g N g N := ⟨Env.le.refl N, fun _ _ => ⟨rfl, rfl⟩, Nat.le_refl _, rfl, rfl, fun _ _ _ h => h⟩
noncomputable def noneEq (id : Nat) (l : List Nat) : Bool := List.rec (motive := fun _ => Bool) true (fun x _ ih => ife (Nat.beq x id) false ih) l
theorem noneEq_ok {id : Nat} : ∀ {l : List Nat}, noneEq id l = true → ∀ x ∈ l, x ≠ id
  | [], _, x, hx => by cases hx
  | y :: l, h, x, hx => by
    change ife (Nat.beq y id) false (noneEq id l) = true at h
    cases hb : Nat.beq y id
    · rw [hb] at h
      rcases List.mem_cons.1 hx with rfl | hx
      · intro e; subst e; simp at hb
      · exact noneEq_ok h x hx
    · rw [hb] at h; cases h
theorem Ext.trans {g g' g'' : G} {N N' N'' : Env} (h : Ext g N g' N') (h' : Ext g' N' g'' N'') : Ext g N g'' N'' :=
  ⟨h.le.trans h'.le, fun id hi => by
    have h1 := h'.out id (fun hx => hi ⟨Nat.le_trans h.nx hx.1, by rw [← h.lim]; exact hx.2⟩)
    have h2 := h.out id hi
    exact ⟨h1.1.trans h2.1, h1.2.trans h2.2⟩, Nat.le_trans h.nx h'.nx, h'.lim.trans h.lim, h'.ro.trans h.ro, fun id hi o ho => h'.keep id (by rw [h.ro]; exact hi) o (h.keep id hi o ho)⟩

section
variable {V : Va} {N : Env} {W0 : World} {g : G} {w : World}
theorem Ob.rel.mono {N N' : Env} (h : N.le N') {id : Nat} {o : Ob} {x : Option Obj} (r : o.rel V N id x) : o.rel V N' id x := by
  cases o with
  | cells cs elem opn own => obtain ⟨c, fr, h1, h2, h3, h4, h5, h6⟩ := r; exact ⟨c, fr, h1, h2, h3, h4, h.2 _ _ h5, AV.rels.mono h _ _ h6⟩
  | emap => exact r
  | row => exact r
/-- More facts. -/
theorem Grel.fact (r : Grel V N W0 g w) {e : E} (h : 0 ≤ e.den V) : Grel V N W0 { g with fs := e :: g.fs } w :=
  { r with facts := fun x hx => by rcases List.mem_cons.1 hx with rfl | hx; exact h; exact r.facts x hx }
theorem Grel.drew (r : Grel V N W0 g w) (n : Nat) : Grel V N W0 g { w with drawn := n } :=
  { os := r.os, tape := r.tape, output := r.output, size := r.size, below := r.below, soft := r.soft, ob := r.ob, apart := r.apart, fresh := r.fresh, facts := r.facts }

/-- A new block. -/
def Env.bind (N : Env) (id b n : Nat) : Env := ⟨fun i => if i = id then some b else N.b i, fun i => if i = id then some n else N.c i⟩
theorem Env.le_bind {N : Env} {id b n : Nat} (h : N.b id = none) (h' : N.c id = none) : N.le (N.bind id b n) := by
  refine ⟨fun i m hi => ?_, fun i m hi => ?_⟩ <;> simp only [Env.bind]
  · rw [if_neg (fun e => by subst e; rw [h] at hi; cases hi)]; exact hi
  · rw [if_neg (fun e => by subst e; rw [h'] at hi; cases hi)]; exact hi
noncomputable def G.new (g : G) (o : Ob) : G := G.rec (fun heap nx lim fs ro wl => ⟨hput heap nx o, Nat.succ nx, lim, fs, ro, wl⟩) g
/-! The parts of a state are handed on as they are: no chain of projections grows. -/
noncomputable def G.setH (g : G) (h : List (Nat × Ob)) : G := G.rec (fun _ nx lim fs ro wl => ⟨h, nx, lim, fs, ro, wl⟩) g
noncomputable def G.setHW (g : G) (h : List (Nat × Ob)) (id : Nat) : G := G.rec (fun _ nx lim fs ro wl => ⟨h, nx, lim, fs, ro, id :: wl⟩) g
noncomputable def G.setHNW (g : G) (h : List (Nat × Ob)) (id : Nat) : G := G.rec (fun _ nx lim fs ro wl => ⟨h, Nat.succ nx, lim, fs, ro, id :: wl⟩) g
noncomputable def G.setE (g : G) (h : List (Nat × Ob)) (n : Nat) (l : List Nat) : G := G.rec (fun _ _ lim fs ro wl => ⟨h, n, lim, fs, ro, l ++ wl⟩) g
noncomputable def G.setW0 (g : G) : G := G.rec (fun heap nx lim fs ro _ => ⟨heap, nx, lim, fs, ro, []⟩) g
noncomputable def G.addF (g : G) (l : List E) : G := G.rec (fun heap nx lim fs ro wl => ⟨heap, nx, lim, l ++ fs, ro, wl⟩) g
noncomputable def G.addF1 (g : G) (e : E) : G := G.rec (fun heap nx lim fs ro wl => ⟨heap, nx, lim, e :: fs, ro, wl⟩) g
noncomputable def G.addF2 (g : G) (e f : E) : G := G.rec (fun heap nx lim fs ro wl => ⟨heap, nx, lim, e :: f :: fs, ro, wl⟩) g
/-- The number of cells of a block (0: none). -/
def objSize : Obj → Nat
  | .cells c _ _ => c.size
  | _ => 0
theorem Grel.new (r : Grel V N W0 g w) (hl : g.nx < g.lim) {o : Ob} {x : Obj} (_ho : o.own = true) (hx : ∀ c e fr, x = .cells c e fr → fr = (0, 0))
    (h : o.rel V (N.bind g.nx w.heap.size (objSize x)) g.nx (some x)) :
    Grel V (N.bind g.nx w.heap.size (objSize x)) W0 (g.new o) (w.alloc x) ∧ Ext g N (g.new o) (N.bind g.nx w.heap.size (objSize x)) := by
  have hf := r.fresh g.nx (Nat.le_refl _) hl
  have hle : N.le (N.bind g.nx w.heap.size (objSize x)) := Env.le_bind hf.1 hf.2
  have hsz : (w.alloc x).heap = w.heap.push x := rfl
  have hnx : ∀ id o, hget g.heap id = some o → ∃ b, N.b id = some b ∧ b < w.heap.size := by
    intro id o hid
    obtain ⟨b, h1, h2, _⟩ := r.ob id o hid
    refine ⟨b, h1, ?_⟩
    rcases Nat.lt_or_ge b w.heap.size with hb | hb
    · exact hb
    · rw [Array.getElem?_eq_none hb] at h2
      cases o with
      | cells => obtain ⟨c, fr, h3, _⟩ := h2; cases h3
      | emap => obtain ⟨k, h3⟩ := h2; cases h3
      | row => obtain ⟨c, el, fr, h3, _⟩ := h2; cases h3
  refine ⟨⟨r.os, r.tape, r.output, by rw [hsz]; simp; have := r.size; omega, fun b hb => ?_, fun b hb c e fr he => ?_, ?_, ?_, ?_, r.facts⟩, hle, ?_, by simp [G.new], rfl, rfl, fun id _ o' ho' => ?_⟩
  · rw [hsz, Array.getElem?_push, if_neg (by have := r.size; omega)]; exact r.below b hb
  · rw [hsz, Array.getElem?_push] at he
    split at he
    · injection he with he; exact hx c e fr he
    · exact r.soft b hb c e fr he
  · intro id o' hid
    simp only [G.new, hget_hput] at hid
    split at hid
    · rename_i e; subst e; injection hid with hid; subst hid
      exact ⟨w.heap.size, by simp [Env.bind], by rw [hsz]; simpa using h, fun _ => r.size⟩
    · obtain ⟨b, h1, h2, h3⟩ := r.ob id o' hid
      obtain ⟨b', h1', hb⟩ := hnx id o' hid
      rw [h1] at h1'; injection h1' with h1'; subst h1'
      refine ⟨b, hle.1 _ _ h1, ?_, h3⟩
      rw [hsz, Array.getElem?_push, if_neg (by omega)]
      exact h2.mono hle
  · intro id o1 id' o2 h1 h2 hne hown b hb hb'
    simp only [G.new, hget_hput] at h1 h2
    simp only [Env.bind] at hb hb'
    split at h1
    · rename_i e; subst e
      rw [if_neg hne] at h2
      rw [if_pos rfl] at hb
      rw [if_neg (Ne.symm hne)] at hb'
      injection hb with hb; subst hb
      obtain ⟨b', h1', hb1⟩ := hnx id' o2 h2
      rw [hb'] at h1'; injection h1' with h1'; omega
    · rename_i hn1
      rw [if_neg (Ne.symm hn1)] at hb
      split at h2
      · rename_i e; subst e
        rw [if_pos rfl] at hb'
        injection hb' with hb'; subst hb'
        obtain ⟨b', h1', hb1⟩ := hnx id o1 h1
        rw [hb] at h1'; injection h1' with h1'; omega
      · rename_i hn2
        rw [if_neg (Ne.symm hn2)] at hb'
        exact r.apart id o1 id' o2 h1 h2 hne hown b hb hb'
  · intro id h1 h2
    simp only [G.new] at h1 h2
    have := r.fresh id (by omega) h2
    simp only [Env.bind]
    rw [if_neg (by omega), if_neg (by omega)]; exact this
  · intro id hid
    simp only [Env.bind]
    rw [if_neg (fun e => hid ⟨by omega, by omega⟩), if_neg (fun e => hid ⟨by omega, by omega⟩)]; exact ⟨rfl, rfl⟩
  · show hget (hput g.heap g.nx o) id = some o'
    rw [hget_hput, if_neg]; exact ho'
    intro e; subst e
    obtain ⟨b, h1, _⟩ := r.ob _ o' ho'
    rw [hf.1] at h1; cases h1

theorem Grel.wl (r : Grel V N W0 g w) (l : List Nat) : Grel V N W0 { g with wl := l } w :=
  ⟨r.os, r.tape, r.output, r.size, r.below, r.soft, r.ob, r.apart, r.fresh, r.facts⟩
/-- A block's cells. -/
theorem Grel.cells (r : Grel V N W0 g w) {id : Nat} {cs : List AV} {elem : TypeId} {opn own : Bool} (h : hget g.heap id = some (.cells cs elem opn own)) :
    ∃ b c fr, N.b id = some b ∧ w.heap[b]? = some (.cells c elem fr) ∧ (own = true → fr = (0, 0) ∧ W0.heap.size ≤ b) ∧ cs.length ≤ c.size ∧ (opn = false → c.size = cs.length) ∧ N.c id = some c.size ∧ AV.rels V N cs (c.toList.take cs.length) := by
  obtain ⟨b, h1, ⟨c, fr, h2, h3, h4, h5, h6, h7⟩, h8⟩ := r.ob id _ h
  exact ⟨b, c, fr, h1, h2, fun ho => ⟨h3 ho, h8 ho⟩, h4, h5, h6, h7⟩

/-- A block written over. -/
theorem Grel.write (r : Grel V N W0 g w) {id : Nat} {cs cs' : List AV} {elem : TypeId} {opn : Bool} (h : hget g.heap id = some (.cells cs elem opn true)) {b : Nat} (hb : N.b id = some b)
    {c c' : Array Value} (hc : w.heap[b]? = some (.cells c elem (0, 0))) (hs : c'.size = c.size) (hlen : cs'.length ≤ c.size) (hop : opn = false → c.size = cs'.length)
    (hrel : AV.rels V N cs' (c'.toList.take cs'.length)) :
    Grel V N W0 { g with heap := hput g.heap id (.cells cs' elem opn true) } { w with heap := w.heap.setIfInBounds b (.cells c' elem (0, 0)) } := by
  obtain ⟨b0, h1, ⟨c0, fr, h2, h3, h4, h5, h6, h7⟩, h8⟩ := r.ob id _ h
  rw [hb] at h1; injection h1 with h1; subst h1
  have hbW : W0.heap.size ≤ b := h8 rfl
  rw [hc] at h2; injection h2 with h2; injection h2 with h2a h2b h2c; subst h2a
  have hblt : b < w.heap.size := by
    rcases Nat.lt_or_ge b w.heap.size with hb | hb
    · exact hb
    · rw [Array.getElem?_eq_none hb] at hc; cases hc
  refine ⟨r.os, r.tape, r.output, by simpa using r.size, fun b' hb' => ?_, fun b' hb' cc e f he => ?_, ?_, ?_, r.fresh, r.facts⟩
  · rw [Array.getElem?_setIfInBounds, if_neg (by omega)]; exact r.below b' hb'
  · rw [Array.getElem?_setIfInBounds] at he
    split at he
    · injection he with he; injection he with _ _ he; exact he.symm
    · exact r.soft b' hb' cc e f he
  · intro id' o' hid
    simp only [hget_hput] at hid
    split at hid
    · rename_i e; subst e; injection hid with hid; subst hid
      refine ⟨b, hb, ⟨c', (0, 0), by simp [hblt], fun _ => rfl, by omega, fun ho => by rw [hs]; exact hop ho, by rw [hs]; exact h6, hrel⟩, fun _ => hbW⟩
    · rename_i hne
      obtain ⟨b1, g1, g2, g3⟩ := r.ob id' o' hid
      refine ⟨b1, g1, ?_, g3⟩
      have : b ≠ b1 := fun e => by subst e; exact r.apart id _ id' o' h hid hne rfl b hb g1
      rw [Array.getElem?_setIfInBounds, if_neg this]; exact g2
  · intro i1 o1 i2 o2 e1 e2 hne hown b1 hb1
    simp only [hget_hput] at e1 e2
    have key : ∀ (i : Nat) (o : Ob), (if id = i then some (Ob.cells cs' elem opn true) else hget g.heap i) = some o → ∃ o', hget g.heap i = some o' ∧ o'.own = o.own := by
      intro i o ho
      split at ho
      · rename_i e; subst e; injection ho with ho; subst ho; exact ⟨_, h, rfl⟩
      · exact ⟨o, ho, rfl⟩
    obtain ⟨o1', f1, f1'⟩ := key _ _ e1
    obtain ⟨o2', f2, _⟩ := key _ _ e2
    exact r.apart i1 o1' i2 o2' f1 f2 hne (by rw [f1']; exact hown) b1 hb1
/-- A block forgotten. -/
theorem Grel.del (r : Grel V N W0 g w) (id : Nat) : Grel V N W0 { g with heap := hdel g.heap id } w := by
  refine { r with ob := fun i o h => ?_, apart := fun i o i' o' h h' => ?_ }
  · simp only [hget_hdel] at h
    split at h
    · cases h
    · exact r.ob i o h
  · simp only [hget_hdel] at h h'
    split at h
    · cases h
    · split at h'
      · cases h'
      · exact r.apart i o i' o' h h'
end

/-! ### Loads and stores of several cells -/
theorem cell_at {w : World} {b : Nat} {c : Array Value} {e : TypeId} {fr : Nat × Nat} (h : w.heap[b]? = some (.cells c e fr)) (o : Nat) : w.cell? ⟨b, o, none⟩ = c[o]? := by
  simp [World.cell?, h]
theorem addr_add (b o n : Nat) : (⟨b, o, none⟩ : Addr).add n = ⟨b, o + n, none⟩ := by
  unfold Addr.add; split
  · rename_i h; subst h; rfl
  · rfl
theorem run_loadCellsFrom {P : Program} {w : World} {b : Nat} {c : Array Value} {e : TypeId} {fr : Nat × Nat} (h : w.heap[b]? = some (.cells c e fr)) (o : Nat) :
    ∀ (n i : Nat) (acc : Array Value), o + i + n ≤ c.size → (loadCellsFrom ⟨b, o, none⟩ i n acc).run P w = .ok (acc ++ ((c.toList.drop (o + i)).take n).toArray) w
  | 0, i, acc, _ => by simp [loadCellsFrom]
  | n + 1, i, acc, hl => by
    have hlt : o + i < c.size := by omega
    simp only [loadCellsFrom, Sem.run_bind, run_load, addr_add, cell_at h, Array.getElem?_eq_getElem hlt, Result.andThen_ok]
    rw [run_loadCellsFrom h o n (i + 1) _ (by omega)]
    congr 1
    have : c.toList.drop (o + i) = c[o + i] :: c.toList.drop (o + (i + 1)) := by
      rw [← Array.getElem_toList]; exact List.drop_eq_getElem_cons (by simpa using hlt)
    rw [this, List.take_succ_cons]
    apply Array.ext'
    simp
theorem run_loadCells {P : Program} {w : World} {b : Nat} {c : Array Value} {e : TypeId} {fr : Nat × Nat} (h : w.heap[b]? = some (.cells c e fr)) {o n : Nat} (hl : o + n ≤ c.size) :
    (loadCells ⟨b, o, none⟩ n).run P w = .ok ((c.toList.drop o).take n).toArray w := by
  unfold loadCells
  rw [run_loadCellsFrom h o n 0 #[] (by simpa using hl)]
  simp
/-- c with vs laid from o on. -/
def splice (c : Array Value) (o : Nat) (vs : List Value) : Array Value := (c.toList.take o ++ vs ++ c.toList.drop (o + vs.length)).toArray
theorem splice_size {c : Array Value} {o : Nat} {vs : List Value} (h : o + vs.length ≤ c.size) : (splice c o vs).size = c.size := by
  simp [splice]; omega
theorem setCell_at {w : World} {b : Nat} {c : Array Value} {e : TypeId} {fr : Nat × Nat} (h : w.heap[b]? = some (.cells c e fr)) (o : Nat) (v : Value) :
    w.setCell ⟨b, o, none⟩ v = { w with heap := w.heap.setIfInBounds b (.cells (c.setIfInBounds o v) e fr) } := by
  have hb : b < w.heap.size := by
    rcases Nat.lt_or_ge b w.heap.size with hb | hb
    · exact hb
    · rw [Array.getElem?_eq_none hb] at h; cases h
  have hb' : w.heap[b] = .cells c e fr := by rw [Array.getElem?_eq_getElem hb] at h; injection h
  unfold World.setCell
  congr 1
  apply Array.ext_getElem?
  intro i
  simp only [Array.getElem?_modify, Array.getElem?_setIfInBounds]
  split
  · rename_i e; subst e; simp [hb, hb']
  · rfl
theorem splice_cons {c : Array Value} {k : Nat} {v : Value} {vs : List Value} (h : k < c.size) : splice (c.setIfInBounds k v) (k + 1) vs = splice c k (v :: vs) := by
  unfold splice
  congr 1
  rw [Array.toList_setIfInBounds, List.set_eq_take_append_cons_drop, if_pos (by simpa using h)]
  have e1 : (c.toList.take k).length = k := by simp; omega
  have e2 : (c.toList.take k ++ v :: c.toList.drop (k + 1)).take (k + 1) = c.toList.take k ++ [v] := by
    rw [List.take_append, e1, List.take_of_length_le (by omega), Nat.add_sub_cancel_left]; rfl
  have e3 : (c.toList.take k ++ v :: c.toList.drop (k + 1)).drop (k + 1 + vs.length) = c.toList.drop (k + (vs.length + 1)) := by
    rw [List.drop_append, e1, List.drop_eq_nil_of_le (by omega), show k + 1 + vs.length - k = vs.length + 1 from by omega, List.drop_succ_cons, List.drop_drop]
    simp; congr 1; omega
  rw [e2, e3]
  simp
theorem run_storeCells {P : Program} : ∀ (vs : List Value) {w : World} {b : Nat} {c : Array Value} {e : TypeId} (_ : w.heap[b]? = some (.cells c e (0, 0))) (o i : Nat) (_ : o + i + vs.length ≤ c.size)
    (_ : ∀ v ∈ vs, v.oneCell' = true), (storeCells ⟨b, o, none⟩ vs i).run P w = .ok () { w with heap := w.heap.setIfInBounds b (.cells (splice c (o + i) vs) e (0, 0)) }
  | [], w, b, c, e, h, o, i, _, _ => by
    have hb : b < w.heap.size := by
      rcases Nat.lt_or_ge b w.heap.size with hb | hb
      · exact hb
      · rw [Array.getElem?_eq_none hb] at h; cases h
    have hb' : w.heap[b] = .cells c e (0, 0) := by rw [Array.getElem?_eq_getElem hb] at h; injection h
    show Result.ok () w = _
    congr 1
    have : splice c (o + i) [] = c := by simp [splice]
    rw [this, ← hb']
    have : w.heap.setIfInBounds b w.heap[b] = w.heap := by
      apply Array.ext_getElem?
      intro j
      rw [Array.getElem?_setIfInBounds]
      split
      · rename_i e; subst e; exact (Array.getElem?_eq_getElem hb).symm
      · rfl
    rw [this]
  | v :: vs, w, b, c, e, h, o, i, hl, hv => by
    simp only [List.length_cons] at hl
    have hlt : o + i < c.size := by omega
    have hb : b < w.heap.size := by
      rcases Nat.lt_or_ge b w.heap.size with hb | hb
      · exact hb
      · rw [Array.getElem?_eq_none hb] at h; cases h
    have hfz : w.frozen? ⟨b, o + i, none⟩ = false := by simp [World.frozen?, h]
    simp only [storeCells, Sem.run_bind, addr_add]
    rw [run_store _ _ _ _ _ (hv v List.mem_cons_self), cell_at h, Array.getElem?_eq_getElem hlt]
    simp only [hfz, Bool.false_eq_true, if_false, Result.andThen_ok]
    rw [setCell_at h]
    rw [run_storeCells vs (w := { w with heap := w.heap.setIfInBounds b (.cells (c.setIfInBounds (o + i) v) e (0, 0)) }) (b := b) (c := c.setIfInBounds (o + i) v) (e := e) (by simp [hb]) o (i + 1) (by simp; omega)
      (fun u hu => hv u (List.mem_cons_of_mem _ hu))]
    congr 2
    rw [Array.setIfInBounds_setIfInBounds, ← Nat.add_assoc, splice_cons hlt]
end Go.RX
