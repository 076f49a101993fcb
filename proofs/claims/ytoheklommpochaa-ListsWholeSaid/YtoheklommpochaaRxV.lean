/- RX, part 3: abstract values, blocks, worlds; what they stand for. -/
import Derived.Test.YtoheklommpochaaRxR
import Derived.Laws.StructEq
import Derived.Laws.NewBlocks
import Derived.RowKit3
namespace Go.RX
set_option linter.unusedVariables false

inductive Cap where
  | lit (n : Nat)
  | full (esz : Nat)
  | any
  deriving Inhabited

inductive AV where
  | int (kd : IntKind) (e : E)
  | bool (e : E)
  | ptr (id off : Nat)
  | nilptr
  | slice (id off len : Nat) (cap : Cap)
  | nilslice
  | xsl (id : Nat) (len : E)
  | aptr (id m : Nat)
  | sptr (id off : Nat) (e : E) (n st : Nat)
  | map (id : Nat)
  | func (f : Nat) (fi ca : List AV)
  | nilfunc
  | agg (cs : List AV)
  | tup (cs : List AV)
  | str (cs : List AV)
  | top
  deriving Inhabited

structure Env where
  b : Nat → Option Nat
  c : Nat → Option Nat
def Env.le (x y : Env) : Prop := (∀ i n, x.b i = some n → y.b i = some n) ∧ ∀ i n, x.c i = some n → y.c i = some n
theorem Env.le.refl (x : Env) : x.le x := ⟨fun _ _ h => h, fun _ _ h => h⟩
theorem Env.le.trans {x y z : Env} (h : x.le y) (h' : y.le z) : x.le z := ⟨fun i n e => h'.1 i n (h.1 i n e), fun i n e => h'.2 i n (h.2 i n e)⟩

def Cap.rel (N : Env) (id off len : Nat) : Cap → Nat → Prop
  | .lit n, c => c = n ∧ len ≤ n
  | .full esz, c => ∃ g, N.c id = some g ∧ 0 < esz ∧ c = (g - off) / esz ∧ off + len * esz ≤ g
  | .any, c => len ≤ c
theorem Cap.rel.le {N : Env} {id off len : Nat} {k : Cap} {c : Nat} (h : k.rel N id off len c) : len ≤ c := by
  cases k with
  | lit n => obtain ⟨rfl, h⟩ := h; exact h
  | full e =>
    obtain ⟨g, _, he, rfl, h⟩ := h
    exact (Nat.le_div_iff_mul_le he).2 (by omega)
  | any => exact h

mutual
def AV.rel (V : Va) (N : Env) : AV → Value → Prop
  | .int kd e, v => v = .int kd (e.den V)
  | .bool e, v => (e.den V = 0 ∧ v = .bool false) ∨ (e.den V = 1 ∧ v = .bool true)
  | .ptr id off, v => ∃ b, N.b id = some b ∧ v = .pointer (some ⟨b, off, none⟩)
  | .nilptr, v => v = .pointer none
  | .slice id off len k, v => ∃ b c, N.b id = some b ∧ v = .slice (some ⟨b, off, none⟩) len c ∧ k.rel N id off len c
  | .nilslice, v => v = .slice none 0 0
  | .xsl id len, v => ∃ A n c, v = .slice A n c ∧ (n : Int) = len.den V ∧ n ≤ c ∧ (id < 16 → 0 < n → (n : Int) ≤ V.v id ∧ ∃ ad, V.a id = some ad ∧ A = some ad) ∧ (16 ≤ id → n + 2 ≤ c ∧ ∃ b, N.b (id - 16) = some b ∧ A = some ⟨b, 0, none⟩)
  | .sptr id off e n st, v => ∃ (b m : Nat), N.b id = some b ∧ v = .pointer (some ⟨b, off + m * st, none⟩) ∧ e.den V = m ∧ m < n
  | .aptr id m, v => ∃ ad, V.a id = some ad ∧ v = .pointer (some (ad.add m)) ∧ (m : Int) < V.v id
  | .map id, v => ∃ b, N.b id = some b ∧ v = .map (some b)
  | .func f fi ca, v => ∃ x y, v = .func (.func f) x y ∧ AV.rels V N fi x.toList ∧ AV.rels V N ca y.toList
  | .nilfunc, v => v = .nilFunc
  | .agg cs, v => ∃ x, v = .agg x ∧ AV.rels V N cs x.toList
  | .tup cs, v => ∃ x, v = .tuple x ∧ AV.rels V N cs x.toList
  | .str cs, v => ∃ x : ByteArray, v = .string x ∧ AV.rels V N cs (x.data.toList.map fun b => .int .u8 b.toNat)
  | .top, _ => True
def AV.rels (V : Va) (N : Env) : List AV → List Value → Prop
  | [], l => l = []
  | a :: as, l => ∃ v vs, l = v :: vs ∧ AV.rel V N a v ∧ AV.rels V N as vs
end

section
variable {V : Va} {N N' : Env}
theorem Cap.rel.mono (h : N.le N') {id off len : Nat} {k : Cap} {c : Nat} (hk : k.rel N id off len c) : k.rel N' id off len c := by
  cases k with
  | lit n => exact hk
  | full e => obtain ⟨g, h1, h2⟩ := hk; exact ⟨g, h.2 _ _ h1, h2⟩
  | any => exact hk
mutual
theorem AV.rel.mono (h : N.le N') : ∀ (a : AV) (v : Value), a.rel V N v → a.rel V N' v
  | .int _ _, _, r => r
  | .bool _, _, r => r
  | .ptr id off, v, r => by simp only [AV.rel] at r ⊢; obtain ⟨b, h1, h2⟩ := r; exact ⟨b, h.1 _ _ h1, h2⟩
  | .nilptr, _, r => r
  | .slice id off len k, v, r => by simp only [AV.rel] at r ⊢; obtain ⟨b, c, h1, h2, h3⟩ := r; exact ⟨b, c, h.1 _ _ h1, h2, h3.mono h⟩
  | .nilslice, _, r => r
  | .xsl id len, v, r => by
    simp only [AV.rel] at r ⊢
    obtain ⟨A, n, c, h1, h2, h3, h4, h5⟩ := r
    exact ⟨A, n, c, h1, h2, h3, h4, fun hi => by obtain ⟨k1, b, k2, k3⟩ := h5 hi; exact ⟨k1, b, h.1 _ _ k2, k3⟩⟩
  | .aptr id m, v, r => by simp only [AV.rel] at r ⊢; exact r
  | .sptr id off e n st, v, r => by simp only [AV.rel] at r ⊢; obtain ⟨b, m, h1, h2⟩ := r; exact ⟨b, m, h.1 _ _ h1, h2⟩
  | .map id, v, r => by simp only [AV.rel] at r ⊢; obtain ⟨b, h1, h2⟩ := r; exact ⟨b, h.1 _ _ h1, h2⟩
  | .func f fi ca, v, r => by
    simp only [AV.rel] at r ⊢
    obtain ⟨x, y, h1, h2, h3⟩ := r; exact ⟨x, y, h1, AV.rels.mono h fi _ h2, AV.rels.mono h ca _ h3⟩
  | .nilfunc, _, r => r
  | .agg cs, v, r => by simp only [AV.rel] at r ⊢; obtain ⟨x, h1, h2⟩ := r; exact ⟨x, h1, AV.rels.mono h cs _ h2⟩
  | .tup cs, v, r => by simp only [AV.rel] at r ⊢; obtain ⟨x, h1, h2⟩ := r; exact ⟨x, h1, AV.rels.mono h cs _ h2⟩
  | .str cs, v, r => by simp only [AV.rel] at r ⊢; obtain ⟨x, h1, h2⟩ := r; exact ⟨x, h1, AV.rels.mono h cs _ h2⟩
  | .top, _, _ => by simp only [AV.rel]
theorem AV.rels.mono (h : N.le N') : ∀ (as : List AV) (l : List Value), AV.rels V N as l → AV.rels V N' as l
  | [], _, r => by simp only [AV.rels] at r ⊢; exact r
  | a :: as, l, r => by
    simp only [AV.rels] at r ⊢
    obtain ⟨v, vs, h1, h2, h3⟩ := r
    exact ⟨v, vs, h1, AV.rel.mono h a v h2, AV.rels.mono h as vs h3⟩
end

theorem rels_nil {l : List Value} : AV.rels V N [] l ↔ l = [] := by simp only [AV.rels]
theorem rels_cons {a : AV} {as : List AV} {l : List Value} : AV.rels V N (a :: as) l ↔ ∃ v vs, l = v :: vs ∧ a.rel V N v ∧ AV.rels V N as vs := by simp only [AV.rels]
theorem rels_cons' {a : AV} {as : List AV} {v : Value} {vs : List Value} (h : a.rel V N v) (h' : AV.rels V N as vs) : AV.rels V N (a :: as) (v :: vs) := rels_cons.2 ⟨v, vs, rfl, h, h'⟩
theorem rels_length : ∀ {as : List AV} {l : List Value}, AV.rels V N as l → l.length = as.length
  | [], l, h => by rw [rels_nil.1 h]; rfl
  | a :: as, l, h => by
    obtain ⟨v, vs, rfl, _, h3⟩ := rels_cons.1 h
    simp [rels_length h3]
theorem rels_append : ∀ {as bs : List AV} {l m : List Value}, AV.rels V N as l → AV.rels V N bs m → AV.rels V N (as ++ bs) (l ++ m)
  | [], bs, l, m, h, h' => by rw [rels_nil.1 h]; exact h'
  | a :: as, bs, l, m, h, h' => by
    obtain ⟨v, vs, rfl, h2, h3⟩ := rels_cons.1 h
    exact rels_cons' h2 (rels_append h3 h')
theorem rels_take : ∀ (n : Nat) {as : List AV} {l : List Value}, AV.rels V N as l → AV.rels V N (as.take n) (l.take n)
  | 0, as, l, _ => by simp [rels_nil]
  | n + 1, [], l, h => by rw [rels_nil.1 h]; simp [rels_nil]
  | n + 1, a :: as, l, h => by
    obtain ⟨v, vs, rfl, h2, h3⟩ := rels_cons.1 h
    exact rels_cons' h2 (rels_take n h3)
theorem rels_drop : ∀ (n : Nat) {as : List AV} {l : List Value}, AV.rels V N as l → AV.rels V N (as.drop n) (l.drop n)
  | 0, as, l, h => h
  | n + 1, [], l, h => by rw [rels_nil.1 h]; simp [rels_nil]
  | n + 1, a :: as, l, h => by
    obtain ⟨v, vs, rfl, h2, h3⟩ := rels_cons.1 h
    exact rels_drop n h3
theorem rels_get : ∀ (i : Nat) {as : List AV} {l : List Value} {a : AV}, AV.rels V N as l → as[i]? = some a → ∃ v, l[i]? = some v ∧ a.rel V N v
  | _, [], l, a, _, h' => by simp at h'
  | 0, b :: as, l, a, h, h' => by
    obtain ⟨v, vs, rfl, h2, h3⟩ := rels_cons.1 h
    simp at h'; subst h'
    exact ⟨v, rfl, h2⟩
  | i + 1, b :: as, l, a, h, h' => by
    obtain ⟨v, vs, rfl, h2, h3⟩ := rels_cons.1 h
    simpa using rels_get i h3 (by simpa using h')
theorem rels_map {α : Type} (f : α → AV) (g : α → Value) (h : ∀ x, (f x).rel V N (g x)) : ∀ l : List α, AV.rels V N (l.map f) (l.map g)
  | [] => by simp [rels_nil]
  | x :: l => rels_cons' (h x) (rels_map f g h l)
theorem rels_replicate {a : AV} {v : Value} (h : a.rel V N v) : ∀ n : Nat, AV.rels V N (List.replicate n a) (List.replicate n v)
  | 0 => by simp [rels_nil]
  | n + 1 => rels_cons' h (rels_replicate h n)
theorem rels_flatten : ∀ {as : List (List AV)} {l : List (List Value)}, as.length = l.length → (∀ (i : Nat) (a : List AV) (v : List Value), as[i]? = some a → l[i]? = some v → AV.rels V N a v) → AV.rels V N as.flatten l.flatten
  | [], [], _, _ => by simp [rels_nil]
  | [], _ :: _, h, _ => by simp at h
  | _ :: _, [], h, _ => by simp at h
  | a :: as, v :: l, h, h' => by
    simp only [List.flatten_cons]
    refine rels_append (h' 0 a v rfl rfl) (rels_flatten (by simpa using h) fun i a v h1 h2 => h' (i + 1) a v (by simpa using h1) (by simpa using h2))
end

/-! ### Integers, told by closed recursors -/
noncomputable def AV.isI (x : AV) : Bool := AV.rec (motive_1 := fun _ => Bool) (motive_2 := fun _ => Unit) (fun _ _ => true) (fun _ => false) (fun _ _ => false) false (fun _ _ _ _ => false) false (fun _ _ => false) (fun _ _ => false) (fun _ _ _ _ _ => false) (fun _ => false) (fun _ _ _ _ _ => false) false (fun _ _ => false) (fun _ _ => false) (fun _ _ => false) false () (fun _ _ _ _ => ()) x
noncomputable def AV.ik (x : AV) : IntKind := AV.rec (motive_1 := fun _ => IntKind) (motive_2 := fun _ => Unit) (fun kd _ => kd) (fun _ => .i64) (fun _ _ => .i64) .i64 (fun _ _ _ _ => .i64) .i64 (fun _ _ => .i64) (fun _ _ => .i64) (fun _ _ _ _ _ => .i64) (fun _ => .i64) (fun _ _ _ _ _ => .i64) .i64 (fun _ _ => .i64) (fun _ _ => .i64) (fun _ _ => .i64) .i64 () (fun _ _ _ _ => ()) x
noncomputable def AV.ie (x : AV) : E := AV.rec (motive_1 := fun _ => E) (motive_2 := fun _ => Unit) (fun _ e => e) (fun _ => (.k 0)) (fun _ _ => (.k 0)) (.k 0) (fun _ _ _ _ => (.k 0)) (.k 0) (fun _ _ => (.k 0)) (fun _ _ => (.k 0)) (fun _ _ _ _ _ => (.k 0)) (fun _ => (.k 0)) (fun _ _ _ _ _ => (.k 0)) (.k 0) (fun _ _ => (.k 0)) (fun _ _ => (.k 0)) (fun _ _ => (.k 0)) (.k 0) () (fun _ _ _ _ => ()) x
noncomputable def AV.onI (x : AV) : (β : Type) → (IntKind → E → β) → β → β := AV.rec (motive_1 := fun _ => (β : Type) → (IntKind → E → β) → β → β) (motive_2 := fun _ => PUnit.{2}) (fun kd e _ f _ => f kd e) (fun _ _ _ o => o) (fun _ _ _ _ o => o) (fun _ _ o => o) (fun _ _ _ _ _ _ o => o) (fun _ _ o => o) (fun _ _ _ _ o => o) (fun _ _ _ _ o => o) (fun _ _ _ _ _ _ _ o => o) (fun _ _ _ o => o) (fun _ _ _ _ _ _ _ o => o) (fun _ _ o => o) (fun _ _ _ _ o => o) (fun _ _ _ _ o => o) (fun _ _ _ _ o => o) (fun _ _ o => o) PUnit.unit (fun _ _ _ _ => PUnit.unit) x
/-- The same: what is behind it is worked out once. -/
noncomputable def AV.self (x : AV) : AV := AV.rec (motive_1 := fun _ => AV) (motive_2 := fun _ => Unit) (fun a b => .int a b) (fun a => .bool a) (fun a b => .ptr a b) .nilptr (fun a b c d => .slice a b c d) .nilslice (fun a b => .xsl a b) (fun a b => .aptr a b) (fun a b c d e => .sptr a b c d e) (fun a => .map a) (fun f a b _ _ => .func f a b) .nilfunc (fun l _ => .agg l) (fun l _ => .tup l) (fun l _ => .str l) .top () (fun _ _ _ _ => ()) x
theorem AV.self_eq (x : AV) : x.self = x := by cases x <;> rfl
/-! ### A literal value -/
def ofCell : Value → AV
  | .bool b => .bool (.k (if b then 1 else 0))
  | .int kd n => .int kd (.k n)
  | .pointer none => .nilptr
  | .slice none 0 0 => .nilslice
  | .nilFunc => .nilfunc
  | _ => .top
def ofVal : Value → AV
  | .agg cs => .agg (cs.toList.map ofCell)
  | v => ofCell v
theorem ofCell_rel (V : Va) (N : Env) (v : Value) : (ofCell v).rel V N v := by
  unfold ofCell
  split <;> simp only [AV.rel, E.den]
  rename_i b
  cases b <;> simp
theorem ofVal_rel (V : Va) (N : Env) (v : Value) : (ofVal v).rel V N v := by
  unfold ofVal
  split
  · simp only [AV.rel]
    exact ⟨_, rfl, by simpa using rels_map ofCell id (fun x => ofCell_rel V N x) _⟩
  · exact ofCell_rel V N _

/-! ### Cells of a value -/
def AV.cells : AV → List AV
  | .agg cs => cs
  | a => [a]
/-- One cell that may be stored. -/
def AV.one : AV → Bool
  | .agg _ | .tup _ | .top => false
  | _ => true
/-- Known to be an aggregate, or known to be none. -/
def AV.known : AV → Bool
  | .tup _ | .top => false
  | _ => true
theorem AV.rel_cells {V : Va} {N : Env} {a : AV} {v : Value} (hk : a.known = true) (h : a.rel V N v) : AV.rels V N a.cells v.cells.toList := by
  cases a with
  | agg cs => simp only [AV.rel] at h; obtain ⟨x, rfl, h⟩ := h; exact h
  | tup _ => cases hk
  | top => cases hk
  | bool e => simp only [AV.rel] at h; rcases h with ⟨h1, rfl⟩ | ⟨h1, rfl⟩ <;> exact rels_cons' (by simp only [AV.rel]; simp [h1]) (rels_nil.2 rfl)
  | int kd e => simp only [AV.rel] at h; subst h; exact rels_cons' (by simp only [AV.rel]) (rels_nil.2 rfl)
  | ptr _ _ => have h' := h; simp only [AV.rel] at h; obtain ⟨b, _, rfl⟩ := h; exact rels_cons' h' (rels_nil.2 rfl)
  | nilptr => have h' := h; simp only [AV.rel] at h; subst h; exact rels_cons' h' (rels_nil.2 rfl)
  | slice _ _ _ _ => have h' := h; simp only [AV.rel] at h; obtain ⟨b, c, _, rfl, _⟩ := h; exact rels_cons' h' (rels_nil.2 rfl)
  | nilslice => have h' := h; simp only [AV.rel] at h; subst h; exact rels_cons' h' (rels_nil.2 rfl)
  | xsl _ _ => have h' := h; simp only [AV.rel] at h; obtain ⟨b, n, c, rfl, _⟩ := h; exact rels_cons' h' (rels_nil.2 rfl)
  | aptr _ _ => have h' := h; simp only [AV.rel] at h; obtain ⟨b, _, rfl, _⟩ := h; exact rels_cons' h' (rels_nil.2 rfl)
  | sptr _ _ _ _ _ => have h' := h; simp only [AV.rel] at h; obtain ⟨b, m, _, rfl, _⟩ := h; exact rels_cons' h' (rels_nil.2 rfl)
  | map _ => have h' := h; simp only [AV.rel] at h; obtain ⟨b, _, rfl⟩ := h; exact rels_cons' h' (rels_nil.2 rfl)
  | func _ _ _ => have h' := h; simp only [AV.rel] at h; obtain ⟨x, y, rfl, _⟩ := h; exact rels_cons' h' (rels_nil.2 rfl)
  | nilfunc => have h' := h; simp only [AV.rel] at h; subst h; exact rels_cons' h' (rels_nil.2 rfl)
  | str _ => have h' := h; simp only [AV.rel] at h; obtain ⟨x, rfl, _⟩ := h; exact rels_cons' h' (rels_nil.2 rfl)
theorem AV.rel_one {V : Va} {N : Env} {a : AV} {v : Value} (hk : a.one = true) (h : a.rel V N v) : v.oneCell' = true := by
  cases a with
  | agg _ => cases hk
  | tup _ => cases hk
  | top => cases hk
  | bool e => simp only [AV.rel] at h; rcases h with ⟨h1, rfl⟩ | ⟨h1, rfl⟩ <;> rfl
  | int kd e => simp only [AV.rel] at h; subst h; rfl
  | ptr _ _ => simp only [AV.rel] at h; obtain ⟨b, _, rfl⟩ := h; rfl
  | nilptr => simp only [AV.rel] at h; subst h; rfl
  | slice _ _ _ _ => simp only [AV.rel] at h; obtain ⟨b, c, _, rfl, _⟩ := h; rfl
  | nilslice => simp only [AV.rel] at h; subst h; rfl
  | xsl _ _ => simp only [AV.rel] at h; obtain ⟨b, n, c, rfl, _⟩ := h; rfl
  | aptr _ _ => simp only [AV.rel] at h; obtain ⟨b, _, rfl, _⟩ := h; rfl
  | sptr _ _ _ _ _ => simp only [AV.rel] at h; obtain ⟨b, m, _, rfl, _⟩ := h; rfl
  | map _ => simp only [AV.rel] at h; obtain ⟨b, _, rfl⟩ := h; rfl
  | func _ _ _ => simp only [AV.rel] at h; obtain ⟨x, y, rfl, _⟩ := h; rfl
  | nilfunc => simp only [AV.rel] at h; subst h; rfl
  | str _ => simp only [AV.rel] at h; obtain ⟨x, rfl, _⟩ := h; rfl
theorem rels_one {V : Va} {N : Env} : ∀ {as : List AV} {l : List Value}, as.all AV.one = true → AV.rels V N as l → ∀ v ∈ l, v.oneCell' = true
  | [], l, _, h => by rw [rels_nil.1 h]; simp
  | a :: as, l, h, h' => by
    obtain ⟨v, vs, rfl, h2, h3⟩ := rels_cons.1 h'
    simp only [List.all_cons, Bool.and_eq_true] at h
    intro u hu
    rcases List.mem_cons.1 hu with rfl | hu
    · exact AV.rel_one h.1 h2
    · exact rels_one h.2 h3 u hu

/-! ### The slots of a frame: a tree of fixed depth -/
inductive PT where
  | lf (v : AV)
  | nd (a b c d : PT)
/-- A place: digits to the base 4. -/
inductive Dg where
  | z
  | d0 (p : Dg)
  | d1 (p : Dg)
  | d2 (p : Dg)
  | d3 (p : Dg)
noncomputable def dig1 (r : Nat) (p : Dg) : Dg := ife (Nat.beq r 0) (.d0 p) (ife (Nat.beq r 1) (.d1 p) (ife (Nat.beq r 2) (.d2 p) (.d3 p)))
/-- The digits of a number below 4 ^ f. -/
noncomputable def digs (f : Nat) : Nat → Dg := Nat.rec (motive := fun _ => Nat → Dg) (fun _ => .z) (fun _ ih n => ife (Nat.beq n 0) .z (dig1 (Nat.mod n 4) (ih (Nat.div n 4)))) f
noncomputable def PT.mk (n : Nat) : PT := Nat.rec (PT.lf .top) (fun _ t => PT.nd t t t t) n
noncomputable def PT.getD (t : PT) : Dg → AV :=
  PT.rec (motive := fun _ => Dg → AV) (fun v _ => v) (fun _ _ _ _ ga gb gc gd p => Dg.rec (motive := fun _ => AV) (ga .z) (fun p _ => ga p) (fun p _ => gb p) (fun p _ => gc p) (fun p _ => gd p) p) t
noncomputable def PT.setD (x : AV) (t : PT) (p : Dg) : PT :=
  PT.rec (motive := fun _ => Dg → AV → PT) (fun _ _ x => PT.lf x) (fun a b c d sa sb sc sd p x => Dg.rec (motive := fun _ => PT) (PT.nd (sa .z x) b c d) (fun p _ => PT.nd (sa p x) b c d) (fun p _ => PT.nd a (sb p x) c d) (fun p _ => PT.nd a b (sc p x) d) (fun p _ => PT.nd a b c (sd p x)) p) t p x
noncomputable def PT.get (t : PT) (n : Nat) : AV := t.getD (digs 20 n)
noncomputable def PT.set (x : AV) (t : PT) (n : Nat) : PT := PT.setD x t (digs 20 n)
def PT.full : Nat → PT → Prop
  | 0, .lf _ => True
  | k + 1, .nd a b c d => PT.full k a ∧ PT.full k b ∧ PT.full k c ∧ PT.full k d
  | _, _ => False
theorem PT.full_set (x : AV) : ∀ (k : Nat) (t : PT) (p : Dg), t.full k → (PT.setD x t p).full k
  | 0, .lf _, _, _ => trivial
  | k + 1, .nd a b c d, .z, h => ⟨PT.full_set x k a .z h.1, h.2⟩
  | k + 1, .nd a b c d, .d0 p, h => ⟨PT.full_set x k a p h.1, h.2⟩
  | k + 1, .nd a b c d, .d1 p, h => ⟨h.1, PT.full_set x k b p h.2.1, h.2.2⟩
  | k + 1, .nd a b c d, .d2 p, h => ⟨h.1, h.2.1, PT.full_set x k c p h.2.2.1, h.2.2.2⟩
  | k + 1, .nd a b c d, .d3 p, h => ⟨h.1, h.2.1, h.2.2.1, PT.full_set x k d p h.2.2.2⟩
theorem PT.get_set_same (x : AV) : ∀ (k : Nat) (t : PT) (p : Dg), t.full k → (PT.setD x t p).getD p = x
  | 0, .lf _, _, _ => rfl
  | k + 1, .nd a b c d, .z, h => PT.get_set_same x k a .z h.1
  | k + 1, .nd a b c d, .d0 p, h => PT.get_set_same x k a p h.1
  | k + 1, .nd a b c d, .d1 p, h => PT.get_set_same x k b p h.2.1
  | k + 1, .nd a b c d, .d2 p, h => PT.get_set_same x k c p h.2.2.1
  | k + 1, .nd a b c d, .d3 p, h => PT.get_set_same x k d p h.2.2.2
/-- Two places that part within k digits. -/
def Dg.apart : Nat → Dg → Dg → Prop
  | 0, _, _ => False
  | k + 1, .z, .z => Dg.apart k .z .z
  | k + 1, .z, .d0 q => Dg.apart k .z q
  | k + 1, .d0 p, .z => Dg.apart k p .z
  | k + 1, .d0 p, .d0 q => Dg.apart k p q
  | k + 1, .d1 p, .d1 q => Dg.apart k p q
  | k + 1, .d2 p, .d2 q => Dg.apart k p q
  | k + 1, .d3 p, .d3 q => Dg.apart k p q
  | _ + 1, _, _ => True
theorem PT.get_set_other (x : AV) : ∀ (k : Nat) (t : PT) (p q : Dg), t.full k → Dg.apart k p q → (PT.setD x t p).getD q = t.getD q := by
  intro k
  induction k with
  | zero => intro t p q _ h; exact h.elim
  | succ k ih =>
    intro t p q h ha
    cases t with
    | lf _ => exact h.elim
    | nd a b c d =>
      obtain ⟨fa, fb, fc, fd⟩ := h
      cases p <;> cases q <;> first
        | rfl
        | exact ih a _ _ fa ha
        | exact ih b _ _ fb ha
        | exact ih c _ _ fc ha
        | exact ih d _ _ fd ha
theorem digs_succ (f n : Nat) : digs (f + 1) n = ife (Nat.beq n 0) .z (dig1 (n % 4) (digs f (n / 4))) := rfl
theorem digs_zero : ∀ f, digs f 0 = .z
  | 0 => rfl
  | f + 1 => by rw [digs_succ]; rfl
theorem digs_cases (f n : Nat) : (n = 0 ∧ digs (f + 1) n = .z) ∨ (n % 4 = 0 ∧ digs (f + 1) n = .d0 (digs f (n / 4))) ∨ (n % 4 = 1 ∧ digs (f + 1) n = .d1 (digs f (n / 4))) ∨
    (n % 4 = 2 ∧ digs (f + 1) n = .d2 (digs f (n / 4))) ∨ (n % 4 = 3 ∧ digs (f + 1) n = .d3 (digs f (n / 4))) := by
  rw [digs_succ]
  cases h : Nat.beq n 0
  · rw [ife_false]
    unfold dig1
    have h4 : n % 4 < 4 := Nat.mod_lt _ (by omega)
    have hc : n % 4 = 0 ∨ n % 4 = 1 ∨ n % 4 = 2 ∨ n % 4 = 3 := by omega
    rcases hc with e | e | e | e <;> rw [e]
    · exact .inr (.inl ⟨rfl, rfl⟩)
    · exact .inr (.inr (.inl ⟨rfl, rfl⟩))
    · exact .inr (.inr (.inr (.inl ⟨rfl, rfl⟩)))
    · exact .inr (.inr (.inr (.inr ⟨rfl, rfl⟩)))
  · exact .inl ⟨Nat.eq_of_beq_eq_true h, rfl⟩
theorem digs_apart : ∀ (k f n m : Nat), k ≤ f → n < 4 ^ k → m < 4 ^ k → n ≠ m → Dg.apart k (digs f n) (digs f m)
  | 0, _, n, m, _, h1, h2, h3 => by simp at h1 h2; omega
  | k + 1, f + 1, n, m, hf, h1, h2, h3 => by
    have e1 : n / 4 < 4 ^ k := by rw [Nat.pow_succ] at h1; omega
    have e2 : m / 4 < 4 ^ k := by rw [Nat.pow_succ] at h2; omega
    have ih := fun n m => digs_apart k f n m (by omega)
    have pk : 0 < 4 ^ k := Nat.pow_pos (by omega)
    rcases digs_cases f n with ⟨a, b⟩ | ⟨a, b⟩ | ⟨a, b⟩ | ⟨a, b⟩ | ⟨a, b⟩ <;> rcases digs_cases f m with ⟨a', b'⟩ | ⟨a', b'⟩ | ⟨a', b'⟩ | ⟨a', b'⟩ | ⟨a', b'⟩ <;> rw [b, b'] <;>
      first
        | trivial
        | (exfalso; omega)
        | exact ih _ _ e1 e2 (by omega)
        | (have := ih 0 (m / 4) pk e2 (by omega); rw [digs_zero] at this; exact this)
        | (have := ih (n / 4) 0 e1 pk (by omega); rw [digs_zero] at this; exact this)
theorem PT.full_mk : ∀ d, (PT.mk d).full d
  | 0 => trivial
  | d + 1 => ⟨PT.full_mk d, PT.full_mk d, PT.full_mk d, PT.full_mk d⟩
theorem PT.get_mk : ∀ d n, (PT.mk d).getD n = .top
  | 0, _ => rfl
  | d + 1, .z => PT.get_mk d .z
  | d + 1, .d0 p => PT.get_mk d p
  | d + 1, .d1 p => PT.get_mk d p
  | d + 1, .d2 p => PT.get_mk d p
  | d + 1, .d3 p => PT.get_mk d p
/-- The slots stand for a frame's: 'nt': how many there are, 'd': the tree's depth. -/
structure Trel (V : Va) (N : Env) (nt d : Nat) (t : PT) (a : Array Value) : Prop where
  full : t.full d
  size : a.size = nt
  fits : nt ≤ 4 ^ d ∧ d ≤ 20
  rel : ∀ i, i < nt → (t.get i).rel V N (a.getD i undef)
theorem Trel.mono {V : Va} {N N' : Env} (h : N.le N') {nt d : Nat} {t : PT} {a : Array Value} (r : Trel V N nt d t a) : Trel V N' nt d t a :=
  ⟨r.full, r.size, r.fits, fun i hi => AV.rel.mono h _ _ (r.rel i hi)⟩
theorem Trel.put {V : Va} {N : Env} {nt d : Nat} {t : PT} {a : Array Value} (r : Trel V N nt d t a) {x : AV} {v : Value} (h : x.rel V N v) {n : Nat} (hn : n < nt) :
    Trel V N nt d (PT.set x t n) (a.setIfInBounds n v) := by
  refine ⟨PT.full_set x d t _ r.full, by simpa using r.size, r.fits, fun i hi => ?_⟩
  have hia : i < a.size := by rw [r.size]; exact hi
  by_cases hni : n = i
  · subst hni
    rw [show (PT.set x t n).get n = x from PT.get_set_same x d t _ r.full]
    simpa [hia] using h
  · have hf := r.fits
    rw [show (PT.set x t n).get i = t.get i from PT.get_set_other x d t _ _ r.full (digs_apart d 20 n i hf.2 (by omega) (by omega) hni)]
    have := r.rel i hi
    simpa [hia, Array.getElem_setIfInBounds, hni] using this
/-! ### Joins -/
noncomputable def mrgL (f : AV → AV → Option AV) (l : List AV) : List AV → Option (List AV) :=
  List.rec (motive := fun _ => List AV → Option (List AV)) (fun m => match m with | [] => some [] | _ => none)
    (fun x _ ih m => match m with
      | [] => none
      | y :: m => match f x y, ih m with
        | some z, some l => some (z :: l)
        | _, _ => none) l
noncomputable def mrg1 (c : E) (ih : AV → AV → Option AV) (a b : AV) : Option AV := match a, b with
    | .int ka a, .int kb b => ife (Nat.beq (IntKind.no ka) (IntKind.no kb)) (some (.int ka (mkIte c a b))) none
    | .bool a, .bool b => some (.bool (mkIte c a b))
    | .nilptr, .nilptr => some .nilptr
    | .nilslice, .nilslice => some .nilslice
    | .nilfunc, .nilfunc => some .nilfunc
    | .agg xs, .agg ys => match mrgL ih xs ys with | some l => some (.agg l) | none => none
    | .tup xs, .tup ys => match mrgL ih xs ys with | some l => some (.tup l) | none => none
    | _, _ => none
noncomputable def mrg (c : E) (n : Nat) : AV → AV → Option AV :=
  Nat.rec (motive := fun _ => AV → AV → Option AV) (fun _ _ => none) (fun _ ih => mrg1 c ih) n
section
variable {V : Va} {N : Env}
/-- z stands for what x stands for, or y, as c says. -/
def Joins (V : Va) (c : E) (x y z : AV) : Prop := ∀ (N : Env) (v : Value), (if c.den V = 0 then y.rel V N v else x.rel V N v) → z.rel V N v
def JoinsL (V : Va) (c : E) (x y z : List AV) : Prop := ∀ (N : Env) (v : List Value), (if c.den V = 0 then AV.rels V N y v else AV.rels V N x v) → AV.rels V N z v
theorem mrgL_ok {c : E} {f : AV → AV → Option AV} (hf : ∀ x y z, f x y = some z → Joins V c x y z) : ∀ (l m q : List AV), mrgL f l m = some q → JoinsL V c l m q
  | [], [], q, h => by
    cases h
    intro N v hv
    split at hv <;> exact hv
  | [], _ :: _, q, h => by cases h
  | _ :: _, [], q, h => by cases h
  | x :: l, y :: m, q, h => by
    change (match f x y, mrgL f l m with
        | some z, some l => some (z :: l)
        | _, _ => none) = some q at h
    split at h
    · rename_i z l' hz hl
      cases h
      intro N v hv
      have hz := hf x y z hz
      have hl := mrgL_ok hf l m l' hl
      by_cases hc : c.den V = 0
      · rw [if_pos hc] at hv
        obtain ⟨u, us, rfl, h1, h2⟩ := rels_cons.1 hv
        exact rels_cons' (hz N u (by rw [if_pos hc]; exact h1)) (hl N us (by rw [if_pos hc]; exact h2))
      · rw [if_neg hc] at hv
        obtain ⟨u, us, rfl, h1, h2⟩ := rels_cons.1 hv
        exact rels_cons' (hz N u (by rw [if_neg hc]; exact h1)) (hl N us (by rw [if_neg hc]; exact h2))
    · cases h
theorem mrg_ok {c : E} : ∀ (n : Nat) (x y z : AV), mrg c n x y = some z → Joins V c x y z
  | 0, _, _, _, h => by cases h
  | n + 1, x, y, z, h => by
    have same : ∀ a : AV, Joins V c a a a := fun a N v hv => by split at hv <;> exact hv
    change mrg1 c (mrg c n) x y = some z at h
    unfold mrg1 at h
    split at h
    · rename_i ka a kb b
      cases hb : Nat.beq (IntKind.no ka) (IntKind.no kb)
      · rw [hb] at h; cases h
      · rw [hb] at h
        have hk := IntKind.no_inj (Nat.eq_of_beq_eq_true hb); subst hk
        cases h
        intro N v hv
        simp only [AV.rel, den_mkIte] at hv ⊢
        split at hv <;> rename_i hc
        · rw [if_pos hc]; exact hv
        · rw [if_neg hc]; exact hv
    · rename_i a b
      cases h
      intro N v hv
      simp only [AV.rel, den_mkIte] at hv ⊢
      split at hv <;> rename_i hc
      · rw [if_pos hc]; exact hv
      · rw [if_neg hc]; exact hv
    · cases h; exact same _
    · cases h; exact same _
    · cases h; exact same _
    · rename_i xs ys
      split at h
      · rename_i l hl
        cases h
        have hj := mrgL_ok (fun x y z => mrg_ok n x y z) _ _ _ hl
        intro N v hv
        simp only [AV.rel] at hv ⊢
        split at hv <;> rename_i hc <;> obtain ⟨u, rfl, h1⟩ := hv
        · exact ⟨u, rfl, hj N _ (by rw [if_pos hc]; exact h1)⟩
        · exact ⟨u, rfl, hj N _ (by rw [if_neg hc]; exact h1)⟩
      · cases h
    · rename_i xs ys
      split at h
      · rename_i l hl
        cases h
        have hj := mrgL_ok (fun x y z => mrg_ok n x y z) _ _ _ hl
        intro N v hv
        simp only [AV.rel] at hv ⊢
        split at hv <;> rename_i hc <;> obtain ⟨u, rfl, h1⟩ := hv
        · exact ⟨u, rfl, hj N _ (by rw [if_pos hc]; exact h1)⟩
        · exact ⟨u, rfl, hj N _ (by rw [if_neg hc]; exact h1)⟩
      · cases h
    · cases h
end


/-! ### A choice among several -/
/-- The one at place e - i. -/
noncomputable def selL (e : E) (l : List AV) : Int → Option AV :=
  List.rec (motive := fun _ => Int → Option AV) (fun _ => none) (fun x l ih i => match l with
    | [] => some x
    | _ :: _ => match ih (i + 1) with
      | some r => mrg (ltC (e.sub (.k (i + 1)))) 6 x r
      | none => none) l
theorem selL_ok {V : Va} {N : Env} {e : E} : ∀ (l : List AV) (i : Int) (x : AV), selL e l i = some x → ∀ (m : Nat) (a : AV) (v : Value), e.den V = i + m → l[m]? = some a → a.rel V N v → x.rel V N v
  | [], _, _, h, _, _, _, _, _, _ => by cases h
  | [y], i, x, h, m, a, v, hm, ha, hv => by
    cases h
    cases m with
    | zero => simp at ha; subst ha; exact hv
    | succ m => simp at ha
  | y :: z :: l, i, x, h, m, a, v, hm, ha, hv => by
    change (match selL e (z :: l) (i + 1) with
      | some r => mrg (ltC (e.sub (.k (i + 1)))) 6 y r
      | none => none) = some x at h
    split at h
    · rename_i r hr
      have hj := mrg_ok (V := V) 6 _ _ _ h
      refine hj N v ?_
      have hd : (ltC (e.sub (.k (i + 1)))).den V = if e.den V - (i + 1) < 0 then 1 else 0 := by
        rw [den_ltC, E.den_sub]; rfl
      rw [hd]
      cases m with
      | zero =>
        rw [if_pos (show e.den V - (i + 1) < 0 by omega), if_neg (by omega)]
        simp at ha; subst ha; exact hv
      | succ m =>
        rw [if_neg (show ¬ (e.den V - (i + 1) < 0) by push_cast at hm; omega), if_pos rfl]
        exact selL_ok (z :: l) (i + 1) r hr m a v (by push_cast at hm; omega) (by simpa using ha) hv
    · cases h
end Go.RX
