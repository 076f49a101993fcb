/- RX, part 15c: regions that draw their order and write. -/
import Derived.Test.YtoheklommpochaaRxG
namespace Go.RX
open Go.RowKit
section
variable {P : Program} {α : Type} {V : Va} {W0 : World} {N : Env} {g : G} {p : α → Prop} {w : World} {ops : Array Oper} {SI : Nat → World → Prop}
/-- What says the same in N' stands for the same in N, where all its numbers have a place. -/
theorem Cap.rel_back {N N' : Env} (hle : N.le N') {id off len : Nat} {k : Cap} {c0 c : Nat} (h0 : k.rel N id off len c0) (h : k.rel N' id off len c) : k.rel N id off len c := by
  cases k with
  | lit n => exact h
  | full e =>
    obtain ⟨g0, h1, _⟩ := h0
    obtain ⟨g, h2, h3⟩ := h
    have := hle.2 _ _ h1
    rw [this] at h2; injection h2 with h2; subst h2
    exact ⟨g0, h1, h3⟩
  | any => exact h
mutual
theorem AV.rel_back {N N' : Env} (hle : N.le N') : ∀ (a : AV) (v0 v : Value), a.rel V N v0 → a.rel V N' v → a.rel V N v
  | .int _ _, _, _, _, h => h
  | .bool _, _, _, _, h => h
  | .ptr id off, v0, v, h0, h => by
    simp only [AV.rel] at h0 h ⊢
    obtain ⟨b0, h1, _⟩ := h0
    obtain ⟨b, h2, h3⟩ := h
    rw [hle.1 _ _ h1] at h2; injection h2 with h2; subst h2
    exact ⟨b0, h1, h3⟩
  | .nilptr, _, _, _, h => h
  | .slice id off len k, v0, v, h0, h => by
    simp only [AV.rel] at h0 h ⊢
    obtain ⟨b0, c0, h1, _, h4⟩ := h0
    obtain ⟨b, c, h2, h3, h5⟩ := h
    rw [hle.1 _ _ h1] at h2; injection h2 with h2; subst h2
    exact ⟨b0, c, h1, h3, Cap.rel_back hle h4 h5⟩
  | .nilslice, _, _, _, h => h
  | .xsl _ _, v0, v, h0, h => by
    simp only [AV.rel] at h0 h ⊢
    obtain ⟨_, _, _, _, _, _, _, q0⟩ := h0
    obtain ⟨A, m, c, k1, k2, k3, k4, k5⟩ := h
    refine ⟨A, m, c, k1, k2, k3, k4, fun hi => ?_⟩
    obtain ⟨_, b0, q1, _⟩ := q0 hi
    obtain ⟨k6, b, k7, k8⟩ := k5 hi
    rw [hle.1 _ _ q1] at k7; injection k7 with k7; subst k7
    exact ⟨k6, b0, q1, k8⟩
  | .aptr _ _, _, _, _, h => by simp only [AV.rel] at h ⊢; exact h
  | .sptr id off e n st, v0, v, h0, h => by
    simp only [AV.rel] at h0 h ⊢
    obtain ⟨b0, m0, h1, _⟩ := h0
    obtain ⟨b, m, h2, h3⟩ := h
    rw [hle.1 _ _ h1] at h2; injection h2 with h2; subst h2
    exact ⟨b0, m, h1, h3⟩
  | .map id, v0, v, h0, h => by
    simp only [AV.rel] at h0 h ⊢
    obtain ⟨b0, h1, _⟩ := h0
    obtain ⟨b, h2, h3⟩ := h
    rw [hle.1 _ _ h1] at h2; injection h2 with h2; subst h2
    exact ⟨b0, h1, h3⟩
  | .func f fi ca, v0, v, h0, h => by
    simp only [AV.rel] at h0 h ⊢
    obtain ⟨x0, y0, _, h1, h2⟩ := h0
    obtain ⟨x, y, e, h3, h4⟩ := h
    exact ⟨x, y, e, AV.rels_back hle fi _ _ h1 h3, AV.rels_back hle ca _ _ h2 h4⟩
  | .nilfunc, _, _, _, h => h
  | .agg cs, v0, v, h0, h => by
    simp only [AV.rel] at h0 h ⊢
    obtain ⟨x0, _, h1⟩ := h0
    obtain ⟨x, e, h2⟩ := h
    exact ⟨x, e, AV.rels_back hle cs _ _ h1 h2⟩
  | .tup cs, v0, v, h0, h => by
    simp only [AV.rel] at h0 h ⊢
    obtain ⟨x0, _, h1⟩ := h0
    obtain ⟨x, e, h2⟩ := h
    exact ⟨x, e, AV.rels_back hle cs _ _ h1 h2⟩
  | .str cs, v0, v, h0, h => by
    simp only [AV.rel] at h0 h ⊢
    obtain ⟨x0, _, h1⟩ := h0
    obtain ⟨x, e, h2⟩ := h
    exact ⟨x, e, AV.rels_back hle cs _ _ h1 h2⟩
  | .top, _, _, _, _ => by simp only [AV.rel]
theorem AV.rels_back {N N' : Env} (hle : N.le N') : ∀ (l : List AV) (vs0 vs : List Value), AV.rels V N l vs0 → AV.rels V N' l vs → AV.rels V N l vs
  | [], _, _, _, h => rels_nil.2 (rels_nil.1 h)
  | a :: l, vs0, vs, h0, h => by
    obtain ⟨v0, vs0, rfl, h1, h2⟩ := rels_cons.1 h0
    obtain ⟨v, vs, rfl, h3, h4⟩ := rels_cons.1 h
    exact rels_cons' (AV.rel_back hle a v0 v h1 h3) (AV.rels_back hle l vs0 vs h2 h4)
end
theorem Ob.rel_back {N N' : Env} (hle : N.le N') {id : Nat} {o : Ob} {x0 x : Option Obj} (h0 : o.rel V N id x0) (h : o.rel V N' id x) : o.rel V N id x := by
  cases o with
  | cells cs elem opn own =>
    obtain ⟨c0, fr0, e0, _, _, _, n0, r0⟩ := h0
    obtain ⟨c, fr, e, k1, k2, k3, n1, r1⟩ := h
    refine ⟨c, fr, e, k1, k2, k3, ?_, AV.rels_back hle cs _ _ r0 r1⟩
    rw [n0, ← hle.2 _ _ n0]; exact n1
  | emap _ => exact h
  | row => exact h
/-- Some blocks, as they were at the start. -/
theorem Grel.sub {N N' : Env} {g0 g' : G} {w0 w' : World} {hS : Heap} (r0 : Grel V N W0 g0 w0) (r' : Grel V N' W0 g' w') (hle : N.le N')
    (hh : ∀ id o, hget hS id = some o → hget g0.heap id = some o ∧ hget g'.heap id = some o) : Grel V N W0 { g0 with heap := hS } w' := by
  refine ⟨r'.os, r'.tape, r'.output, r'.size, r'.below, r'.soft, fun id o h => ?_, fun id o id' o' h h' => r0.apart id o id' o' (hh id o h).1 (hh id' o' h').1, r0.fresh, r0.facts⟩
  obtain ⟨h1, h2⟩ := hh id o h
  obtain ⟨b, e1, e2, e3⟩ := r0.ob id o h1
  obtain ⟨b', e1', e2', e3'⟩ := r'.ob id o h2
  rw [hle.1 _ _ e1] at e1'; injection e1' with e1'; subst e1'
  exact ⟨b, e1, Ob.rel_back hle e2 e2', e3⟩

/-! ### The walk -/
/-- What a region's walk keeps: where new numbers begin, how many each operation has, their end, the facts; the blocks that stay. -/
structure Er where
  base : Nat
  S : Nat
  top : Nat
  lim : Nat
  f : List E
  ro : List Nat
  /-- The blocks that stay, to be read only. -/
  rq : Heap
noncomputable def Er.rest (c : Er) (h : Heap) : G := ⟨h, c.top, c.lim, c.f, c.ro, []⟩
noncomputable def Er.run (c : Er) (i : Nat) (h : Heap) : G := ⟨h, c.base + i * c.S, c.base + Nat.succ i * c.S, c.f, c.ro, []⟩
noncomputable def eGuard (R : Rg) (F : List E) (nt : Nat) (tm : PT) (ops : List Oper) (o : Oper) : Option Bool :=
  match o.guard with
  | none => some true
  | some (j, want) => match lnth ops j with
    | some oj => match oj.dst with
      | some t => ife (Nat.ble (Nat.succ t) nt) (match tm.get t with
        | .bool e => (match e.boolB R F with | some b => some (ife b want (ife want false true)) | none => none)
        | .tup [] => some false
        | _ => none) none
      | none => none
    | none => none
theorem eGuard_ok {R : Rg} (hR : R.ok V) {F : List E} (hF : Fs.ok V F) {nt d : Nat} {tm : PT} {a : Act} (ht : Trel V N nt d tm a.tmps) {o : Oper} {b : Bool} (h : eGuard R F nt tm ops.toList o = some b) : Region.wanted o (yielded ops a.tmps) = b := by
  unfold eGuard at h
  split at h
  · rename_i hg
    injection h with h; subst h
    simp [Region.wanted, hg]
  · rename_i j want hg
    rw [lnth_eq] at h
    split at h
    · rename_i oj hj
      split at h
      · rename_i t hd
        cases hb : Nat.ble (Nat.succ t) nt
        · rw [hb] at h; cases h
        · rw [hb, ife_true] at h
          have hlt : t < nt := Nat.le_of_ble_eq_true hb
          have hlt' : t < a.tmps.size := by rw [ht.size]; exact hlt
          have hr := ht.rel t hlt
          have hD : a.tmps.getD t undef = a.tmps[t] := by rw [Array.getD_eq_getD_getElem?, Array.getElem?_eq_getElem hlt']; rfl
          have hy : yielded ops a.tmps j = match a.tmps[t] with | .bool b => some b | _ => none := by
            unfold yielded
            rw [Array.getElem?_toList] at hj
            simp only [hj, Option.bind_some, hd, Array.getElem?_eq_getElem hlt']
            cases a.tmps[t] <;> rfl
          rw [hD] at hr
          split at h
          · rename_i e hx
            rw [hx] at hr
            obtain ⟨c, hv, s⟩ := says_of_rel hr
            split at h
            · rename_i b' hb'
              injection h with h; subst h
              have hn : b' = c := by
                rw [E.boolB_ok hR hF e hb']
                unfold Says at s
                rw [s]
                cases c <;> simp
              rw [hn, ife_eqB]
              simp only [Region.wanted, hg, hy, hv]
              cases c <;> cases want <;> rfl
            · cases h
          · rename_i hx
            rw [hx] at hr
            injection h with h; subst h
            simp only [AV.rel] at hr
            obtain ⟨x, hv, _⟩ := hr
            simp only [Region.wanted, hg, hy, hv]
            cases want <;> rfl
          · cases h
      · cases h
    · cases h
/-- An operation that only reads, of the blocks that stay. -/
noncomputable def eQuiet (P : Program) (R : Rg) (call : Calls') (ext : Exts') (nt : Nat) (ops : List Oper) (c : Er) (i : Nat) (tm : PT) : Option PT :=
  match lnth ops i with
  | none => none
  | some o => match eGuard R c.f nt tm ops o with
    | none => none
    | some false => some (aput nt tm o.dst (.tup []))
    | some true => match o.op with
      | .store _ _ _ => none
      | .alloc _ => none
      | .box _ _ => none
      | .move x => some (aput nt tm o.dst (aev nt tm x))
      | .assign x => some (aput nt tm o.dst (aev nt tm x))
      | op => match (aOpC op AV P R (call AV) (ext AV) nt tm (c.rest c.rq) (fun x _ => .leaf x)).join (AV.tight c.top c.lim 6) with
        | some m => ife (m.tight c.top c.lim 6) (some (aput nt tm o.dst m)) none
        | none => none
/-- Any operation, with one outcome. -/
noncomputable def eStep (P : Program) (R : Rg) (call : Calls') (ext : Exts') (nt : Nat) (ops : List Oper) (c : Er) (i : Nat) (tm : PT) (h : Heap) : Option (PT × Heap) :=
  match lnth ops i with
  | none => none
  | some o => match eGuard R c.f nt tm ops o with
    | none => none
    | some false => some (aput nt tm o.dst (.tup []), h)
    | some true => match aOpC o.op (AV × G) P R (call (AV × G)) (ext (AV × G)) nt tm (c.run i h) (fun x g => .leaf (x, g)) with
      | .leaf q => some (aput nt tm o.dst q.1, q.2.heap)
      | _ => none
noncomputable def ePick (free : Nat → Bool) (q : Nat → Option PT) (rs : List Nat) : Option (Nat × PT) :=
  List.rec (motive := fun _ => Option (Nat × PT)) none (fun j _ ih => ife (free j) (match q j with | some t => some (j, t) | none => ih) ih) rs
noncomputable def eAll (run : Nat → Option (PT × Heap)) (r : PT × Heap) (rs : List Nat) : Bool :=
  List.rec (motive := fun _ => Bool) true (fun j _ ih => match run j with | some q => ife (same r q) ih false | none => false) rs
noncomputable def exR (P : Program) (R : Rg) (call : Calls') (ext : Exts') (nt : Nat) (ops : List Oper) (c : Er) (n : Nat) : Array Bool → PT → Heap → Option (PT × Heap) :=
  Nat.rec (motive := fun _ => Array Bool → PT → Heap → Option (PT × Heap))
    (fun listed tm h => match Region.ready .any ⟨ops⟩ listed with | [] => some (tm, h) | _ :: _ => none)
    (fun _ ih listed tm h => match Region.ready .any ⟨ops⟩ listed with
      | [] => some (tm, h)
      | i :: is => match ePick (Region.free .any ⟨ops⟩ listed) (fun j => eQuiet P R call ext nt ops c j tm) (i :: is) with
        | some (j, tm') => ih (listed.setIfInBounds j true) tm' h
        | none => match (match eStep P R call ext nt ops c i tm h with | some q => ih (listed.setIfInBounds i true) q.1 q.2 | none => none) with
          | some r => ife (eAll (fun j => match eStep P R call ext nt ops c j tm h with | some q => ih (listed.setIfInBounds j true) q.1 q.2 | none => none) r is) (some r) none
          | none => none) n
theorem ePick_ok {free : Nat → Bool} {q : Nat → Option PT} : ∀ (rs : List Nat) {j : Nat} {t : PT}, ePick free q rs = some (j, t) → j ∈ rs ∧ free j = true ∧ q j = some t
  | [], _, _, h => by cases h
  | i :: rs, j, t, h => by
    change ife (free i) (match q i with | some t => some (i, t) | none => ePick free q rs) (ePick free q rs) = some (j, t) at h
    have back : ePick free q rs = some (j, t) → j ∈ i :: rs ∧ free j = true ∧ q j = some t := fun h => by
      obtain ⟨h1, h2⟩ := ePick_ok rs h
      exact ⟨List.mem_cons_of_mem _ h1, h2⟩
    cases hf : free i
    · rw [hf] at h; exact back h
    · rw [hf, ife_true] at h
      split at h
      · rename_i t' ht
        injection h with h; injection h with h1 h2; subst h1 h2
        exact ⟨List.mem_cons_self, hf, ht⟩
      · exact back h
theorem eAll_ok {run : Nat → Option (PT × Heap)} {r : PT × Heap} : ∀ (rs : List Nat), eAll run r rs = true → ∀ j ∈ rs, run j = some r
  | [], _, j, hj => by cases hj
  | i :: rs, h, j, hj => by
    change (match run i with | some q => ife (same r q) (eAll run r rs) false | none => false) = true at h
    split at h
    · rename_i q hq
      cases hs : same r q
      · rw [hs] at h; cases h
      · rw [hs, ife_true] at h
        rcases List.mem_cons.1 hj with rfl | hj
        · rw [hq, same_ok hs]
        · exact eAll_ok rs h j hj
    · cases h

/-! ### It stands for every order -/
/-- What holds all along. -/
structure EI (ops : Array Oper) (V : Va) (W0 : World) (N0 : Env) (g0 : G) (n nt d : Nat) (ds : List Df) (c : Er) (N : Env) (listed : Array Bool) (tm : PT) (h : Heap) (a : Act) (w : World) : Prop where
  r : Grel V N W0 (c.rest h) w
  le : N0.le N
  out : ∀ id, ¬ (c.base ≤ id ∧ id < c.lim) → N.b id = N0.b id ∧ N.c id = N0.c id
  free : ∀ j, j < n → listed.getD j true = false → ∀ id, c.base + j * c.S ≤ id → id < c.base + Nat.succ j * c.S → N.b id = none ∧ N.c id = none
  keep : ∀ id ∈ c.ro, ∀ o, hget g0.heap id = some o → hget h id = some o
  a : Arel V N nt d tm ds a
  cl : Closed .any ops listed
theorem range_apart {i j S : Nat} (h : i ≠ j) {b id : Nat} (h1 : b + j * S ≤ id) (h2 : id < b + Nat.succ j * S) : ¬ (b + i * S ≤ id ∧ id < b + Nat.succ i * S) := by
  rintro ⟨h3, h4⟩
  rcases Nat.lt_or_gt_of_ne h with hlt | hlt
  · have := Nat.mul_le_mul_right S (Nat.succ_le_of_lt hlt); omega
  · have := Nat.mul_le_mul_right S (Nat.succ_le_of_lt hlt); omega
theorem range_in {i n S : Nat} (h : i < n) {b id top : Nat} (ht : b + n * S = top) (h2 : id < b + Nat.succ i * S) : id < top := by
  have := Nat.mul_le_mul_right S (Nat.succ_le_of_lt h); omega
theorem getD_listed {listed : Array Bool} {i j : Nat} (h : (listed.setIfInBounds i true).getD j true = false) : j ≠ i ∧ listed.getD j true = false := by
  by_cases e : i = j
  · subst e
    exfalso
    by_cases hlt : i < listed.size
    · simp [hlt] at h
    · simp at h
  · rw [getD_set_ne true e] at h
    exact ⟨Ne.symm e, h⟩
/-- Operations that write or make memory (eff: functions that may write, by bits). Nothing hangs on it. -/
noncomputable def effOp (eff : Nat) : Op → Bool
  | .store _ _ _ => true
  | .alloc _ => true
  | .box _ _ => true
  | .buildSlice _ _ _ => true
  | .makeSlice _ _ _ => true
  | .makeMap _ _ => true
  | .call c => match c.callee with
    | .builtin .append => true
    | .builtin .copy => true
    | .builtin .clear => true
    | .value (.func f) => Nat.testBit eff f
    | _ => false
  | _ => false
noncomputable def effAt (eff : Nat) (ops : List Oper) (j : Nat) : Bool := match lnth ops j with | some o => effOp eff o.op | none => true
noncomputable def consO {β : Type} (x : β) (o : Option (List β)) : Option (List β) := match o with | some l => some (x :: l) | none => none
theorem consO_ok {β : Type} {x : β} {o : Option (List β)} {l : List β} (h : consO x o = some l) : ∃ m, o = some m ∧ l = x :: m := by
  unfold consO at h
  split at h
  · rename_i m; injection h with h; exact ⟨m, rfl, h.symm⟩
  · cases h
/-- Is it a call? -/
noncomputable def callAt (ops : List Oper) (j : Nat) : Bool := match lnth ops j with | some o => (match o.op with | .call _ => true | _ => false) | none => true
noncomputable def findB (bad free : Nat → Bool) (rs : List Nat) : Option Nat := List.rec (motive := fun _ => Option Nat) none (fun j _ ih => ife (bad j) ih (ife (free j) (some j) ih)) rs
theorem findB_ok {bad free : Nat → Bool} : ∀ (rs : List Nat) {j : Nat}, findB bad free rs = some j → j ∈ rs ∧ free j = true
  | [], _, h => by cases h
  | i :: rs, j, h => by
    change ife (bad i) (findB bad free rs) (ife (free i) (some i) (findB bad free rs)) = some j at h
    have back : findB bad free rs = some j → j ∈ i :: rs ∧ free j = true := fun h => by
      obtain ⟨h1, h2⟩ := findB_ok rs h
      exact ⟨List.mem_cons_of_mem _ h1, h2⟩
    cases hb : bad i
    · rw [hb, ife_false] at h
      cases hf : free i
      · rw [hf] at h; exact back h
      · rw [hf, ife_true] at h; injection h with h; subst h; exact ⟨List.mem_cons_self, hf⟩
    · rw [hb] at h; exact back h
/-- What is to be done first: neither a call nor a write; else a call. -/
noncomputable def findQ (eff : Nat) (ops : List Oper) (free : Nat → Bool) (rs : List Nat) : Option Nat := match findB (fun j => ife (callAt ops j) true (effAt eff ops j)) free rs with
  | some j => some j
  | none => findB (effAt eff ops) free rs
theorem findQ_ok {eff : Nat} {ops : List Oper} {free : Nat → Bool} (rs : List Nat) {j : Nat} (h : findQ eff ops free rs = some j) : j ∈ rs ∧ free j = true := by
  unfold findQ at h
  split at h
  · rename_i k hk; injection h with h; subst h; exact findB_ok rs hk
  · exact findB_ok rs h
noncomputable def exS (run : Nat → PT → Heap → Option (PT × Heap)) (i : Nat) (tm : PT) (h : Heap) (ih : PT → Heap → Option (PT × Heap)) : Option (PT × Heap) := match run i tm h with | some q => ih q.1 q.2 | none => none
/-- A plan for a region, a tree of orders: an operation that only reads (one: the only one there is); the only one there is; from here on other blocks may be written; each of several. -/
inductive PL where
  | fin
  | qt (j : Nat) (one : Bool) (r : PL)
  | st (j : Nat) (r : PL)
  | sw (r : PL)
  | alt (j : Nat) (r m : PL)
  | no
def Planned (ops : Array Oper) (qs : Nat) : PL → Bool → Option (List Nat) → Nat → Array Bool → Prop
  | .fin, _, o, _, listed => o = none ∧ Region.ready .any ops listed = []
  | .qt j one r, ph, o, n, listed => o = none ∧ ∃ m, n = m + 1 ∧ j ∈ Region.ready .any ops listed ∧ Region.free .any ops listed j = true ∧ (one = true → Region.ready .any ops listed = [j]) ∧ (ph = true → pureAt ops.toList j = false → qs.testBit j = true) ∧ Planned ops qs r ph none m (listed.setIfInBounds j true)
  | .st j r, ph, o, n, listed => o = none ∧ ∃ m, n = m + 1 ∧ Region.ready .any ops listed = [j] ∧ Planned ops qs r ph none m (listed.setIfInBounds j true)
  | .sw r, ph, o, n, listed => o = none ∧ ph = true ∧ (∀ j, j < ops.size → listed.getD j true = false → pureAt ops.toList j = false → lateB qs .any ops.toList j = true) ∧ Planned ops qs r false none n listed
  | .alt j r q, ph, o, n, listed => ∃ m js, n = m + 1 ∧ o.getD (Region.ready .any ops listed) = j :: js ∧ Planned ops qs r ph none m (listed.setIfInBounds j true) ∧ Planned ops qs q ph (some js) n listed
  | .no, _, o, _, _ => o = some []
noncomputable def noneB {β : Type} (o : Option β) : Bool := match o with | none => true | some _ => false
theorem noneB_ok {β : Type} {o : Option β} (h : noneB o = true) : o = none := by cases o; rfl; cases h
noncomputable def natP (n : Nat) (f : Nat → Bool) : Bool := Nat.rec (motive := fun _ => Bool) false (fun m _ => f m) n
theorem natP_ok {n : Nat} {f : Nat → Bool} (h : natP n f = true) : ∃ m, n = m + 1 ∧ f m = true := by cases n; cases h; exact ⟨_, rfl, h⟩
noncomputable def consB (j : Nat) (l : List Nat) (f : List Nat → Bool) : Bool := match l with | i :: js => ife (Nat.beq i j) (f js) false | [] => false
theorem consB_ok {j : Nat} {l : List Nat} {f : List Nat → Bool} (h : consB j l f = true) : ∃ js, l = j :: js ∧ f js = true := by
  unfold consB at h
  split at h
  · rename_i i js
    cases hb : Nat.beq i j
    · rw [hb] at h; cases h
    · rw [hb] at h; exact ⟨js, by rw [Nat.eq_of_beq_eq_true hb], h⟩
  · cases h
noncomputable def orR (o : Option (List Nat)) (l : List Nat) : List Nat := match o with | none => l | some l => l
noncomputable def someNil (o : Option (List Nat)) : Bool := match o with | some [] => true | _ => false
theorem someNil_ok {o : Option (List Nat)} (h : someNil o = true) : o = some [] := by
  unfold someNil at h
  split at h
  · rfl
  · cases h
noncomputable def lateAll (ops : List Oper) (qs : Nat) (L : Nat) (n : Nat) : Bool := Nat.rec (motive := fun _ => Bool) true (fun j ih => ife (ife (Nat.testBit L j) true (pureAt ops j)) ih (ife (lateB qs .any ops j) ih false)) n
theorem lateAll_ok {ops : List Oper} {qs L : Nat} : ∀ {n : Nat}, lateAll ops qs L n = true → ∀ j, j < n → L.testBit j = false → pureAt ops j = false → lateB qs .any ops j = true
  | 0, _, j, hj, _, _ => by omega
  | n + 1, h, j, hj, hl, hp => by
    change ife (ife (Nat.testBit L n) true (pureAt ops n)) (lateAll ops qs L n) (ife (lateB qs .any ops n) (lateAll ops qs L n) false) = true at h
    by_cases e : j = n
    · subst e
      rw [hl, ife_false, hp, ife_false] at h
      cases hb : lateB qs .any ops j
      · rw [hb] at h; cases h
      · rfl
    · have hn : lateAll ops qs L n = true := by
        cases h1 : ife (Nat.testBit L n) true (pureAt ops n)
        · rw [h1, ife_false] at h
          cases hb : lateB qs .any ops n
          · rw [hb] at h; cases h
          · rw [hb] at h; exact h
        · rw [h1] at h; exact h
      exact lateAll_ok hn j (by omega) hl hp
noncomputable def planB (ops : List Oper) (I : List Inf) (qs : Nat) (p : PL) : Bool → Option (List Nat) → Nat → Nat → Bool :=
  PL.rec (motive := fun _ => Bool → Option (List Nat) → Nat → Nat → Bool)
    (fun _ o _ L => and2 (noneB o) (match readyM L I 0 with | [] => true | _ :: _ => false))
    (fun j one _ ih ph o n L => and2 (noneB o) (natP n fun m => and2 (memB j (readyM L I 0)) (and2 (freeM I L j) (and2 (ife one (isOnly j (readyM L I 0)) true) (and2 (ife ph (ife (pureAt ops j) true (Nat.testBit qs j)) true) (ih ph none m (Nat.lor L (Nat.pow 2 j))))))))
    (fun j _ ih ph o n L => and2 (noneB o) (natP n fun m => and2 (isOnly j (readyM L I 0)) (ih ph none m (Nat.lor L (Nat.pow 2 j)))))
    (fun _ ih ph o n L => and2 (noneB o) (and2 ph (and2 (lateAll ops qs L ops.length) (ih false none n L))))
    (fun j _ _ ir iq ph o n L => natP n fun m => consB j (orR o (readyM L I 0)) fun js => and2 (ir ph none m (Nat.lor L (Nat.pow 2 j))) (and2 (memB j (readyM L I 0)) (iq ph (some js) n L)))
    (fun _ o _ _ => someNil o) p
theorem planB_ok {ops : Array Oper} {qs : Nat} : ∀ (p : PL) {ph : Bool} {o : Option (List Nat)} {n : Nat} {listed : Array Bool} {L : Nat}, LM listed L ops.size → planB ops.toList (infs ops ops.toList) qs p ph o n L = true → Planned ops qs p ph o n listed := by
  have lt : ∀ {listed : Array Bool} {L j : Nat}, LM listed L ops.size → j ∈ readyM L (infs ops ops.toList) 0 → j < ops.size := by
    intro listed L j hL hj
    rw [← readyM_eq hL] at hj
    obtain ⟨_, o, ho, _⟩ := mem_ready.1 hj
    exact (Array.getElem?_eq_some_iff.1 ho).1
  intro p
  induction p with
  | fin =>
    intro ph o n listed L hL h
    obtain ⟨h1, h2⟩ := and2_ok (show and2 (noneB o) (match readyM L (infs ops ops.toList) 0 with | [] => true | _ :: _ => false) = true from h)
    refine ⟨noneB_ok h1, ?_⟩
    rw [readyM_eq hL]
    split at h2
    · assumption
    · cases h2
  | qt j one r ih =>
    intro ph o n listed L hL h
    obtain ⟨h1, h2⟩ := and2_ok (show and2 (noneB o) (natP n fun m => and2 (memB j (readyM L (infs ops ops.toList) 0)) (and2 (freeM (infs ops ops.toList) L j) (and2 (ife one (isOnly j (readyM L (infs ops ops.toList) 0)) true) (and2 (ife ph (ife (pureAt ops.toList j) true (Nat.testBit qs j)) true) (planB ops.toList (infs ops ops.toList) qs r ph none m (Nat.lor L (Nat.pow 2 j))))))) = true from h)
    obtain ⟨m, rfl, h2⟩ := natP_ok h2
    obtain ⟨h3, h2⟩ := and2_ok h2
    obtain ⟨h4, h2⟩ := and2_ok h2
    obtain ⟨h5, h2⟩ := and2_ok h2
    obtain ⟨h6, h2⟩ := and2_ok h2
    have h3 := memB_ok h3
    exact ⟨noneB_ok h1, m, rfl, by rw [readyM_eq hL]; exact h3, freeM_ok hL h4, fun e => by subst e; rw [readyM_eq hL]; exact isOnly_ok h5, fun e hpu => (by subst e; rw [hpu] at h6; exact h6), ih (hL.set (lt hL h3)) h2⟩
  | st j r ih =>
    intro ph o n listed L hL h
    obtain ⟨h1, h2⟩ := and2_ok (show and2 (noneB o) (natP n fun m => and2 (isOnly j (readyM L (infs ops ops.toList) 0)) (planB ops.toList (infs ops ops.toList) qs r ph none m (Nat.lor L (Nat.pow 2 j)))) = true from h)
    obtain ⟨m, rfl, h2⟩ := natP_ok h2
    obtain ⟨h3, h2⟩ := and2_ok h2
    have h3 := isOnly_ok h3
    exact ⟨noneB_ok h1, m, rfl, by rw [readyM_eq hL]; exact h3, ih (hL.set (lt hL (by rw [h3]; exact List.mem_singleton.2 rfl))) h2⟩
  | sw r ih =>
    intro ph o n listed L hL h
    obtain ⟨h1, h2⟩ := and2_ok (show and2 (noneB o) (and2 ph (and2 (lateAll ops.toList qs L ops.toList.length) (planB ops.toList (infs ops ops.toList) qs r false none n L))) = true from h)
    obtain ⟨h3, h2⟩ := and2_ok h2
    obtain ⟨h4, h2⟩ := and2_ok h2
    exact ⟨noneB_ok h1, h3, fun j hj hl hp => lateAll_ok h4 j (by simpa using hj) (by rw [← hL.at hj]; exact hl) hp, ih hL h2⟩
  | alt j r q ir iq =>
    intro ph o n listed L hL h
    obtain ⟨m, rfl, h⟩ := natP_ok (show (natP n fun m => consB j (orR o (readyM L (infs ops ops.toList) 0)) fun js => and2 (planB ops.toList (infs ops ops.toList) qs r ph none m (Nat.lor L (Nat.pow 2 j))) (and2 (memB j (readyM L (infs ops ops.toList) 0)) (planB ops.toList (infs ops ops.toList) qs q ph (some js) n L))) = true from h)
    obtain ⟨js, h1, h⟩ := consB_ok h
    obtain ⟨h2, h3⟩ := and2_ok h
    obtain ⟨h4, h5⟩ := and2_ok h3
    exact ⟨m, js, rfl, by rw [← h1, readyM_eq hL]; cases o <;> rfl, ir (hL.set (lt hL (memB_ok h4))) h2, iq hL h5⟩
  | no => intro ph o n listed L hL h; exact someNil_ok h
noncomputable def isNo (p : PL) : Bool := PL.rec (motive := fun _ => Bool) false (fun _ _ _ _ => false) (fun _ _ _ => false) (fun _ _ => false) (fun _ _ _ _ _ => false) true p
theorem isNo_ok {p : PL} (h : isNo p = true) : p = .no := by cases p <;> first | rfl | cases h
/-- Other facts. -/
noncomputable def Er.fac (c : Er) (f : List E) : Er := Er.rec (fun base S top lim _ ro rq => ⟨base, S, top, lim, f, ro, rq⟩) c
/-- Leaves and forks alone. -/
noncomputable def Rs.only {β : Type} (t : Rs β) : Bool := Rs.rec (motive := fun _ => Bool) (fun _ => false) (fun _ => true) (fun _ _ _ ix iy => ife ix iy false) (fun _ _ _ _ => false) t
theorem Rs.only_sel {β : Type} : ∀ {t : Rs β}, t.only = true → ∃ b, t.All V (fun z => z = b) ∧ ∀ P : β → Prop, t.All V P → P b
  | .bad _, h => by cases h
  | .both _ _, h => by cases h
  | .leaf b, _ => ⟨b, rfl, fun _ h => h⟩
  | .fork c x y, h => by
    change ife x.only y.only false = true at h
    cases hx : x.only
    · rw [hx] at h; cases h
    · rw [hx] at h
      simp only [Rs.All]
      by_cases hc : c.den V = 0
      · simp only [if_pos hc]; exact Rs.only_sel h
      · simp only [if_neg hc]; exact Rs.only_sel hx
noncomputable def Rs.fst {β γ : Type} (t : Rs (β × γ)) : Rs β := Rs.rec (motive := fun _ => Rs β) (fun n => .bad n) (fun q => .leaf q.1) (fun c _ _ ix iy => .fork c ix iy) (fun _ _ ix iy => .both ix iy) t
theorem Rs.All_fst {β γ : Type} {P : β → Prop} : ∀ {t : Rs (β × γ)}, t.fst.All V P → t.All V fun q => P q.1
  | .bad _, h => h
  | .leaf _, h => h
  | .fork c x y, h => by
    change (Rs.fork c x.fst y.fst).All V P at h
    simp only [Rs.All] at h ⊢
    split
    · rename_i hc; rw [if_pos hc] at h; exact Rs.All_fst h
    · rename_i hc; rw [if_neg hc] at h; exact Rs.All_fst h
  | .both x y, h => ⟨Rs.All_fst h.1, Rs.All_fst h.2⟩
noncomputable def quietF (c : Er) (nt : Nat) (tm : PT) (dst : Option Tmp) (q : AV × G) : Rs (PT × List E) := ife (q.1.tight c.top c.lim 6) (.leaf (aput nt tm dst q.1, q.2.fs)) (.bad 255)
noncomputable def quietK (c : Er) (f : List E) (nt : Nat) (tm : PT) (dst : Option Tmp) (t : Rs (AV × G)) : Rs (PT × List E) := match t.fst.join (AV.tight c.top c.lim 6) with
  | some m => ife (m.tight c.top c.lim 6) (.leaf (aput nt tm dst m, f)) (ife t.only (t.bnd (quietF c nt tm dst)) (.bad 256))
  | none => ife t.only (t.bnd (quietF c nt tm dst)) (.bad 256)
/-- An operation that only reads, of the blocks that stay: its outcomes. -/
noncomputable def quietC (P : Program) (R : Rg) (call : Calls') (ext : Exts') (nt : Nat) (ops : List Oper) (c : Er) (i : Nat) (tm : PT) (f : List E) : Rs (PT × List E) :=
  match lnth ops i with
  | none => .bad 257
  | some o => match eGuard R f nt tm ops o with
    | none => .bad 258
    | some false => .leaf (aput nt tm o.dst (.tup []), f)
    | some true => match o.op with
      | .store _ _ _ => .bad 259
      | .alloc _ => .bad 259
      | .box _ _ => .bad 259
      | .move x => .leaf (aput nt tm o.dst (aev nt tm x), f)
      | .assign x => .leaf (aput nt tm o.dst (aev nt tm x), f)
      | .extract x ix => (match aev nt tm x with | .tup l => (match lnth l ix with | some y => .leaf (aput nt tm o.dst y, f) | none => .bad 264) | _ => .bad 265)
      | op => quietK c f nt tm o.dst (aOpC op (AV × G) P R (call (AV × G)) (ext (AV × G)) nt tm ((c.fac f).rest c.rq) (fun x g => .leaf (x, g)))
/-- Any operation. -/
noncomputable def stepC (P : Program) (R : Rg) (call : Calls') (ext : Exts') (nt : Nat) (ops : List Oper) (c : Er) (i : Nat) (tm : PT) (h : Heap) (f : List E) : Rs (PT × Heap × List E) :=
  match lnth ops i with
  | none => .bad 257
  | some o => match eGuard R f nt tm ops o with
    | none => .bad 258
    | some false => .leaf (aput nt tm o.dst (.tup []), h, f)
    | some true => aOpC o.op (PT × Heap × List E) P R (call _) (ext _) nt tm ((c.fac f).run i h) (fun x g => .leaf (aput nt tm o.dst x, g.heap, g.fs))
abbrev RunF := PT → Heap → List E → Rs (PT × Heap × List E)
noncomputable def oneLeaf (f : List E) (x : Rs (PT × Heap × List E)) (y : Rs (PT × Heap × List E)) : Rs (PT × Heap × List E) := match x, y with
  | .leaf a, .leaf b => ife (same (a.1, a.2.1) (b.1, b.2.1)) (.leaf (a.1, a.2.1, f)) (.bad 260)
  | _, _ => .bad 261
noncomputable def qtR (one : Bool) (h : Heap) (t : Rs (PT × List E)) (s : Rs (PT × Heap × List E)) (ih : RunF) : Rs (PT × Heap × List E) := ife t.only (t.bnd fun q => ih q.1 h q.2) (ife one (s.bnd fun q => ih q.1 q.2.1 q.2.2) (.bad 254))
/-- The region by its plan. -/
noncomputable def runT (quiet : Nat → PT → List E → Rs (PT × List E)) (step : Nat → RunF) (onSw : PL → RunF) (p : PL) : RunF :=
  PL.rec (motive := fun _ => RunF) (fun tm h f => .leaf (tm, h, f))
    (fun j one _ ih tm h f => qtR one h (quiet j tm f) (step j tm h f) ih)
    (fun j _ ih tm h f => (step j tm h f).bnd fun q => ih q.1 q.2.1 q.2.2) (fun r _ => onSw r)
    (fun j _ q ir iq tm h f => ife (isNo q) ((step j tm h f).bnd fun q => ir q.1 q.2.1 q.2.2) (oneLeaf f ((step j tm h f).bnd fun q => ir q.1 q.2.1 q.2.2) (iq tm h f)))
    (fun _ _ _ => .bad 262) p
/-! A plan, by the code alone. -/
noncomputable def mapO {β γ : Type} (f : β → γ) (o : Option β) : Option γ := match o with | some x => some (f x) | none => none
noncomputable def altsT (f : Nat → Option PL) (l : List Nat) : Option PL := List.rec (motive := fun _ => Option PL) (some .no) (fun j _ ih => match f j with | some r => (match ih with | some q => some (.alt j r q) | none => none) | none => none) l
noncomputable def few (l : List Nat) : Bool := match l with | [] => true | [_] => true | [_, _] => true | [_, _, _] => true | [_, _, _, _] => true | _ => false
noncomputable def nilB (l : List Nat) : Bool := match l with | [] => true | _ :: _ => false
noncomputable def planT (eff : Nat) (ops : List Oper) (I : List Inf) (n : Nat) : Nat → Option PL :=
  Nat.rec (motive := fun _ => Nat → Option PL) (fun _ => some .fin)
    (fun _ ih L => match readyM L I 0 with
      | [] => some .fin
      | i :: is => match findQ eff ops (freeM I L) (i :: is) with
        | some j => mapO (PL.qt j (nilB is)) (ih (Nat.lor L (Nat.pow 2 j)))
        | none => match is with
          | [] => mapO (PL.st i) (ih (Nat.lor L (Nat.pow 2 i)))
          | _ :: _ => ife (few (i :: is)) (altsT (fun j => ih (Nat.lor L (Nat.pow 2 j))) (i :: is)) none) n
noncomputable def PL.qs (ops : List Oper) (p : PL) : Nat := PL.rec (motive := fun _ => Nat) 0 (fun j _ _ ih => ife (pureAt ops j) ih (Nat.lor (Nat.pow 2 j) ih)) (fun _ _ ih => ih) (fun _ _ => 0) (fun _ _ _ _ _ => 0) 0 p
/-- Does it read memory? (a hint) -/
noncomputable def rdOp (o : Op) : Bool := match o with
  | .move _ => false
  | .assign _ => false
  | .extract _ _ => false
  | .pick _ _ _ => false
  | .fieldAddr _ _ _ => false
  | .indexAddr _ _ _ => false
  | .nilCheck _ => false
  | .binOp _ _ _ _ _ => false
  | .unOp _ _ _ => false
  | .build _ _ => false
  | .field _ _ _ => false
  | _ => true
noncomputable def rdAt (ops : List Oper) (j : Nat) : Bool := match lnth ops j with | some o => rdOp o.op | none => true
noncomputable def PL.noQt (ops : List Oper) (p : PL) : Bool := PL.rec (motive := fun _ => Bool) true (fun j _ _ ih => ife (rdAt ops j) false ih) (fun _ _ ih => ih) (fun _ ih => ih) (fun _ _ _ ia ib => and2 ia ib) true p
/-- From an operation on behind which none is looked at ahead (n: how many of these are left out), or that is one of several. -/
noncomputable def PL.addSw (ops : List Oper) (p : PL) : Nat → PL := PL.rec (motive := fun _ => Nat → PL) (fun _ => .fin) (fun j o _ ih n => .qt j o (ih n))
  (fun j r ih n => ife (PL.noQt ops r) (Nat.rec (motive := fun _ => PL) (.sw (.st j r)) (fun m _ => .st j (ih m)) n) (.st j (ih n))) (fun r _ _ => .sw r) (fun j r q _ _ _ => .sw (.alt j r q)) (fun _ => .no) p
/-- What stands ahead of the first 'each'. -/
noncomputable def PL.early (p : PL) : List Nat := PL.rec (motive := fun _ => List Nat) [] (fun j _ _ ih => j :: ih) (fun j _ ih => j :: ih) (fun _ _ => []) (fun _ _ _ _ _ => []) [] p
noncomputable def PL.hasSw (p : PL) : Bool := PL.rec (motive := fun _ => Bool) false (fun _ _ _ ih => ih) (fun _ _ ih => ih) (fun _ _ => true) (fun _ _ _ _ _ => false) false p
theorem exR_ok {R : Rg} (hR : R.ok V) {call : Calls'} {ext : Exts'} (hc : ∀ (β : Type) (W0 : World) (p : β → Prop), CallOk P V W0 p (call β)) (he : ∀ (β : Type) (W0 : World) (p : β → Prop), ExtOk P V W0 p (ext β))
    {N0 : Env} {g0 : G} {w0 : World} (r0 : Grel V N0 W0 g0 w0) {hS : Heap} {SS : World → Prop} (hSS : SS = fun w => Grel V N0 W0 { g0 with heap := hS } w) (hdn : ∀ j w, SI j w → SS w) {nt d : Nat} {ds : List Df} {c : Er}
    (hrq : c.rq = roHeap hS) (hin : ∀ id o, hget hS id = some o → id ∈ c.ro ∧ hget g0.heap id = some o) (htop : c.base + ops.size * c.S = c.top) (hlim : c.top ≤ c.lim) 
    (hsel : Region.noSelect ops = true) {Q : Exit → Act → World → Prop} (hQ : ∀ c a w, ¬ Q (.panic c) a w) (hQo : ¬ LetsOut Q) {tmR : PT} {hR' : Heap}
    (hk : ∀ N listed a w, EI ops V W0 N0 g0 ops.size nt d ds c N listed tmR hR' a w → Q .normal a w) :
    ∀ (n : Nat) (listed : Array Bool) (tm : PT) (h : Heap) (N : Env) (a : Act) (w : World), exR P R call ext nt ops.toList c n listed tm h = some (tmR, hR') → EI ops V W0 N0 g0 ops.size nt d ds c N listed tm h a w → SS w →
      (∀ j w, listed.getD j true = false → SS w → SI j w) → AnyG P .any ops Q SI n listed a w := by
  have hSg : ∀ w w', SS w → Garb w w' → SS w' := fun w w' h h' => by subst hSS; exact Grel.garb h h'
  have garbI : ∀ {N listed tm h a w w'}, EI ops V W0 N0 g0 ops.size nt d ds c N listed tm h a w → Garb w w' → EI ops V W0 N0 g0 ops.size nt d ds c N listed tm h a w' :=
    fun i hg => ⟨i.r.garb hg, i.le, i.out, i.free, i.keep, i.a, i.cl⟩
  -- the quiet operations
  have quiet : ∀ {N listed tm h a w} (i : Nat) (o : Oper) (tm' : PT), ops[i]? = some o → EI ops V W0 N0 g0 ops.size nt d ds c N listed tm h a w → SS w → eQuiet P R call ext nt ops.toList c i tm = some tm' →
      ∃ v, QuietIn P ops SS o v a ∧ Arel V N nt d tm' ds (a.put o.dst v) := by
    intro N listed tm h a w i o tm' hi hI hw hq
    unfold eQuiet at hq
    rw [lnth_eq, Array.getElem?_toList, hi] at hq
    simp only at hq
    split at hq
    · cases hq
    · rename_i hg
      injection hq with hq; subst hq
      exact ⟨undef, .inr ⟨eGuard_ok hR hI.r.facts hI.a.t hg, rfl⟩, hI.a.put undef_rel o.dst⟩
    · rename_i hg
      have hwant := eGuard_ok hR hI.r.facts hI.a.t hg
      split at hq
      · cases hq
      · cases hq
      · cases hq
      · rename_i x ho
        injection hq with hq; subst hq
        exact ⟨a.eval x, .inl ⟨hwant, fun w' _ => by simp only [execOp, ho, Sem.run_pure]; exact ⟨rfl, Garb.refl w'⟩⟩, hI.a.put (aev_ok hI.a.t x) o.dst⟩
      · rename_i x ho
        injection hq with hq; subst hq
        exact ⟨a.eval x, .inl ⟨hwant, fun w' _ => by simp only [execOp, ho, Sem.run_pure]; exact ⟨rfl, Garb.refl w'⟩⟩, hI.a.put (aev_ok hI.a.t x) o.dst⟩
      · split at hq
        · rename_i m hj
          cases ht : m.tight c.top c.lim 6
          · rw [ht] at hq; cases hq
          · rw [ht, ife_true] at hq
            injection hq with hq; subst hq
            rw [aOpC_eq] at hj
            have hjoin := Rs.join_ok (V := V) _ hj
            have key : ∀ w', SS w' → uponV P (fun u w'' => m.rel V N u ∧ Garb w' w'') ((execOp a.eval o).run P w') := by
              intro w' hw'
              rw [hSS] at hw'
              have r1 : Grel V N w' (c.rest c.rq) w' := by
                rw [hrq]
                have r2 := hw'.ro
                refine ⟨r2.os, r2.tape, r2.output, r2.size, r2.below, r2.soft, fun id o' ho' => ?_, fun id o' id' o'' ho' ho'' hne hown => ?_, hI.r.fresh, hI.r.facts⟩
                · obtain ⟨b, e1, e2, e3⟩ := r2.ob id o' ho'
                  exact ⟨b, hI.le.1 _ _ e1, e2.mono hI.le, e3⟩
                · have ho2 : hget (roHeap hS) id = some o' := ho'
                  rw [hget_ro] at ho2
                  cases hx : hget hS id with
                  | none => rw [hx] at ho2; cases ho2
                  | some x =>
                    rw [hx] at ho2
                    simp only [Option.map_some, Option.some.injEq] at ho2
                    subst ho2
                    rw [Ob.ro_own] at hown; cases hown
              refine aOp_ok hR (hc AV w' _) (he AV w' _) r1 hI.a.t hjoin.1 _ fun v w'' x g' N' k1 k2 k3 k4 => ⟨?_, k1.toGarb⟩
              exact hjoin.2 x k4 N' N v (fun y hy hv => AV.tight_old (fun id hid => k2.out id hid) 6 y v hy hv) k3
            obtain ⟨v, _, hv, _⟩ := uponV_ex (key w hw)
            exact ⟨v, .inl ⟨hwant, fun w' hw' => uponV_mono (fun u w'' hu => ⟨AV.tight_uniq 6 m u v ht hu.1 hv, hu.2⟩) (key w' hw')⟩, hI.a.put hv o.dst⟩
        · cases hq
  intro n
  induction n with
  | zero =>
    intro listed tm h N a w hx hI hw hup w' hw'
    change (match Region.ready .any ops listed with | [] => some (tm, h) | _ :: _ => none) = some (tmR, hR') at hx
    split at hx
    · rename_i hr
      injection hx with hx; injection hx with h1 h2; subst h1 h2
      exact ⟨hr, hk N listed a w' (garbI hI hw')⟩
    · cases hx
  | succ n ih =>
    intro listed tm h N a w hx hI hw hup
    change (match Region.ready .any ops listed with
      | [] => some (tm, h)
      | i :: is => match ePick (Region.free .any ops listed) (fun j => eQuiet P R call ext nt ops.toList c j tm) (i :: is) with
        | some (j, tm') => exR P R call ext nt ops.toList c n (listed.setIfInBounds j true) tm' h
        | none => match (match eStep P R call ext nt ops.toList c i tm h with | some q => exR P R call ext nt ops.toList c n (listed.setIfInBounds i true) q.1 q.2 | none => none) with
          | some r => ife (eAll (fun j => match eStep P R call ext nt ops.toList c j tm h with | some q => exR P R call ext nt ops.toList c n (listed.setIfInBounds j true) q.1 q.2 | none => none) r is) (some r) none
          | none => none) = some (tmR, hR') at hx
    split at hx
    · rename_i hr
      injection hx with hx; injection hx with h1 h2; subst h1 h2
      intro w' hw'
      exact ⟨fun _ => hk N listed a w' (garbI hI hw'), fun i hi => by rw [hr] at hi; cases hi⟩
    · rename_i i is hr
      split at hx
      · rename_i j tm' hp
        obtain ⟨hj, hf, hq⟩ := ePick_ok _ hp
        rw [← hr] at hj
        obtain ⟨_, o, ho, _⟩ := mem_ready.1 hj
        obtain ⟨v, hy, ra'⟩ := quiet j o tm' ho hI hw hq
        refine AnyG.first ho hsel hQ hQo hSg (fun w h => hup j w (mem_ready.1 hj).1 h) (fun j _ w _ _ _ _ _ h => hdn j w h) n listed a w (Region.free_spec ho hf) hI.cl hj hy hw ?_
        exact ih _ tm' h N _ w hx ⟨hI.r, hI.le, hI.out, fun k hk hl => hI.free k hk (getD_listed hl).2, hI.keep, ra', hI.cl.add hj⟩ hw fun k w hk h => hup k w (getD_listed hk).2 h
      · -- every order
        have all : ∀ j ∈ Region.ready .any ops listed, (match eStep P R call ext nt ops.toList c j tm h with | some q => exR P R call ext nt ops.toList c n (listed.setIfInBounds j true) q.1 q.2 | none => none) = some (tmR, hR') := by
          split at hx
          · rename_i r hrun
            cases hal : eAll (fun j => match eStep P R call ext nt ops.toList c j tm h with | some q => exR P R call ext nt ops.toList c n (listed.setIfInBounds j true) q.1 q.2 | none => none) r is
            · rw [hal] at hx; cases hx
            · rw [hal, ife_true] at hx
              injection hx with hx; subst hx
              intro j hj
              rw [hr] at hj
              rcases List.mem_cons.1 hj with rfl | hj
              · exact hrun
              · exact eAll_ok is hal j hj
          · cases hx
        intro w' hw'
        have hI' := garbI hI hw'
        have hw2 := hSg _ _ hw hw'
        refine ⟨fun h0 => (by rw [hr] at h0; cases h0), fun j hj => ?_⟩
        have hrun := all j hj
        obtain ⟨hjun, o, ho, _⟩ := mem_ready.1 hj
        have hjn : j < ops.size := (Array.getElem?_eq_some_iff.1 ho).1
        split at hrun
        · rename_i q hst
          unfold eStep at hst
          rw [lnth_eq, Array.getElem?_toList, ho] at hst
          simp only at hst
          unfold wpOp
          simp only [ho]
          split at hst
          · cases hst
          · rename_i hg
            injection hst with hst; subst hst
            rw [if_neg (by rw [eGuard_ok hR hI'.r.facts hI'.a.t hg]; simp)]
            exact ⟨hup j _ hjun hw2, ih _ _ h N _ w' hrun ⟨hI'.r, hI'.le, hI'.out, fun k hk hl => hI'.free k hk (getD_listed hl).2, hI'.keep, hI'.a.put undef_rel o.dst, hI'.cl.add hj⟩ hw2 fun k w hk h => hup k w (getD_listed hk).2 h⟩
          · rename_i hg
            rw [if_pos (eGuard_ok hR hI'.r.facts hI'.a.t hg)]
            refine .inl ?_
            split at hst
            · rename_i q' hleaf
              injection hst with hst; subst hst
              have r1 : Grel V N W0 (c.run j h) w' := ⟨hI'.r.os, hI'.r.tape, hI'.r.output, hI'.r.size, hI'.r.below, hI'.r.soft, hI'.r.ob, hI'.r.apart, fun id h1 h2 => hI'.free j hjn hjun id h1 h2, hI'.r.facts⟩
              rw [aOpC_eq] at hleaf
              have hall : (aOp P R (call (AV × G)) (ext (AV × G)) nt tm o.op (c.run j h) (fun x g => .leaf (x, g))).All V (fun z => z = q') := by rw [hleaf]; rfl
              refine (aOp_ok hR (hc _ W0 _) (he _ W0 _) r1 hI'.a.t hall).wp _ _ fun v w'' x g' N' k1 k2 k3 k4 => ?_
              have k4 : (x, g') = q' := k4
              subst k4
              have hrange : ∀ id, ¬ (c.base + j * c.S ≤ id ∧ id < c.base + Nat.succ j * c.S) → N'.b id = N.b id ∧ N'.c id = N.c id := k2.out
              have hkeep : ∀ id ∈ c.ro, ∀ o, hget g0.heap id = some o → hget g'.heap id = some o := fun id hid o ho => k2.keep id hid o (hI'.keep id hid o ho)
              have rr : Grel V N' W0 (c.rest g'.heap) w'' := by
                refine ⟨k1.os, k1.tape, k1.output, k1.size, k1.below, k1.soft, k1.ob, k1.apart, fun id h1 h2 => ?_, hI'.r.facts⟩
                have h1 : c.top ≤ id := h1
                have h2 : id < c.lim := h2
                have := hrange id (fun hh => by have := range_in hjn htop hh.2; omega)
                rw [this.1, this.2]
                exact hI'.r.fresh id h1 h2
              have hS'' : SS w'' := by
                rw [hSS]
                exact Grel.sub r0 rr (hI'.le.trans k2.le) fun id o ho => ⟨(hin id o ho).2, hkeep id (hin id o ho).1 o (hin id o ho).2⟩
              refine ⟨hup j _ hjun hS'', ih _ _ _ N' _ w'' hrun ⟨rr, hI'.le.trans k2.le, fun id hid => ?_, fun k hk hl id h1 h2 => ?_, hkeep, (hI'.a.mono k2.le).put k3 o.dst, hI'.cl.add hj⟩ hS'' fun k w hk h => hup k w (getD_listed hk).2 h⟩
              · have := hrange id (fun hh => hid ⟨by have := Nat.le_add_right c.base (j * c.S); omega, by have := range_in hjn htop hh.2; omega⟩)
                rw [this.1, this.2]
                exact hI'.out id hid
              · obtain ⟨hkj, hl⟩ := getD_listed hl
                have := hrange id (range_apart (Ne.symm hkj) h1 h2)
                rw [this.1, this.2]
                exact hI'.free k hk hl id h1 h2
            · cases hst
        · cases hrun
theorem quietC_ok {R : Rg} (hR : R.ok V) {call : Calls'} {ext : Exts'} (hc : ∀ (β : Type) (W0 : World) (p : β → Prop), CallOk P V W0 p (call β)) (he : ∀ (β : Type) (W0 : World) (p : β → Prop), ExtOk P V W0 p (ext β))
    {N0 : Env} {g0 : G} {hS : Heap} {SS : World → Prop} (hSS : SS = fun w => Grel V N0 W0 { g0 with heap := hS } w) {nt d : Nat} {ds : List Df} {c : Er} (hrq : c.rq = roHeap hS) {f : List E}
    {N : Env} {listed : Array Bool} {tm : PT} {h : Heap} {a : Act} {w : World} {i : Nat} {o : Oper} {K : PT × List E → Prop} (hi : ops[i]? = some o) (hI : EI ops V W0 N0 g0 ops.size nt d ds (c.fac f) N listed tm h a w) (hw : SS w) (hq : (quietC P R call ext nt ops.toList c i tm f).All V K) :
      ∃ v q, K q ∧ QuietIn P ops SS o v a ∧ Arel V N nt d q.1 ds (a.put o.dst v) ∧ Fs.ok V q.2 := by
  have hfs : Fs.ok V f := hI.r.facts
  unfold quietC at hq
  rw [lnth_eq, Array.getElem?_toList, hi] at hq
  simp only at hq
  split at hq
  · exact hq.elim
  · rename_i hg
    exact ⟨undef, _, hq, .inr ⟨eGuard_ok hR hfs hI.a.t hg, rfl⟩, hI.a.put undef_rel o.dst, hfs⟩
  · rename_i hg
    have hwant := eGuard_ok hR hfs hI.a.t hg
    split at hq
    · exact hq.elim
    · exact hq.elim
    · exact hq.elim
    · rename_i x ho
      exact ⟨a.eval x, _, hq, .inl ⟨hwant, fun w' _ => by simp only [execOp, ho, Sem.run_pure]; exact ⟨rfl, Garb.refl w'⟩⟩, hI.a.put (aev_ok hI.a.t x) o.dst, hfs⟩
    · rename_i x ho
      exact ⟨a.eval x, _, hq, .inl ⟨hwant, fun w' _ => by simp only [execOp, ho, Sem.run_pure]; exact ⟨rfl, Garb.refl w'⟩⟩, hI.a.put (aev_ok hI.a.t x) o.dst, hfs⟩
    · rename_i x ix ho
      have hx := aev_ok hI.a.t x
      split at hq
      · rename_i l hl
        rw [hl] at hx
        simp only [AV.rel] at hx
        obtain ⟨xs, hv, hr⟩ := hx
        rw [lnth_eq] at hq
        split at hq
        · rename_i y hy
          obtain ⟨u, hu, huy⟩ := rels_get ix hr hy
          refine ⟨u, _, hq, .inl ⟨hwant, fun w' _ => ?_⟩, hI.a.put huy o.dst, hfs⟩
          have hu' : xs[ix]? = some u := by simpa using hu
          have hv : a.eval x = .tuple xs := hv
          simp [execOp, ho, Instr.extract, hv, hu', uponV]
          exact Garb.refl w'
        · exact hq.elim
      · exact hq.elim
    · have r1 : ∀ w', SS w' → Grel V N w' ((c.fac f).rest c.rq) w' := by
        intro w' hw'
        rw [hSS] at hw'
        rw [hrq]
        have r2 := hw'.ro
        refine ⟨r2.os, r2.tape, r2.output, r2.size, r2.below, r2.soft, fun id o' ho' => ?_, fun id o' id' o'' ho' ho'' hne hown => ?_, hI.r.fresh, hfs⟩
        · obtain ⟨b, e1, e2, e3⟩ := r2.ob id o' ho'
          exact ⟨b, hI.le.1 _ _ e1, e2.mono hI.le, e3⟩
        · have ho2 : hget (roHeap hS) id = some o' := ho'
          rw [hget_ro] at ho2
          cases hx : hget hS id with
          | none => rw [hx] at ho2; cases ho2
          | some x =>
            rw [hx] at ho2
            simp only [Option.map_some, Option.some.injEq] at ho2
            subst ho2
            rw [Ob.ro_own] at hown; cases hown
      have hout : ∀ {g' : G} {N' : Env}, Ext ((c.fac f).rest c.rq) N g' N' → ∀ id, ¬ (c.top ≤ id ∧ id < c.lim) → N'.b id = N.b id ∧ N'.c id = N.c id := fun k2 id hid => k2.out id hid
      have fin : ∀ {m : AV} {f' : List E}, m.tight c.top c.lim 6 = true → (∀ w', SS w' → uponV P (fun u w'' => (m.rel V N u ∧ Fs.ok V f') ∧ Garb w' w'') ((execOp a.eval o).run P w')) → K (aput nt tm o.dst m, f') →
          ∃ v q, K q ∧ QuietIn P ops SS o v a ∧ Arel V N nt d q.1 ds (a.put o.dst v) ∧ Fs.ok V q.2 := by
        intro m f' ht key hk
        obtain ⟨v, _, ⟨hv, hff⟩, _⟩ := uponV_ex (key w hw)
        exact ⟨v, _, hk, .inl ⟨hwant, fun w' hw' => uponV_mono (fun u w'' hu => ⟨AV.tight_uniq 6 m u v ht hu.1.1 hv, hu.2⟩) (key w' hw')⟩, hI.a.put hv o.dst, hff⟩
      rename_i hns
      generalize htt : aOpC o.op (AV × G) P R (call (AV × G)) (ext (AV × G)) nt tm ((c.fac f).rest c.rq) (fun x g => .leaf (x, g)) = t at hq
      have htt' := htt
      rw [aOpC_eq] at htt'
      have forks : t.only = true → (t.bnd (quietF c nt tm o.dst)).All V K → ∃ v q, K q ∧ QuietIn P ops SS o v a ∧ Arel V N nt d q.1 ds (a.put o.dst v) ∧ Fs.ok V q.2 := by
        intro ho hb
        obtain ⟨b, hb1, hb2⟩ := Rs.only_sel (V := V) ho
        have hb := hb2 _ (Rs.All_bnd t hb)
        unfold quietF at hb
        cases ht : b.1.tight c.top c.lim 6
        · rw [ht] at hb; exact hb.elim
        · rw [ht, ife_true] at hb
          refine fin ht (fun w' hw' => ?_) hb
          refine aOp_ok hR (hc _ w' _) (he _ w' _) (r1 w' hw') hI.a.t (p := fun z => z = b) (by rw [htt']; exact hb1) _ fun v w'' x g' N' k1 k2 k3 k4 => ?_
          have k4 : (x, g') = b := k4
          subst k4
          exact ⟨⟨AV.tight_old (fun id hid => hout k2 id hid) 6 x v ht k3, k1.facts⟩, k1.toGarb⟩
      unfold quietK at hq
      split at hq
      · rename_i m hj
        cases ht : m.tight c.top c.lim 6
        · rw [ht, ife_false] at hq
          cases ho : t.only
          · rw [ho] at hq; exact hq.elim
          · rw [ho, ife_true] at hq; exact forks ho hq
        · rw [ht, ife_true] at hq
          have hjoin := Rs.join_ok (V := V) _ hj
          refine fin ht (fun w' hw' => ?_) hq
          refine aOp_ok hR (hc _ w' _) (he _ w' _) (r1 w' hw') hI.a.t (by rw [htt']; exact Rs.All_fst hjoin.1) _ fun v w'' x g' N' k1 k2 k3 k4 => ⟨⟨?_, hfs⟩, k1.toGarb⟩
          exact hjoin.2 x k4 N' N v (fun y hy hv => AV.tight_old (fun id hid => hout k2 id hid) 6 y v hy hv) k3
      · cases ho : t.only
        · rw [ho] at hq; exact hq.elim
        · rw [ho, ife_true] at hq; exact forks ho hq
theorem stepC_ok {R : Rg} (hR : R.ok V) {call : Calls'} {ext : Exts'} (hc : ∀ (β : Type) (W0 : World) (p : β → Prop), CallOk P V W0 p (call β)) (he : ∀ (β : Type) (W0 : World) (p : β → Prop), ExtOk P V W0 p (ext β))
    {N0 : Env} {g0 : G} {w0 : World} (r0 : Grel V N0 W0 g0 w0) {hS : Heap} {SS : World → Prop} (hSS : SS = fun w => Grel V N0 W0 { g0 with heap := hS } w) {nt d : Nat} {ds : List Df} {c : Er}
    (_hrq : c.rq = roHeap hS) (hin : ∀ id o, hget hS id = some o → id ∈ c.ro ∧ hget g0.heap id = some o) (htop : c.base + ops.size * c.S = c.top) (hlim : c.top ≤ c.lim)
    {Q : Exit → Act → World → Prop} {f : List E} {n : Nat} {listed : Array Bool} {tm : PT} {h : Heap} {N : Env} {a : Act} {w' : World} {j : Nat} {K : PT × Heap × List E → Prop} (hj : j ∈ Region.ready .any ops listed)
    (ih : ∀ q N a w, K q → EI ops V W0 N0 g0 ops.size nt d ds (c.fac q.2.2) N (listed.setIfInBounds j true) q.1 q.2.1 a w → SS w → AnyG P .any ops Q SI n (listed.setIfInBounds j true) a w) (hup : ∀ w, SS w → SI j w)
    (hx : (stepC P R call ext nt ops.toList c j tm h f).All V K) (hI' : EI ops V W0 N0 g0 ops.size nt d ds (c.fac f) N listed tm h a w') (hw2 : SS w') :
    wpOp P ops Q j (fun a' w'' => SI j w'' ∧ AnyG P .any ops Q SI n (listed.setIfInBounds j true) a' w'') a w' := by
  obtain ⟨hjun, o, ho, _⟩ := mem_ready.1 hj
  have hjn : j < ops.size := (Array.getElem?_eq_some_iff.1 ho).1
  unfold stepC at hx
  rw [lnth_eq, Array.getElem?_toList, ho] at hx
  simp only at hx
  unfold wpOp
  simp only [ho]
  split at hx
  · exact hx.elim
  · rename_i hg
    rw [if_neg (by rw [eGuard_ok hR hI'.r.facts hI'.a.t hg]; simp)]
    exact ⟨hup _ hw2, ih _ N _ w' hx ⟨hI'.r, hI'.le, hI'.out, fun k hk hl => hI'.free k hk (getD_listed hl).2, hI'.keep, hI'.a.put undef_rel o.dst, hI'.cl.add hj⟩ hw2⟩
  · rename_i hg
    rw [if_pos (eGuard_ok hR hI'.r.facts hI'.a.t hg)]
    refine .inl ?_
    have r1 : Grel V N W0 ((c.fac f).run j h) w' := ⟨hI'.r.os, hI'.r.tape, hI'.r.output, hI'.r.size, hI'.r.below, hI'.r.soft, hI'.r.ob, hI'.r.apart, fun id h1 h2 => hI'.free j hjn hjun id h1 h2, hI'.r.facts⟩
    rw [aOpC_eq] at hx
    refine (aOp_ok hR (hc _ W0 _) (he _ W0 _) r1 hI'.a.t hx).wp _ _ fun v w'' x g' N' k1 k2 k3 k4 => ?_
    have hrange : ∀ id, ¬ (c.base + j * c.S ≤ id ∧ id < c.base + Nat.succ j * c.S) → N'.b id = N.b id ∧ N'.c id = N.c id := k2.out
    have hkeep : ∀ id ∈ c.ro, ∀ o, hget g0.heap id = some o → hget g'.heap id = some o := fun id hid o ho => k2.keep id hid o (hI'.keep id hid o ho)
    have rr : Grel V N' W0 ((c.fac g'.fs).rest g'.heap) w'' := by
      refine ⟨k1.os, k1.tape, k1.output, k1.size, k1.below, k1.soft, k1.ob, k1.apart, fun id h1 h2 => ?_, k1.facts⟩
      have h1 : c.top ≤ id := h1
      have h2 : id < c.lim := h2
      have := hrange id (fun hh => by have := range_in hjn htop hh.2; omega)
      rw [this.1, this.2]
      exact hI'.r.fresh id h1 h2
    have hS'' : SS w'' := by
      rw [hSS]
      exact Grel.sub r0 rr (hI'.le.trans k2.le) fun id o ho => ⟨(hin id o ho).2, hkeep id (hin id o ho).1 o (hin id o ho).2⟩
    refine ⟨hup _ hS'', ih (aput nt tm o.dst x, g'.heap, g'.fs) N' _ w'' k4 ⟨rr, hI'.le.trans k2.le, fun id hid => ?_, fun k hk hl id h1 h2 => ?_, hkeep, (hI'.a.mono k2.le).put k3 o.dst, hI'.cl.add hj⟩ hS''⟩
    · have hh' : ¬ (c.base + j * c.S ≤ id ∧ id < c.base + Nat.succ j * c.S) := fun hh => by
        have h1 : c.base ≤ id := by have := Nat.le_add_right c.base (j * c.S); omega
        have h2 : id < c.lim := by have := range_in hjn htop hh.2; omega
        exact hid ⟨h1, h2⟩
      have := hrange id hh'
      rw [this.1, this.2]
      exact hI'.out id hid
    · obtain ⟨hkj, hl⟩ := getD_listed hl
      have := hrange id (range_apart (Ne.symm hkj) h1 h2)
      rw [this.1, this.2]
      exact hI'.free k hk hl id h1 h2
theorem runT_ok {R : Rg} (hR : R.ok V) {call : Calls'} {ext : Exts'} (hc : ∀ (β : Type) (W0 : World) (p : β → Prop), CallOk P V W0 p (call β)) (he : ∀ (β : Type) (W0 : World) (p : β → Prop), ExtOk P V W0 p (ext β))
    {N0 : Env} {g0 : G} {w0 : World} (r0 : Grel V N0 W0 g0 w0) {hS : Heap} {SS : World → Prop} (hSS : SS = fun w => Grel V N0 W0 { g0 with heap := hS } w) {nt d : Nat} {ds : List Df} {c : Er}
    (hrq : c.rq = roHeap hS) (hin : ∀ id o, hget hS id = some o → id ∈ c.ro ∧ hget g0.heap id = some o) (htop : c.base + ops.size * c.S = c.top) (hlim : c.top ≤ c.lim)
    {c' : Er} (hconv : ∀ f N listed tm h a w, EI ops V W0 N0 g0 ops.size nt d ds (c.fac f) N listed tm h a w → EI ops V W0 N0 g0 ops.size nt d ds (c'.fac f) N listed tm h a w)
    (hsel : Region.noSelect ops = true) {Q : Exit → Act → World → Prop} (hQ : ∀ c a w, ¬ Q (.panic c) a w) (hQo : ¬ LetsOut Q) {qs : Nat} {Un : Nat → Prop} {ph : Bool}
    (hup : ∀ j w, Un j → SS w → SI j w)
    (hdn : ∀ (i j : Nat) (listed : Array Bool) (w : World), (ph = true → qs.testBit i = true) → Closed .any ops listed → j ∈ Region.ready .any ops listed → i ∈ Region.ready .any ops listed → j ≠ i → pureAt ops.toList j = false → SI j w → SS w) (hpu : ∀ j w, pureAt ops.toList j = true → SI j w)
    {onSw : PL → RunF}
    (hsw : ∀ n listed r tm h f N a w (K : PT × Heap × List E → Prop), (∀ q N listed a w, K q → EI ops V W0 N0 g0 ops.size nt d ds (c'.fac q.2.2) N listed q.1 q.2.1 a w → Q .normal a w) → ph = true → Planned ops qs r false none n listed → (∀ j, j < ops.size → listed.getD j true = false → pureAt ops.toList j = false → lateB qs .any ops.toList j = true) → (onSw r tm h f).All V K → EI ops V W0 N0 g0 ops.size nt d ds (c.fac f) N listed tm h a w → SS w → AnyG P .any ops Q SI n listed a w) :
    ∀ (p : PL), (∀ (K : PT × Heap × List E → Prop) (_ : ∀ q N listed a w, K q → EI ops V W0 N0 g0 ops.size nt d ds (c'.fac q.2.2) N listed q.1 q.2.1 a w → Q .normal a w) (n : Nat) (listed : Array Bool) (tm : PT) (h : Heap) (f : List E) (N : Env) (a : Act) (w : World), Planned ops qs p ph none n listed → (runT (quietC P R call ext nt ops.toList c) (stepC P R call ext nt ops.toList c) onSw p tm h f).All V K → EI ops V W0 N0 g0 ops.size nt d ds (c.fac f) N listed tm h a w → SS w → (∀ j, listed.getD j true = false → Un j) → AnyG P .any ops Q SI n listed a w) ∧
      (∀ (K : PT × Heap × List E → Prop) (_ : ∀ q N listed a w, K q → EI ops V W0 N0 g0 ops.size nt d ds (c'.fac q.2.2) N listed q.1 q.2.1 a w → Q .normal a w) (n : Nat) (js : List Nat) (listed : Array Bool) (tm : PT) (h : Heap) (f : List E) (N : Env) (a : Act) (w : World), Planned ops qs p ph (some js) (n + 1) listed → (js = [] ∨ (runT (quietC P R call ext nt ops.toList c) (stepC P R call ext nt ops.toList c) onSw p tm h f).All V K) → EI ops V W0 N0 g0 ops.size nt d ds (c.fac f) N listed tm h a w → SS w → (∀ j, listed.getD j true = false → Un j) →
        ∀ i ∈ js, i ∈ Region.ready .any ops listed → wpOp P ops Q i (fun a' w'' => SI i w'' ∧ AnyG P .any ops Q SI n (listed.setIfInBounds i true) a' w'') a w) := by
  have hSg : ∀ w w', SS w → Garb w w' → SS w' := fun w w' h h' => by subst hSS; exact Grel.garb h h'
  have garbI : ∀ {c : Er} {N listed tm h a w w'}, EI ops V W0 N0 g0 ops.size nt d ds c N listed tm h a w → Garb w w' → EI ops V W0 N0 g0 ops.size nt d ds c N listed tm h a w' :=
    fun i hg => ⟨i.r.garb hg, i.le, i.out, i.free, i.keep, i.a, i.cl⟩
  have unI : ∀ {listed : Array Bool} {i : Nat}, (∀ j, listed.getD j true = false → Un j) → ∀ j, (listed.setIfInBounds i true).getD j true = false → Un j := fun h j hj => h j (getD_listed hj).2
  have empty : ∀ {n listed a w}, Region.ready .any ops listed = [] → (∀ w', Garb w w' → Q .normal a w') → AnyG P .any ops Q SI n listed a w := by
    intro n listed a w hr hq
    cases n with
    | zero => exact fun w' hw' => ⟨hr, hq w' hw'⟩
    | succ n => exact fun w' hw' => ⟨fun _ => hq w' hw', fun i hi => by rw [hr] at hi; cases hi⟩
  intro p
  induction p with
  | fin =>
    refine ⟨fun K hk n listed tm h f N a w hp hx hI hw hu => ?_, fun K hk n js listed tm h f N a w hp => (by cases hp.1)⟩
    obtain ⟨_, hr⟩ := hp
    exact empty hr fun w' hw' => hk (tm, h, f) N listed a w' hx (hconv _ _ _ _ _ _ _ (garbI hI hw'))
  | qt j one r ih =>
    refine ⟨fun K hk n listed tm h f N a w hp hx hI hw hu => ?_, fun K hk n js listed tm h f N a w hp => (by cases hp.1)⟩
    obtain ⟨_, m, rfl, hjr, hf, hone, hqs, hp⟩ := hp
    change (qtR one h (quietC P R call ext nt ops.toList c j tm f) (stepC P R call ext nt ops.toList c j tm h f) (runT _ _ onSw r)).All V K at hx
    obtain ⟨hjun, o, ho, _⟩ := mem_ready.1 hjr
    unfold qtR at hx
    cases hcl : (quietC P R call ext nt ops.toList c j tm f).only
    · rw [hcl, ife_false] at hx
      cases one with
      | false => exact hx.elim
      | true =>
        rw [ife_true] at hx
        have hr := hone rfl
        intro w' hw'
        refine ⟨fun h0 => (by rw [hr] at h0; cases h0), fun i hi => ?_⟩
        have hij := hi
        rw [hr, List.mem_singleton] at hij
        subst hij
        exact stepC_ok hR hc he r0 hSS hrq hin htop hlim hi (fun q N a w hx hI hw => ih.1 K hk m _ q.1 q.2.1 q.2.2 N a w hp hx hI hw (unI hu)) (fun w h => hup i w (hu i hjun) h) (Rs.All_bnd _ hx) (garbI hI hw') (hSg _ _ hw hw')
    · rw [hcl, ife_true] at hx
      obtain ⟨v, q, hkq, hy, ra', hff⟩ := quietC_ok hR hc he hSS hrq ho hI hw (Rs.All_bnd _ hx)
      have hI2 : EI ops V W0 N0 g0 ops.size nt d ds (c.fac q.2) N (listed.setIfInBounds j true) q.1 h (a.put o.dst v) w :=
        ⟨⟨hI.r.os, hI.r.tape, hI.r.output, hI.r.size, hI.r.below, hI.r.soft, hI.r.ob, hI.r.apart, hI.r.fresh, hff⟩, hI.le, hI.out, fun k hk hl => hI.free k hk (getD_listed hl).2, hI.keep, ra', hI.cl.add hjr⟩
      cases hpj : pureAt ops.toList j
      case true =>
        refine AnyG.first (S := fun _ => True) ho hsel hQ hQo (fun _ _ _ _ => trivial) (fun w _ => hpu j w hpj) (fun _ _ _ _ _ _ _ _ _ => trivial) m listed a w (Region.free_spec ho hf) hI.cl hjr (hy.pure ho hpj hw) trivial ?_
        exact ih.1 K hk m _ q.1 h q.2 N _ w hp hkq hI2 hw (unI hu)
      refine AnyG.first ho hsel hQ hQo hSg (fun w h => hup j w (hu j hjun) h) (fun k listed w hcl hk hi hkj hpk h => hdn j k listed w (fun e => hqs e hpj) hcl hk hi hkj hpk h) m listed a w (Region.free_spec ho hf) hI.cl hjr hy hw ?_
      exact ih.1 K hk m _ q.1 h q.2 N _ w hp hkq hI2 hw (unI hu)
  | st j r ih =>
    refine ⟨fun K hk n listed tm h f N a w hp hx hI hw hu => ?_, fun K hk n js listed tm h f N a w hp => (by cases hp.1)⟩
    obtain ⟨_, m, rfl, hr, hp⟩ := hp
    change ((stepC P R call ext nt ops.toList c j tm h f).bnd fun q => runT _ _ onSw r q.1 q.2.1 q.2.2).All V K at hx
    intro w' hw'
    refine ⟨fun h0 => (by rw [hr] at h0; cases h0), fun i hi => ?_⟩
    have hij := hi
    rw [hr, List.mem_singleton] at hij
    subst hij
    exact stepC_ok hR hc he r0 hSS hrq hin htop hlim hi (fun q N a w hx hI hw => ih.1 K hk m _ q.1 q.2.1 q.2.2 N a w hp hx hI hw (unI hu)) (fun w h => hup i w (hu i (mem_ready.1 hi).1) h) (Rs.All_bnd _ hx) (garbI hI hw') (hSg _ _ hw hw')
  | sw r _ =>
    refine ⟨fun K hk n listed tm h f N a w hp hx hI hw hu => ?_, fun K hk n js listed tm h f N a w hp => (by cases hp.1)⟩
    obtain ⟨_, h1, h2, hp⟩ := hp
    exact hsw n listed r tm h f N a w K hk h1 hp h2 hx hI hw
  | alt j r q ir iq =>
    have key : ∀ (K : PT × Heap × List E → Prop) (_ : ∀ q N listed a w, K q → EI ops V W0 N0 g0 ops.size nt d ds (c'.fac q.2.2) N listed q.1 q.2.1 a w → Q .normal a w) (n : Nat) (js : List Nat) (o : Option (List Nat)) (listed : Array Bool) (tm : PT) (h : Heap) (f : List E) (N : Env) (a : Act) (w : World), o.getD (Region.ready .any ops listed) = js → Planned ops qs (.alt j r q) ph o (n + 1) listed →
        (runT (quietC P R call ext nt ops.toList c) (stepC P R call ext nt ops.toList c) onSw (.alt j r q) tm h f).All V K → EI ops V W0 N0 g0 ops.size nt d ds (c.fac f) N listed tm h a w → SS w → (∀ j, listed.getD j true = false → Un j) →
        ∀ i ∈ js, i ∈ Region.ready .any ops listed → wpOp P ops Q i (fun a' w'' => SI i w'' ∧ AnyG P .any ops Q SI n (listed.setIfInBounds i true) a' w'') a w := by
      intro K hk n js o listed tm h f N a w hjs hp hx hI hw hu i hi hir
      obtain ⟨m, js', hn, hjs', hpr, hpq⟩ := hp
      have hn : m = n := by omega
      subst hn
      rw [hjs] at hjs'
      subst hjs'
      change (ife (isNo q) ((stepC P R call ext nt ops.toList c j tm h f).bnd fun q => runT _ _ onSw r q.1 q.2.1 q.2.2) (oneLeaf f ((stepC P R call ext nt ops.toList c j tm h f).bnd fun q => runT _ _ onSw r q.1 q.2.1 q.2.2) (runT _ _ onSw q tm h f))).All V K at hx
      have both : ∃ K' : PT × Heap × List E → Prop, (∀ q N listed a w, K' q → EI ops V W0 N0 g0 ops.size nt d ds (c'.fac q.2.2) N listed q.1 q.2.1 a w → Q .normal a w) ∧
          ((stepC P R call ext nt ops.toList c j tm h f).bnd fun q => runT (quietC P R call ext nt ops.toList c) (stepC P R call ext nt ops.toList c) onSw r q.1 q.2.1 q.2.2).All V K' ∧
          (js' = [] ∨ (runT (quietC P R call ext nt ops.toList c) (stepC P R call ext nt ops.toList c) onSw q tm h f).All V K') := by
        cases hno : isNo q
        · rw [hno, ife_false] at hx
          unfold oneLeaf at hx
          split at hx
          · rename_i x y hx1 hy1
            cases hs : same (x.1, x.2.1) (y.1, y.2.1)
            · rw [hs] at hx; exact hx.elim
            · rw [hs, ife_true] at hx
              have e := same_ok hs
              injection e with e1 e2
              refine ⟨fun q => q.1 = x.1 ∧ q.2.1 = x.2.1, fun q N listed a w hq hI' => ?_, by rw [hx1]; exact ⟨rfl, rfl⟩, .inr (by rw [hy1]; exact ⟨e1.symm, e2.symm⟩)⟩
              rw [hq.1, hq.2] at hI'
              exact hk (x.1, x.2.1, f) N listed a w hx ⟨⟨hI'.r.os, hI'.r.tape, hI'.r.output, hI'.r.size, hI'.r.below, hI'.r.soft, hI'.r.ob, hI'.r.apart, hI'.r.fresh, hI.r.facts⟩, hI'.le, hI'.out, hI'.free, hI'.keep, hI'.a, hI'.cl⟩
          · exact hx.elim
        · rw [hno, ife_true] at hx
          have hq := isNo_ok hno
          subst hq
          have : some js' = some [] := hpq
          injection this with this
          exact ⟨K, hk, hx, .inl this⟩
      obtain ⟨K', hk', both1, both2⟩ := both
      rcases List.mem_cons.1 hi with rfl | hi
      · exact stepC_ok hR hc he r0 hSS hrq hin htop hlim hir (fun q N a w hx hI hw => ir.1 K' hk' m _ q.1 q.2.1 q.2.2 N a w hpr hx hI hw (unI hu)) (fun w h => hup i w (hu i (mem_ready.1 hir).1) h) (Rs.All_bnd _ both1) hI hw
      · exact iq.2 K' hk' m js' listed tm h f N a w hpq both2 hI hw hu i hi hir
    refine ⟨fun K hk n listed tm h f N a w hp hx hI hw hu => ?_, fun K hk n js listed tm h f N a w hp hx hI hw hu i hi hir => ?_⟩
    · have hpp := hp
      obtain ⟨m, js, rfl, hjs, _, _⟩ := hp
      have hr : Region.ready .any ops listed = j :: js := hjs
      intro w' hw'
      exact ⟨fun h0 => (by rw [hr] at h0; cases h0), fun i hi => key K hk m _ none listed tm h f N a w' rfl hpp hx (garbI hI hw') (hSg _ _ hw hw') hu i hi hi⟩
    · have hx : (runT (quietC P R call ext nt ops.toList c) (stepC P R call ext nt ops.toList c) onSw (.alt j r q) tm h f).All V K := by
        rcases hx with rfl | hx
        · obtain ⟨m, js', _, h2, _⟩ := hp
          cases h2
        · exact hx
      exact key K hk n js (some js) listed tm h f N a w rfl hp hx hI hw hu i hi hir
  | no =>
    refine ⟨fun K hk n listed tm h f N a w hp => (by cases hp), fun K hk n js listed tm h f N a w hp _ _ _ _ i hi => ?_⟩
    have : some js = some [] := hp
    injection this with this
    subst this
    cases hi
end
end Go.RX
