/- RX, part 15c: regions that draw their order and write. -/
import Derived.Test.YtcmkifhafcgjbaaRxG
namespace Go.RX
open Go.RowKit
section
variable {P : Program} {α : Type} {V : Va} {W0 : World} {N : Env} {g : G} {p : α → Prop} {w : World} {ops : Array Oper}
/-- What says the same in N' stands for the same in N, where all its numbers have a place. -/
theorem Cap.rel_back {N N' : Env} (hle : N.le N') {id off len : Nat} {k : Cap} {c0 c : Nat} (h0 : k.rel N id off len c0) (h : k.rel N' id off len c) : k.rel N id off len c := by
  cases k with
  | lit n => exact h
  | full e =>
    obtain ⟨g0, h1, _⟩ := h0
    obtain ⟨g, h2, h3⟩ := h
    have := hle.2 _ _ h1
    rw [this] at h2; injection h2 with h2; subst h2
    exact ⟨g0, h1, h3⟩
  | any => exact h
mutual
theorem AV.rel_back {N N' : Env} (hle : N.le N') : ∀ (a : AV) (v0 v : Value), a.rel V N v0 → a.rel V N' v → a.rel V N v
  | .int _ _, _, _, _, h => h
  | .bool _, _, _, _, h => h
  | .ptr id off, v0, v, h0, h => by
    simp only [AV.rel] at h0 h ⊢
    obtain ⟨b0, h1, _⟩ := h0
    obtain ⟨b, h2, h3⟩ := h
    rw [hle.1 _ _ h1] at h2; injection h2 with h2; subst h2
    exact ⟨b0, h1, h3⟩
  | .nilptr, _, _, _, h => h
  | .slice id off len k, v0, v, h0, h => by
    simp only [AV.rel] at h0 h ⊢
    obtain ⟨b0, c0, h1, _, h4⟩ := h0
    obtain ⟨b, c, h2, h3, h5⟩ := h
    rw [hle.1 _ _ h1] at h2; injection h2 with h2; subst h2
    exact ⟨b0, c, h1, h3, Cap.rel_back hle h4 h5⟩
  | .nilslice, _, _, _, h => h
  | .xsl _ _, _, _, _, h => by simp only [AV.rel] at h ⊢; exact h
  | .aptr _ _, _, _, _, h => by simp only [AV.rel] at h ⊢; exact h
  | .sptr id off e n st, v0, v, h0, h => by
    simp only [AV.rel] at h0 h ⊢
    obtain ⟨b0, m0, h1, _⟩ := h0
    obtain ⟨b, m, h2, h3⟩ := h
    rw [hle.1 _ _ h1] at h2; injection h2 with h2; subst h2
    exact ⟨b0, m, h1, h3⟩
  | .map id, v0, v, h0, h => by
    simp only [AV.rel] at h0 h ⊢
    obtain ⟨b0, h1, _⟩ := h0
    obtain ⟨b, h2, h3⟩ := h
    rw [hle.1 _ _ h1] at h2; injection h2 with h2; subst h2
    exact ⟨b0, h1, h3⟩
  | .func f fi ca, v0, v, h0, h => by
    simp only [AV.rel] at h0 h ⊢
    obtain ⟨x0, y0, _, h1, h2⟩ := h0
    obtain ⟨x, y, e, h3, h4⟩ := h
    exact ⟨x, y, e, AV.rels_back hle fi _ _ h1 h3, AV.rels_back hle ca _ _ h2 h4⟩
  | .nilfunc, _, _, _, h => h
  | .agg cs, v0, v, h0, h => by
    simp only [AV.rel] at h0 h ⊢
    obtain ⟨x0, _, h1⟩ := h0
    obtain ⟨x, e, h2⟩ := h
    exact ⟨x, e, AV.rels_back hle cs _ _ h1 h2⟩
  | .tup cs, v0, v, h0, h => by
    simp only [AV.rel] at h0 h ⊢
    obtain ⟨x0, _, h1⟩ := h0
    obtain ⟨x, e, h2⟩ := h
    exact ⟨x, e, AV.rels_back hle cs _ _ h1 h2⟩
  | .str cs, v0, v, h0, h => by
    simp only [AV.rel] at h0 h ⊢
    obtain ⟨x0, _, h1⟩ := h0
    obtain ⟨x, e, h2⟩ := h
    exact ⟨x, e, AV.rels_back hle cs _ _ h1 h2⟩
  | .top, _, _, _, _ => by simp only [AV.rel]
theorem AV.rels_back {N N' : Env} (hle : N.le N') : ∀ (l : List AV) (vs0 vs : List Value), AV.rels V N l vs0 → AV.rels V N' l vs → AV.rels V N l vs
  | [], _, _, _, h => rels_nil.2 (rels_nil.1 h)
  | a :: l, vs0, vs, h0, h => by
    obtain ⟨v0, vs0, rfl, h1, h2⟩ := rels_cons.1 h0
    obtain ⟨v, vs, rfl, h3, h4⟩ := rels_cons.1 h
    exact rels_cons' (AV.rel_back hle a v0 v h1 h3) (AV.rels_back hle l vs0 vs h2 h4)
end
theorem Ob.rel_back {N N' : Env} (hle : N.le N') {id : Nat} {o : Ob} {x0 x : Option Obj} (h0 : o.rel V N id x0) (h : o.rel V N' id x) : o.rel V N id x := by
  cases o with
  | cells cs elem opn own =>
    obtain ⟨c0, fr0, e0, _, _, _, n0, r0⟩ := h0
    obtain ⟨c, fr, e, k1, k2, k3, n1, r1⟩ := h
    refine ⟨c, fr, e, k1, k2, k3, ?_, AV.rels_back hle cs _ _ r0 r1⟩
    rw [n0, ← hle.2 _ _ n0]; exact n1
  | emap _ => exact h
/-- Some blocks, as they were at the start. -/
theorem Grel.sub {N N' : Env} {g0 g' : G} {w0 w' : World} {hS : Heap} (r0 : Grel V N W0 g0 w0) (r' : Grel V N' W0 g' w') (hle : N.le N')
    (hh : ∀ id o, hget hS id = some o → hget g0.heap id = some o ∧ hget g'.heap id = some o) : Grel V N W0 { g0 with heap := hS } w' := by
  refine ⟨r'.os, r'.tape, r'.output, r'.size, r'.below, r'.soft, fun id o h => ?_, fun id o id' o' h h' => r0.apart id o id' o' (hh id o h).1 (hh id' o' h').1, r0.fresh, r0.facts⟩
  obtain ⟨h1, h2⟩ := hh id o h
  obtain ⟨b, e1, e2, e3⟩ := r0.ob id o h1
  obtain ⟨b', e1', e2', e3'⟩ := r'.ob id o h2
  rw [hle.1 _ _ e1] at e1'; injection e1' with e1'; subst e1'
  exact ⟨b, e1, Ob.rel_back hle e2 e2', e3⟩

/-! ### The walk -/
/-- What a region's walk keeps: where new numbers begin, how many each operation has, their end, the facts; the blocks that stay. -/
structure Er where
  base : Nat
  S : Nat
  top : Nat
  lim : Nat
  f : List E
  ro : List Nat
  /-- The blocks that stay, to be read only. -/
  rq : Heap
noncomputable def Er.rest (c : Er) (h : Heap) : G := ⟨h, c.top, c.lim, c.f, c.ro, []⟩
noncomputable def Er.run (c : Er) (i : Nat) (h : Heap) : G := ⟨h, c.base + i * c.S, c.base + Nat.succ i * c.S, c.f, c.ro, []⟩
noncomputable def eGuard (R : Rg) (F : List E) (nt : Nat) (tm : PT) (ops : List Oper) (o : Oper) : Option Bool :=
  match o.guard with
  | none => some true
  | some (j, want) => match lnth ops j with
    | some oj => match oj.dst with
      | some t => ife (Nat.ble (Nat.succ t) nt) (match tm.get t with
        | .bool e => (match e.boolB R F with | some b => some (ife b want (ife want false true)) | none => none)
        | .tup [] => some false
        | _ => none) none
      | none => none
    | none => none
theorem eGuard_ok {R : Rg} (hR : R.ok V) {F : List E} (hF : Fs.ok V F) {nt d : Nat} {tm : PT} {a : Act} (ht : Trel V N nt d tm a.tmps) {o : Oper} {b : Bool} (h : eGuard R F nt tm ops.toList o = some b) : Region.wanted o (yielded ops a.tmps) = b := by
  unfold eGuard at h
  split at h
  · rename_i hg
    injection h with h; subst h
    simp [Region.wanted, hg]
  · rename_i j want hg
    rw [lnth_eq] at h
    split at h
    · rename_i oj hj
      split at h
      · rename_i t hd
        cases hb : Nat.ble (Nat.succ t) nt
        · rw [hb] at h; cases h
        · rw [hb, ife_true] at h
          have hlt : t < nt := Nat.le_of_ble_eq_true hb
          have hlt' : t < a.tmps.size := by rw [ht.size]; exact hlt
          have hr := ht.rel t hlt
          have hD : a.tmps.getD t undef = a.tmps[t] := by rw [Array.getD_eq_getD_getElem?, Array.getElem?_eq_getElem hlt']; rfl
          have hy : yielded ops a.tmps j = match a.tmps[t] with | .bool b => some b | _ => none := by
            unfold yielded
            rw [Array.getElem?_toList] at hj
            simp only [hj, Option.bind_some, hd, Array.getElem?_eq_getElem hlt']
            cases a.tmps[t] <;> rfl
          rw [hD] at hr
          split at h
          · rename_i e hx
            rw [hx] at hr
            obtain ⟨c, hv, s⟩ := says_of_rel hr
            split at h
            · rename_i b' hb'
              injection h with h; subst h
              have hn : b' = c := by
                rw [E.boolB_ok hR hF e hb']
                unfold Says at s
                rw [s]
                cases c <;> simp
              rw [hn, ife_eqB]
              simp only [Region.wanted, hg, hy, hv]
              cases c <;> cases want <;> rfl
            · cases h
          · rename_i hx
            rw [hx] at hr
            injection h with h; subst h
            simp only [AV.rel] at hr
            obtain ⟨x, hv, _⟩ := hr
            simp only [Region.wanted, hg, hy, hv]
            cases want <;> rfl
          · cases h
      · cases h
    · cases h
/-- An operation that only reads, of the blocks that stay. -/
noncomputable def eQuiet (P : Program) (R : Rg) (call : Calls') (ext : Exts') (nt : Nat) (ops : List Oper) (c : Er) (i : Nat) (tm : PT) : Option PT :=
  match lnth ops i with
  | none => none
  | some o => match eGuard R c.f nt tm ops o with
    | none => none
    | some false => some (aput nt tm o.dst (.tup []))
    | some true => match o.op with
      | .store _ _ _ => none
      | .alloc _ => none
      | .box _ _ => none
      | .move x => some (aput nt tm o.dst (aev nt tm x))
      | .assign x => some (aput nt tm o.dst (aev nt tm x))
      | op => match (aOpC op AV P R (call AV) (ext AV) nt tm (c.rest c.rq) (fun x _ => .leaf x)).join (AV.tight c.top c.lim 6) with
        | some m => ife (m.tight c.top c.lim 6) (some (aput nt tm o.dst m)) none
        | none => none
/-- Any operation, with one outcome. -/
noncomputable def eStep (P : Program) (R : Rg) (call : Calls') (ext : Exts') (nt : Nat) (ops : List Oper) (c : Er) (i : Nat) (tm : PT) (h : Heap) : Option (PT × Heap) :=
  match lnth ops i with
  | none => none
  | some o => match eGuard R c.f nt tm ops o with
    | none => none
    | some false => some (aput nt tm o.dst (.tup []), h)
    | some true => match aOpC o.op (AV × G) P R (call (AV × G)) (ext (AV × G)) nt tm (c.run i h) (fun x g => .leaf (x, g)) with
      | .leaf q => some (aput nt tm o.dst q.1, q.2.heap)
      | _ => none
noncomputable def ePick (free : Nat → Bool) (q : Nat → Option PT) (rs : List Nat) : Option (Nat × PT) :=
  List.rec (motive := fun _ => Option (Nat × PT)) none (fun j _ ih => ife (free j) (match q j with | some t => some (j, t) | none => ih) ih) rs
noncomputable def eAll (run : Nat → Option (PT × Heap)) (r : PT × Heap) (rs : List Nat) : Bool :=
  List.rec (motive := fun _ => Bool) true (fun j _ ih => match run j with | some q => ife (same r q) ih false | none => false) rs
noncomputable def exR (P : Program) (R : Rg) (call : Calls') (ext : Exts') (nt : Nat) (ops : List Oper) (c : Er) (n : Nat) : Array Bool → PT → Heap → Option (PT × Heap) :=
  Nat.rec (motive := fun _ => Array Bool → PT → Heap → Option (PT × Heap))
    (fun listed tm h => match Region.ready .any ⟨ops⟩ listed with | [] => some (tm, h) | _ :: _ => none)
    (fun _ ih listed tm h => match Region.ready .any ⟨ops⟩ listed with
      | [] => some (tm, h)
      | i :: is => match ePick (Region.free .any ⟨ops⟩ listed) (fun j => eQuiet P R call ext nt ops c j tm) (i :: is) with
        | some (j, tm') => ih (listed.setIfInBounds j true) tm' h
        | none => match (match eStep P R call ext nt ops c i tm h with | some q => ih (listed.setIfInBounds i true) q.1 q.2 | none => none) with
          | some r => ife (eAll (fun j => match eStep P R call ext nt ops c j tm h with | some q => ih (listed.setIfInBounds j true) q.1 q.2 | none => none) r is) (some r) none
          | none => none) n
theorem ePick_ok {free : Nat → Bool} {q : Nat → Option PT} : ∀ (rs : List Nat) {j : Nat} {t : PT}, ePick free q rs = some (j, t) → j ∈ rs ∧ free j = true ∧ q j = some t
  | [], _, _, h => by cases h
  | i :: rs, j, t, h => by
    change ife (free i) (match q i with | some t => some (i, t) | none => ePick free q rs) (ePick free q rs) = some (j, t) at h
    have back : ePick free q rs = some (j, t) → j ∈ i :: rs ∧ free j = true ∧ q j = some t := fun h => by
      obtain ⟨h1, h2⟩ := ePick_ok rs h
      exact ⟨List.mem_cons_of_mem _ h1, h2⟩
    cases hf : free i
    · rw [hf] at h; exact back h
    · rw [hf, ife_true] at h
      split at h
      · rename_i t' ht
        injection h with h; injection h with h1 h2; subst h1 h2
        exact ⟨List.mem_cons_self, hf, ht⟩
      · exact back h
theorem eAll_ok {run : Nat → Option (PT × Heap)} {r : PT × Heap} : ∀ (rs : List Nat), eAll run r rs = true → ∀ j ∈ rs, run j = some r
  | [], _, j, hj => by cases hj
  | i :: rs, h, j, hj => by
    change (match run i with | some q => ife (same r q) (eAll run r rs) false | none => false) = true at h
    split at h
    · rename_i q hq
      cases hs : same r q
      · rw [hs] at h; cases h
      · rw [hs, ife_true] at h
        rcases List.mem_cons.1 hj with rfl | hj
        · rw [hq, same_ok hs]
        · exact eAll_ok rs h j hj
    · cases h

/-! ### It stands for every order -/
/-- What holds all along. -/
structure EI (ops : Array Oper) (V : Va) (W0 : World) (N0 : Env) (g0 : G) (n nt d : Nat) (ds : List Df) (c : Er) (N : Env) (listed : Array Bool) (tm : PT) (h : Heap) (a : Act) (w : World) : Prop where
  r : Grel V N W0 (c.rest h) w
  le : N0.le N
  out : ∀ id, ¬ (c.base ≤ id ∧ id < c.lim) → N.b id = N0.b id ∧ N.c id = N0.c id
  free : ∀ j, j < n → listed.getD j true = false → ∀ id, c.base + j * c.S ≤ id → id < c.base + Nat.succ j * c.S → N.b id = none ∧ N.c id = none
  keep : ∀ id ∈ c.ro, ∀ o, hget g0.heap id = some o → hget h id = some o
  a : Arel V N nt d tm ds a
  cl : Closed .any ops listed
theorem range_apart {i j S : Nat} (h : i ≠ j) {b id : Nat} (h1 : b + j * S ≤ id) (h2 : id < b + Nat.succ j * S) : ¬ (b + i * S ≤ id ∧ id < b + Nat.succ i * S) := by
  rintro ⟨h3, h4⟩
  rcases Nat.lt_or_gt_of_ne h with hlt | hlt
  · have := Nat.mul_le_mul_right S (Nat.succ_le_of_lt hlt); omega
  · have := Nat.mul_le_mul_right S (Nat.succ_le_of_lt hlt); omega
theorem range_in {i n S : Nat} (h : i < n) {b id top : Nat} (ht : b + n * S = top) (h2 : id < b + Nat.succ i * S) : id < top := by
  have := Nat.mul_le_mul_right S (Nat.succ_le_of_lt h); omega
theorem getD_listed {listed : Array Bool} {i j : Nat} (h : (listed.setIfInBounds i true).getD j true = false) : j ≠ i ∧ listed.getD j true = false := by
  by_cases e : i = j
  · subst e
    exfalso
    by_cases hlt : i < listed.size
    · simp [hlt] at h
    · simp at h
  · rw [getD_set_ne true e] at h
    exact ⟨Ne.symm e, h⟩
/-- Operations that write or make memory (eff: functions that may write, by bits). Nothing hangs on it. -/
noncomputable def effOp (eff : Nat) : Op → Bool
  | .store _ _ _ => true
  | .alloc _ => true
  | .box _ _ => true
  | .buildSlice _ _ _ => true
  | .makeSlice _ _ _ => true
  | .makeMap _ _ => true
  | .call c => match c.callee with
    | .builtin .append => true
    | .builtin .copy => true
    | .builtin .clear => true
    | .value (.func f) => Nat.testBit eff f
    | _ => false
  | _ => false
noncomputable def effAt (eff : Nat) (ops : List Oper) (j : Nat) : Bool := match lnth ops j with | some o => effOp eff o.op | none => true
noncomputable def consO {β : Type} (x : β) (o : Option (List β)) : Option (List β) := match o with | some l => some (x :: l) | none => none
theorem consO_ok {β : Type} {x : β} {o : Option (List β)} {l : List β} (h : consO x o = some l) : ∃ m, o = some m ∧ l = x :: m := by
  unfold consO at h
  split at h
  · rename_i m; injection h with h; exact ⟨m, rfl, h.symm⟩
  · cases h
/-- Is it a call? -/
noncomputable def callAt (ops : List Oper) (j : Nat) : Bool := match lnth ops j with | some o => (match o.op with | .call _ => true | _ => false) | none => true
noncomputable def findB (bad free : Nat → Bool) (rs : List Nat) : Option Nat := List.rec (motive := fun _ => Option Nat) none (fun j _ ih => ife (bad j) ih (ife (free j) (some j) ih)) rs
theorem findB_ok {bad free : Nat → Bool} : ∀ (rs : List Nat) {j : Nat}, findB bad free rs = some j → j ∈ rs ∧ free j = true
  | [], _, h => by cases h
  | i :: rs, j, h => by
    change ife (bad i) (findB bad free rs) (ife (free i) (some i) (findB bad free rs)) = some j at h
    have back : findB bad free rs = some j → j ∈ i :: rs ∧ free j = true := fun h => by
      obtain ⟨h1, h2⟩ := findB_ok rs h
      exact ⟨List.mem_cons_of_mem _ h1, h2⟩
    cases hb : bad i
    · rw [hb, ife_false] at h
      cases hf : free i
      · rw [hf] at h; exact back h
      · rw [hf, ife_true] at h; injection h with h; subst h; exact ⟨List.mem_cons_self, hf⟩
    · rw [hb] at h; exact back h
/-- What is to be done first: neither a call nor a write; else a call. -/
noncomputable def findQ (eff : Nat) (ops : List Oper) (free : Nat → Bool) (rs : List Nat) : Option Nat := match findB (fun j => ife (callAt ops j) true (effAt eff ops j)) free rs with
  | some j => some j
  | none => findB (effAt eff ops) free rs
theorem findQ_ok {eff : Nat} {ops : List Oper} {free : Nat → Bool} (rs : List Nat) {j : Nat} (h : findQ eff ops free rs = some j) : j ∈ rs ∧ free j = true := by
  unfold findQ at h
  split at h
  · rename_i k hk; injection h with h; subst h; exact findB_ok rs hk
  · exact findB_ok rs h
noncomputable def only1 (is : List Nat) : Nat := match is with | [] => 2 | _ :: _ => 0
/-- A step of an order: 0: an operation that only reads, 1: the only one there is, 2: both, 3: all orders from here on. -/
structure PI where
  j : Nat
  m : Nat
  listed : Array Bool
  fuel : Nat
/-- An order for a region, by its code alone. -/
noncomputable def planE (eff : Nat) (ops : List Oper) (n : Nat) : Array Bool → Option (List PI) :=
  Nat.rec (motive := fun _ => Array Bool → Option (List PI)) (fun listed => match Region.ready .any ⟨ops⟩ listed with | [] => some [] | _ :: _ => none)
    (fun n ih listed => match Region.ready .any ⟨ops⟩ listed with
      | [] => some []
      | i :: is => match findQ eff ops (Region.free .any ⟨ops⟩ listed) (i :: is) with
        | some j => consO ⟨j, only1 is, #[], 0⟩ (ih (listed.setIfInBounds j true))
        | none => match is with
          | [] => consO ⟨i, 1, #[], 0⟩ (ih (listed.setIfInBounds i true))
          | _ :: _ => some [⟨0, 3, listed, Nat.succ n⟩]) n
/-- The region in that order. -/
noncomputable def exS (run : Nat → PT → Heap → Option (PT × Heap)) (i : Nat) (tm : PT) (h : Heap) (ih : PT → Heap → Option (PT × Heap)) : Option (PT × Heap) := match run i tm h with | some q => ih q.1 q.2 | none => none
noncomputable def exP (P : Program) (R : Rg) (call : Calls') (ext : Exts') (nt : Nat) (ops : List Oper) (c : Er) (plan : List PI) : PT → Heap → Option (PT × Heap) :=
  List.rec (motive := fun _ => PT → Heap → Option (PT × Heap)) (fun tm h => some (tm, h))
    (fun q _ ih tm h => ife (Nat.beq q.m 3) (exR P R call ext nt ops c q.fuel q.listed tm h) (ife (Nat.beq q.m 1) (exS (eStep P R call ext nt ops c) q.j tm h ih)
      (match eQuiet P R call ext nt ops c q.j tm with
        | some t => ih t h
        | none => ife (Nat.beq q.m 2) (exS (eStep P R call ext nt ops c) q.j tm h ih) none))) plan
theorem exR_ok {R : Rg} (hR : R.ok V) {call : Calls'} {ext : Exts'} (hc : ∀ (β : Type) (W0 : World) (p : β → Prop), CallOk P V W0 p (call β)) (he : ∀ (β : Type) (W0 : World) (p : β → Prop), ExtOk P V W0 p (ext β))
    {N0 : Env} {g0 : G} {w0 : World} (r0 : Grel V N0 W0 g0 w0) {hS : Heap} {SS : World → Prop} (hSS : SS = fun w => Grel V N0 W0 { g0 with heap := hS } w) {nt d : Nat} {ds : List Df} {c : Er}
    (hrq : c.rq = roHeap hS) (hin : ∀ id o, hget hS id = some o → id ∈ c.ro ∧ hget g0.heap id = some o) (htop : c.base + ops.size * c.S = c.top) (hlim : c.top ≤ c.lim) 
    (hsel : Region.noSelect ops = true) {Q : Exit → Act → World → Prop} (hQ : ∀ c a w, ¬ Q (.panic c) a w) (hQo : ¬ LetsOut Q) {tmR : PT} {hR' : Heap}
    (hk : ∀ N listed a w, EI ops V W0 N0 g0 ops.size nt d ds c N listed tmR hR' a w → Q .normal a w) :
    ∀ (n : Nat) (listed : Array Bool) (tm : PT) (h : Heap) (N : Env) (a : Act) (w : World), exR P R call ext nt ops.toList c n listed tm h = some (tmR, hR') → EI ops V W0 N0 g0 ops.size nt d ds c N listed tm h a w → SS w →
      AnyG P .any ops Q SS n listed a w := by
  have hSg : ∀ w w', SS w → Garb w w' → SS w' := fun w w' h h' => by subst hSS; exact Grel.garb h h'
  have garbI : ∀ {N listed tm h a w w'}, EI ops V W0 N0 g0 ops.size nt d ds c N listed tm h a w → Garb w w' → EI ops V W0 N0 g0 ops.size nt d ds c N listed tm h a w' :=
    fun i hg => ⟨i.r.garb hg, i.le, i.out, i.free, i.keep, i.a, i.cl⟩
  -- the quiet operations
  have quiet : ∀ {N listed tm h a w} (i : Nat) (o : Oper) (tm' : PT), ops[i]? = some o → EI ops V W0 N0 g0 ops.size nt d ds c N listed tm h a w → SS w → eQuiet P R call ext nt ops.toList c i tm = some tm' →
      ∃ v, QuietIn P ops SS o v a ∧ Arel V N nt d tm' ds (a.put o.dst v) := by
    intro N listed tm h a w i o tm' hi hI hw hq
    unfold eQuiet at hq
    rw [lnth_eq, Array.getElem?_toList, hi] at hq
    simp only at hq
    split at hq
    · cases hq
    · rename_i hg
      injection hq with hq; subst hq
      exact ⟨undef, .inr ⟨eGuard_ok hR hI.r.facts hI.a.t hg, rfl⟩, hI.a.put undef_rel o.dst⟩
    · rename_i hg
      have hwant := eGuard_ok hR hI.r.facts hI.a.t hg
      split at hq
      · cases hq
      · cases hq
      · cases hq
      · rename_i x ho
        injection hq with hq; subst hq
        exact ⟨a.eval x, .inl ⟨hwant, fun w' _ => by simp only [execOp, ho, Sem.run_pure]; exact ⟨rfl, Garb.refl w'⟩⟩, hI.a.put (aev_ok hI.a.t x) o.dst⟩
      · rename_i x ho
        injection hq with hq; subst hq
        exact ⟨a.eval x, .inl ⟨hwant, fun w' _ => by simp only [execOp, ho, Sem.run_pure]; exact ⟨rfl, Garb.refl w'⟩⟩, hI.a.put (aev_ok hI.a.t x) o.dst⟩
      · split at hq
        · rename_i m hj
          cases ht : m.tight c.top c.lim 6
          · rw [ht] at hq; cases hq
          · rw [ht, ife_true] at hq
            injection hq with hq; subst hq
            rw [aOpC_eq] at hj
            have hjoin := Rs.join_ok (V := V) _ hj
            have key : ∀ w', SS w' → uponV P (fun u w'' => m.rel V N u ∧ Garb w' w'') ((execOp a.eval o).run P w') := by
              intro w' hw'
              rw [hSS] at hw'
              have r1 : Grel V N w' (c.rest c.rq) w' := by
                rw [hrq]
                have r2 := hw'.ro
                refine ⟨r2.os, r2.tape, r2.output, r2.size, r2.below, r2.soft, fun id o' ho' => ?_, fun id o' id' o'' ho' ho'' hne hown => ?_, hI.r.fresh, hI.r.facts⟩
                · obtain ⟨b, e1, e2, e3⟩ := r2.ob id o' ho'
                  exact ⟨b, hI.le.1 _ _ e1, e2.mono hI.le, e3⟩
                · have ho2 : hget (roHeap hS) id = some o' := ho'
                  rw [hget_ro] at ho2
                  cases hx : hget hS id with
                  | none => rw [hx] at ho2; cases ho2
                  | some x =>
                    rw [hx] at ho2
                    simp only [Option.map_some, Option.some.injEq] at ho2
                    subst ho2
                    rw [Ob.ro_own] at hown; cases hown
              refine aOp_ok hR (hc AV w' _) (he AV w' _) r1 hI.a.t hjoin.1 _ fun v w'' x g' N' k1 k2 k3 k4 => ⟨?_, k1.toGarb⟩
              exact hjoin.2 x k4 N' N v (fun y hy hv => AV.tight_old (fun id hid => k2.out id hid) 6 y v hy hv) k3
            obtain ⟨v, _, hv, _⟩ := uponV_ex (key w hw)
            exact ⟨v, .inl ⟨hwant, fun w' hw' => uponV_mono (fun u w'' hu => ⟨AV.tight_uniq 6 m u v ht hu.1 hv, hu.2⟩) (key w' hw')⟩, hI.a.put hv o.dst⟩
        · cases hq
  intro n
  induction n with
  | zero =>
    intro listed tm h N a w hx hI hw w' hw'
    change (match Region.ready .any ops listed with | [] => some (tm, h) | _ :: _ => none) = some (tmR, hR') at hx
    split at hx
    · rename_i hr
      injection hx with hx; injection hx with h1 h2; subst h1 h2
      exact ⟨hr, hk N listed a w' (garbI hI hw')⟩
    · cases hx
  | succ n ih =>
    intro listed tm h N a w hx hI hw
    change (match Region.ready .any ops listed with
      | [] => some (tm, h)
      | i :: is => match ePick (Region.free .any ops listed) (fun j => eQuiet P R call ext nt ops.toList c j tm) (i :: is) with
        | some (j, tm') => exR P R call ext nt ops.toList c n (listed.setIfInBounds j true) tm' h
        | none => match (match eStep P R call ext nt ops.toList c i tm h with | some q => exR P R call ext nt ops.toList c n (listed.setIfInBounds i true) q.1 q.2 | none => none) with
          | some r => ife (eAll (fun j => match eStep P R call ext nt ops.toList c j tm h with | some q => exR P R call ext nt ops.toList c n (listed.setIfInBounds j true) q.1 q.2 | none => none) r is) (some r) none
          | none => none) = some (tmR, hR') at hx
    split at hx
    · rename_i hr
      injection hx with hx; injection hx with h1 h2; subst h1 h2
      intro w' hw'
      exact ⟨fun _ => hk N listed a w' (garbI hI hw'), fun i hi => by rw [hr] at hi; cases hi⟩
    · rename_i i is hr
      split at hx
      · rename_i j tm' hp
        obtain ⟨hj, hf, hq⟩ := ePick_ok _ hp
        rw [← hr] at hj
        obtain ⟨_, o, ho, _⟩ := mem_ready.1 hj
        obtain ⟨v, hy, ra'⟩ := quiet j o tm' ho hI hw hq
        refine AnyG.first ho hsel hQ hQo hSg n listed a w (Region.free_spec ho hf) hI.cl hj hy hw ?_
        exact ih _ tm' h N _ w hx ⟨hI.r, hI.le, hI.out, fun k hk hl => hI.free k hk (getD_listed hl).2, hI.keep, ra', hI.cl.add hj⟩ hw
      · -- every order
        have all : ∀ j ∈ Region.ready .any ops listed, (match eStep P R call ext nt ops.toList c j tm h with | some q => exR P R call ext nt ops.toList c n (listed.setIfInBounds j true) q.1 q.2 | none => none) = some (tmR, hR') := by
          split at hx
          · rename_i r hrun
            cases hal : eAll (fun j => match eStep P R call ext nt ops.toList c j tm h with | some q => exR P R call ext nt ops.toList c n (listed.setIfInBounds j true) q.1 q.2 | none => none) r is
            · rw [hal] at hx; cases hx
            · rw [hal, ife_true] at hx
              injection hx with hx; subst hx
              intro j hj
              rw [hr] at hj
              rcases List.mem_cons.1 hj with rfl | hj
              · exact hrun
              · exact eAll_ok is hal j hj
          · cases hx
        intro w' hw'
        have hI' := garbI hI hw'
        have hw2 := hSg _ _ hw hw'
        refine ⟨fun h0 => (by rw [hr] at h0; cases h0), fun j hj => ?_⟩
        have hrun := all j hj
        obtain ⟨hjun, o, ho, _⟩ := mem_ready.1 hj
        have hjn : j < ops.size := (Array.getElem?_eq_some_iff.1 ho).1
        split at hrun
        · rename_i q hst
          unfold eStep at hst
          rw [lnth_eq, Array.getElem?_toList, ho] at hst
          simp only at hst
          unfold wpOp
          simp only [ho]
          split at hst
          · cases hst
          · rename_i hg
            injection hst with hst; subst hst
            rw [if_neg (by rw [eGuard_ok hR hI'.r.facts hI'.a.t hg]; simp)]
            exact ⟨fun _ => hw2, ih _ _ h N _ w' hrun ⟨hI'.r, hI'.le, hI'.out, fun k hk hl => hI'.free k hk (getD_listed hl).2, hI'.keep, hI'.a.put undef_rel o.dst, hI'.cl.add hj⟩ hw2⟩
          · rename_i hg
            rw [if_pos (eGuard_ok hR hI'.r.facts hI'.a.t hg)]
            refine .inl ?_
            split at hst
            · rename_i q' hleaf
              injection hst with hst; subst hst
              have r1 : Grel V N W0 (c.run j h) w' := ⟨hI'.r.os, hI'.r.tape, hI'.r.output, hI'.r.size, hI'.r.below, hI'.r.soft, hI'.r.ob, hI'.r.apart, fun id h1 h2 => hI'.free j hjn hjun id h1 h2, hI'.r.facts⟩
              rw [aOpC_eq] at hleaf
              have hall : (aOp P R (call (AV × G)) (ext (AV × G)) nt tm o.op (c.run j h) (fun x g => .leaf (x, g))).All V (fun z => z = q') := by rw [hleaf]; rfl
              refine (aOp_ok hR (hc _ W0 _) (he _ W0 _) r1 hI'.a.t hall).wp _ _ fun v w'' x g' N' k1 k2 k3 k4 => ?_
              have k4 : (x, g') = q' := k4
              subst k4
              have hrange : ∀ id, ¬ (c.base + j * c.S ≤ id ∧ id < c.base + Nat.succ j * c.S) → N'.b id = N.b id ∧ N'.c id = N.c id := k2.out
              have hkeep : ∀ id ∈ c.ro, ∀ o, hget g0.heap id = some o → hget g'.heap id = some o := fun id hid o ho => k2.keep id hid o (hI'.keep id hid o ho)
              have rr : Grel V N' W0 (c.rest g'.heap) w'' := by
                refine ⟨k1.os, k1.tape, k1.output, k1.size, k1.below, k1.soft, k1.ob, k1.apart, fun id h1 h2 => ?_, hI'.r.facts⟩
                have h1 : c.top ≤ id := h1
                have h2 : id < c.lim := h2
                have := hrange id (fun hh => by have := range_in hjn htop hh.2; omega)
                rw [this.1, this.2]
                exact hI'.r.fresh id h1 h2
              have hS'' : SS w'' := by
                rw [hSS]
                exact Grel.sub r0 rr (hI'.le.trans k2.le) fun id o ho => ⟨(hin id o ho).2, hkeep id (hin id o ho).1 o (hin id o ho).2⟩
              refine ⟨fun _ => hS'', ih _ _ _ N' _ w'' hrun ⟨rr, hI'.le.trans k2.le, fun id hid => ?_, fun k hk hl id h1 h2 => ?_, hkeep, (hI'.a.mono k2.le).put k3 o.dst, hI'.cl.add hj⟩ hS''⟩
              · have := hrange id (fun hh => hid ⟨by have := Nat.le_add_right c.base (j * c.S); omega, by have := range_in hjn htop hh.2; omega⟩)
                rw [this.1, this.2]
                exact hI'.out id hid
              · obtain ⟨hkj, hl⟩ := getD_listed hl
                have := hrange id (range_apart (Ne.symm hkj) h1 h2)
                rw [this.1, this.2]
                exact hI'.free k hk hl id h1 h2
            · cases hst
        · cases hrun
theorem exP_ok {eff : Nat} {R : Rg} (hR : R.ok V) {call : Calls'} {ext : Exts'} (hc : ∀ (β : Type) (W0 : World) (p : β → Prop), CallOk P V W0 p (call β)) (he : ∀ (β : Type) (W0 : World) (p : β → Prop), ExtOk P V W0 p (ext β))
    {N0 : Env} {g0 : G} {w0 : World} (r0 : Grel V N0 W0 g0 w0) {hS : Heap} {SS : World → Prop} (hSS : SS = fun w => Grel V N0 W0 { g0 with heap := hS } w) {nt d : Nat} {ds : List Df} {c : Er}
    (hrq : c.rq = roHeap hS) (hin : ∀ id o, hget hS id = some o → id ∈ c.ro ∧ hget g0.heap id = some o) (htop : c.base + ops.size * c.S = c.top) (hlim : c.top ≤ c.lim) 
    (hsel : Region.noSelect ops = true) {Q : Exit → Act → World → Prop} (hQ : ∀ c a w, ¬ Q (.panic c) a w) (hQo : ¬ LetsOut Q) {tmR : PT} {hR' : Heap}
    (hk : ∀ N listed a w, EI ops V W0 N0 g0 ops.size nt d ds c N listed tmR hR' a w → Q .normal a w) :
    ∀ (n : Nat) (listed : Array Bool) (plan : List PI) (_ : planE eff ops.toList n listed = some plan) (tm : PT) (h : Heap) (N : Env) (a : Act) (w : World), exP P R call ext nt ops.toList c plan tm h = some (tmR, hR') → EI ops V W0 N0 g0 ops.size nt d ds c N listed tm h a w → SS w →
      AnyG P .any ops Q SS n listed a w := by
  have hSg : ∀ w w', SS w → Garb w w' → SS w' := fun w w' h h' => by subst hSS; exact Grel.garb h h'
  have garbI : ∀ {N listed tm h a w w'}, EI ops V W0 N0 g0 ops.size nt d ds c N listed tm h a w → Garb w w' → EI ops V W0 N0 g0 ops.size nt d ds c N listed tm h a w' :=
    fun i hg => ⟨i.r.garb hg, i.le, i.out, i.free, i.keep, i.a, i.cl⟩
  -- the quiet operations
  have quiet : ∀ {N listed tm h a w} (i : Nat) (o : Oper) (tm' : PT), ops[i]? = some o → EI ops V W0 N0 g0 ops.size nt d ds c N listed tm h a w → SS w → eQuiet P R call ext nt ops.toList c i tm = some tm' →
      ∃ v, QuietIn P ops SS o v a ∧ Arel V N nt d tm' ds (a.put o.dst v) := by
    intro N listed tm h a w i o tm' hi hI hw hq
    unfold eQuiet at hq
    rw [lnth_eq, Array.getElem?_toList, hi] at hq
    simp only at hq
    split at hq
    · cases hq
    · rename_i hg
      injection hq with hq; subst hq
      exact ⟨undef, .inr ⟨eGuard_ok hR hI.r.facts hI.a.t hg, rfl⟩, hI.a.put undef_rel o.dst⟩
    · rename_i hg
      have hwant := eGuard_ok hR hI.r.facts hI.a.t hg
      split at hq
      · cases hq
      · cases hq
      · cases hq
      · rename_i x ho
        injection hq with hq; subst hq
        exact ⟨a.eval x, .inl ⟨hwant, fun w' _ => by simp only [execOp, ho, Sem.run_pure]; exact ⟨rfl, Garb.refl w'⟩⟩, hI.a.put (aev_ok hI.a.t x) o.dst⟩
      · rename_i x ho
        injection hq with hq; subst hq
        exact ⟨a.eval x, .inl ⟨hwant, fun w' _ => by simp only [execOp, ho, Sem.run_pure]; exact ⟨rfl, Garb.refl w'⟩⟩, hI.a.put (aev_ok hI.a.t x) o.dst⟩
      · split at hq
        · rename_i m hj
          cases ht : m.tight c.top c.lim 6
          · rw [ht] at hq; cases hq
          · rw [ht, ife_true] at hq
            injection hq with hq; subst hq
            rw [aOpC_eq] at hj
            have hjoin := Rs.join_ok (V := V) _ hj
            have key : ∀ w', SS w' → uponV P (fun u w'' => m.rel V N u ∧ Garb w' w'') ((execOp a.eval o).run P w') := by
              intro w' hw'
              rw [hSS] at hw'
              have r1 : Grel V N w' (c.rest c.rq) w' := by
                rw [hrq]
                have r2 := hw'.ro
                refine ⟨r2.os, r2.tape, r2.output, r2.size, r2.below, r2.soft, fun id o' ho' => ?_, fun id o' id' o'' ho' ho'' hne hown => ?_, hI.r.fresh, hI.r.facts⟩
                · obtain ⟨b, e1, e2, e3⟩ := r2.ob id o' ho'
                  exact ⟨b, hI.le.1 _ _ e1, e2.mono hI.le, e3⟩
                · have ho2 : hget (roHeap hS) id = some o' := ho'
                  rw [hget_ro] at ho2
                  cases hx : hget hS id with
                  | none => rw [hx] at ho2; cases ho2
                  | some x =>
                    rw [hx] at ho2
                    simp only [Option.map_some, Option.some.injEq] at ho2
                    subst ho2
                    rw [Ob.ro_own] at hown; cases hown
              refine aOp_ok hR (hc AV w' _) (he AV w' _) r1 hI.a.t hjoin.1 _ fun v w'' x g' N' k1 k2 k3 k4 => ⟨?_, k1.toGarb⟩
              exact hjoin.2 x k4 N' N v (fun y hy hv => AV.tight_old (fun id hid => k2.out id hid) 6 y v hy hv) k3
            obtain ⟨v, _, hv, _⟩ := uponV_ex (key w hw)
            exact ⟨v, .inl ⟨hwant, fun w' hw' => uponV_mono (fun u w'' hu => ⟨AV.tight_uniq 6 m u v ht hu.1 hv, hu.2⟩) (key w' hw')⟩, hI.a.put hv o.dst⟩
        · cases hq
  -- the only one there is
  have single : ∀ {n listed rest tm h N a w} (j : Nat), Region.ready .any ops listed = [j] →
      (∀ tm h N a w, exP P R call ext nt ops.toList c rest tm h = some (tmR, hR') → EI ops V W0 N0 g0 ops.size nt d ds c N (listed.setIfInBounds j true) tm h a w → SS w → AnyG P .any ops Q SS n (listed.setIfInBounds j true) a w) →
      exS (eStep P R call ext nt ops.toList c) j tm h (exP P R call ext nt ops.toList c rest) = some (tmR, hR') → EI ops V W0 N0 g0 ops.size nt d ds c N listed tm h a w → SS w → AnyG P .any ops Q SS (n + 1) listed a w := by
    intro n listed rest tm h N a w j0 hr ih hx hI hw w' hw'
    have hI' := garbI hI hw'
    have hw2 := hSg _ _ hw hw'
    refine ⟨fun h0 => (by rw [hr] at h0; cases h0), fun j hj => ?_⟩
    obtain ⟨hjun, o, ho, _⟩ := mem_ready.1 hj
    have hjn : j < ops.size := (Array.getElem?_eq_some_iff.1 ho).1
    rw [hr, List.mem_singleton] at hj
    subst hj
    unfold exS at hx
    split at hx
    · rename_i q hst
      unfold eStep at hst
      rw [lnth_eq, Array.getElem?_toList, ho] at hst
      simp only at hst
      unfold wpOp
      simp only [ho]
      split at hst
      · cases hst
      · rename_i hg
        injection hst with hst; subst hst
        rw [if_neg (by rw [eGuard_ok hR hI'.r.facts hI'.a.t hg]; simp)]
        exact ⟨fun _ => hw2, ih _ h N _ w' hx ⟨hI'.r, hI'.le, hI'.out, fun k hk hl => hI'.free k hk (getD_listed hl).2, hI'.keep, hI'.a.put undef_rel o.dst, hI'.cl.add (by rw [hr]; exact List.mem_singleton.2 rfl)⟩ hw2⟩
      · rename_i hg
        rw [if_pos (eGuard_ok hR hI'.r.facts hI'.a.t hg)]
        refine .inl ?_
        split at hst
        · rename_i q' hleaf
          injection hst with hst; subst hst
          have r1 : Grel V N W0 (c.run j h) w' := ⟨hI'.r.os, hI'.r.tape, hI'.r.output, hI'.r.size, hI'.r.below, hI'.r.soft, hI'.r.ob, hI'.r.apart, fun id h1 h2 => hI'.free j hjn hjun id h1 h2, hI'.r.facts⟩
          rw [aOpC_eq] at hleaf
          have hall : (aOp P R (call (AV × G)) (ext (AV × G)) nt tm o.op (c.run j h) (fun x g => .leaf (x, g))).All V (fun z => z = q') := by rw [hleaf]; rfl
          refine (aOp_ok hR (hc _ W0 _) (he _ W0 _) r1 hI'.a.t hall).wp _ _ fun v w'' x g' N' k1 k2 k3 k4 => ?_
          have k4 : (x, g') = q' := k4
          subst k4
          have hrange : ∀ id, ¬ (c.base + j * c.S ≤ id ∧ id < c.base + Nat.succ j * c.S) → N'.b id = N.b id ∧ N'.c id = N.c id := k2.out
          have hkeep : ∀ id ∈ c.ro, ∀ o, hget g0.heap id = some o → hget g'.heap id = some o := fun id hid o ho => k2.keep id hid o (hI'.keep id hid o ho)
          have rr : Grel V N' W0 (c.rest g'.heap) w'' := by
            refine ⟨k1.os, k1.tape, k1.output, k1.size, k1.below, k1.soft, k1.ob, k1.apart, fun id h1 h2 => ?_, hI'.r.facts⟩
            have h1 : c.top ≤ id := h1
            have h2 : id < c.lim := h2
            have := hrange id (fun hh => by have := range_in hjn htop hh.2; omega)
            rw [this.1, this.2]
            exact hI'.r.fresh id h1 h2
          have hS'' : SS w'' := by
            rw [hSS]
            exact Grel.sub r0 rr (hI'.le.trans k2.le) fun id o ho => ⟨(hin id o ho).2, hkeep id (hin id o ho).1 o (hin id o ho).2⟩
          refine ⟨fun _ => hS'', ih _ _ N' _ w'' hx ⟨rr, hI'.le.trans k2.le, fun id hid => ?_, fun k hk hl id h1 h2 => ?_, hkeep, (hI'.a.mono k2.le).put k3 o.dst, hI'.cl.add (by rw [hr]; exact List.mem_singleton.2 rfl)⟩ hS''⟩
          · have := hrange id (fun hh => hid ⟨by have := Nat.le_add_right c.base (j * c.S); omega, by have := range_in hjn htop hh.2; omega⟩)
            rw [this.1, this.2]
            exact hI'.out id hid
          · obtain ⟨hkj, hl⟩ := getD_listed hl
            have := hrange id (range_apart (Ne.symm hkj) h1 h2)
            rw [this.1, this.2]
            exact hI'.free k hk hl id h1 h2
        · cases hst
    · cases hx
  intro n
  induction n with
  | zero =>
    intro listed plan hp tm h N a w hx hI hw w' hw'
    change (match Region.ready .any ops listed with | [] => some [] | _ :: _ => none) = some plan at hp
    split at hp
    · rename_i hr
      injection hp with hp; subst hp
      change some (tm, h) = some (tmR, hR') at hx
      injection hx with hx; injection hx with h1 h2; subst h1 h2
      exact ⟨hr, hk N listed a w' (garbI hI hw')⟩
    · cases hp
  | succ n ih =>
    intro listed plan hp tm h N a w hx hI hw
    change (match Region.ready .any ops listed with
      | [] => some []
      | i :: is => match findQ eff ops.toList (Region.free .any ops listed) (i :: is) with
        | some j => consO ⟨j, only1 is, #[], 0⟩ (planE eff ops.toList n (listed.setIfInBounds j true))
        | none => match is with
          | [] => consO ⟨i, 1, #[], 0⟩ (planE eff ops.toList n (listed.setIfInBounds i true))
          | _ :: _ => some [⟨0, 3, listed, Nat.succ n⟩]) = some plan at hp
    split at hp
    · rename_i hr
      injection hp with hp; subst hp
      change some (tm, h) = some (tmR, hR') at hx
      injection hx with hx; injection hx with h1 h2; subst h1 h2
      intro w' hw'
      exact ⟨fun _ => hk N listed a w' (garbI hI hw'), fun i hi => by rw [hr] at hi; cases hi⟩
    · rename_i i is hr
      split at hp
      · rename_i j hfq
        obtain ⟨hj, hf⟩ := findQ_ok _ hfq
        obtain ⟨rest, hrest, rfl⟩ := consO_ok hp
        change ife (Nat.beq (only1 is) 3) (exR P R call ext nt ops.toList c 0 #[] tm h) (ife (Nat.beq (only1 is) 1) (exS (eStep P R call ext nt ops.toList c) j tm h (exP P R call ext nt ops.toList c rest))
          (match eQuiet P R call ext nt ops.toList c j tm with
            | some t => exP P R call ext nt ops.toList c rest t h
            | none => ife (Nat.beq (only1 is) 2) (exS (eStep P R call ext nt ops.toList c) j tm h (exP P R call ext nt ops.toList c rest)) none)) = some (tmR, hR') at hx
        rw [show Nat.beq (only1 is) 3 = false by cases is <;> rfl, show Nat.beq (only1 is) 1 = false by cases is <;> rfl, ife_false, ife_false] at hx
        split at hx
        · rename_i tm' hq
          have hjr := hj
          rw [← hr] at hjr
          obtain ⟨_, o, ho, _⟩ := mem_ready.1 hjr
          obtain ⟨v, hy, ra'⟩ := quiet j o tm' ho hI hw hq
          refine AnyG.first ho hsel hQ hQo hSg n listed a w (Region.free_spec ho hf) hI.cl hjr hy hw ?_
          exact ih _ rest hrest tm' h N _ w hx ⟨hI.r, hI.le, hI.out, fun k hk hl => hI.free k hk (getD_listed hl).2, hI.keep, ra', hI.cl.add hjr⟩ hw
        · cases is with
          | nil =>
            rw [List.mem_singleton] at hj
            subst hj
            exact single j hr (fun tm h N a w => ih _ rest hrest tm h N a w) hx hI hw
          | cons _ _ => cases hx
      · split at hp
        · obtain ⟨rest, hrest, rfl⟩ := consO_ok hp
          exact single i hr (fun tm h N a w => ih _ rest hrest tm h N a w) hx hI hw
        · injection hp with hp; subst hp
          change exR P R call ext nt ops.toList c (n + 1) listed tm h = some (tmR, hR') at hx
          exact exR_ok hR hc he r0 hSS hrq hin htop hlim hsel hQ hQo hk (n + 1) listed tm h N a w hx hI hw
end
end Go.RX
