/- RX, part 12: code. -/
import Derived.Test.YtoheklommpochaaRxI
namespace Go.RX

/-- A deferred call: its function, its arguments. -/
structure Df where
  f : Nat
  as : List AV
section
variable {P : Program} {α : Type} {V : Va} {W0 : World} {N : Env} {g : G} {p : α → Prop} {k : AV → G → Rs α} {w : World}
def Drel (V : Va) (N : Env) (x : Df) (d : Deferred) : Prop := ∃ ca, d.target = .fn (.func x.f) ca ∧ AV.rels V N x.as (d.args ++ ca).toList
def Drels (V : Va) (N : Env) : List Df → List Deferred → Prop
  | [], l => l = []
  | x :: xs, l => ∃ d ds, l = d :: ds ∧ Drel V N x d ∧ Drels V N xs ds
theorem Drels.mono {N N' : Env} (h : N.le N') : ∀ {xs : List Df} {l : List Deferred}, Drels V N xs l → Drels V N' xs l
  | [], _, r => r
  | _ :: _, _, ⟨d, ds, e, ⟨ca, h1, h2⟩, h3⟩ => ⟨d, ds, e, ⟨ca, h1, AV.rels.mono h _ _ h2⟩, Drels.mono h h3⟩
structure Arel (V : Va) (N : Env) (nt d : Nat) (tm : PT) (ds : List Df) (a : Act) : Prop where
  t : Trel V N nt d tm a.tmps
  d : Drels V N ds a.defers
theorem Arel.mono {N N' : Env} (h : N.le N') {nt d : Nat} {tm : PT} {ds : List Df} {a : Act} (r : Arel V N nt d tm ds a) : Arel V N' nt d tm ds a := ⟨r.t.mono h, r.d.mono h⟩
theorem put_defers (a : Act) (dst : Option Tmp) (v : Value) : (a.put dst v).defers = a.defers := by cases dst <;> rfl
theorem Arel.put {nt d : Nat} {tm : PT} {ds : List Df} {a : Act} (r : Arel V N nt d tm ds a) {x : AV} {v : Value} (hx : x.rel V N v) (dst : Option Tmp) : Arel V N nt d (aput nt tm dst x) ds (a.put dst v) :=
  ⟨aput_ok r.t hx dst, by rw [put_defers]; exact r.d⟩
theorem Arel.know {nt d : Nat} {tm : PT} {ds : List Df} {a : Act} (r : Arel V N nt d tm ds a) {x : Operand} {b : Bool} (hx : a.eval x = .bool b) : Arel V N nt d (aknow nt tm x b) ds a := ⟨aknow_ok r.t hx, r.d⟩

/-! ### One operation of a region -/
abbrev Nx (α : Type) := PT → List Df → G → Rs α
noncomputable def aDefer (nt : Nat) (tm : PT) (c : Call) (kk : Df → Rs α) : Rs α :=
  match c.callee with
  | .value x => match aev nt tm x with
    | .func f fi ca => kk ⟨f, fi ++ (aevs nt tm c.args.toList ++ ca)⟩
    | _ => .bad 211
  | _ => .bad 212
abbrev OneF := Option Tmp → (α : Type) → Program → Rg → CallF α → ExtF α → Nat → Nx α → Nx α
/-- By the operation alone: its cases are closed. -/
noncomputable def aOneC (o : Op) : OneF :=
  Op.rec (motive := fun _ => OneF)
    (fun x dst _ _ _ _ _ nt kk tm ds g => kk (aput nt tm dst (aev nt tm x)) ds g)
    (fun x dst _ _ _ _ _ nt kk tm ds g => kk (aput nt tm dst (aev nt tm x)) ds g)
    (fun c x y dst _ _ R _ _ nt kk tm ds g => aPick R (aev nt tm c) (aev nt tm x) (aev nt tm y) g fun x g => kk (aput nt tm dst x) ds g)
    (fun t dst _ P _ _ _ nt kk tm ds g => aAlloc P t g fun x g => kk (aput nt tm dst x) ds g)
    (fun t x dst _ _ _ _ _ nt kk tm ds g => aBox t (aev nt tm x) g fun x g => kk (aput nt tm dst x) ds g)
    (fun t ps dst _ P _ _ _ nt kk tm ds g => aBuild P t (aparts nt tm ps.toList) g fun x g => kk (aput nt tm dst x) ds g)
    (fun t n ps dst _ P _ _ _ nt kk tm ds g => aBuildSlice P t n (aparts nt tm ps.toList) g fun x g => kk (aput nt tm dst x) ds g)
    (fun _ _ _ _ _ _ _ _ _ _ _ _ _ _ _ => .bad 209)
    (fun t a dst _ P _ _ _ nt kk tm ds g => aLoad P t (aev nt tm a) g fun x g => kk (aput nt tm dst x) ds g)
    (fun t a x dst _ P _ _ _ nt kk tm ds g => aStore P t (aev nt tm a) (aev nt tm x) g (fun g => kk (aput nt tm dst .top) ds g))
    (fun _ _ _ _ _ _ _ _ _ _ _ _ => .bad 209)
    (fun _ _ _ _ _ _ _ _ _ _ _ _ => .bad 209)
    (fun x dst _ _ _ _ _ nt kk tm ds g => aNil (aev nt tm x) g fun x g => kk (aput nt tm dst x) ds g)
    (fun op t x y _ dst _ P R _ _ nt kk tm ds g => aBin P R op t (aev nt tm x) (aev nt tm y) g fun x g => kk (aput nt tm dst x) ds g)
    (fun op _ x dst _ _ R _ _ nt kk tm ds g => aUn R op (aev nt tm x) g fun x g => kk (aput nt tm dst x) ds g)
    (fun s t x dst _ P R _ _ nt kk tm ds g => aConv P R s t (aev nt tm x) g fun x g => kk (aput nt tm dst x) ds g)
    (fun t x dst _ P _ _ _ nt kk tm ds g => aArrAt P t (aev nt tm x) g fun x g => kk (aput nt tm dst x) ds g)
    (fun _ _ _ _ _ _ _ _ _ _ _ _ _ => .bad 209)
    (fun f a b dst _ _ _ _ _ nt kk tm ds g => aMkF nt tm f a b g fun x g => kk (aput nt tm dst x) ds g)
    (fun _ r dst _ _ _ _ _ nt kk tm ds g => aMkM r g fun x g => kk (aput nt tm dst x) ds g)
    (fun _ _ _ _ _ _ _ _ _ _ _ _ _ => .bad 209)
    (fun t a b dst _ P _ _ _ nt kk tm ds g => aMake P t (aev nt tm a) (aev nt tm b) g fun x g => kk (aput nt tm dst x) ds g)
    (fun t x a b c dst _ P R _ _ nt kk tm ds g => aSlice P R t (aev nt tm x) (aevO nt tm a) (aevO nt tm b) (aevO nt tm c) g fun x g => kk (aput nt tm dst x) ds g)
    (fun t x i dst _ P _ _ _ nt kk tm ds g => aFieldAddr P t (aev nt tm x) i g fun x g => kk (aput nt tm dst x) ds g)
    (fun t x i dst _ P _ _ _ nt kk tm ds g => aField P t (aev nt tm x) i g fun x g => kk (aput nt tm dst x) ds g)
    (fun t x i dst _ P R _ _ nt kk tm ds g => aIndexAddr P R t (aev nt tm x) (aev nt tm i) g fun x g => kk (aput nt tm dst x) ds g)
    (fun t x i dst _ P R _ _ nt kk tm ds g => aIndex P R t (aev nt tm x) (aev nt tm i) g fun x g => kk (aput nt tm dst x) ds g)
    (fun t x i b dst _ P _ _ _ nt kk tm ds g => aLookup P t (aev nt tm x) (aev nt tm i) b g fun x g => kk (aput nt tm dst x) ds g)
    (fun _ _ _ _ _ _ _ _ _ _ _ _ _ _ _ => .bad 209)
    (fun _ _ _ _ _ _ _ _ _ _ _ _ _ _ => .bad 209)
    (fun _ _ _ _ _ _ _ _ _ _ _ _ _ _ _ => .bad 209)
    (fun _ _ _ _ _ _ _ _ _ _ _ _ _ => .bad 209)
    (fun _ _ _ _ _ _ _ _ _ _ _ _ _ => .bad 209)
    (fun _ _ _ _ _ _ _ _ _ _ _ _ => .bad 209)
    (fun _ _ _ _ _ _ _ _ _ _ _ _ _ _ _ => .bad 209)
    (fun x i dst _ _ _ _ _ nt kk tm ds g => aExtract (aev nt tm x) i g fun x g => kk (aput nt tm dst x) ds g)
    (fun c dst _ P R call ext nt kk tm ds g => aCall P R call ext nt tm c g fun x g => kk (aput nt tm dst x) ds g)
    (fun _ _ _ _ _ _ _ _ _ _ _ _ => .bad 209)
    (fun c dst _ _ _ _ _ nt kk tm ds g => aDefer nt tm c fun d => kk (aput nt tm dst (.tup [])) (d :: ds) g)
    (fun _ _ _ _ _ _ _ _ _ _ _ _ => .bad 209)
    (fun _ _ _ _ _ _ _ _ _ _ _ _ _ => .bad 209)
    (fun _ _ _ _ _ _ _ _ _ _ _ _ _ _ => .bad 209)
    (fun _ _ _ _ _ _ _ _ _ _ _ _ _ => .bad 209) o
noncomputable def aOne (P : Program) (R : Rg) (call : CallF α) (ext : ExtF α) (nt : Nat) (o : Oper) (kk : Nx α) (tm : PT) (ds : List Df) (g : G) : Rs α := aOneC o.op o.dst α P R call ext nt kk tm ds g
theorem aOne_eq (P : Program) (R : Rg) (call : CallF α) (ext : ExtF α) (nt : Nat) (o : Oper) (kk : Nx α) (tm : PT) (ds : List Df) (g : G) : aOne P R call ext nt o kk tm ds g =
  match o.op with
  | .defer c => aDefer nt tm c fun d => kk (aput nt tm o.dst (.tup [])) (d :: ds) g
  | op => aOpC op α P R call ext nt tm g fun x g => kk (aput nt tm o.dst x) ds g := by
  unfold aOne
  cases o.op <;> rfl
theorem undef_rel : (AV.tup []).rel V N undef := by simp only [AV.rel]; exact ⟨#[], rfl, rels_nil.2 rfl⟩
/-- What follows holds wherever kk arrives. -/
def NxOk (V : Va) (W0 : World) (N : Env) (g : G) (p : α → Prop) (nt d : Nat) (kk : Nx α) (K : Act → World → Prop) : Prop :=
  ∀ tm ds g' N' a w, Grel V N' W0 g' w → Ext g N g' N' → Arel V N' nt d tm ds a → (kk tm ds g').All V p → K a w
theorem NxOk.ext {nt d : Nat} {kk : Nx α} {K : Act → World → Prop} {g' : G} {N' : Env} (h : NxOk V W0 N g p nt d kk K) (he : Ext g N g' N') : NxOk V W0 N' g' p nt d kk K :=
  fun tm ds g'' N'' a w h1 h2 h3 h4 => h tm ds g'' N'' a w h1 (he.trans h2) h3 h4
theorem aOne_ok {R : Rg} (hR : R.ok V) {call : CallF α} {ext : ExtF α} (hc : CallOk P V W0 p call) (he : ExtOk P V W0 p ext) (r : Grel V N W0 g w) {nt d : Nat} {tm : PT} {ds : List Df} {a : Act} (ra : Arel V N nt d tm ds a)
    {o : Oper} {kk : Nx α} (h : (aOne P R call ext nt o kk tm ds g).All V p) {K : Act → World → Prop} (Q : Exit → Act → World → Prop) (hk : NxOk V W0 N g p nt d kk K) : o.wp P a w K Q := by
  rw [aOne_eq] at h
  split at h
  · rename_i c ho
    unfold aDefer at h
    split at h
    · rename_i x hb
      split at h
      · rename_i f fi ca hx
        have hv := aev_ok ra.t x
        rw [hx] at hv
        simp only [AV.rel] at hv
        obtain ⟨y, z, e1, h1, h2⟩ := hv
        have hrun : (execOp a.eval o).run P w = .ok (.defer { target := .fn (.func f) z, args := y ++ c.args.map a.eval }) w := by
          simp only [execOp, ho, resolve, hb, e1, Deferred.ofValue, Sem.run_bind, Sem.run_pure, Result.andThen_ok]
        unfold Oper.wp
        rw [hrun, Oper.upon_defer]
        refine hk _ _ g N _ w r (Ext.refl _ _) ?_ h
        have r0 : Arel V N nt d tm (⟨f, fi ++ (aevs nt tm c.args.toList ++ ca)⟩ :: ds) { a with defers := { target := .fn (.func f) z, args := y ++ c.args.map a.eval } :: a.defers } := by
          refine ⟨ra.t, _, _, rfl, ⟨z, rfl, ?_⟩, ra.d⟩
          rw [Array.toList_append, Array.toList_append, List.append_assoc, Array.toList_map]
          exact rels_append h1 (rels_append (aevs_ok ra.t _) h2)
        exact r0.put undef_rel o.dst
      · exact h.elim
    · exact h.elim
  · rw [aOpC_eq] at h
    refine (aOp_ok hR hc he r ra.t h).wp K Q fun v w' x g' N' h1 h2 h3 h4 => ?_
    exact hk _ _ g' N' _ w' h1 h2 ((ra.mono h2.le).put h3 o.dst) h4
/-- An operation that hangs on a slot's bool. -/
noncomputable def aGuardS (P : Program) (R : Rg) (call : CallF α) (ext : ExtF α) (nt : Nat) (ops : List Oper) (op : Op) (dst : Option Tmp) (j : Nat) (want : Bool) (kk : Nx α) (tm : PT) (ds : List Df) (g : G) : Rs α :=
  match lnth ops j with
    | some oj => match oj.dst with
      | some t => ife (Nat.ble (Nat.succ t) nt) (match tm.get t with
        | .bool e => forkB R e (fun b g => ife (ife b want (ife want false true)) (aOneC op dst α P R call ext nt kk (aknow nt tm (.tmp t) b) ds g) (kk (aput nt (aknow nt tm (.tmp t) b) dst (.tup [])) ds g)) g
        | .tup [] => kk (aput nt tm dst (.tup [])) ds g
        | _ => .bad 213) (.bad 214)
      | none => .bad 215
    | none => .bad 216
/-- An operation with its guard. -/
noncomputable def aGuard (P : Program) (R : Rg) (call : CallF α) (ext : ExtF α) (nt : Nat) (ops : List Oper) (o : Oper) (kk : Nx α) (tm : PT) (ds : List Df) (g : G) : Rs α :=
  Oper.rec (motive := fun _ => (α : Type) → Program → Rg → CallF α → ExtF α → Nat → List Oper → Nx α → Nx α)
    (fun dst op _ _ _ guard => Option.rec (motive := fun _ => Op → Option Tmp → (α : Type) → Program → Rg → CallF α → ExtF α → Nat → List Oper → Nx α → Nx α)
      (fun op dst α P R call ext nt _ kk => aOneC op dst α P R call ext nt kk)
      (fun jw op dst _ P R call ext nt ops kk => aGuardS P R call ext nt ops op dst jw.1 jw.2 kk) guard op dst) o α P R call ext nt ops kk tm ds g
theorem aGuard_eq (P : Program) (R : Rg) (call : CallF α) (ext : ExtF α) (nt : Nat) (ops : List Oper) (o : Oper) (kk : Nx α) (tm : PT) (ds : List Df) (g : G) : aGuard P R call ext nt ops o kk tm ds g =
  match o.guard with
  | none => aOne P R call ext nt o kk tm ds g
  | some (j, want) => match lnth ops j with
    | some oj => match oj.dst with
      | some t => ife (Nat.ble (Nat.succ t) nt) (match tm.get t with
        | .bool e => forkB R e (fun b g => ife (ife b want (ife want false true)) (aOne P R call ext nt o kk (aknow nt tm (.tmp t) b) ds g) (kk (aput nt (aknow nt tm (.tmp t) b) o.dst (.tup [])) ds g)) g
        | .tup [] => kk (aput nt tm o.dst (.tup [])) ds g
        | _ => .bad 213) (.bad 214)
      | none => .bad 215
    | none => .bad 216 := by
  obtain ⟨dst, op, ty, pos, after, guard⟩ := o
  cases guard with
  | none => rfl
  | some q => rfl
theorem ife_eqB (b c : Bool) : ife b c (ife c false true) = (b == c) := by cases b <;> cases c <;> rfl
theorem aGuard_ok {R : Rg} (hR : R.ok V) {call : CallF α} {ext : ExtF α} (hc : CallOk P V W0 p call) (he : ExtOk P V W0 p ext) (r : Grel V N W0 g w) {nt d : Nat} {tm : PT} {ds : List Df} {a : Act} (ra : Arel V N nt d tm ds a)
    {ops : Array Oper} {o : Oper} {kk : Nx α} (h : (aGuard P R call ext nt ops.toList o kk tm ds g).All V p) {K : Act → World → Prop} (Q : Exit → Act → World → Prop) (hk : NxOk V W0 N g p nt d kk K) :
    if Region.wanted o (yielded ops a.tmps) then o.wp P a w K Q else K (a.put o.dst undef) w := by
  rw [aGuard_eq] at h
  split at h
  · rename_i hg
    rw [if_pos (by simp [Region.wanted, hg])]
    exact aOne_ok hR hc he r ra h Q hk
  · rename_i j want hg
    rw [lnth_eq] at h
    split at h
    · rename_i oj hj
      split at h
      · rename_i t hd
        obtain ⟨hlt, h'⟩ := ife1 h (fun x => x)
        clear h
        have hlt : t < nt := Nat.le_of_ble_eq_true hlt
        have hlt' : t < a.tmps.size := by rw [ra.t.size]; exact hlt
        have hr := ra.t.rel t hlt
        have hD : a.tmps.getD t undef = a.tmps[t] := by rw [Array.getD_eq_getD_getElem?, Array.getElem?_eq_getElem hlt']; rfl
        have hy : yielded ops a.tmps j = match a.tmps[t] with | .bool b => some b | _ => none := by
          unfold yielded
          rw [Array.getElem?_toList] at hj
          simp only [hj, Option.bind_some, hd, Array.getElem?_eq_getElem hlt']
          cases a.tmps[t] <;> rfl
        rw [hD] at hr
        split at h'
        · rename_i e hx
          rw [hx] at hr
          obtain ⟨b, hv, s⟩ := says_of_rel hr
          obtain ⟨g', k1, k2⟩ := forkB_ok hR e r h'
          unfold Says at s
          have hb : decide (e.den V ≠ 0) = b := by rw [s]; cases b <;> simp
          rw [hb, ife_eqB] at k2
          have hev : a.eval (.tmp t) = .bool b := by show a.tmps.getD t undef = _; rw [hD, hv]
          have ra' := ra.know hev
          have hw : Region.wanted o (yielded ops a.tmps) = (b == want) := by
            simp only [Region.wanted, hg, hy, hv]; cases b <;> cases want <;> rfl
          rw [hw]
          cases hbw : b == want
          · rw [hbw, ife_false] at k2
            exact hk _ _ g' N _ w k1.1 k1.2.1 (ra'.put undef_rel o.dst) k2
          · rw [hbw, ife_true] at k2
            exact aOne_ok hR hc he k1.1 ra' k2 Q (hk.ext k1.2.1)
        · rename_i hx
          rw [hx] at hr
          simp only [AV.rel] at hr
          obtain ⟨x, hv, _⟩ := hr
          have hw : Region.wanted o (yielded ops a.tmps) = false := by simp only [Region.wanted, hg, hy, hv]; cases want <;> rfl
          rw [hw]
          exact hk _ _ g N _ w r (Ext.refl _ _) (ra.put undef_rel o.dst) h'
        · exact h'.elim
      · exact h.elim
    · exact h.elim
noncomputable def aOps (P : Program) (R : Rg) (call : CallF α) (ext : ExtF α) (nt : Nat) (ops l : List Oper) (kk : Nx α) : Nx α :=
  List.rec (motive := fun _ => Nx α) kk (fun o _ ih => aGuard P R call ext nt ops o ih) l
theorem aOps_ok {R : Rg} (hR : R.ok V) {call : CallF α} {ext : ExtF α} (hc : CallOk P V W0 p call) (he : ExtOk P V W0 p ext) {ops : Array Oper} {nt d : Nat} {kk : Nx α} {Q : Exit → Act → World → Prop} :
    ∀ (l : List Oper) {g : G} {N : Env} {w : World} {tm : PT} {ds : List Df} {a : Act}, Grel V N W0 g w → Arel V N nt d tm ds a → (aOps P R call ext nt ops.toList l kk tm ds g).All V p →
      NxOk V W0 N g p nt d kk (Q .normal) → wpList P ops Q l a w
  | [], g, N, w, tm, ds, a, r, ra, h, hk => hk _ _ g N _ w r (Ext.refl _ _) ra h
  | o :: l, g, N, w, tm, ds, a, r, ra, h, hk => by
    change (aGuard P R call ext nt ops.toList o (aOps P R call ext nt ops.toList l kk) tm ds g).All V p at h
    refine wpList_step fun K hK => ?_
    refine aGuard_ok hR hc he r ra h Q fun tm' ds' g' N' a' w' h1 h2 h3 h4 => hK a' w' ?_
    exact aOps_ok hR hc he l h1 h3 h4 (hk.ext h2)

/-! ### Code -/
inductive X where
  | normal
  | exit (id : Nat)
  | ret
def X.toExit : X → Exit
  | .normal => .normal
  | .exit id => .exit id
  | .ret => .ret
abbrev Kx (α : Type) := X → Nx α
noncomputable def X.sel {β : Type} (x : X) (n : β) (e : Nat → β) (r : β) : β := X.rec n e r x
noncomputable def aLoop (LF : Nat) (body : Kx α → Nx α) (kk : Kx α) : Nx α :=
  Nat.rec (motive := fun _ => Nx α) (fun _ _ _ => .bad 217) (fun _ ih => body fun x => x.sel ih (fun i => kk (.exit i)) (kk .ret)) LF
/-- The regions whose order is drawn. -/
abbrev DrawF (α : Type) := Nat → List Oper → Nx α → Nx α

/-! ### States, and their joins -/
structure St where
  x : X
  tm : PT
  ds : List Df
  g : G
noncomputable def X.eqb (x y : X) : Bool := match x, y with
  | .normal, .normal => true
  | .exit i, .exit j => Nat.beq i j
  | .ret, .ret => true
  | _, _ => false
theorem X.eqb_ok {x y : X} (h : X.eqb x y = true) : x = y := by
  unfold X.eqb at h
  split at h
  · rfl
  · rw [Nat.eq_of_beq_eq_true h]
  · rfl
  · cases h
noncomputable def mrgD (c : E) (l : List Df) : List Df → Option (List Df) :=
  List.rec (motive := fun _ => List Df → Option (List Df)) (fun m => match m with | [] => some [] | _ => none)
    (fun x _ ih m => match m with
      | [] => none
      | y :: m => ife (Nat.beq x.f y.f) (match mrgL (mrgT c) x.as y.as, ih m with
        | some z, some l => some (⟨x.f, z⟩ :: l)
        | _, _ => none) none) l
theorem mrgD_ok {V : Va} {c : E} : ∀ (l m q : List Df), mrgD c l m = some q → ∀ N v, Drels V N (if c.den V = 0 then m else l) v → Drels V N q v
  | [], [], q, h, N, v, hv => by cases h; split at hv <;> exact hv
  | [], _ :: _, q, h, _, _, _ => by cases h
  | _ :: _, [], q, h, _, _, _ => by cases h
  | x :: l, y :: m, q, h, N, v, hv => by
    change ife (Nat.beq x.f y.f) (match mrgL (mrgT c) x.as y.as, mrgD c l m with
        | some z, some l => some ((⟨x.f, z⟩ : Df) :: l)
        | _, _ => none) none = some q at h
    cases hb : Nat.beq x.f y.f
    · rw [hb] at h; cases h
    · rw [hb, ife_true] at h
      have hb := Nat.eq_of_beq_eq_true hb
      split at h
      · rename_i z l' hz hl
        cases h
        have hj := mrgL_ok (V := V) (fun x y z hz => mrgT_ok hz) _ _ _ hz
        have ih := mrgD_ok (V := V) l m l' hl N
        by_cases hc : c.den V = 0
        · rw [if_pos hc] at hv
          obtain ⟨d, ds, rfl, ⟨ca, h1, h2⟩, h3⟩ := hv
          exact ⟨d, ds, rfl, ⟨ca, by rw [h1]; simp only [hb], hj N _ (by rw [if_pos hc]; exact h2)⟩, ih ds (by rw [if_pos hc]; exact h3)⟩
        · rw [if_neg hc] at hv
          obtain ⟨d, ds, rfl, ⟨ca, h1, h2⟩, h3⟩ := hv
          exact ⟨d, ds, rfl, ⟨ca, h1, hj N _ (by rw [if_neg hc]; exact h2)⟩, ih ds (by rw [if_neg hc]; exact h3)⟩
      · cases h
noncomputable def unionN (l m : List Nat) : List Nat := List.rec (motive := fun _ => List Nat) m (fun x _ ih => ife (noneEq x m) (x :: ih) ih) l
noncomputable def mrgSt (c : E) (a b : St) : Option St :=
  ife (X.eqb a.x b.x) (match mrgP c a.tm b.tm, mrgD c a.ds b.ds, mrgH c a.g.heap b.g.heap with
    | some t, some d, some h => some ⟨a.x, t, d, ⟨h, ife (Nat.ble a.g.nx b.g.nx) b.g.nx a.g.nx, a.g.lim, [], [], unionN a.g.wl b.g.wl⟩⟩
    | _, _, _ => none) none
/-- What a stands for, s stands for. -/
structure StLe (V : Va) (a s : St) : Prop where
  x : s.x = a.x
  tm : ∀ N nt d l, Trel V N nt d a.tm l → Trel V N nt d s.tm l
  ds : ∀ N l, Drels V N a.ds l → Drels V N s.ds l
  heap : ∀ id o, hget s.g.heap id = some o → ∃ o', hget a.g.heap id = some o' ∧ ObLe V o' o
  nx : a.g.nx ≤ s.g.nx
theorem StLe.refl (V : Va) (a : St) : StLe V a a := ⟨rfl, fun _ _ _ _ h => h, fun _ _ h => h, fun _ o h => ⟨o, h, rfl, fun _ _ _ h => h⟩, Nat.le_refl _⟩
theorem StLe.trans {V : Va} {a b c : St} (h : StLe V a b) (h' : StLe V b c) : StLe V a c :=
  ⟨h'.x.trans h.x, fun N nt d l q => h'.tm N nt d l (h.tm N nt d l q), fun N l q => h'.ds N l (h.ds N l q), fun id o ho => by
    obtain ⟨o1, h1, e1, q1⟩ := h'.heap id o ho
    obtain ⟨o2, h2, e2, q2⟩ := h.heap id o1 h1
    exact ⟨o2, h2, e1.trans e2, fun N id x hx => q1 N id x (q2 N id x hx)⟩, Nat.le_trans h.nx h'.nx⟩
theorem mrgSt_ok {V : Va} {c : E} {a b s : St} (h : mrgSt c a b = some s) : StLe V (if c.den V = 0 then b else a) s := by
  unfold mrgSt at h
  cases hx : X.eqb a.x b.x
  · rw [hx] at h; cases h
  · rw [hx, ife_true] at h
    have hx := X.eqb_ok hx
    split at h
    · rename_i t d hp ht hd hh
      cases h
      have hnx : b.g.nx ≤ (ife (Nat.ble a.g.nx b.g.nx) b.g.nx a.g.nx) ∧ a.g.nx ≤ (ife (Nat.ble a.g.nx b.g.nx) b.g.nx a.g.nx) := by
        cases hb : Nat.ble a.g.nx b.g.nx
        · refine ⟨?_, Nat.le_refl _⟩
          have : ¬ a.g.nx ≤ b.g.nx := fun e => by rw [Nat.ble_eq_true_of_le e] at hb; cases hb
          show b.g.nx ≤ a.g.nx
          omega
        · exact ⟨Nat.le_refl _, Nat.le_of_ble_eq_true hb⟩
      by_cases hc : c.den V = 0
      · rw [if_pos hc]
        refine ⟨hx, fun N nt d l r => ?_, fun N l r => mrgD_ok _ _ _ hd N l (by rw [if_pos hc]; exact r), fun id o ho => ?_, hnx.1⟩
        · have := mrgP_ok (V := V) d _ _ _ ht (by rw [if_pos hc]; exact r.full)
          exact ⟨this.1, r.size, r.fits, fun i hi => this.2 (digs 20 i) N _ (by rw [if_pos hc]; exact r.rel i hi)⟩
        · obtain ⟨oa, ob, h1, h2, h3⟩ := mrgH_ok _ hh id o ho
          have := mrgO_ok (V := V) h3
          rw [if_pos hc] at this
          exact ⟨ob, h2, this⟩
      · rw [if_neg hc]
        refine ⟨rfl, fun N nt d l r => ?_, fun N l r => mrgD_ok _ _ _ hd N l (by rw [if_neg hc]; exact r), fun id o ho => ?_, hnx.2⟩
        · have := mrgP_ok (V := V) d _ _ _ ht (by rw [if_neg hc]; exact r.full)
          exact ⟨this.1, r.size, r.fits, fun i hi => this.2 (digs 20 i) N _ (by rw [if_neg hc]; exact r.rel i hi)⟩
        · obtain ⟨oa, ob, h1, h2, h3⟩ := mrgH_ok _ hh id o ho
          have := mrgO_ok (V := V) h3
          rw [if_neg hc] at this
          exact ⟨oa, h1, this⟩
    · cases h
noncomputable def joinS (t : Rs St) : Option St :=
  Rs.rec (motive := fun _ => Option St) (fun _ => none) (fun a => some a) (fun c _ _ ix iy => match ix, iy with
    | some x, some y => mrgSt c x y
    | _, _ => none) (fun _ _ _ _ => none) t
theorem joinS_ok {V : Va} : ∀ (t : Rs St) {m : St}, joinS t = some m → t.All V (fun a => t.sel V = some a) ∧ ∀ a, t.sel V = some a → StLe V a m
  | .bad _, m, h => by cases h
  | .leaf a, m, h => by
    cases h
    exact ⟨rfl, fun b hb => by cases hb; exact StLe.refl V a⟩
  | .both _ _, m, h => by cases h
  | .fork c x y, m, h => by
    change (match joinS x, joinS y with
      | some x, some y => mrgSt c x y
      | _, _ => none) = some m at h
    split at h
    · rename_i x' y' hx hy
      have ix := joinS_ok (V := V) x hx
      have iy := joinS_ok (V := V) y hy
      have hm := mrgSt_ok (V := V) h
      by_cases hc : c.den V = 0
      · rw [if_pos hc] at hm
        refine ⟨?_, fun a ha => ?_⟩
        · simp only [Rs.All, Rs.sel, if_pos hc]; exact iy.1
        · simp only [Rs.sel, if_pos hc] at ha
          exact (iy.2 a ha).trans hm
      · rw [if_neg hc] at hm
        refine ⟨?_, fun a ha => ?_⟩
        · simp only [Rs.All, Rs.sel, if_neg hc]; exact ix.1
        · simp only [Rs.sel, if_neg hc] at ha
          exact (ix.2 a ha).trans hm
    · cases h
noncomputable def leafK : Kx St := fun x tm ds g => .leaf ⟨x, tm, ds, g⟩
/-- Blocks that stay as they are are as they were. -/
noncomputable def restore (gh mh : Heap) (ro : List Nat) : Heap :=
  List.rec (motive := fun _ => Heap) mh (fun id _ ih => match hget gh id with | some o => hput ih id o | none => ih) ro
theorem restore_of {gh mh : Heap} {id : Nat} {o : Ob} : ∀ (ro : List Nat), hget (restore gh mh ro) id = some o → hget mh id = some o ∨ (id ∈ ro ∧ hget gh id = some o)
  | [], h => .inl h
  | x :: ro, h => by
    change hget (match hget gh x with | some o => hput (restore gh mh ro) x o | none => restore gh mh ro) id = some o at h
    split at h
    · rename_i q hq
      rw [hget_hput] at h
      split at h
      · rename_i e; subst e
        injection h with h; subst h
        exact .inr ⟨List.mem_cons_self, hq⟩
      · rcases restore_of ro h with h | h
        · exact .inl h
        · exact .inr ⟨List.mem_cons_of_mem _ h.1, h.2⟩
    · rcases restore_of ro h with h | h
      · exact .inl h
      · exact .inr ⟨List.mem_cons_of_mem _ h.1, h.2⟩
theorem restore_in {gh mh : Heap} {id : Nat} {o : Ob} (ho : hget gh id = some o) : ∀ (ro : List Nat), id ∈ ro → hget (restore gh mh ro) id = some o
  | x :: ro, h => by
    show hget (match hget gh x with | some o => hput (restore gh mh ro) x o | none => restore gh mh ro) id = some o
    by_cases e : x = id
    · subst e
      rw [ho]
      simp only
      rw [hget_hput, if_pos rfl]
    · have hm : id ∈ ro := by
        rcases List.mem_cons.1 h with h | h
        · exact absurd h.symm e
        · exact h
      split
      · rw [hget_hput, if_neg e]; exact restore_in ho ro hm
      · exact restore_in ho ro hm
/-- The state m, over what was known at the start. -/
noncomputable def G.over (g m : G) : G := ⟨restore g.heap m.heap g.ro, m.nx, g.lim, g.fs, g.ro, m.wl⟩
noncomputable def jGen (g : G) (kk : Kx α) (t : Rs St) : Rs α := match joinS t with
    | some s => kk s.x s.tm s.ds (g.over s.g)
    | none => t.bnd fun s => kk s.x s.tm s.ds s.g
noncomputable def jPt (g : G) (kk : Kx α) (t : Rs St) : Rs α :=
  Rs.rec (motive := fun _ => Rs α) (fun n => .bad n) (fun s => kk s.x s.tm s.ds s.g) (fun c x y _ _ => jGen g kk (.fork c x y)) (fun x y _ _ => jGen g kk (.both x y)) t
/-- f, and behind it all paths joined. -/
noncomputable def jAt (jn : Bool) (f : (β : Type) → Kx β → Nx β) (α : Type) (kk : Kx α) : Nx α := fun tm ds g => ife jn (jPt g kk (f St leafK tm ds g)) (f α kk tm ds g)
theorem Grel.joined {N' : Env} {a m : St} (r : Grel V N' W0 a.g w) (e : Ext g N a.g N') (hs : StLe V a m) (hf : Fs.ok V g.fs) : Grel V N' W0 (g.over m.g) w ∧ Ext g N (g.over m.g) N' := by
  have key : ∀ id o, hget (g.over m.g).heap id = some o → ∃ o', hget a.g.heap id = some o' ∧ ObLe V o' o := by
    intro id o ho
    rcases restore_of _ ho with h | h
    · exact hs.heap id o h
    · exact ⟨o, e.keep id h.1 o h.2, rfl, fun _ _ _ h => h⟩
  refine ⟨⟨r.os, r.tape, r.output, r.size, r.below, r.soft, fun id o ho => ?_, fun id o id' o' h1 h2 hne how b hb => ?_, fun id h1 h2 => ?_, hf⟩, e.le, e.out, Nat.le_trans e.nx hs.nx, rfl, rfl, fun id hi o ho => restore_in ho _ hi⟩
  · obtain ⟨o', h1, h2, h3⟩ := key id o ho
    obtain ⟨b, k1, k2, k3⟩ := r.ob id o' h1
    exact ⟨b, k1, h3 _ _ _ k2, fun hw => k3 (by rw [← h2]; exact hw)⟩
  · obtain ⟨p, k1, k2, _⟩ := key id o h1
    obtain ⟨p', k3, _, _⟩ := key id' o' h2
    exact r.apart id p id' p' k1 k3 hne (by rw [← k2]; exact how) b hb
  · exact r.fresh id (Nat.le_trans hs.nx h1) (by rw [e.lim]; exact h2)
noncomputable def aCode (P : Program) (R : Rg) (call : (β : Type) → CallF β) (ext : (β : Type) → ExtF β) (draw : (β : Type) → DrawF β) (LF nt : Nat) (jn : Bool) (c : Code) : (α : Type) → Kx α → Nx α :=
  Code.rec (motive := fun _ => (α : Type) → Kx α → Nx α)
    (fun _ kk => kk .normal)
    (fun _ ops dr => jAt jn fun β kk => ife dr (draw β nt ops.toList (kk .normal)) (aOps P R (call β) (ext β) nt ops.toList ops.toList (kk .normal)))
    (fun _ _ ia ib β kk => ia β fun x => x.sel (ib β kk) (fun i => kk (.exit i)) (kk .ret))
    (fun c _ _ ia ib => jAt jn fun β kk tm ds g => onBool R (aev nt tm c) g fun b g => ife b (ia β kk (aknow nt tm c b) ds g) (ib β kk (aknow nt tm c b) ds g))
    (fun id _ ib => jAt jn fun β kk => ib β fun x => x.sel (kk .normal) (fun i => ife (Nat.beq i id) (kk .normal) (kk (.exit i))) (kk .ret))
    (fun _ ib => jAt jn fun β kk => aLoop LF (ib β) kk)
    (fun _ _ _ _ _ _ _ _ _ _ _ => .bad 218)
    (fun id _ kk => kk (.exit id))
    (fun _ _ _ _ _ _ _ => .bad 219)
    (fun _ _ kk => kk .normal)
    (fun _ _ _ _ _ _ => .bad 220)
    (fun _ kk => kk .ret)
    (fun _ _ _ _ _ _ => .bad 221)
    c
def DrawOk (P : Program) (V : Va) (W0 : World) (p : α → Prop) (draw : DrawF α) : Prop :=
  ∀ (nt d id : Nat) (ops : Array Oper) (kk : Nx α) (tm : PT) (ds : List Df) (g : G) (N : Env) (a : Act) (w : World), Grel V N W0 g w → Arel V N nt d tm ds a → (draw nt ops.toList kk tm ds g).All V p →
    ∀ Q : Exit → Act → World → Prop, NxOk V W0 N g p nt d kk (Q .normal) → (Code.region id ops true).wp P Q a w
def KxOk (V : Va) (W0 : World) (N : Env) (g : G) (p : α → Prop) (nt d : Nat) (kk : Kx α) (Q : Exit → Act → World → Prop) : Prop := ∀ x : X, NxOk V W0 N g p nt d (kk x) (Q x.toExit)
theorem KxOk.ext {nt d : Nat} {kk : Kx α} {Q : Exit → Act → World → Prop} {g' : G} {N' : Env} (h : KxOk V W0 N g p nt d kk Q) (he : Ext g N g' N') : KxOk V W0 N' g' p nt d kk Q := fun x => (h x).ext he
def LoopWp (P : Program) (c : Code) (Q : Exit → Act → World → Prop) (a : Act) (w : World) : Prop :=
  ∀ (b : Frame) (k : List Item) (cs : List Frame), ∃ e a' w', Q e a' w' ∧ Arrives P (lone (b.at a (.code c :: .inLoop c :: k)) cs w) b k cs e a' w'
theorem loop_unroll {c : Code} {Q : Exit → Act → World → Prop} {a : Act} (h : c.wp P (Exit.then (LoopWp P c Q) Q) a w) : LoopWp P c Q a w := by
  intro b k cs
  obtain ⟨e, a₁, w₁, hq, harr⟩ := h b (.inLoop c :: k) cs
  cases e with
  | normal =>
    obtain ⟨e₂, a₂, w₂, hq₂, harr₂⟩ := hq b k cs
    exact ⟨e₂, a₂, w₂, hq₂, .of_steps (Steps.trans harr (.one step_inLoop)) harr₂⟩
  | exit id => exact ⟨_, a₁, w₁, hq, .pass (x := .inLoop c) rfl (fun _ _ => .inl (by simp)) harr⟩
  | goto l => exact ⟨_, a₁, w₁, hq, .pass (x := .inLoop c) rfl (fun _ _ => .inl (by simp)) harr⟩
  | ret => exact ⟨_, a₁, w₁, hq, .pass (x := .inLoop c) rfl (fun _ _ => .inl (by simp)) harr⟩
  | panic ch => exact ⟨_, a₁, w₁, hq, .pass (x := .inLoop c) rfl (fun _ _ => .inl (by simp)) harr⟩
  | outgrown => exact ⟨_, a₁, w₁, hq, .pass (x := .inLoop c) rfl (fun _ _ => .inl (by simp)) harr⟩
theorem loop_of {c : Code} {Q : Exit → Act → World → Prop} {a : Act} (h : LoopWp P c Q a w) : (Code.loop c).wp P Q a w := by
  intro b k cs
  obtain ⟨e, a', w', hq, harr⟩ := h b k cs
  exact ⟨e, a', w', hq, .of_steps (.one step_loop) harr⟩
def CodeOk (P : Program) (V : Va) (W0 : World) (p : α → Prop) (nt d : Nat) (f : Kx α → Nx α) (c : Code) : Prop :=
  ∀ (kk : Kx α) (tm : PT) (ds : List Df) (g : G) (N : Env) (a : Act) (w : World), Grel V N W0 g w → Arel V N nt d tm ds a → (f kk tm ds g).All V p →
    ∀ Q : Exit → Act → World → Prop, KxOk V W0 N g p nt d kk Q → c.wp P Q a w
theorem aLoop_ok {nt d : Nat} {body : Kx α → Nx α} {c : Code} (hb : CodeOk P V W0 p nt d body c) (kk : Kx α) : ∀ (LF : Nat) (tm : PT) (ds : List Df) (g : G) (N : Env) (a : Act) (w : World), Grel V N W0 g w → Arel V N nt d tm ds a →
    (aLoop LF body kk tm ds g).All V p → ∀ Q : Exit → Act → World → Prop, KxOk V W0 N g p nt d kk Q → LoopWp P c Q a w
  | 0, tm, ds, g, N, a, w, r, ra, h, Q, hk => h.elim
  | LF + 1, tm, ds, g, N, a, w, r, ra, h, Q, hk => by
    change (body (fun x => x.sel (aLoop LF body kk) (fun i => kk (.exit i)) (kk .ret)) tm ds g).All V p at h
    refine loop_unroll (hb _ tm ds g N a w r ra h _ fun x => ?_)
    intro tm' ds' g' N' a' w' h1 h2 h3 h4
    cases x with
    | normal => exact aLoop_ok hb kk LF tm' ds' g' N' a' w' h1 h3 h4 Q (hk.ext h2)
    | exit i => exact hk (.exit i) tm' ds' g' N' a' w' h1 h2 h3 h4
    | ret => exact hk .ret tm' ds' g' N' a' w' h1 h2 h3 h4
theorem jAt_ok {nt d : Nat} {f : (β : Type) → Kx β → Nx β} {c : Code} (hf : ∀ (β : Type) (p : β → Prop), CodeOk P V W0 p nt d (f β) c) (jn : Bool) (α : Type) (p : α → Prop) : CodeOk P V W0 p nt d (jAt jn f α) c := by
  intro kk tm ds g N a w r ra h Q hk
  unfold jAt at h
  cases jn with
  | false => exact hf α p kk tm ds g N a w r ra h Q hk
  | true =>
    rw [ife_true] at h
    have plain : (f St leafK tm ds g).All V (fun s => (kk s.x s.tm s.ds s.g).All V p) → c.wp P Q a w := fun h' =>
      hf St _ leafK tm ds g N a w r ra h' Q fun x tm' ds' g' N' a' w' h1 h2 h3 h4 => hk x tm' ds' g' N' a' w' h1 h2 h3 h4
    have gen : ∀ t : Rs St, f St leafK tm ds g = t → (jGen g kk t).All V p → c.wp P Q a w := by
      intro t ht hg
      unfold jGen at hg
      split at hg
      · rename_i s hs
        have hj := joinS_ok (V := V) t hs
        rw [← ht] at hj
        refine hf St _ leafK tm ds g N a w r ra hj.1 Q fun x tm' ds' g' N' a' w' h1 h2 h3 h4 => ?_
        have hle := hj.2 _ h4
        obtain ⟨k1, k2⟩ := Grel.joined (a := ⟨x, tm', ds', g'⟩) h1 h2 hle r.facts
        have := hk s.x s.tm s.ds _ N' a' w' k1 k2 ⟨hle.tm _ _ _ _ h3.t, hle.ds _ _ h3.d⟩ hg
        rw [hle.x] at this
        exact this
      · exact plain (by rw [ht]; exact Rs.All_bnd _ hg)
    generalize ht : f St leafK tm ds g = t at h
    cases t with
    | bad n => exact h.elim
    | leaf s => exact plain (by rw [ht]; exact h)
    | fork e x y => exact gen _ ht h
    | both x y => exact gen _ ht h
theorem aCode_ok {R : Rg} (hR : R.ok V) {call : (β : Type) → CallF β} {ext : (β : Type) → ExtF β} {draw : (β : Type) → DrawF β} (hc : ∀ (β : Type) (p : β → Prop), CallOk P V W0 p (call β)) (he : ∀ (β : Type) (p : β → Prop), ExtOk P V W0 p (ext β))
    (hd : ∀ (β : Type) (p : β → Prop), DrawOk P V W0 p (draw β)) (LF nt d : Nat) (jn : Bool) (c : Code) :
    ∀ (α : Type) (p : α → Prop), CodeOk P V W0 p nt d (aCode P R call ext draw LF nt jn c α) c := by
  induction c with
  | skip => intro α p kk tm ds g N a w r ra h Q hk; exact wp_skip (hk .normal _ _ g N _ w r (Ext.refl _ _) ra h)
  | region id ops dr =>
    refine jAt_ok (f := fun β kk => ife dr (draw β nt ops.toList (kk .normal)) (aOps P R (call β) (ext β) nt ops.toList ops.toList (kk .normal))) (fun β p => ?_) jn
    intro kk tm ds g N a w r ra h Q hk
    cases dr with
    | false => exact wp_region_list (aOps_ok hR (hc β p) (he β p) _ r ra h (hk .normal))
    | true => exact hd β p nt d id ops (kk .normal) tm ds g N a w r ra h Q (hk .normal)
  | seq x y ix iy =>
    intro α p kk tm ds g N a w r ra h Q hk
    change (aCode P R call ext draw LF nt jn x α (fun q => q.sel (aCode P R call ext draw LF nt jn y α kk) (fun i => kk (.exit i)) (kk .ret)) tm ds g).All V p at h
    refine wp_seq (ix α p _ tm ds g N a w r ra h _ fun q => ?_)
    intro tm' ds' g' N' a' w' h1 h2 h3 h4
    cases q with
    | normal => exact iy α p kk tm' ds' g' N' a' w' h1 h3 h4 Q (hk.ext h2)
    | exit i => exact hk (.exit i) tm' ds' g' N' a' w' h1 h2 h3 h4
    | ret => exact hk .ret tm' ds' g' N' a' w' h1 h2 h3 h4
  | cond c x y ix iy =>
    refine jAt_ok (f := fun β kk tm ds g => onBool R (aev nt tm c) g fun b g => ife b (aCode P R call ext draw LF nt jn x β kk (aknow nt tm c b) ds g) (aCode P R call ext draw LF nt jn y β kk (aknow nt tm c b) ds g)) (fun β p => ?_) jn
    intro kk tm ds g N a w r ra h Q hk
    change (onBool R (aev nt tm c) g fun b g => ife b (aCode P R call ext draw LF nt jn x β kk (aknow nt tm c b) ds g) (aCode P R call ext draw LF nt jn y β kk (aknow nt tm c b) ds g)).All V p at h
    obtain ⟨b, g', hv, h1, h2⟩ := onBool_ok hR r (aev_ok ra.t c) h
    refine wp_cond hv ?_
    have ra' := ra.know hv
    cases b
    · exact iy β p kk _ _ g' N a w h1.1 ra' h2 Q (hk.ext h1.2.1)
    · exact ix β p kk _ _ g' N a w h1.1 ra' h2 Q (hk.ext h1.2.1)
  | block id x ix =>
    refine jAt_ok (f := fun β kk => aCode P R call ext draw LF nt jn x β fun q => q.sel (kk .normal) (fun i => ife (Nat.beq i id) (kk .normal) (kk (.exit i))) (kk .ret)) (fun β p => ?_) jn
    intro kk tm ds g N a w r ra h Q hk
    change (aCode P R call ext draw LF nt jn x β (fun q => q.sel (kk .normal) (fun i => ife (Nat.beq i id) (kk .normal) (kk (.exit i))) (kk .ret)) tm ds g).All V p at h
    refine wp_block (ix β p _ tm ds g N a w r ra h _ fun q => ?_)
    intro tm' ds' g' N' a' w' h1 h2 h3 h4
    cases q with
    | normal => exact hk .normal tm' ds' g' N' a' w' h1 h2 h3 h4
    | exit i =>
      change ((ife (Nat.beq i id) (kk .normal) (kk (.exit i))) tm' ds' g').All V p at h4
      show (if i = id then Q .normal a' w' else Q (.exit i) a' w')
      cases hb : Nat.beq i id
      · have : ¬ i = id := fun e => by rw [e] at hb; simp at hb
        rw [if_neg this]
        rw [hb] at h4
        exact hk (.exit i) tm' ds' g' N' a' w' h1 h2 h3 h4
      · rw [if_pos (Nat.eq_of_beq_eq_true hb)]
        rw [hb] at h4
        exact hk .normal tm' ds' g' N' a' w' h1 h2 h3 h4
    | ret => exact hk .ret tm' ds' g' N' a' w' h1 h2 h3 h4
  | loop x ix =>
    refine jAt_ok (f := fun β kk => aLoop LF (aCode P R call ext draw LF nt jn x β) kk) (fun β p => ?_) jn
    intro kk tm ds g N a w r ra h Q hk
    exact loop_of (aLoop_ok (ix β p) kk LF tm ds g N a w r ra h Q hk)
  | rangeFunc _ _ _ _ _ _ => intro α p kk tm ds g N a w r ra h; exact h.elim
  | exit id => intro α p kk tm ds g N a w r ra h Q hk; exact wp_exit (hk (.exit id) _ _ g N _ w r (Ext.refl _ _) ra h)
  | scope _ _ => intro α p kk tm ds g N a w r ra h; exact h.elim
  | label l => intro α p kk tm ds g N a w r ra h Q hk; exact wp_label (hk .normal _ _ g N _ w r (Ext.refl _ _) ra h)
  | goto _ => intro α p kk tm ds g N a w r ra h; exact h.elim
  | ret => intro α p kk tm ds g N a w r ra h Q hk; exact wp_ret (hk .ret _ _ g N _ w r (Ext.refl _ _) ra h)
  | refuse _ => intro α p kk tm ds g N a w r ra h; exact h.elim
end
end Go.RX
