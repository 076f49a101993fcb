/- RX, part 11: one operation. -/
import Derived.Test.YtoheklommpochaaRxF
namespace Go.RX
set_option linter.unusedVariables false
section
variable {P : Program} {α : Type} {V : Va} {W0 : World} {N : Env} {g : G} {p : α → Prop} {k : AV → G → Rs α} {w : World}

noncomputable def aCap (P : Program) (t : TypeId) (x : AV) (g : G) (k : AV → G → Rs α) : Rs α :=
  match P.underlying t, x with
  | some (.slice _), .nilslice => k (.int .i64 (.k 0)) g
  | some (.slice _), .slice _ _ _ (.lit n) => k (.int .i64 (.k (Int.ofNat n))) g
  | _, _ => .bad 123
theorem aCap_ok (r : Grel V N W0 g w) {t tt : TypeId} {ts : Array TypeId} {x : AV} {v : Value} (hx : x.rel V N v) (hts : ts[0]? = some t) (h : (aCap P t x g k).All V p) : Does P V W0 N g p k w (Builtin.cap_ ts tt #[v]) := by
  unfold aCap at h
  split at h
  · rename_i elem ht
    simp only [AV.rel] at hx; subst hx
    refine Does.val r (v := goInt 0) (by simp only [AV.rel, E.den]; rfl) h ?_
    simp [Builtin.cap_, hts, run_underlying ht]
  · rename_i elem id off len n ht
    simp only [AV.rel] at hx
    obtain ⟨b, c, hb, rfl, hcap⟩ := hx
    obtain ⟨rfl, _⟩ := hcap
    refine Does.val r (v := goInt c) (by simp only [AV.rel, E.den]; rfl) h ?_
    simp [Builtin.cap_, hts, run_underlying ht]
  · exact h.elim

/-- A choice: joined where it may be. -/
noncomputable def aPick (R : Rg) (c x y : AV) (g : G) (k : AV → G → Rs α) : Rs α :=
  match c with
  | .bool e => match x, y with
    | .int ka a, .int kb b => ife (Nat.beq (IntKind.no ka) (IntKind.no kb)) (k (.int ka (mkIte e a b)) g) (.bad 201)
    | .bool a, .bool b => k (.bool (mkIte e a b)) g
    | x, y => forkB R e (fun t g => k (ife t x y) g) g
  | _ => .bad 202
theorem aPick_ok {R : Rg} (hR : R.ok V) (r : Grel V N W0 g w) {c x y : AV} {vc vx vy : Value} (hc : c.rel V N vc) (hx : x.rel V N vx) (hy : y.rel V N vy) (h : (aPick R c x y g k).All V p) :
    Does P V W0 N g p k w (do pure (if ← asBool vc then vx else vy)) := by
  have gen : ∀ e : E, (AV.bool e).rel V N vc → (forkB R e (fun t g => k (ife t x y) g) g).All V p → Does P V W0 N g p k w (do pure (if ← asBool vc then vx else vy)) := by
    intro e hc h
    obtain ⟨b, rfl, s⟩ := says_of_rel hc
    obtain ⟨g', h1, h2⟩ := forkB_ok hR e r h
    refine Does.know h1 ?_
    unfold Says at s
    rw [s] at h2
    cases b
    · exact Does.val h1.1 (v := vy) hy (by simpa using h2) (by simp [asBool])
    · exact Does.val h1.1 (v := vx) hx (by simpa using h2) (by simp [asBool])
  unfold aPick at h
  split at h
  · rename_i e
    split at h
    · rename_i ka a kb b
      obtain ⟨e0, h'⟩ := ife1 h (fun x => x)
      have hk := IntKind.no_inj (Nat.eq_of_beq_eq_true e0); subst hk
      obtain ⟨t, rfl, s⟩ := says_of_rel hc
      simp only [AV.rel] at hx hy
      subst hx hy
      unfold Says at s
      refine Does.val r (v := if t then .int ka (a.den V) else .int ka (b.den V)) ?_ h' (by cases t <;> simp [asBool])
      simp only [AV.rel, den_mkIte, s]
      cases t <;> simp
    · rename_i a b
      obtain ⟨t, rfl, s⟩ := says_of_rel hc
      obtain ⟨x', rfl, sx⟩ := says_of_rel hx
      obtain ⟨y', rfl, sy⟩ := says_of_rel hy
      unfold Says at s
      refine Does.val r (v := .bool (if t then x' else y')) (Says.rel ?_) h (by cases t <;> simp [asBool])
      unfold Says at *
      rw [den_mkIte, s]
      cases t
      · simpa using sy
      · simpa using sx
    · exact gen _ hc h
  · exact h.elim

/-- Calls of builtins. -/
noncomputable def aBuiltinO (P : Program) (R : Rg) (b : Builtin) (ts : List TypeId) (as : List AV) (g : G) (k : AV → G → Rs α) : Rs α :=
  match b, ts, as with
  | .len, t :: _, [x] => aLen P t x g k
  | .cap, t :: _, [x] => aCap P t x g k
  | .min, _, [x, y] => aMm (mkMn R g.fs) x y g k
  | .max, _, [x, y] => aMm (mkMx R g.fs) x y g k
  | .copy, t :: _, [x, y] => aCopy P t x y g k
  | .clear, t :: _, [x] => aClear P t x g k
  | .append, t :: xt :: _, [x, y] => aAppend P t xt x y g k
  | _, _, _ => .bad 203
noncomputable def aBuiltinC (b : Builtin) : (α : Type) → Program → Rg → List TypeId → List AV → G → (AV → G → Rs α) → Rs α :=
  Builtin.rec (motive := fun _ => (α : Type) → Program → Rg → List TypeId → List AV → G → (AV → G → Rs α) → Rs α)
    (fun _ P _ ts as g k => match ts, as with | t :: xt :: _, [x, y] => aAppend P t xt x y g k | _, _ => .bad 203)
    (fun _ P _ ts as g k => match ts, as with | t :: _, [x] => aCap P t x g k | _, _ => .bad 203)
    (fun _ P _ ts as g k => match ts, as with | t :: _, [x] => aClear P t x g k | _, _ => .bad 203)
    (fun _ _ _ _ _ _ _ => .bad 203)
    (fun _ _ _ _ _ _ _ => .bad 203)
    (fun _ P _ ts as g k => match ts, as with | t :: _, [x, y] => aCopy P t x y g k | _, _ => .bad 203)
    (fun _ _ _ _ _ _ _ => .bad 203)
    (fun _ _ _ _ _ _ _ => .bad 203)
    (fun _ P _ ts as g k => match ts, as with | t :: _, [x] => aLen P t x g k | _, _ => .bad 203)
    (fun _ _ _ _ _ _ _ => .bad 203)
    (fun _ _ R _ as g k => match as with | [x, y] => aMm (mkMx R g.fs) x y g k | _ => .bad 203)
    (fun _ _ R _ as g k => match as with | [x, y] => aMm (mkMn R g.fs) x y g k | _ => .bad 203)
    (fun _ _ _ _ _ _ _ => .bad 203)
    (fun _ _ _ _ _ _ _ => .bad 203)
    (fun _ _ _ _ _ _ _ => .bad 203)
    (fun _ _ _ _ _ _ _ => .bad 203)
    (fun _ _ _ _ _ _ _ => .bad 203)
    (fun _ _ _ _ _ _ _ => .bad 203)
    (fun _ _ _ _ _ _ _ => .bad 203)
    (fun _ _ _ _ _ _ _ => .bad 203)
    (fun _ _ _ _ _ _ _ => .bad 203)
    (fun _ _ _ _ _ _ _ => .bad 203)
    (fun _ _ _ _ _ _ _ => .bad 203)
    (fun _ _ _ _ _ _ _ => .bad 203)
    (fun _ _ _ _ _ _ _ => .bad 203)
    (fun _ _ _ _ _ _ _ => .bad 203) b
noncomputable def aBuiltin (P : Program) (R : Rg) (b : Builtin) (ts : List TypeId) (as : List AV) (g : G) (k : AV → G → Rs α) : Rs α := aBuiltinC b α P R ts as g k
theorem aBuiltin_eq (P : Program) (R : Rg) (b : Builtin) (ts : List TypeId) (as : List AV) (g : G) (k : AV → G → Rs α) : aBuiltin P R b ts as g k = aBuiltinO P R b ts as g k := by
  rcases ts with _ | ⟨t, _ | ⟨xt, ts⟩⟩ <;> rcases as with _ | ⟨x, _ | ⟨y, _ | ⟨z, as⟩⟩⟩ <;> cases b <;> rfl
theorem rels_one1 {x : AV} {l : List Value} (h : AV.rels V N [x] l) : ∃ v, l = [v] ∧ x.rel V N v := by
  obtain ⟨v, vs, rfl, h1, h2⟩ := rels_cons.1 h
  rw [rels_nil.1 h2]; exact ⟨v, rfl, h1⟩
theorem rels_two {x y : AV} {l : List Value} (h : AV.rels V N [x, y] l) : ∃ v u, l = [v, u] ∧ x.rel V N v ∧ y.rel V N u := by
  obtain ⟨v, vs, rfl, h1, h2⟩ := rels_cons.1 h
  obtain ⟨u, rfl, h3⟩ := rels_one1 h2
  exact ⟨v, u, rfl, h1, h3⟩
/-- The operation does what s does, and nothing else. -/
def DoesN (P : Program) (V : Va) (W0 : World) (N : Env) (g : G) (p : α → Prop) (k : AV → G → Rs α) (w : World) (s : Sem Next) : Prop :=
  ∃ v w' a g' N', s.run P w = .ok (.value v) w' ∧ Grel V N' W0 g' w' ∧ Ext g N g' N' ∧ a.rel V N' v ∧ (k a g').All V p
theorem Does.next {s : Sem Value} (h : Does P V W0 N g p k w s) : DoesN P V W0 N g p k w (do pure (.value (← s))) := by
  obtain ⟨v, w', a, g', N', h1, h2⟩ := h
  exact ⟨v, w', a, g', N', by simp [h1], h2⟩
theorem aBuiltin_ok {R : Rg} (hR : R.ok V) (r : Grel V N W0 g w) {b : Builtin} {ts : Array TypeId} {tt : TypeId} {consts : Array Bool} {as : List AV} {vs : Array Value} (hs : AV.rels V N as vs.toList)
    (h : (aBuiltin P R b ts.toList as g k).All V p) : DoesN P V W0 N g p k w (builtin b ts tt consts vs) := by
  rw [aBuiltin_eq] at h
  unfold aBuiltinO at h
  have ht : ∀ {t : TypeId} {l : List TypeId}, ts.toList = t :: l → ts[0]? = some t := fun e => by rw [← Array.getElem?_toList, e]; rfl
  split at h
  · rename_i t _ x hts
    obtain ⟨v, e, h1⟩ := rels_one1 hs
    obtain rfl : vs = #[v] := Array.ext' e
    exact (aLen_ok r h1 (ht hts) h).next
  · rename_i t _ x hts
    obtain ⟨v, e, h1⟩ := rels_one1 hs
    obtain rfl : vs = #[v] := Array.ext' e
    exact (aCap_ok r h1 (ht hts) h).next
  · rename_i x y
    obtain ⟨v, u, e, h1, h2⟩ := rels_two hs
    obtain rfl : vs = #[v, u] := Array.ext' e
    exact (aMin_ok hR r h1 h2 h).next
  · rename_i x y
    obtain ⟨v, u, e, h1, h2⟩ := rels_two hs
    obtain rfl : vs = #[v, u] := Array.ext' e
    exact (aMax_ok hR r h1 h2 h).next
  · rename_i t _ x y hts
    obtain ⟨v, u, e, h1, h2⟩ := rels_two hs
    obtain rfl : vs = #[v, u] := Array.ext' e
    exact (aCopy_ok r h1 h2 (ht hts) h).next
  · rename_i t _ x hts
    obtain ⟨v, e, h1⟩ := rels_one1 hs
    obtain rfl : vs = #[v] := Array.ext' e
    exact (aClear_ok r h1 (ht hts) h).next
  · rename_i t xt _ x y hts
    obtain ⟨v, u, e, h1, h2⟩ := rels_two hs
    obtain rfl : vs = #[v, u] := Array.ext' e
    exact (aAppend_ok r h1 h2 (ht hts) (by rw [← Array.getElem?_toList, hts]; rfl) h).next
  · exact h.elim

/-! ### Calls -/
abbrev CallF (α : Type) := Bool → FuncId → List AV → G → (AV → G → Rs α) → Rs α
abbrev ExtF (α : Type) := FuncId → List AV → G → (AV → G → Rs α) → Rs α
/-- What a run of a function's code shows: the first for a call, the second for a deferred one too. -/
def CallOk (P : Program) (V : Va) (W0 : World) (p : α → Prop) (call : CallF α) : Prop :=
  ∀ (nd : Bool) (f : FuncId) (as : List AV) (vs : Array Value) (g : G) (N : Env) (w : World) (k : AV → G → Rs α), Grel V N W0 g w → AV.rels V N as vs.toList → (call nd f as g k).All V p →
    ∀ (Z : Ending → World → Prop), (∀ v w' x g' N', Grel V N' W0 g' w' → Ext g N g' N' → x.rel V N' v → (k x g').All V p → Z (.returned v) w') →
    Calls P f vs w Z ∧ (nd = true → ∀ u, CallsD P f vs u w fun e u' w' => u' = u ∧ Z e w')
def ExtOk (P : Program) (V : Va) (W0 : World) (p : α → Prop) (ext : ExtF α) : Prop :=
  ∀ (f : FuncId) (fn : Func) (as : List AV) (vs : Array Value) (g : G) (N : Env) (w : World) (k : AV → G → Rs α), P.funcs[f]? = some fn → fn.body = none → (fn.name == "runtime.NumGoroutine") = false →
    Grel V N W0 g w → AV.rels V N as vs.toList → (ext f as g k).All V p → DoesN P V W0 N g p k w (callFunc f vs)
/-- A function by number. -/
noncomputable def aEnter (P : Program) (call : CallF α) (ext : ExtF α) (f : FuncId) (as : List AV) (g : G) (k : AV → G → Rs α) : Rs α :=
  match P.funcs[f]? with
  | some fn => ife (fn.name == "runtime.NumGoroutine") (.bad 204) (match fn.body with
    | some _ => call false f as g k
    | none => ext f as g k)
  | none => .bad 205
noncomputable def aCall (P : Program) (R : Rg) (call : CallF α) (ext : ExtF α) (nt : Nat) (tm : PT) (c : Call) (g : G) (k : AV → G → Rs α) : Rs α :=
  match c.callee with
  | .builtin b => aBuiltin P R b c.argTypes.toList (aevs nt tm c.args.toList) g k
  | .value x => match aev nt tm x with
    | .func f fi ca => aEnter P call ext f (fi ++ (aevs nt tm c.args.toList ++ ca)) g k
    | _ => .bad 206
  | .invoke _ _ => .bad 207

/-- What an operation's outcome gives: a value, a world. -/
def uponV (P : Program) (K : Value → World → Prop) : Result Next → Prop
  | .ok (.value v) w' => K v w'
  | .ok .skip w' => K undef w'
  | .ok (.enter f args) w' => Calls P f args w' fun e w'' => match e with | .returned v => K v w'' | _ => False
  | _ => False
theorem uponV_mono {K K' : Value → World → Prop} (h : ∀ v w, K v w → K' v w) {r : Result Next} (hr : uponV P K r) : uponV P K' r := by
  cases r with
  | ok n w' =>
    cases n <;> simp only [uponV] at hr ⊢
    · exact h _ _ hr
    · exact h _ _ hr
    · refine hr.mono fun e w'' he => ?_
      cases e with
      | returned v => exact h _ _ he
      | panicked _ => exact he
      | outgrown => exact he
  | halt _ _ => exact hr.elim
theorem uponV_upon {o : Oper} {a : Act} {K : Act → World → Prop} {Q : Exit → Act → World → Prop} {r : Result Next} (hr : uponV P (fun v w' => K (a.put o.dst v) w') r) : o.upon P a K Q r := by
  cases r with
  | ok n w' =>
    cases n <;> simp only [uponV] at hr <;> simp only [Oper.upon]
    · exact hr
    · exact hr
    · refine hr.mono fun e w'' he => ?_
      cases e with
      | returned v => exact he
      | panicked _ => exact he.elim
      | outgrown => exact he.elim
  | halt _ _ => exact hr.elim
/-- The operation o, in act a and world w. -/
def OpOk (P : Program) (V : Va) (W0 : World) (N : Env) (g : G) (p : α → Prop) (k : AV → G → Rs α) (w : World) (a : Act) (o : Oper) : Prop :=
  ∀ (K : Value → World → Prop), (∀ v w' x g' N', Grel V N' W0 g' w' → Ext g N g' N' → x.rel V N' v → (k x g').All V p → K v w') → uponV P K ((execOp a.eval o).run P w)
theorem OpOk.wp {a : Act} {o : Oper} (h : OpOk P V W0 N g p k w a o) (K : Act → World → Prop) (Q : Exit → Act → World → Prop)
    (hk : ∀ v w' x g' N', Grel V N' W0 g' w' → Ext g N g' N' → x.rel V N' v → (k x g').All V p → K (a.put o.dst v) w') : o.wp P a w K Q := uponV_upon (h _ hk)
theorem OpOk.ofN {a : Act} {o : Oper} (h : DoesN P V W0 N g p k w (execOp a.eval o)) : OpOk P V W0 N g p k w a o := by
  intro K hk
  obtain ⟨v, w', x, g', N', h1, h2, h3, h4, h5⟩ := h
  rw [h1]
  exact hk v w' x g' N' h2 h3 h4 h5
theorem OpOk.of {a : Act} {o : Oper} {s : Sem Value} (he : execOp a.eval o = (do pure (.value (← s)))) (h : Does P V W0 N g p k w s) : OpOk P V W0 N g p k w a o :=
  OpOk.ofN (by rw [he]; exact h.next)
theorem OpOk.ofU {a : Act} {o : Oper} {s : Sem Unit} (he : execOp a.eval o = (do s; pure .skip)) (h : DoesU P V W0 N g p (k .top) w s) : OpOk P V W0 N g p k w a o := by
  intro K hk
  obtain ⟨w', g', N', h1, h2, h3, h4⟩ := h
  rw [he]
  simp only [Sem.run_bind, h1, Result.andThen_ok, Sem.run_pure]
  exact hk undef w' .top g' N' h2 h3 (by simp only [AV.rel]) h4
theorem OpOk.know {g' : G} {a : Act} {o : Oper} (hk : Knows V N W0 w g g') (h : OpOk P V W0 N g' p k w a o) : OpOk P V W0 N g p k w a o := by
  intro K hq
  exact h K fun v w' x g'' N' h1 h2 h3 h4 => hq v w' x g'' N' h1 (hk.2.1.trans h2) h3 h4
theorem aEnter_ok {call : CallF α} {ext : ExtF α} (hc : CallOk P V W0 p call) (he : ExtOk P V W0 p ext) (r : Grel V N W0 g w) {f : FuncId} {as : List AV} {vs : Array Value} (hs : AV.rels V N as vs.toList)
    (h : (aEnter P call ext f as g k).All V p) {a : Act} {o : Oper} (ho : (execOp a.eval o).run P w = (callFunc f vs).run P w) : OpOk P V W0 N g p k w a o := by
  unfold aEnter at h
  split at h
  · rename_i fn hf
    cases hn : fn.name == "runtime.NumGoroutine"
    · rw [hn, ife_false] at h
      split at h
      · rename_i c hb
        intro K hk
        have e : (callFunc f vs).run P w = .ok (.enter f vs) w := by
          have hn' : ¬ fn.name = "runtime.NumGoroutine" := fun e => by rw [e] at hn; simp at hn
          simp [callFunc, hf, hn', hb]
        rw [ho, e]
        exact (hc false f as vs g N w k r hs h (fun e w'' => match e with | .returned v => K v w'' | _ => False) hk).1
      · rename_i hb
        obtain ⟨v, w', x, g', N', h1, h2⟩ := he f fn as vs g N w k hf hb hn r hs h
        exact OpOk.ofN ⟨v, w', x, g', N', ho.trans h1, h2⟩
    · rw [hn, ife_true] at h; exact h.elim
  · exact h.elim
theorem aCall_ok {R : Rg} (hR : R.ok V) {call : CallF α} {ext : ExtF α} (hc : CallOk P V W0 p call) (he : ExtOk P V W0 p ext) (r : Grel V N W0 g w) {nt d : Nat} {tm : PT} {a : Act} (ht : Trel V N nt d tm a.tmps) {o : Oper} {c : Call}
    (ho : o.op = .call c) (h : (aCall P R call ext nt tm c g k).All V p) : OpOk P V W0 N g p k w a o := by
  unfold aCall at h
  have hargs : AV.rels V N (aevs nt tm c.args.toList) (c.args.map a.eval).toList := by rw [Array.toList_map]; exact aevs_ok ht _
  split at h
  · rename_i b hb
    refine OpOk.ofN ?_
    have := aBuiltin_ok hR r (tt := o.type) (consts := c.args.map fun | .const _ => true | _ => false) hargs h
    obtain ⟨v, w', x, g', N', h1, h2⟩ := this
    refine ⟨v, w', x, g', N', ?_, h2⟩
    simp only [execOp, ho, resolve, hb, Sem.run_bind, Sem.run_pure, Result.andThen_ok, invoke]
    exact h1
  · rename_i x hb
    split at h
    · rename_i f fi ca hx
      have hv := aev_ok ht x
      rw [hx] at hv
      simp only [AV.rel] at hv
      obtain ⟨y, z, e1, h1, h2⟩ := hv
      refine aEnter_ok hc he r (vs := y ++ c.args.map a.eval ++ z) ?_ h ?_
      · rw [Array.toList_append, Array.toList_append, List.append_assoc]
        exact rels_append h1 (rels_append hargs h2)
      · simp only [execOp, ho, resolve, hb, e1, Deferred.ofValue, Sem.run_bind, Sem.run_pure, Result.andThen_ok, invoke]
    · exact h.elim
  · exact h.elim

/-! ### All operations -/
noncomputable def aparts (nt : Nat) (tm : PT) (l : List (Nat × Operand)) : List (Nat × AV) := List.rec (motive := fun _ => List (Nat × AV)) [] (fun x _ ih => (x.1, aev nt tm x.2) :: ih) l
theorem aparts_eq (nt : Nat) (tm : PT) : ∀ l : List (Nat × Operand), aparts nt tm l = l.map fun x => (x.1, aev nt tm x.2)
  | [] => rfl
  | x :: l => congrArg ((x.1, aev nt tm x.2) :: ·) (aparts_eq nt tm l)
theorem aparts_ok {nt d : Nat} {tm : PT} {a : Act} (h : Trel V N nt d tm a.tmps) (l : Array (Nat × Operand)) :
    (aparts nt tm l.toList).length = (l.map fun (i, x) => (i, a.eval x)).size ∧ ∀ (i : Nat) (x : Nat × AV) (y : Nat × Value), (aparts nt tm l.toList)[i]? = some x → (l.map fun (i, x) => (i, a.eval x)).toList[i]? = some y → x.1 = y.1 ∧ x.2.rel V N y.2 := by
  rw [aparts_eq]
  refine ⟨by simp, fun i x y h1 h2 => ?_⟩
  rw [List.getElem?_map] at h1
  rw [Array.toList_map, List.getElem?_map] at h2
  cases hl : l.toList[i]? with
  | none => rw [hl] at h1; cases h1
  | some q =>
    rw [hl] at h1 h2
    simp only [Option.map_some, Option.some.injEq] at h1 h2
    subst h1 h2
    exact ⟨rfl, aev_ok h _⟩
noncomputable def aNil (x : AV) (g : G) (k : AV → G → Rs α) : Rs α := match x with
  | .ptr id off => k (.ptr id off) g
  | .sptr id off e n st => k (.sptr id off e n st) g
  | .func f fi ca => k (.func f fi ca) g
  | _ => .bad 208
noncomputable def aevO (nt : Nat) (tm : PT) (o : Option Operand) : Option AV := match o with | none => none | some x => some (aev nt tm x)
theorem aevO_ok {nt d : Nat} {tm : PT} {a : Act} (h : Trel V N nt d tm a.tmps) (o : Option Operand) : ORel V N (aevO nt tm o) (o.map a.eval) := by
  cases o with
  | none => trivial
  | some x => exact aev_ok h x
noncomputable def aOp (P : Program) (R : Rg) (call : CallF α) (ext : ExtF α) (nt : Nat) (tm : PT) (o : Op) (g : G) (k : AV → G → Rs α) : Rs α :=
  match o with
  | .move x => k (aev nt tm x) g
  | .assign x => k (aev nt tm x) g
  | .pick c x y => aPick R (aev nt tm c) (aev nt tm x) (aev nt tm y) g k
  | .alloc t => aAlloc P t g k
  | .box t x => aBox t (aev nt tm x) g k
  | .build t ps => aBuild P t (aparts nt tm ps.toList) g k
  | .buildSlice t n ps => aBuildSlice P t n (aparts nt tm ps.toList) g k
  | .load t a => aLoad P t (aev nt tm a) g k
  | .store t a x => aStore P t (aev nt tm a) (aev nt tm x) g (k .top)
  | .nilCheck x => aNil (aev nt tm x) g k
  | .binOp op t x y _ => aBin P R op t (aev nt tm x) (aev nt tm y) g k
  | .unOp op _ x => aUn R op (aev nt tm x) g k
  | .convert s t x => aConv P R s t (aev nt tm x) g k
  | .sliceToArrayPointer t x => aArrAt P t (aev nt tm x) g k
  | .makeFunc (.func f) a b => k (.func f (aevs nt tm a.toList) (aevs nt tm b.toList)) g
  | .makeMap _ none => aMap g k
  | .makeSlice t a b => aMake P t (aev nt tm a) (aev nt tm b) g k
  | .slice t x a b c => aSlice P R t (aev nt tm x) (aevO nt tm a) (aevO nt tm b) (aevO nt tm c) g k
  | .fieldAddr t x i => aFieldAddr P t (aev nt tm x) i g k
  | .field t x i => aField P t (aev nt tm x) i g k
  | .indexAddr t x i => aIndexAddr P R t (aev nt tm x) (aev nt tm i) g k
  | .index t x i => aIndex P R t (aev nt tm x) (aev nt tm i) g k
  | .lookup t x i b => aLookup P t (aev nt tm x) (aev nt tm i) b g k
  | .extract x i => aExtract (aev nt tm x) i g k
  | .call c => aCall P R call ext nt tm c g k
  | _ => .bad 209
abbrev OpF := (α : Type) → Program → Rg → CallF α → ExtF α → Nat → PT → G → (AV → G → Rs α) → Rs α
noncomputable def aMkF (nt : Nat) (tm : PT) (f : Fn) (a b : Array Operand) (g : G) (k : AV → G → Rs α) : Rs α := match f with
  | .func f => k (.func f (aevs nt tm a.toList) (aevs nt tm b.toList)) g
  | _ => .bad 209
noncomputable def aMkM (r : Option Operand) (g : G) (k : AV → G → Rs α) : Rs α := match r with
  | none => aMap g k
  | some _ => .bad 209
/-- The same, told apart by the operation alone: its cases are closed. -/
noncomputable def aOpC (o : Op) : OpF :=
  Op.rec (motive := fun _ => OpF)
    (fun x _ _ _ _ _ nt tm g k => k (aev nt tm x) g)
    (fun x _ _ _ _ _ nt tm g k => k (aev nt tm x) g)
    (fun c x y _ _ R _ _ nt tm g k => aPick R (aev nt tm c) (aev nt tm x) (aev nt tm y) g k)
    (fun t _ P _ _ _ _ _ g k => aAlloc P t g k)
    (fun t x _ _ _ _ _ nt tm g k => aBox t (aev nt tm x) g k)
    (fun t ps _ P _ _ _ nt tm g k => aBuild P t (aparts nt tm ps.toList) g k)
    (fun t n ps _ P _ _ _ nt tm g k => aBuildSlice P t n (aparts nt tm ps.toList) g k)
    (fun _ _ _ _ _ _ _ _ _ _ _ _ _ => .bad 209)
    (fun t a _ P _ _ _ nt tm g k => aLoad P t (aev nt tm a) g k)
    (fun t a x _ P _ _ _ nt tm g k => aStore P t (aev nt tm a) (aev nt tm x) g (k .top))
    (fun _ _ _ _ _ _ _ _ _ _ => .bad 209)
    (fun _ _ _ _ _ _ _ _ _ _ => .bad 209)
    (fun x _ _ _ _ _ nt tm g k => aNil (aev nt tm x) g k)
    (fun op t x y _ _ P R _ _ nt tm g k => aBin P R op t (aev nt tm x) (aev nt tm y) g k)
    (fun op _ x _ _ R _ _ nt tm g k => aUn R op (aev nt tm x) g k)
    (fun s t x _ P R _ _ nt tm g k => aConv P R s t (aev nt tm x) g k)
    (fun t x _ P _ _ _ nt tm g k => aArrAt P t (aev nt tm x) g k)
    (fun _ _ _ _ _ _ _ _ _ _ _ => .bad 209)
    (fun f a b _ _ _ _ _ nt tm g k => aMkF nt tm f a b g k)
    (fun _ r _ _ _ _ _ _ _ g k => aMkM r g k)
    (fun _ _ _ _ _ _ _ _ _ _ _ => .bad 209)
    (fun t a b _ P _ _ _ nt tm g k => aMake P t (aev nt tm a) (aev nt tm b) g k)
    (fun t x a b c _ P R _ _ nt tm g k => aSlice P R t (aev nt tm x) (aevO nt tm a) (aevO nt tm b) (aevO nt tm c) g k)
    (fun t x i _ P _ _ _ nt tm g k => aFieldAddr P t (aev nt tm x) i g k)
    (fun t x i _ P _ _ _ nt tm g k => aField P t (aev nt tm x) i g k)
    (fun t x i _ P R _ _ nt tm g k => aIndexAddr P R t (aev nt tm x) (aev nt tm i) g k)
    (fun t x i _ P R _ _ nt tm g k => aIndex P R t (aev nt tm x) (aev nt tm i) g k)
    (fun t x i b _ P _ _ _ nt tm g k => aLookup P t (aev nt tm x) (aev nt tm i) b g k)
    (fun _ _ _ _ _ _ _ _ _ _ _ _ _ => .bad 209)
    (fun _ _ _ _ _ _ _ _ _ _ _ _ => .bad 209)
    (fun _ _ _ _ _ _ _ _ _ _ _ _ _ => .bad 209)
    (fun _ _ _ _ _ _ _ _ _ _ _ => .bad 209)
    (fun _ _ _ _ _ _ _ _ _ _ _ => .bad 209)
    (fun _ _ _ _ _ _ _ _ _ _ => .bad 209)
    (fun _ _ _ _ _ _ _ _ _ _ _ _ _ => .bad 209)
    (fun x i _ _ _ _ _ nt tm g k => aExtract (aev nt tm x) i g k)
    (fun c _ P R call ext nt tm g k => aCall P R call ext nt tm c g k)
    (fun _ _ _ _ _ _ _ _ _ _ => .bad 209)
    (fun _ _ _ _ _ _ _ _ _ _ => .bad 209)
    (fun _ _ _ _ _ _ _ _ _ _ => .bad 209)
    (fun _ _ _ _ _ _ _ _ _ _ _ => .bad 209)
    (fun _ _ _ _ _ _ _ _ _ _ _ _ => .bad 209)
    (fun _ _ _ _ _ _ _ _ _ _ _ => .bad 209) o
theorem aOpC_eq (P : Program) (R : Rg) (call : CallF α) (ext : ExtF α) (nt : Nat) (tm : PT) (o : Op) (g : G) (k : AV → G → Rs α) : aOpC o α P R call ext nt tm g k = aOp P R call ext nt tm o g k := by
  cases o <;> first | rfl | (rename_i f _ _; cases f <;> rfl) | (rename_i r; cases r <;> rfl)
theorem aOp_ok {R : Rg} (hR : R.ok V) {call : CallF α} {ext : ExtF α} (hc : CallOk P V W0 p call) (he : ExtOk P V W0 p ext) (r : Grel V N W0 g w) {nt d : Nat} {tm : PT} {a : Act} (ht : Trel V N nt d tm a.tmps) {o : Oper}
    (h : (aOp P R call ext nt tm o.op g k).All V p) : OpOk P V W0 N g p k w a o := by
  unfold aOp at h
  split at h <;> rename_i ho
  · exact OpOk.ofN ⟨_, w, _, g, N, by simp [execOp, ho], r, Ext.refl _ _, aev_ok ht _, h⟩
  · exact OpOk.ofN ⟨_, w, _, g, N, by simp [execOp, ho], r, Ext.refl _ _, aev_ok ht _, h⟩
  · rename_i c x y
    refine OpOk.ofN ?_
    obtain ⟨v, w', q, g', N', h1, h2⟩ := aPick_ok (P := P) hR r (aev_ok ht c) (aev_ok ht x) (aev_ok ht y) h
    refine ⟨v, w', q, g', N', ?_, h2⟩
    rw [Sem.run_bind] at h1
    simp only [execOp, ho, Sem.run_bind]
    cases hb : (asBool (a.eval c)).run P w with
    | ok b w1 =>
      rw [hb] at h1
      simp only [Result.andThen_ok, Sem.run_pure, Result.ok.injEq] at h1 ⊢
      exact ⟨by rw [h1.1], h1.2⟩
    | halt b w1 => rw [hb] at h1; cases h1
  · exact OpOk.of (by simp only [execOp, ho]) (aAlloc_ok r h)
  · exact OpOk.of (by simp only [execOp, ho]) (aBox_ok r (aev_ok ht _) h)
  · exact OpOk.of (by simp only [execOp, ho]) (aBuild_ok r (aparts_ok ht _).1 (aparts_ok ht _).2 h)
  · exact OpOk.of (by simp only [execOp, ho]) (aBuildSlice_ok r (aparts_ok ht _).1 (aparts_ok ht _).2 h)
  · exact OpOk.of (by simp only [execOp, ho]) (aLoad_ok r (aev_ok ht _) h)
  · exact OpOk.ofU (by simp only [execOp, ho]) (aStore_ok r (aev_ok ht _) (aev_ok ht _) h)
  · rename_i x
    unfold aNil at h
    have hv := aev_ok ht x
    split at h
    · rename_i id off hx
      rw [hx] at hv
      have hv' := hv
      simp only [AV.rel] at hv
      obtain ⟨b, hb, e⟩ := hv
      exact OpOk.ofN ⟨_, w, _, g, N, by simp [execOp, ho, e], r, Ext.refl _ _, e ▸ hv', h⟩
    · rename_i id off ee n st hx
      rw [hx] at hv
      have hv' := hv
      simp only [AV.rel] at hv
      obtain ⟨b, m, hb, e, _⟩ := hv
      exact OpOk.ofN ⟨_, w, _, g, N, by simp [execOp, ho, e], r, Ext.refl _ _, e ▸ hv', h⟩
    · rename_i f fi ca hx
      rw [hx] at hv
      have hv' := hv
      simp only [AV.rel] at hv
      obtain ⟨y, z, e, _⟩ := hv
      exact OpOk.ofN ⟨_, w, _, g, N, by simp [execOp, ho, e], r, Ext.refl _ _, e ▸ hv', h⟩
    · exact h.elim
  · rename_i op t x y _
    exact OpOk.of (by simp only [execOp, ho]) (aBin_ok (ox := x) (oy := y) hR r (aev_ok ht _) (aev_ok ht _) h)
  · exact OpOk.of (by simp only [execOp, ho]) (aUn_ok hR r (aev_ok ht _) h)
  · exact OpOk.of (by simp only [execOp, ho]) (aConv_ok hR r (aev_ok ht _) h)
  · exact OpOk.of (by simp only [execOp, ho]) (aArrAt_ok r (aev_ok ht _) h)
  · rename_i f x y
    refine OpOk.ofN ⟨_, w, _, g, N, by simp [execOp, ho, Instr.makeFunc]; rfl, r, Ext.refl _ _, ?_, h⟩
    simp only [AV.rel]
    exact ⟨_, _, rfl, by rw [Array.toList_map]; exact aevs_ok ht _, by rw [Array.toList_map]; exact aevs_ok ht _⟩
  · rename_i t
    exact OpOk.of (by simp only [execOp, ho, Option.map_none]) (aMap_ok (t := t) r h)
  · exact OpOk.of (by simp only [execOp, ho]) (aMake_ok r (aev_ok ht _) (aev_ok ht _) h)
  · exact OpOk.of (by simp only [execOp, ho]) (aSlice_ok hR r (aev_ok ht _) (aevO_ok ht _) (aevO_ok ht _) (aevO_ok ht _) h)
  · exact OpOk.of (by simp only [execOp, ho]) (aFieldAddr_ok r (aev_ok ht _) h)
  · exact OpOk.of (by simp only [execOp, ho]) (aField_ok r (aev_ok ht _) h)
  · exact OpOk.of (by simp only [execOp, ho]) (aIndexAddr_ok hR r (aev_ok ht _) (aev_ok ht _) h)
  · exact OpOk.of (by simp only [execOp, ho]) (aIndex_ok hR r (aev_ok ht _) (aev_ok ht _) h)
  · exact OpOk.of (by simp only [execOp, ho]) (aLookup_ok r (aev_ok ht _) (aev_ok ht _) h)
  · exact OpOk.of (by simp only [execOp, ho]) (aExtract_ok r (aev_ok ht _) h)
  · exact aCall_ok hR hc he r ht ho h
  · exact h.elim
end
end Go.RX
