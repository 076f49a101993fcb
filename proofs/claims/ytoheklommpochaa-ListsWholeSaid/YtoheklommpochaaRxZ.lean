/- RX, part 16: calls. -/
import Derived.Test.YtoheklommpochaaRxU
namespace Go.RX
section
variable {P : Program} {α : Type} {V : Va} {W0 : World} {N : Env} {g : G} {p : α → Prop} {k : AV → G → Rs α} {w : World}

/-! ### Results -/
noncomputable def aRes (P : Program) (nt : Nat) (tm : PT) (g : G) (rs : List ResultVar) : (List AV → Rs α) → Rs α :=
  List.rec (motive := fun _ => (List AV → Rs α) → Rs α) (fun kk => kk [])
    (fun r _ ih kk => match r with
      | .tmp t => ih fun l => kk (aev nt tm (.tmp t) :: l)
      | .cell a t => aLoad P t (aev nt tm (.tmp a)) g fun x _ => ih fun l => kk (x :: l)) rs
def resV (tmps : Array Value) : ResultVar → Sem Value
  | .tmp t => pure (tmps.getD t undef)
  | .cell a t => do loadVar t (← asAddr (tmps.getD a undef))
theorem aRes_ok (r : Grel V N W0 g w) {nt d : Nat} {tm : PT} {a : Act} (ht : Trel V N nt d tm a.tmps) : ∀ (rs : List ResultVar) {kk : List AV → Rs α}, (aRes P nt tm g rs kk).All V p →
    ∃ vs l, (rs.mapM (resV a.tmps)).run P w = .ok vs w ∧ AV.rels V N l vs ∧ l.length = rs.length ∧ (kk l).All V p
  | [], kk, h => ⟨[], [], by simp, rels_nil.2 rfl, rfl, h⟩
  | q :: rs, kk, h => by
    cases q with
    | tmp t =>
      change (aRes P nt tm g rs fun l => kk (aev nt tm (.tmp t) :: l)).All V p at h
      obtain ⟨vs, l, h1, h2, h3, h4⟩ := aRes_ok r ht rs h
      refine ⟨_ :: vs, _ :: l, ?_, rels_cons' (aev_ok ht (.tmp t)) h2, by simp [h3], h4⟩
      simp only [List.mapM_cons, Sem.run_bind, resV, Sem.run_pure, Result.andThen_ok, h1]
      rfl
    | cell c t =>
      change (aLoad P t (aev nt tm (.tmp c)) g fun x _ => aRes P nt tm g rs fun l => kk (x :: l)).All V p at h
      obtain ⟨b, u, x, e1, e2, e3, e4⟩ := aLoad_at r (aev_ok ht (.tmp c)) h
      obtain ⟨vs, l, h1, h2, h3, h4⟩ := aRes_ok r ht rs e4
      refine ⟨u :: vs, x :: l, ?_, rels_cons' e3 h2, by simp [h3], h4⟩
      have e1' : a.tmps.getD c undef = .pointer (some b) := e1
      simp only [List.mapM_cons, Sem.run_bind, resV, e1', asAddr, Sem.run_pure, Result.andThen_ok, e2, h1]
noncomputable def oneOrTup (l : List AV) : AV := match l with
  | [x] => x
  | l => .tup l
theorem resV_results (fn : Func) (tmps : Array Value) : results fn tmps = (do let vs ← fn.results.mapM (resV tmps); pure (if h : vs.size = 1 then vs[0] else .tuple vs)) := by
  unfold results
  congr 1
theorem aRes_results (r : Grel V N W0 g w) {nt d : Nat} {tm : PT} {a : Act} (ht : Trel V N nt d tm a.tmps) {fn : Func} {kk : AV → Rs α} (h : (aRes P nt tm g fn.results.toList fun l => kk (oneOrTup l)).All V p) :
    ∃ v x, (results fn a.tmps).run P w = .ok v w ∧ x.rel V N v ∧ (kk x).All V p := by
  obtain ⟨vs, l, h1, h2, h3, h4⟩ := aRes_ok r ht _ h
  have h1' := mapM_toList _ _ _ h1
  refine ⟨if h : vs.toArray.size = 1 then vs.toArray[0] else .tuple vs.toArray, _, ?_, ?_, h4⟩
  · rw [resV_results]
    simp only [Sem.run_bind, h1', Result.andThen_ok, Sem.run_pure]
  · unfold oneOrTup
    split
    · rename_i x
      obtain ⟨v, rfl, hv⟩ := rels_one1 h2
      simpa using hv
    · rename_i hne
      have : ¬ vs.toArray.size = 1 := by
        intro e
        have hl : l.length = 1 := by rw [← rels_length h2]; simpa using e
        match l, hl, hne with
        | [x], _, hne => exact hne x rfl
      rw [dif_neg this]
      simp only [AV.rel]
      exact ⟨_, rfl, by simpa using h2⟩

/-! ### Frames -/
noncomputable def aLeave (P : Program) (call : CallF α) (nd : Bool) (fn : Func) (nt : Nat) (tm : PT) (k : AV → G → Rs α) (ds : List Df) : G → Rs α :=
  List.rec (motive := fun _ => G → Rs α) (fun g => aRes P nt tm g fn.results.toList fun l => k (oneOrTup l) g)
    (fun d _ ih g => ife nd (.bad 222) (match P.funcs[d.f]? with
      | some f => ife (f.name == "runtime.NumGoroutine") (.bad 223) (match f.body with
        | some _ => call true d.f d.as g fun _ g => ih g
        | none => .bad 224)
      | none => .bad 225)) ds
noncomputable def aSlots (as : List AV) : Nat → PT → PT :=
  List.rec (motive := fun _ => Nat → PT → PT) (fun _ t => t) (fun x _ ih i t => ih (Nat.succ i) (PT.set x t i)) as
theorem aSlots_ok {nt d : Nat} {a : Array Value} : ∀ (as : List AV) (vs : List Value) (i : Nat) (t : PT), Trel V N nt d t a → AV.rels V N as vs → i + as.length ≤ nt → (∀ j v, vs[j]? = some v → a[i + j]? = some v) → Trel V N nt d (aSlots as i t) a
  | [], _, _, t, h, _, _, _ => h
  | x :: as, vs, i, t, h, hr, hl, hv => by
    obtain ⟨v, vs, rfl, h1, h2⟩ := rels_cons.1 hr
    show Trel V N nt d (aSlots as (Nat.succ i) (PT.set x t i)) a
    simp only [List.length_cons] at hl
    have hi : i < nt := by omega
    have hput := h.put h1 hi
    have ha : a[i]? = some v := hv 0 v rfl
    have e : a.setIfInBounds i v = a := by
      apply Array.ext_getElem?
      intro j
      rw [Array.getElem?_setIfInBounds]
      split
      · rename_i he; subst he
        rw [ha, if_pos (by rw [h.size]; exact hi)]
      · rfl
    rw [e] at hput
    exact aSlots_ok as vs (Nat.succ i) _ hput h2 (by omega) fun j u hu => by rw [show Nat.succ i + j = i + (j + 1) from by omega]; exact hv (j + 1) u (by simpa using hu)
noncomputable def aFun (P : Program) (R : Rg) (call : (β : Type) → CallF β) (ext : (β : Type) → ExtF β) (draw : (β : Type) → DrawF β) (LF : Nat) (jn : Bool) (α : Type) (nd : Bool) (f : FuncId) (as : List AV) (g : G) (k : AV → G → Rs α) : Rs α :=
  match P.funcs[f]? with
  | some fn => match fn.body with
    | some c => ife (Nat.ble (llen as) fn.ntmps) (ife (ife (Nat.ble fn.ntmps (Nat.pow 4 (Nat.succ (Nat.div (Nat.log2 fn.ntmps) 2)))) (Nat.ble (Nat.succ (Nat.div (Nat.log2 fn.ntmps) 2)) 20) false)
        (jAt jn (aCode P R call ext draw LF fn.ntmps jn c) α (fun x => x.sel (fun tm ds g => aLeave P (call α) nd fn fn.ntmps tm k ds g) (fun _ _ _ _ => .bad 226) (fun tm ds g => aLeave P (call α) nd fn fn.ntmps tm k ds g))
          (aSlots as 0 (PT.mk (Nat.succ (Nat.div (Nat.log2 fn.ntmps) 2)))) [] g) (.bad 227)) (.bad 228)
    | none => .bad 229
  | none => .bad 230
/-- The end of a frame. -/
theorem aLeave_ok {call : CallF α} (hc : CallOk P V W0 p call) {fn : Func} {nt d : Nat} {tm : PT} {a : Act} {Z : Ending → World → Prop} :
    ∀ (ds : List Df) (dl : List Deferred) (g : G) (N : Env) (w : World), Grel V N W0 g w → Trel V N nt d tm a.tmps → Drels V N ds dl → (aLeave P call false fn nt tm k ds g).All V p →
      (∀ v w' x g' N', Grel V N' W0 g' w' → Ext g N g' N' → x.rel V N' v → (k x g').All V p → Z (.returned v) w') → Leaves P fn a.tmps Z dl .returning w
  | [], dl, g, N, w, r, ht, hd, h, hZ => by
    cases hd
    obtain ⟨v, x, h1, h2, h3⟩ := aRes_results (kk := fun x => k x g) r ht h
    exact ⟨v, h1, hZ v w x g N r (Ext.refl _ _) h2 h3⟩
  | x :: ds, dl, g, N, w, r, ht, hd, h, hZ => by
    obtain ⟨q, dl, rfl, ⟨ca, h1, h2⟩, h3⟩ := hd
    change (match P.funcs[x.f]? with
      | some f => ife (f.name == "runtime.NumGoroutine") (.bad 223) (match f.body with
        | some _ => call true x.f x.as g fun _ g => aLeave P call false fn nt tm k ds g
        | none => .bad 224)
      | none => .bad 225 : Rs α).All V p at h
    split at h
    · rename_i f hf
      cases hn : f.name == "runtime.NumGoroutine"
      · rw [hn, ife_false] at h
        split at h
        · rename_i c hb
          obtain ⟨t, da⟩ := q
          simp only at h1
          subst h1
          have hn' : ¬ f.name = "runtime.NumGoroutine" := fun e => by rw [e] at hn; simp at hn
          refine leaves_cons (f := x.f) (args := da ++ ca) (by simp) (by simp [invoke, callFunc, hf, hn', hb]) ?_
          have := (hc true x.f x.as (da ++ ca) g N w _ r h2 h (fun e w' => match e with | .returned _ => Leaves P fn a.tmps Z dl .returning w' | _ => False) ?_).2 rfl .returning
          · refine this.mono fun e u' w' he => ?_
            obtain ⟨rfl, he⟩ := he
            cases e with
            | returned v => exact he
            | panicked _ => exact he.elim
            | outgrown => exact he.elim
          · intro v w' y g' N' k1 k2 k3 k4
            exact aLeave_ok hc ds dl g' N' w' k1 (ht.mono k2.le) (Drels.mono k2.le h3) k4 fun v w'' z g'' N'' q1 q2 q3 q4 => hZ v w'' z g'' N'' q1 (k2.trans q2) q3 q4
        · exact h.elim
      · rw [hn, ife_true] at h; exact h.elim
    · exact h.elim
theorem aLeave_nd {call : CallF α} {fn : Func} {nt d : Nat} {tm : PT} {a : Act} {Z : Ending → World → Prop} {ds : List Df} (r : Grel V N W0 g w) (ra : Arel V N nt d tm ds a) (h : (aLeave P call true fn nt tm k ds g).All V p)
    (hZ : ∀ v w' x g' N', Grel V N' W0 g' w' → Ext g N g' N' → x.rel V N' v → (k x g').All V p → Z (.returned v) w') : a.defers = [] ∧ ∃ v, (results fn a.tmps).run P w = .ok v w ∧ Z (.returned v) w := by
  cases ds with
  | nil =>
    obtain ⟨v, x, h1, h2, h3⟩ := aRes_results (kk := fun x => k x g) r ra.t h
    exact ⟨ra.d, v, h1, hZ v w x g N r (Ext.refl _ _) h2 h3⟩
  | cons x ds => exact h.elim
theorem aFun_ok {R : Rg} (hR : R.ok V) {call : (β : Type) → CallF β} {ext : (β : Type) → ExtF β} {draw : (β : Type) → DrawF β} (hc : ∀ (β : Type) (p : β → Prop), CallOk P V W0 p (call β)) (he : ∀ (β : Type) (p : β → Prop), ExtOk P V W0 p (ext β))
    (hd : ∀ (β : Type) (p : β → Prop), DrawOk P V W0 p (draw β)) (LF : Nat) (jn : Bool) (α : Type) (p : α → Prop) : CallOk P V W0 p (aFun P R call ext draw LF jn α) := by
  intro nd f as vs g N w k r hs h Z hZ
  unfold aFun at h
  split at h
  · rename_i fn hf
    split at h
    · rename_i c hb
      obtain ⟨h1, h'⟩ := ife1 h (fun x => x)
      obtain ⟨h2, h3⟩ := ife1 h' (fun x => x)
      clear h h'
      have hle : as.length ≤ fn.ntmps := by rw [← llen_eq]; exact Nat.le_of_ble_eq_true h1
      obtain ⟨hb1, hb2⟩ : Nat.ble fn.ntmps (Nat.pow 4 (Nat.succ (Nat.div (Nat.log2 fn.ntmps) 2))) = true ∧ Nat.ble (Nat.succ (Nat.div (Nat.log2 fn.ntmps) 2)) 20 = true := by
        cases q : Nat.ble fn.ntmps (Nat.pow 4 (Nat.succ (Nat.div (Nat.log2 fn.ntmps) 2)))
        · rw [q] at h2; cases h2
        · rw [q] at h2; exact ⟨rfl, h2⟩
      have hpow : fn.ntmps ≤ 4 ^ (Nat.succ (Nat.div (Nat.log2 fn.ntmps) 2)) ∧ Nat.succ (Nat.div (Nat.log2 fn.ntmps) 2) ≤ 20 := ⟨Nat.le_of_ble_eq_true hb1, Nat.le_of_ble_eq_true hb2⟩
      have hvs : vs.size = as.length := by rw [← Array.length_toList]; exact rels_length hs
      have ht0 : Trel V N fn.ntmps (Nat.succ (Nat.div (Nat.log2 fn.ntmps) 2)) (PT.mk (Nat.succ (Nat.div (Nat.log2 fn.ntmps) 2))) (vs ++ Array.replicate (fn.ntmps - vs.size) undef) :=
        ⟨PT.full_mk _, by simp; omega, hpow, fun i _ => by rw [show (PT.mk (Nat.succ (Nat.div (Nat.log2 fn.ntmps) 2))).get i = .top from PT.get_mk _ _]; simp only [AV.rel]⟩
      have ht := aSlots_ok as vs.toList 0 _ ht0 hs (by omega) fun j v hv => by
        rw [Nat.zero_add, Array.getElem?_append]
        rw [Array.getElem?_toList] at hv
        have : j < vs.size := by
          rcases Nat.lt_or_ge j vs.size with h | h
          · exact h
          · rw [Array.getElem?_eq_none h] at hv; cases hv
        rw [if_pos this]; exact hv
      have ra : Arel V N fn.ntmps (Nat.succ (Nat.div (Nat.log2 fn.ntmps) 2)) (aSlots as 0 (PT.mk (Nat.succ (Nat.div (Nat.log2 fn.ntmps) 2)))) [] { tmps := vs ++ Array.replicate (fn.ntmps - vs.size) undef, defers := [] } := ⟨ht, rfl⟩
      have hcode := jAt_ok (aCode_ok hR hc he hd LF fn.ntmps (Nat.succ (Nat.div (Nat.log2 fn.ntmps) 2)) jn c) jn α p _ _ _ g N _ w r ra h3
      cases nd with
      | false =>
        refine ⟨calls_of_wp_defers hf hb (hcode _ ?_), fun e => by cases e⟩
        intro x tm ds g' N' a' w' k1 k2 k3 k4
        cases x with
        | normal => exact aLeave_ok (hc α p) ds a'.defers g' N' w' k1 k3.t k3.d k4 fun v w'' z g'' N'' q1 q2 q3 q4 => hZ v w'' z g'' N'' q1 (k2.trans q2) q3 q4
        | exit i => exact k4.elim
        | ret => exact aLeave_ok (hc α p) ds a'.defers g' N' w' k1 k3.t k3.d k4 fun v w'' z g'' N'' q1 q2 q3 q4 => hZ v w'' z g'' N'' q1 (k2.trans q2) q3 q4
      | true =>
        have hcode' : c.wp P (bodyPost P fn Z) { tmps := vs ++ Array.replicate (fn.ntmps - vs.size) undef, defers := [] } w := by
          refine hcode _ ?_
          intro x tm ds g' N' a' w' k1 k2 k3 k4
          cases x with
          | normal => exact aLeave_nd k1 k3 k4 fun v w'' z g'' N'' q1 q2 q3 q4 => hZ v w'' z g'' N'' q1 (k2.trans q2) q3 q4
          | exit i => exact k4.elim
          | ret => exact aLeave_nd k1 k3 k4 fun v w'' z g'' N'' q1 q2 q3 q4 => hZ v w'' z g'' N'' q1 (k2.trans q2) q3 q4
        exact ⟨calls_of_wp hf hb hcode', fun _ u => callsD_of_wp hf hb hcode'⟩
    · exact h.elim
  · exact h.elim
end

/-! ### All calls -/
/-- How to run: externs, draws, loops, the functions that run apart. -/
structure Cx where
  ext : (α : Type) → ExtF α
  draw : (α : Type) → ((β : Type) → CallF β) → DrawF α
  LF : Nat
  iso : Nat
  /-- In which functions paths are joined. -/
  jn : Nat := 0
  /-- Before which functions arguments are told apart. -/
  cs : Nat := 0
  /-- Which functions give true and touch nothing. -/
  tr : Nat := 0
  /-- Which functions run apart and may hand out new blocks. -/
  isoh : Nat := 0
  /-- Which functions of one number run apart for any number. -/
  gen : Nat := 0
  /-- Which functions only read: their results alone are joined. -/
  rof : Nat := 0
noncomputable def gIso (as : List AV) (g : G) : G := ⟨[], 0, Nat.pow 2 200, ife (allL (AV.lits 6) as) [] g.fs, [], []⟩
noncomputable def callI1 (P : Program) (R : Rg) (cx : Cx) (call : (α : Type) → CallF α) (α : Type) : CallF α := fun nd f as g k =>
  ife (ife (Nat.testBit cx.iso f) (allL (AV.pure 6) as) false)
    (match (aFun P R call cx.ext (fun β => cx.draw β call) cx.LF (Nat.testBit cx.jn f) AV nd f as (gIso as g) fun x _ => .leaf x).join (AV.pure 6) with
      | some x => k x g
      | none => aFun P R call cx.ext (fun β => cx.draw β call) cx.LF (Nat.testBit cx.jn f) α nd f as g k)
    (aFun P R call cx.ext (fun β => cx.draw β call) cx.LF (Nat.testBit cx.jn f) α nd f as g k)
/-- Numbers enough for a run apart. -/
noncomputable def gIsoH (S : Nat) (as : List AV) (g : G) : G := ⟨[], 0, S, ife (allL (AV.lits 6) as) [] g.fs, [], []⟩
/-- A run apart whose value may hold new blocks: they are taken over with other numbers. -/
noncomputable def takeK {α : Type} (g : G) (S : Nat) (q : AV × G) (h1 : Heap) (k : AV → G → Rs α) (other : Rs α) : Rs α :=
  ife (and2 (allOwn h1) (Nat.ble (Nat.add g.nx S) g.lim)) (k (AV.sh g.nx 6 q.1) (g.take S h1)) other
noncomputable def idsH (h : List (Nat × Ob)) (l : List Nat) : List Nat := List.rec (motive := fun _ => List Nat) l (fun p _ ih => p.1 :: ih) h
theorem idsH_mem {id : Nat} {l : List Nat} : ∀ {h : List (Nat × Ob)}, (id ∈ l ∨ ∃ o, hget h id = some o) → id ∈ idsH h l
  | [], .inl q => q
  | [], .inr ⟨o, q⟩ => by cases q
  | p :: h, q => by
    show id ∈ p.1 :: idsH h l
    rcases q with q | ⟨o, q⟩
    · exact List.mem_cons_of_mem _ (idsH_mem (.inl q))
    · rw [hget_cons] at q
      split at q
      · rename_i e; rw [← e]; exact List.mem_cons_self
      · exact List.mem_cons_of_mem _ (idsH_mem (.inr ⟨o, q⟩))
noncomputable def gRo (g : G) : G := ⟨g.heap, g.nx, g.lim, g.fs, idsH g.heap g.ro, g.wl⟩
noncomputable def mxNx (t : Rs (AV × Nat)) : Nat :=
  Rs.rec (motive := fun _ => Nat) (fun _ => 0) (fun q => q.2) (fun _ _ _ ix iy => ife (Nat.ble ix iy) iy ix) (fun _ _ ix iy => ife (Nat.ble ix iy) iy ix) t
theorem le_mx (a b : Nat) : a ≤ (ife (Nat.ble a b) b a) ∧ b ≤ (ife (Nat.ble a b) b a) := by
  cases h : Nat.ble a b
  · have : ¬ a ≤ b := fun q => by rw [Nat.ble_eq_true_of_le q] at h; cases h
    rw [ife_false]; omega
  · have := Nat.le_of_ble_eq_true h
    rw [ife_true]; omega
theorem mxNx_ok {V : Va} {p : AV × Nat → Prop} : ∀ (t : Rs (AV × Nat)) (M : Nat), mxNx t ≤ M → t.All V p → t.All V (fun q => p q ∧ q.2 ≤ M)
  | .bad _, _, _, h => h
  | .leaf q, M, hm, h => ⟨h, hm⟩
  | .fork c x y, M, hm, h => by
    have hm : ife (Nat.ble (mxNx x) (mxNx y)) (mxNx y) (mxNx x) ≤ M := hm
    have hl := le_mx (mxNx x) (mxNx y)
    simp only [Rs.All] at h ⊢
    split
    · rename_i hc; rw [if_pos hc] at h; exact mxNx_ok y M (by omega) h
    · rename_i hc; rw [if_neg hc] at h; exact mxNx_ok x M (by omega) h
  | .both x y, M, hm, h => by
    have hm : ife (Nat.ble (mxNx x) (mxNx y)) (mxNx y) (mxNx x) ≤ M := hm
    have hl := le_mx (mxNx x) (mxNx y)
    exact ⟨mxNx_ok x M (by omega) h.1, mxNx_ok y M (by omega) h.2⟩
/-- A function that only reads: its results are joined, the blocks are as they were. -/
noncomputable def callR (P : Program) (R : Rg) (cx : Cx) (call : (α : Type) → CallF α) (α : Type) : CallF α := fun nd f as g k =>
  ife (Nat.testBit cx.rof f)
    ((fun t : Rs (AV × Nat) => match (t.bnd fun q => .leaf q.1).join (AV.pure 6) with
      | some x => k x ⟨g.heap, ife (Nat.ble g.nx (mxNx t)) (mxNx t) g.nx, g.lim, g.fs, g.ro, g.wl⟩
      | none => callI1 P R cx call α nd f as g k) (aFun P R call cx.ext (fun β => cx.draw β call) cx.LF (Nat.testBit cx.jn f) (AV × Nat) nd f as (gRo g) fun x g' => .leaf (x, g'.nx)))
    (callI1 P R cx call α nd f as g k)
noncomputable def callI0 (P : Program) (R : Rg) (cx : Cx) (call : (α : Type) → CallF α) (α : Type) : CallF α := fun nd f as g k =>
  ife (ife (Nat.testBit cx.isoh f) (allL (AV.pure 6) as) false)
    (match aFun P R call cx.ext (fun β => cx.draw β call) cx.LF (Nat.testBit cx.jn f) (AV × G) nd f as (gIsoH (sizeS (Nat.sub g.lim g.nx)) as g) fun x g => .leaf (x, g) with
      | .leaf q => takeK g (sizeS (Nat.sub g.lim g.nx)) q (hkeep (reach q.2.heap 3 (AV.ids 6 q.1)) q.2.heap) k (callR P R cx call α nd f as g k)
      | _ => callR P R cx call α nd f as g k)
    (callR P R cx call α nd f as g k)
noncomputable def genS : Nat := 19342813113834066795298816
/-- A function of one number, run apart for any number; what it gives is told for this one. -/
noncomputable def callG (P : Program) (R : Rg) (cx : Cx) (call : (α : Type) → CallF α) (α : Type) : CallF α := fun nd f as g k =>
  ife (Nat.testBit cx.gen f)
    (match as with
      | [.int kd e] => ife (e.within R (R.v 15).1 (R.v 15).2)
          (match aFun P R call cx.ext (fun β => cx.draw β call) cx.LF (Nat.testBit cx.jn f) (AV × G) nd f [.int kd (.atom (.var 15))] ⟨[], 0, genS, [], [], []⟩ fun x g => .leaf (x, g) with
            | .leaf q => (match AV.sbs R e 6 q.1, hsbs R e (hkeep (reach q.2.heap 3 (AV.ids 6 q.1)) q.2.heap) with
              | some x, some h1 => takeK g genS (x, g) h1 k (callI0 P R cx call α nd f as g k)
              | _, _ => callI0 P R cx call α nd f as g k)
            | _ => callI0 P R cx call α nd f as g k) (callI0 P R cx call α nd f as g k)
      | _ => callI0 P R cx call α nd f as g k)
    (callI0 P R cx call α nd f as g k)
noncomputable def conA {α : Type} (R : Rg) (a : AV) (g : G) (k : AV → G → Rs α) : Rs α := match a with
  | .int kd e => e.lit (fun _ => k (.int kd e) g) (match pin R g.fs e with
    | some n => k (.int kd (.k n)) g
    | none => match e.rng R with | (lo, hi) => ife (leI (hi - lo) 300) (frk R e (fun n g => k (.int kd (.k n)) g) g (hi - lo).toNat lo) (k (.int kd e) g))
  | .bool e => e.lit (fun _ => k (.bool e) g) (forkB R e (fun b g => k (.bool (.k (ife b 1 0))) g) g)
  | a => k a g
noncomputable def conL {α : Type} (R : Rg) (as : List AV) : G → (List AV → G → Rs α) → Rs α :=
  List.rec (motive := fun _ => G → (List AV → G → Rs α) → Rs α) (fun g k => k [] g) (fun a _ ih g k => conA R a g fun a g => ih g fun l g => k (a :: l) g) as
noncomputable def callI (P : Program) (R : Rg) (cx : Cx) (call : (α : Type) → CallF α) (α : Type) : CallF α := fun nd f as g k =>
  ife (Nat.testBit cx.tr f) (match as with | [] => ife nd (.bad 233) (k (.bool (.k 1)) g) | _ => .bad 232)
    (ife (Nat.testBit cx.cs f) (conL R as g fun as g => callG P R cx call α nd f as g k) (callG P R cx call α nd f as g k))
noncomputable def callN (P : Program) (R : Rg) (cx : Cx) (n : Nat) : (α : Type) → CallF α :=
  Nat.rec (motive := fun _ => (α : Type) → CallF α) (fun _ _ _ _ _ _ => .bad 231) (fun _ ih => callI P R cx ih) n
structure Cx.ok (P : Program) (V : Va) (cx : Cx) : Prop where
  ext : ∀ (α : Type) (W0 : World) (p : α → Prop), ExtOk P V W0 p (cx.ext α)
  tr : ∀ f, Nat.testBit cx.tr f = true → ∀ w, Calls P f #[] w fun e w' => e = .returned (.bool true) ∧ Garb w w'
  draw : ∀ (α : Type) (W0 : World) (p : α → Prop) (call : (β : Type) → CallF β), (∀ (β : Type) (W0 : World) (p : β → Prop), CallOk P V W0 p (call β)) → DrawOk P V W0 p (cx.draw α call)
section
variable {P : Program} {V : Va}
theorem callI1_ok {R : Rg} (hR : R.ok V) {cx : Cx} (hx : cx.ok P V) {call : (α : Type) → CallF α} (hc : ∀ (α : Type) (W0 : World) (p : α → Prop), CallOk P V W0 p (call α)) (α : Type) (W0 : World) (p : α → Prop) :
    CallOk P V W0 p (callI1 P R cx call α) := by
  have plain := fun f => aFun_ok hR (fun β p => hc β W0 p) (fun β p => hx.ext β W0 p) (fun β p => hx.draw β W0 p _ hc) cx.LF (Nat.testBit cx.jn f) α p
  intro nd f as vs g N w k r hs h Z hZ
  unfold callI1 at h
  cases hi : ife (Nat.testBit cx.iso f) (allL (AV.pure 6) as) false
  · rw [hi, ife_false] at h
    exact plain f nd f as vs g N w k r hs h Z hZ
  · rw [hi, ife_true] at h
    split at h
    · rename_i x hj
      have hp : allL (AV.pure 6) as = true := by
        cases h1 : Nat.testBit cx.iso f
        · rw [h1] at hi; cases hi
        · rw [h1] at hi; exact hi
      have hjoin := Rs.join_ok (V := V) _ hj
      have hfs : Fs.ok V (gIso as g).fs := by
        unfold gIso
        cases allL (AV.lits 6) as
        · exact r.facts
        · exact fun e he => by cases he
      have r0 : Grel V ⟨fun _ => none, fun _ => none⟩ w (gIso as g) w := Grel.start r.args (fun _ => ⟨rfl, rfl⟩) rfl hfs
      have hs0 : AV.rels V ⟨fun _ => none, fun _ => none⟩ as vs.toList := rels_pure (fun a v => AV.rel_pure 6 a v) as _ hp hs
      exact aFun_ok hR (fun β p => hc β w p) (fun β p => hx.ext β w p) (fun β p => hx.draw β w p _ hc) cx.LF (Nat.testBit cx.jn f) AV _ nd f as vs (gIso as g) _ w _ r0 hs0 hjoin.1 Z fun v w' y g' N' k1 _ k3 k4 =>
        hZ v w' x g N (r.apartRun k1) (Ext.refl _ _) (hjoin.2 y k4 N' N v (fun x hx => AV.rel_pure 6 x v hx) k3) h
    · exact plain f nd f as vs g N w k r hs h Z hZ
theorem callR_ok {R : Rg} (hR : R.ok V) {cx : Cx} (hx : cx.ok P V) {call : (α : Type) → CallF α} (hc : ∀ (α : Type) (W0 : World) (p : α → Prop), CallOk P V W0 p (call α)) (α : Type) (W0 : World) (p : α → Prop) :
    CallOk P V W0 p (callR P R cx call α) := by
  have plain := callI1_ok hR hx hc α W0 p
  intro nd f as vs g N w k r hs h Z hZ
  unfold callR at h
  cases hi : Nat.testBit cx.rof f
  · rw [hi, ife_false] at h
    exact plain nd f as vs g N w k r hs h Z hZ
  · rw [hi, ife_true] at h
    simp only at h
    generalize ht : aFun P R call cx.ext (fun β => cx.draw β call) cx.LF (Nat.testBit cx.jn f) (AV × Nat) nd f as (gRo g) (fun x g' => .leaf (x, g'.nx)) = t at h
    split at h
    · rename_i x hj
      have hjoin := Rs.join_ok (V := V) _ hj
      have hall := mxNx_ok (V := V) t (mxNx t) (Nat.le_refl _) (Rs.All_bnd (V := V) t hjoin.1)
      rw [← ht] at hall
      have r0 : Grel V N W0 (gRo g) w := ⟨r.os, r.tape, r.output, r.size, r.below, r.soft, r.ob, r.apart, r.fresh, r.facts⟩
      refine aFun_ok hR (fun β p => hc β W0 p) (fun β p => hx.ext β W0 p) (fun β p => hx.draw β W0 p _ hc) cx.LF (Nat.testBit cx.jn f) (AV × Nat) _ nd f as vs (gRo g) N w _ r0 hs hall Z fun v w' y g' N' k1 k2 k3 k4 => ?_
      obtain ⟨k4, k5⟩ := k4
      have k5 : g'.nx ≤ mxNx t := by rw [← ht]; exact k5
      have hle := le_mx g.nx (mxNx t)
      have keep : ∀ id o, hget g.heap id = some o → hget g'.heap id = some o := fun id o ho => k2.keep id (idsH_mem (.inr ⟨o, ho⟩)) o ho
      have k4' : Rs.at V (t.bnd fun q => Rs.leaf q.1) = some y := by rw [← ht]; exact k4
      have hrel : x.rel V N' v := hjoin.2 y k4' N' N' v (fun x hx => AV.rel_pure 6 x v hx) k3
      have hG : Grel V N' W0 ⟨g.heap, ife (Nat.ble g.nx (mxNx t)) (mxNx t) g.nx, g.lim, g.fs, g.ro, g.wl⟩ w' :=
        ⟨k1.os, k1.tape, k1.output, k1.size, k1.below, k1.soft, fun id o ho => k1.ob id o (keep id o ho), fun id o id' o' h1 h2 => k1.apart id o id' o' (keep id o h1) (keep id' o' h2), fun id h1 h2 => k1.fresh id (by
          have h1 : ife (Nat.ble g.nx (mxNx t)) (mxNx t) g.nx ≤ id := h1
          omega) (by rw [k2.lim]; exact h2), r.facts⟩
      have hE : Ext g N ⟨g.heap, ife (Nat.ble g.nx (mxNx t)) (mxNx t) g.nx, g.lim, g.fs, g.ro, g.wl⟩ N' := ⟨k2.le, k2.out, hle.1, rfl, rfl, fun id _ o ho => ho⟩
      exact hZ v w' x _ N' hG hE hrel h
    · exact plain nd f as vs g N w k r hs h Z hZ
theorem callI0_ok {R : Rg} (hR : R.ok V) {cx : Cx} (hx : cx.ok P V) {call : (α : Type) → CallF α} (hc : ∀ (α : Type) (W0 : World) (p : α → Prop), CallOk P V W0 p (call α)) (α : Type) (W0 : World) (p : α → Prop) :
    CallOk P V W0 p (callI0 P R cx call α) := by
  have plain := callR_ok hR hx hc α W0 p
  intro nd f as vs g N w k r hs h Z hZ
  unfold callI0 at h
  cases hi : ife (Nat.testBit cx.isoh f) (allL (AV.pure 6) as) false
  · rw [hi, ife_false] at h
    exact plain nd f as vs g N w k r hs h Z hZ
  · rw [hi, ife_true] at h
    generalize sizeS (Nat.sub g.lim g.nx) = S at h
    split at h
    · rename_i q hq
      generalize hk1 : hkeep (reach q.2.heap 3 (AV.ids 6 q.1)) q.2.heap = h1 at h
      unfold takeK at h
      cases hb : and2 (allOwn h1) (Nat.ble (Nat.add g.nx S) g.lim)
      · rw [hb, ife_false] at h
        exact plain nd f as vs g N w k r hs h Z hZ
      · rw [hb, ife_true] at h
        obtain ⟨hown, hS⟩ := and2_ok hb
        have hS := Nat.le_of_ble_eq_true hS
        have hp : allL (AV.pure 6) as = true := by
          cases h1 : Nat.testBit cx.isoh f
          · rw [h1] at hi; cases hi
          · rw [h1] at hi; exact hi
        have hfs : Fs.ok V (gIsoH S as g).fs := by
          unfold gIsoH
          cases allL (AV.lits 6) as
          · exact r.facts
          · exact fun e he => by cases he
        have r0 : Grel V ⟨fun _ => none, fun _ => none⟩ w (gIsoH S as g) w := Grel.start r.args (fun _ => ⟨rfl, rfl⟩) rfl hfs
        have hs0 : AV.rels V ⟨fun _ => none, fun _ => none⟩ as vs.toList := rels_pure (fun a v => AV.rel_pure 6 a v) as _ hp hs
        have hall : (aFun P R call cx.ext (fun β => cx.draw β call) cx.LF (Nat.testBit cx.jn f) (AV × G) nd f as (gIsoH S as g) fun x g => .leaf (x, g)).All V (fun z => z = q) := by rw [hq]; rfl
        refine aFun_ok hR (fun β p => hc β w p) (fun β p => hx.ext β w p) (fun β p => hx.draw β w p _ hc) cx.LF (Nat.testBit cx.jn f) (AV × G) _ nd f as vs (gIsoH S as g) _ w _ r0 hs0 hall Z fun v w' y g' N' k1 k2 k3 k4 => ?_
        have k4 : (y, g') = q := k4
        subst k4
        obtain ⟨N2, t1, t2, t3⟩ := Grel.taken (S := S) (h1 := h1) r k1 (fun id hid => k2.out id (fun hh => hid hh.2)) hS (fun id o ho => by subst hk1; exact (hget_hkeep ho).1) hown
        exact hZ v w' _ _ N2 t1 t2 (AV.sh_rel t3 6 y v k3) h
    · exact plain nd f as vs g N w k r hs h Z hZ
theorem callG_ok {R : Rg} (hR : R.ok V) {cx : Cx} (hxA : ∀ V, R.ok V → cx.ok P V) {call : (α : Type) → CallF α} (hcA : ∀ V, R.ok V → ∀ (α : Type) (W0 : World) (p : α → Prop), CallOk P V W0 p (call α)) (α : Type) (W0 : World) (p : α → Prop) :
    CallOk P V W0 p (callG P R cx call α) := by
  have plain := callI0_ok hR (hxA V hR) (hcA V hR) α W0 p
  intro nd f as vs g N w k r hs h Z hZ
  unfold callG at h
  cases hi : Nat.testBit cx.gen f
  · rw [hi, ife_false] at h
    exact plain nd f as vs g N w k r hs h Z hZ
  · rw [hi, ife_true] at h
    split at h
    · rename_i kd e
      cases hw : e.within R (R.v 15).1 (R.v 15).2
      · rw [hw, ife_false] at h
        exact plain nd f _ vs g N w k r hs h Z hZ
      · rw [hw, ife_true] at h
        split at h
        · rename_i q hq
          split at h
          · rename_i x h1 hx hh1
            unfold takeK at h
            cases hb : and2 (allOwn h1) (Nat.ble (Nat.add g.nx genS) g.lim)
            · rw [hb, ife_false] at h
              exact plain nd f _ vs g N w k r hs h Z hZ
            · rw [hb, ife_true] at h
              obtain ⟨hown, hS⟩ := and2_ok hb
              have hS := Nat.le_of_ble_eq_true hS
              have hR' : R.ok (V.wth (e.den V)) := Va.wth_ok hR (E.within_ok hR hw)
              have r0 : Grel (V.wth (e.den V)) ⟨fun _ => none, fun _ => none⟩ w ⟨[], 0, genS, [], [], []⟩ w := Grel.start ⟨hR.2, fun id ad i h => by cases h⟩ (fun _ => ⟨rfl, rfl⟩) rfl (fun _ h => by cases h)
              have hs0 : AV.rels (V.wth (e.den V)) ⟨fun _ => none, fun _ => none⟩ [.int kd (.atom (.var 15))] vs.toList := by
                obtain ⟨v, h1, h2⟩ := rels_one1 hs
                rw [h1]
                refine rels_cons' ?_ (rels_nil.2 rfl)
                simp only [AV.rel] at h2 ⊢
                rw [h2, E.den_atom]
                show Value.int kd (e.den V) = .int kd (if 15 = 15 then e.den V else V.v 15)
                rw [if_pos rfl]
              have hall : (aFun P R call cx.ext (fun β => cx.draw β call) cx.LF (Nat.testBit cx.jn f) (AV × G) nd f [.int kd (.atom (.var 15))] ⟨[], 0, genS, [], [], []⟩ fun x g => .leaf (x, g)).All (V.wth (e.den V)) (fun z => z = q) := by rw [hq]; rfl
              refine aFun_ok hR' (fun β p => hcA _ hR' β w p) (fun β p => (hxA _ hR').ext β w p) (fun β p => (hxA _ hR').draw β w p _ (hcA _ hR')) cx.LF (Nat.testBit cx.jn f) (AV × G) _ nd f _ vs ⟨[], 0, genS, [], [], []⟩ _ w _ r0 hs0 hall Z fun v w' y g' N' k1 k2 k3 k4 => ?_
              have k4 : (y, g') = q := k4
              subst k4
              have k1' : Grel (V.wth (e.den V)) N' w { g' with heap := hkeep (reach g'.heap 3 (AV.ids 6 y)) g'.heap } w' :=
                ⟨k1.os, k1.tape, k1.output, k1.size, k1.below, k1.soft, fun id o ho => k1.ob id o (hget_hkeep ho).1, fun id o id' o' ho ho' => k1.apart id o id' o' (hget_hkeep ho).1 (hget_hkeep ho').1, k1.fresh, k1.facts⟩
              have k5 := Grel.sbs hR k1' r.args hh1
              obtain ⟨N2, t1, t2, t3⟩ := Grel.taken (S := genS) (h1 := h1) r k5 (fun id hid => k2.out id (fun hh => hid hh.2)) hS (fun id o ho => ho) hown
              exact hZ v w' _ _ N2 t1 t2 (AV.sh_rel t3 6 x v (AV.sbs_rel hR e 6 y x v hx k3)) h
          · exact plain nd f _ vs g N w k r hs h Z hZ
        · exact plain nd f _ vs g N w k r hs h Z hZ
    · exact plain nd f _ vs g N w k r hs h Z hZ
theorem conA_ok {α : Type} {R : Rg} (hR : R.ok V) {N : Env} {W0 w : World} {g : G} {p : α → Prop} (r : Grel V N W0 g w) {a : AV} {v : Value} {k : AV → G → Rs α} (ha : a.rel V N v) (h : (conA R a g k).All V p) :
    ∃ a' g', Knows V N W0 w g g' ∧ a'.rel V N v ∧ (k a' g').All V p := by
  have refl : Knows V N W0 w g g := ⟨r, Ext.refl _ _, rfl⟩
  unfold conA at h
  split at h
  · rename_i kd e
    generalize hX : (match pin R g.fs e with
      | some n => k (.int kd (.k n)) g
      | none => match e.rng R with | (lo, hi) => ife (leI (hi - lo) 300) (frk R e (fun n g => k (.int kd (.k n)) g) g (hi - lo).toNat lo) (k (.int kd e) g)) = X at h
    rcases E.lit_cases e (fun _ => k (.int kd e) g) X with ⟨n, _, h'⟩ | h' <;> rw [h'] at h
    · exact ⟨_, g, refl, ha, h⟩
    · rw [← hX] at h
      simp only [AV.rel] at ha
      subst ha
      split at h
      · rename_i n hp
        exact ⟨_, g, refl, by simp only [AV.rel, E.den]; rw [pin_ok hR r.facts hp], h⟩
      · have hr := E.rng_ok hR e
        generalize e.rng R = q at h hr
        obtain ⟨lo, hi⟩ := q
        simp only at h hr
        cases hc : leI (hi - lo) 300
        · rw [hc] at h
          exact ⟨_, g, refl, by simp only [AV.rel], h⟩
        · rw [hc] at h
          obtain ⟨n, g', h1, h2, h3⟩ := frk_ok hR r _ _ hr.1 (by omega) h
          exact ⟨_, g', h2, by simp only [AV.rel, E.den]; rw [h1], h3⟩
  · rename_i e
    generalize hX : forkB R e (fun b g => k (.bool (.k (ife b 1 0))) g) g = X at h
    rcases E.lit_cases e (fun _ => k (.bool e) g) X with ⟨n, _, h'⟩ | h' <;> rw [h'] at h
    · exact ⟨_, g, refl, ha, h⟩
    · rw [← hX] at h
      obtain ⟨g', h1, h2⟩ := forkB_ok hR e r h
      obtain ⟨b, rfl, s⟩ := says_of_rel ha
      unfold Says at s
      rw [s] at h2
      refine ⟨_, g', h1, ?_, h2⟩
      cases b <;> simp [AV.rel, E.den, ife]
  · exact ⟨_, g, refl, ha, h⟩
theorem conL_ok {α : Type} {R : Rg} (hR : R.ok V) {N : Env} {W0 w : World} {p : α → Prop} : ∀ (as : List AV) (vs : List Value) {g : G} {k : List AV → G → Rs α} (_ : Grel V N W0 g w), AV.rels V N as vs → (conL R as g k).All V p →
    ∃ as' g', Knows V N W0 w g g' ∧ AV.rels V N as' vs ∧ (k as' g').All V p
  | [], vs, g, k, r, hs, h => ⟨[], g, ⟨r, Ext.refl _ _, rfl⟩, hs, h⟩
  | a :: as, vs, g, k, r, hs, h => by
    obtain ⟨v, vs, rfl, h1, h2⟩ := rels_cons.1 hs
    change (conA R a g fun a g => conL R as g fun l g => k (a :: l) g).All V p at h
    obtain ⟨a', g1, k1, k2, k3⟩ := conA_ok hR r h1 h
    obtain ⟨as', g2, q1, q2, q3⟩ := conL_ok hR as vs k1.1 h2 k3
    exact ⟨a' :: as', g2, k1.trans q1, rels_cons' k2 q2, q3⟩
theorem callI_ok {R : Rg} (hR : R.ok V) {cx : Cx} (hxA : ∀ V, R.ok V → cx.ok P V) {call : (α : Type) → CallF α} (hcA : ∀ V, R.ok V → ∀ (α : Type) (W0 : World) (p : α → Prop), CallOk P V W0 p (call α)) (α : Type) (W0 : World) (p : α → Prop) :
    CallOk P V W0 p (callI P R cx call α) := by
  have hx := hxA V hR
  have plain := callG_ok hR hxA hcA α W0 p
  intro nd f as vs g N w k r hs h Z hZ
  unfold callI at h
  cases ht : Nat.testBit cx.tr f
  · rw [ht, ife_false] at h
    cases hcs : Nat.testBit cx.cs f
    · rw [hcs, ife_false] at h
      exact plain nd f as vs g N w k r hs h Z hZ
    · rw [hcs, ife_true] at h
      obtain ⟨as', g', k1, k2, k3⟩ := conL_ok hR as vs.toList r hs h
      exact plain nd f as' vs g' N w k k1.1 k2 k3 Z fun v w' x g'' N' q1 q2 q3 q4 => hZ v w' x g'' N' q1 (k1.2.1.trans q2) q3 q4
  · rw [ht, ife_true] at h
    split at h
    · cases nd with
      | true => exact h.elim
      | false =>
        rw [ife_false] at h
        have hv : vs = #[] := Array.ext' (rels_nil.1 hs)
        subst hv
        refine ⟨(hx.tr f ht w).mono fun e w' he => ?_, fun e => by cases e⟩
        obtain ⟨rfl, hg⟩ := he
        exact hZ (.bool true) w' (.bool (.k 1)) g N (r.garb hg) (Ext.refl _ _) (by simp [AV.rel, E.den]) h
    · exact h.elim
theorem callN_okA {R : Rg} {cx : Cx} (hx : ∀ V, R.ok V → cx.ok P V) : ∀ (n : Nat) (V : Va) (_ : R.ok V) (α : Type) (W0 : World) (p : α → Prop), CallOk P V W0 p (callN P R cx n α)
  | 0, _, _, _, _, _ => fun _ _ _ _ _ _ _ _ _ _ h => h.elim
  | n + 1, V, hR, α, W0, p => callI_ok (V := V) hR hx (callN_okA hx n) α W0 p
theorem callN_ok {R : Rg} (hR : R.ok V) {cx : Cx} (hx : ∀ V, R.ok V → cx.ok P V) (n : Nat) (α : Type) (W0 : World) (p : α → Prop) : CallOk P V W0 p (callN P R cx n α) := callN_okA hx n V hR α W0 p
end
end Go.RX
