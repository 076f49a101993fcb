/- RX, part 15: the walk of a region that draws its order and only reads. -/
import Derived.Test.YtoheklommpochaaRxW
namespace Go.RX
open Go.RowKit
section
variable {P : Program} {α : Type} {V : Va} {W0 : World} {N : Env} {g : G} {p : α → Prop} {w : World} {ops : Array Oper}
abbrev Calls' := (β : Type) → CallF β
abbrev Exts' := (β : Type) → ExtF β
noncomputable def aQ1 (P : Program) (R : Rg) (call : Calls') (ext : Exts') (nt : Nat) (rh : List (Nat × Ob)) (o : Oper) (tm : PT) (g : G) (kk : PT → Rs α) : Rs α :=
  match o.op with
  | .move x => kk (aput nt tm o.dst (aev nt tm x))
  | .assign x => kk (aput nt tm o.dst (aev nt tm x))
  | op => match (aOpC op AV P R (call AV) (ext AV) nt tm (g.setH rh) (fun x _ => .leaf x)).join (AV.tight g.nx g.lim 6) with
    | some m => ife (m.tight g.nx g.lim 6) (kk (aput nt tm o.dst m)) (.bad 240)
    | none => .bad 241
noncomputable def aQG (P : Program) (R : Rg) (call : Calls') (ext : Exts') (nt : Nat) (rh : List (Nat × Ob)) (ops : List Oper) (o : Oper) (tm : PT) (g : G) (kk : PT → G → Rs α) : Rs α :=
  match o.guard with
  | none => aQ1 P R call ext nt rh o tm g fun tm => kk tm g
  | some (j, want) => match lnth ops j with
    | some oj => match oj.dst with
      | some t => ife (Nat.ble (Nat.succ t) nt) (match tm.get t with
        | .bool e => forkB R e (fun b g => ife (ife b want (ife want false true)) (aQ1 P R call ext nt rh o (aknow nt tm (.tmp t) b) g fun tm => kk tm g) (kk (aput nt (aknow nt tm (.tmp t) b) o.dst (.tup [])) g)) g
        | .tup [] => kk (aput nt tm o.dst (.tup [])) g
        | _ => .bad 243) (.bad 244)
      | none => .bad 245
    | none => .bad 246
noncomputable def aQOps (P : Program) (R : Rg) (call : Calls') (ext : Exts') (nt : Nat) (rh : List (Nat × Ob)) (ops l : List Oper) (kk : PT → G → Rs α) : PT → G → Rs α :=
  List.rec (motive := fun _ => PT → G → Rs α) kk (fun o _ ih tm g => aQG P R call ext nt rh ops o tm g ih) l
/-- g with more facts. -/
structure Cur (V : Va) (g0 g : G) : Prop where
  heap : g.heap = g0.heap
  nx : g.nx = g0.nx
  lim : g.lim = g0.lim
  ro : g.ro = g0.ro
  facts : Fs.ok V g.fs
theorem Cur.rel {g0 : G} (c : Cur V g0 g) (r : Grel V N W0 g0 w) : Grel V N W0 g w :=
  ⟨r.os, r.tape, r.output, r.size, r.below, r.soft, fun id o h => r.ob id o (c.heap ▸ h), fun id o id' o' h h' => r.apart id o id' o' (c.heap ▸ h) (c.heap ▸ h'), fun id h h' => r.fresh id (c.nx ▸ h) (c.lim ▸ h'), c.facts⟩
theorem Cur.ext {g0 : G} (c : Cur V g0 g) : Ext g0 N g N := ⟨Env.le.refl N, fun _ _ => ⟨rfl, rfl⟩, by rw [c.nx]; exact Nat.le_refl _, c.lim, c.ro, fun _ _ _ h => by rw [c.heap]; exact h⟩
theorem Cur.know {g0 g' : G} (c : Cur V g0 g) (k : Knows V N W0 w g g') (hn : g'.nx = g.nx) : Cur V g0 g' :=
  ⟨k.2.2.trans c.heap, hn.trans c.nx, k.2.1.lim.trans c.lim, k.2.1.ro.trans c.ro, k.1.facts⟩
/-- One operation of a quiet region, in act a, in all worlds of S. -/
def QOk (P : Program) (V : Va) (ops : Array Oper) (S : World → Prop) (N : Env) (nt d : Nat) (ds : List Df) (o : Oper) (a : Act) (tm' : PT) : Prop :=
  ∃ v, QuietIn P ops S o v a ∧ Arel V N nt d tm' ds (a.put o.dst v)
theorem uponV_ex {K : Value → World → Prop} {r : Result Next} (h : uponV P K r) : ∃ v w', K v w' := by
  cases r with
  | ok n w' =>
    cases n <;> simp only [uponV] at h
    case value v => exact ⟨v, w', h⟩
    case skip => exact ⟨undef, w', h⟩
    case enter f args =>
      obtain ⟨e, w'', fr, h1, _⟩ := h []
      cases e with
      | returned v => exact ⟨v, w'', h1⟩
      | panicked _ => exact h1.elim
      | outgrown => exact h1.elim
  | halt _ _ => exact h.elim
theorem aQ1_ok {R : Rg} (hR : R.ok V) {call : Calls'} {ext : Exts'} (hc : ∀ (β : Type) (W0 : World) (p : β → Prop), CallOk P V W0 p (call β)) (he : ∀ (β : Type) (W0 : World) (p : β → Prop), ExtOk P V W0 p (ext β))
    {g0 : G} {S : World → Prop} (hS : S = fun w => Grel V N W0 g0 w) (c : Cur V g0 g) (hw : S w) {nt d : Nat} {tm : PT} {ds : List Df} {a : Act} (ra : Arel V N nt d tm ds a) {o : Oper} {kk : PT → Rs α}
    (h : (aQ1 P R call ext nt (roHeap g0.heap) o tm g kk).All V p) (hwant : Region.wanted o (yielded ops a.tmps) = true) : ∃ tm', QOk P V ops S N nt d ds o a tm' ∧ (kk tm').All V p := by
  unfold aQ1 at h
  split at h
  · rename_i x ho
    exact ⟨_, ⟨a.eval x, .inl ⟨hwant, fun w' _ => by simp only [execOp, ho, Sem.run_pure]; exact ⟨rfl, Garb.refl w'⟩⟩, ra.put (aev_ok ra.t x) o.dst⟩, h⟩
  · rename_i x ho
    exact ⟨_, ⟨a.eval x, .inl ⟨hwant, fun w' _ => by simp only [execOp, ho, Sem.run_pure]; exact ⟨rfl, Garb.refl w'⟩⟩, ra.put (aev_ok ra.t x) o.dst⟩, h⟩
  · split at h
    · rename_i m hj
      obtain ⟨ht, h⟩ := ife1 h (fun x => x)
      rw [aOpC_eq] at hj
      have hjoin := Rs.join_ok (V := V) _ hj
      have key : ∀ w', S w' → uponV P (fun u w'' => m.rel V N u ∧ Garb w' w'') ((execOp a.eval o).run P w') := by
        intro w' hw'
        rw [hS] at hw'
        have r1 : Grel V N w' { g with heap := roHeap g0.heap } w' := by
          have := (c.rel hw').ro
          rw [c.heap] at this; exact this
        refine aOp_ok hR (hc AV w' _) (he AV w' _) r1 ra.t hjoin.1 _ fun v w'' x g' N' k1 k2 k3 k4 => ⟨?_, k1.toGarb⟩
        exact hjoin.2 x k4 N' N v (fun y hy hv => AV.tight_old (fun id hid => k2.out id hid) 6 y v hy hv) k3
      obtain ⟨v, _, hv, _⟩ := uponV_ex (key w hw)
      exact ⟨_, ⟨v, .inl ⟨hwant, fun w' hw' => uponV_mono (fun u w'' hu => ⟨AV.tight_uniq 6 m u v ht hu.1 hv, hu.2⟩) (key w' hw')⟩, ra.put hv o.dst⟩, h⟩
    · exact h.elim
theorem aQG_ok {R : Rg} (hR : R.ok V) {call : Calls'} {ext : Exts'} (hc : ∀ (β : Type) (W0 : World) (p : β → Prop), CallOk P V W0 p (call β)) (he : ∀ (β : Type) (W0 : World) (p : β → Prop), ExtOk P V W0 p (ext β))
    {g0 : G} {S : World → Prop} (hS : S = fun w => Grel V N W0 g0 w) (c : Cur V g0 g) (hw : S w) {nt d : Nat} {tm : PT} {ds : List Df} {a : Act} (ra : Arel V N nt d tm ds a) {o : Oper} {kk : PT → G → Rs α}
    (h : (aQG P R call ext nt (roHeap g0.heap) ops.toList o tm g kk).All V p) : ∃ tm' g', QOk P V ops S N nt d ds o a tm' ∧ Cur V g0 g' ∧ (kk tm' g').All V p := by
  unfold aQG at h
  split at h
  · rename_i hg
    obtain ⟨tm', h1, h2⟩ := aQ1_ok (ops := ops) hR hc he hS c hw ra h (by simp [Region.wanted, hg])
    exact ⟨tm', g, h1, c, h2⟩
  · rename_i j want hg
    rw [lnth_eq] at h
    split at h
    · rename_i oj hj
      split at h
      · rename_i t hd
        obtain ⟨hlt, h'⟩ := ife1 h (fun x => x)
        clear h
        have hlt : t < nt := Nat.le_of_ble_eq_true hlt
        have hlt' : t < a.tmps.size := by rw [ra.t.size]; exact hlt
        have hr := ra.t.rel t hlt
        have hD : a.tmps.getD t undef = a.tmps[t] := by rw [Array.getD_eq_getD_getElem?, Array.getElem?_eq_getElem hlt']; rfl
        have hy : yielded ops a.tmps j = match a.tmps[t] with | .bool b => some b | _ => none := by
          unfold yielded
          rw [Array.getElem?_toList] at hj
          simp only [hj, Option.bind_some, hd, Array.getElem?_eq_getElem hlt']
          cases a.tmps[t] <;> rfl
        rw [hD] at hr
        split at h'
        · rename_i e hx
          rw [hx] at hr
          obtain ⟨b, hv, s⟩ := says_of_rel hr
          obtain ⟨fs, k1, k2⟩ := forkB_fs hR e c.facts h'
          unfold Says at s
          have hb : decide (e.den V ≠ 0) = b := by rw [s]; cases b <;> simp
          rw [hb, ife_eqB] at k2
          have hev : a.eval (.tmp t) = .bool b := by show a.tmps.getD t undef = _; rw [hD, hv]
          have ra' := ra.know hev
          have c' : Cur V g0 { g with fs := fs } := ⟨c.heap, c.nx, c.lim, c.ro, k1⟩
          have hw' : Region.wanted o (yielded ops a.tmps) = (b == want) := by
            simp only [Region.wanted, hg, hy, hv]; cases b <;> cases want <;> rfl
          cases hbw : b == want
          · rw [hbw, ife_false] at k2
            rw [hbw] at hw'
            exact ⟨_, _, ⟨undef, .inr ⟨hw', rfl⟩, ra'.put undef_rel o.dst⟩, c', k2⟩
          · rw [hbw, ife_true] at k2
            rw [hbw] at hw'
            obtain ⟨tm', h1, h2⟩ := aQ1_ok (ops := ops) hR hc he hS c' hw ra' k2 hw'
            exact ⟨tm', _, h1, c', h2⟩
        · rename_i hx
          rw [hx] at hr
          simp only [AV.rel] at hr
          obtain ⟨x, hv, _⟩ := hr
          have hw' : Region.wanted o (yielded ops a.tmps) = false := by simp only [Region.wanted, hg, hy, hv]; cases want <;> rfl
          exact ⟨_, g, ⟨undef, .inr ⟨hw', rfl⟩, ra.put undef_rel o.dst⟩, c, h'⟩
        · exact h'.elim
      · exact h.elim
    · exact h.elim
/-- The first n operations from k on may be taken in their row. -/
def lexPre (md : Region.Mode) (ops : Array Oper) : Nat → Nat → Array Bool → Bool
  | 0, _, _ => true
  | n + 1, k, listed => (Region.ready md ops listed).contains k && Region.free md ops listed k && lexPre md ops n (k + 1) (listed.setIfInBounds k true)
def lset : Nat → Nat → Array Bool → Array Bool
  | 0, _, listed => listed
  | n + 1, k, listed => lset n (k + 1) (listed.setIfInBounds k true)
theorem aQOps_ok {R : Rg} (hR : R.ok V) {call : Calls'} {ext : Exts'} (hc : ∀ (β : Type) (W0 : World) (p : β → Prop), CallOk P V W0 p (call β)) (he : ∀ (β : Type) (W0 : World) (p : β → Prop), ExtOk P V W0 p (ext β))
    {g0 : G} {S : World → Prop} (hS : S = fun w => Grel V N W0 g0 w) (hsel : Region.noSelect ops = true) {Q : Exit → Act → World → Prop} (hQ : ∀ c a w, ¬ Q (.panic c) a w) (hQo : ¬ LetsOut Q) {nt d : Nat} {ds : List Df} {kk : PT → G → Rs α} (m : Nat) :
    ∀ (l : List Oper) (k : Nat) (listed : Array Bool) (tm : PT) (g : G) (a : Act) (w : World), (∀ j o, l[j]? = some o → ops[k + j]? = some o) → lexPre .any ops l.length k listed = true → Closed .any ops listed → Cur V g0 g → S w → Arel V N nt d tm ds a →
      (aQOps P R call ext nt (roHeap g0.heap) ops.toList l kk tm g).All V p →
      (∀ tm g a, Cur V g0 g → Arel V N nt d tm ds a → (kk tm g).All V p → AnyG P .any ops Q (LastS .any ops S) m (lset l.length k listed) a w) → AnyG P .any ops Q (LastS .any ops S) (l.length + m) listed a w
  | [], k, listed, tm, g, a, w, _, _, _, c, hw, ra, h, hk => by
    have := hk tm g a c ra h
    simpa [lset] using this
  | o :: l, k, listed, tm, g, a, w, hl, hB, hcl, c, hw, ra, h, hk => by
    change (aQG P R call ext nt (roHeap g0.heap) ops.toList o tm g (aQOps P R call ext nt (roHeap g0.heap) ops.toList l kk)).All V p at h
    have h0 : ops[k]? = some o := by simpa using hl 0 o rfl
    simp only [List.length_cons, lexPre, Bool.and_eq_true] at hB
    obtain ⟨⟨hr, hf⟩, hB'⟩ := hB
    have hr : k ∈ Region.ready .any ops listed := by simpa using hr
    obtain ⟨tm', g', ⟨v, hy, ra'⟩, c', h'⟩ := aQG_ok hR hc he hS c hw ra h
    rw [show (o :: l).length + m = (l.length + m) + 1 from by simp; omega]
    refine AnyG.firstL h0 hsel hQ hQo (fun w w' h h' => by subst hS; exact Grel.garb h h') (l.length + m) listed a w (Region.free_spec h0 hf) hcl hr hy hw ?_
    exact aQOps_ok hR hc he hS hsel hQ hQo m l (k + 1) _ tm' g' _ w (fun j oj hj => by have := hl (j + 1) oj (by simpa using hj); simpa [Nat.add_assoc, Nat.add_comm 1 j] using this) hB' (hcl.add hr) c' hw ra' h' hk
def onlyNormal (Q : Exit → Act → World → Prop) : Exit → Act → World → Prop
  | .normal, a, w => Q .normal a w
  | _, _, _ => False
/-- All in their row, all quiet. -/
def planQ (ops : List Oper) : Bool := Region.noSelect ⟨ops⟩ && (lexPre .any ⟨ops⟩ ops.length 0 (Array.replicate ops.length false) && (Region.ready .any ⟨ops⟩ (lset ops.length 0 (Array.replicate ops.length false))).isEmpty)
/-- All in their row, all but the last quiet, the last behind all. -/
noncomputable def planL (init : List Oper) (o : Oper) : Bool :=
  Region.noSelect ⟨init ++ [o]⟩ && (lexPre .any ⟨init ++ [o]⟩ init.length 0 (Array.replicate (init ++ [o]).length false) &&
    ((match Region.ready .any ⟨init ++ [o]⟩ (lset init.length 0 (Array.replicate (init ++ [o]).length false)) with | [j] => Nat.beq j init.length | _ => false) && (lastB .any ⟨init ++ [o]⟩ init.length &&
      (Region.ready .any ⟨init ++ [o]⟩ ((lset init.length 0 (Array.replicate (init ++ [o]).length false)).setIfInBounds init.length true)).isEmpty)))
noncomputable def lexPreM (I : List Inf) (n : Nat) : Nat → Nat → Bool :=
  Nat.rec (motive := fun _ => Nat → Nat → Bool) (fun _ _ => true) (fun _ ih k L => and2 (memB k (readyM L I 0)) (and2 (freeM I L k) (ih (Nat.succ k) (Nat.lor L (Nat.pow 2 k))))) n
noncomputable def lsetM (n : Nat) : Nat → Nat → Nat := Nat.rec (motive := fun _ => Nat → Nat → Nat) (fun _ L => L) (fun _ ih k L => ih (Nat.succ k) (Nat.lor L (Nat.pow 2 k))) n
theorem lexPreM_ok {ops : Array Oper} : ∀ (n k L : Nat) (listed : Array Bool), LM listed L ops.size → lexPreM (infs ops ops.toList) n k L = true → lexPre .any ops n k listed = true ∧ LM (lset n k listed) (lsetM n k L) ops.size
  | 0, _, _, _, hL, _ => ⟨rfl, hL⟩
  | n + 1, k, L, listed, hL, h => by
    obtain ⟨h1, h2⟩ := and2_ok (show and2 (memB k (readyM L (infs ops ops.toList) 0)) (and2 (freeM (infs ops ops.toList) L k) (lexPreM (infs ops ops.toList) n (Nat.succ k) (Nat.lor L (Nat.pow 2 k)))) = true from h)
    obtain ⟨h2, h3⟩ := and2_ok h2
    have h1 := memB_ok h1
    rw [← readyM_eq hL] at h1
    have hk : k < ops.size := by
      obtain ⟨_, o, ho, _⟩ := mem_ready.1 h1
      exact (Array.getElem?_eq_some_iff.1 ho).1
    have ih := lexPreM_ok n (k + 1) _ _ (hL.set hk) h3
    refine ⟨?_, ih.2⟩
    simp only [lexPre, Bool.and_eq_true]
    exact ⟨⟨by simpa using h1, freeM_ok hL h2⟩, ih.1⟩
noncomputable def nilN (l : List Nat) : Bool := match l with | [] => true | _ :: _ => false
theorem nilN_ok {l : List Nat} (h : nilN l = true) : l = [] := by
  unfold nilN at h
  split at h
  · rfl
  · cases h
noncomputable def planQM (ops : List Oper) : Bool := and2 (Region.noSelect ⟨ops⟩) (and2 (lexPreM (infs ⟨ops⟩ ops) ops.length 0 0) (nilN (readyM (lsetM ops.length 0 0) (infs ⟨ops⟩ ops) 0)))
theorem planQM_ok {ops : Array Oper} (h : planQM ops.toList = true) : planQ ops.toList = true := by
  obtain ⟨h1, h2⟩ := and2_ok h
  obtain ⟨h2, h3⟩ := and2_ok h2
  have e : (⟨ops.toList⟩ : Array Oper) = ops := rfl
  obtain ⟨q1, q2⟩ := lexPreM_ok (ops := ops) ops.toList.length 0 0 (Array.replicate ops.toList.length false) (by simpa using LM.start ops.size) h2
  simp only [planQ, e, Bool.and_eq_true]
  refine ⟨h1, q1, ?_⟩
  rw [readyM_eq q2, show readyM (lsetM ops.toList.length 0 0) (infs ops ops.toList) 0 = [] from nilN_ok h3]; rfl
noncomputable def planLM (init : List Oper) (o : Oper) : Bool :=
  and2 (Region.noSelect ⟨init ++ [o]⟩) (and2 (lexPreM (infs ⟨init ++ [o]⟩ (init ++ [o])) init.length 0 0) (and2 (isOnly init.length (readyM (lsetM init.length 0 0) (infs ⟨init ++ [o]⟩ (init ++ [o])) 0))
    (and2 (lastB .any ⟨init ++ [o]⟩ init.length) (nilN (readyM (Nat.lor (lsetM init.length 0 0) (Nat.pow 2 init.length)) (infs ⟨init ++ [o]⟩ (init ++ [o])) 0)))))
theorem planLM_ok {init : List Oper} {o : Oper} (h : planLM init o = true) : planL init o = true := by
  obtain ⟨h1, h⟩ := and2_ok h
  obtain ⟨h2, h⟩ := and2_ok h
  obtain ⟨h3, h⟩ := and2_ok h
  obtain ⟨h4, h5⟩ := and2_ok h
  have hs : (⟨init ++ [o]⟩ : Array Oper).size = (init ++ [o]).length := rfl
  obtain ⟨q1, q2⟩ := lexPreM_ok (ops := ⟨init ++ [o]⟩) init.length 0 0 (Array.replicate (init ++ [o]).length false) (by rw [hs]; exact LM.start _) h2
  have e3 := isOnly_ok h3
  have hlt : init.length < (⟨init ++ [o]⟩ : Array Oper).size := by rw [hs]; simp
  simp only [planL, Bool.and_eq_true]
  refine ⟨h1, q1, ?_, h4, ?_⟩
  · rw [readyM_eq q2, e3]; simp
  · rw [readyM_eq (q2.set hlt)]
    have := nilN_ok h5
    rw [show readyM (Nat.lor (lsetM init.length 0 0) (Nat.pow 2 init.length)) (infs ⟨init ++ [o]⟩ (⟨init ++ [o]⟩ : Array Oper).toList) 0 = [] from this]; rfl
theorem walkQ_ok {R : Rg} (hR : R.ok V) (hm : P.follows .mixedOrders = true) {call : Calls'} {ext : Exts'} (hc : ∀ (β : Type) (W0 : World) (p : β → Prop), CallOk P V W0 p (call β)) (he : ∀ (β : Type) (W0 : World) (p : β → Prop), ExtOk P V W0 p (ext β))
    {nt d id : Nat} {tm : PT} {ds : List Df} {a : Act} {kk : PT → G → Rs α} (r : Grel V N W0 g w) (ra : Arel V N nt d tm ds a) (hB : planQ ops.toList = true)
    (h : (aQOps P R call ext nt (roHeap g.heap) ops.toList ops.toList kk tm g).All V p) {Q : Exit → Act → World → Prop}
    (hk : ∀ tm g' a w, Grel V N W0 g' w → Cur V g g' → Arel V N nt d tm ds a → (kk tm g').All V p → Q .normal a w) : (Code.region id ops true).wp P Q a w := by
  have e : (⟨ops.toList⟩ : Array Oper) = ops := rfl
  simp only [planQ, e, Bool.and_eq_true] at hB
  obtain ⟨hsel, hpre, hend⟩ := hB
  refine wp_mono (Q := onlyNormal Q) (wp_region_any hm (AnyG.any _ _ _ _ (SI := LastS .any ops fun w => Grel V N W0 g w) ?_)) fun e a w hq => by cases e <;> first | exact hq | exact hq.elim
  have := aQOps_ok (ops := ops) (Q := onlyNormal Q) hR hc he rfl hsel (fun _ _ _ h => h) (fun ⟨_, _, h⟩ => h) (kk := kk) 0 ops.toList 0 (Array.replicate ops.size false) tm g a { w with drawn := w.drawn + 1 } (by simp) (by simpa using hpre)
    (Closed.none _) ⟨rfl, rfl, rfl, rfl, r.facts⟩ (r.garb (Garb.drew w _)) ra h fun tm' g' a' c' ra' h' w' hw' => ⟨by simpa using hend, hk tm' g' a' w' (c'.rel ((r.garb (Garb.drew w _)).garb hw')) c' ra' h'⟩
  simpa using this
theorem walkL_ok {R : Rg} (hR : R.ok V) (hm : P.follows .mixedOrders = true) {call : Calls'} {ext : Exts'} (hc : ∀ (β : Type) (W0 : World) (p : β → Prop), CallOk P V W0 p (call β)) (he : ∀ (β : Type) (W0 : World) (p : β → Prop), ExtOk P V W0 p (ext β))
    {nt d id : Nat} {tm : PT} {ds : List Df} {a : Act} {init : List Oper} {o : Oper} (ho : ops.toList = init ++ [o]) {kk : PT → G → Rs α} (r : Grel V N W0 g w) (ra : Arel V N nt d tm ds a) (hB : planL init o = true)
    (h : (aQOps P R call ext nt (roHeap g.heap) ops.toList init kk tm g).All V p) {α' : Type} {p' : α' → Prop} {kk' : Nx α'} {Q : Exit → Act → World → Prop}
    (hkk : ∀ tm g', Cur V g g' → (kk tm g').All V p → (aGuard P R (call α') (ext α') nt ops.toList o kk' tm ds g').All V p')
    (hk : NxOk V W0 N g p' nt d kk' (Q .normal)) : (Code.region id ops true).wp P Q a w := by
  have e : (⟨init ++ [o]⟩ : Array Oper) = ops := by rw [← ho]
  have hlen : (init ++ [o]).length = ops.size := by rw [← ho]; simp
  have hsz : ops.size = init.length + 1 := by rw [← hlen]; simp
  simp only [planL, e, hlen, Bool.and_eq_true] at hB
  obtain ⟨hsel, hpre, hone, hlast, hend⟩ := hB
  have hready : Region.ready .any ops (lset init.length 0 (Array.replicate ops.size false)) = [init.length] := by
    split at hone
    · rename_i j hj; rw [hj, Nat.eq_of_beq_eq_true hone]
    · cases hone
  refine wp_mono (Q := onlyNormal Q) (wp_region_any hm (AnyG.any _ _ _ _ (SI := LastS .any ops fun w => Grel V N W0 g w) ?_)) fun e a w hq => by cases e <;> first | exact hq | exact hq.elim
  rw [hsz, show Array.replicate (init.length + 1) false = Array.replicate ops.size false from by rw [hsz]]
  refine aQOps_ok (ops := ops) (Q := onlyNormal Q) hR hc he rfl hsel (fun _ _ _ h => h) (fun ⟨_, _, h⟩ => h) (kk := kk) 1 init 0 (Array.replicate ops.size false) tm g a { w with drawn := w.drawn + 1 } (fun j oj hj => ?_) hpre
    (Closed.none _) ⟨rfl, rfl, rfl, rfl, r.facts⟩ (r.garb (Garb.drew w _)) ra h fun tm' g' a' c' ra' h' w' hw' => ?_
  · rw [← Array.getElem?_toList, ho, Nat.zero_add, List.getElem?_append]
    have : j < init.length := by
      rcases Nat.lt_or_ge j init.length with h | h
      · exact h
      · rw [List.getElem?_eq_none h] at hj; cases hj
    rw [if_pos this]; exact hj
  · refine ⟨fun h0 => (by rw [hready] at h0; cases h0), fun j hj => ?_⟩
    rw [hready] at hj
    obtain rfl : j = init.length := by simpa using hj
    have hoj : ops[init.length]? = some o := by rw [← Array.getElem?_toList, ho]; simp
    have r' := c'.rel ((r.garb (Garb.drew w _)).garb hw')
    have hg := hkk tm' g' c' h'
    have := aGuard_ok (ops := ops) hR (hc α' W0 p') (he α' W0 p') r' ra' hg (K := fun a'' w'' => ∀ w3, Garb w'' w3 → Q .normal a'' w3) (onlyNormal Q) (fun tm2 ds2 g2 N2 a2 w2 k1 k2 k3 k4 w3 hg3 => hk tm2 ds2 g2 N2 a2 w3 (k1.garb hg3) (c'.ext.trans k2) k3 k4)
    have hfin : ∀ a'' w'', (∀ w3, Garb w'' w3 → Q .normal a'' w3) → LastS .any ops (fun w => Grel V N W0 g w) init.length w'' ∧ AnyG P .any ops (onlyNormal Q) (LastS .any ops fun w => Grel V N W0 g w) 0 ((lset init.length 0 (Array.replicate ops.size false)).setIfInBounds init.length true) a'' w'' :=
      fun a'' w'' hh => ⟨fun hl => (by rw [hlast] at hl; cases hl), fun w3 hg3 => ⟨by simpa using hend, hh w3 hg3⟩⟩
    unfold wpOp
    simp only [hoj]
    split
    · rename_i hw2
      rw [if_pos hw2] at this
      exact .inl (Oper.wp_mono hfin this)
    · rename_i hw2
      rw [if_neg hw2] at this
      exact hfin _ _ this
end
end Go.RX
