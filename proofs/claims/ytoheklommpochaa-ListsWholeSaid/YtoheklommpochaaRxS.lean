/- RX, part 17: the externs of a lock that nobody else holds. -/
import Derived.Test.YtoheklommpochaaRxZ
import Derived.Laws.LoneSync
namespace Go.RX
open Go.RowKit
inductive Ek where
  | mark0
  | marked
  | cas (k : IntKind)
  | load (k : IntKind)
  | store
  | add (k : IntKind)
/-- What an extern of this kind is. -/
def EkOk (P : Program) (f : FuncId) (e : Ek) : Prop := ∃ fn, P.funcs[f]? = some fn ∧ (fn.name == "runtime.NumGoroutine") = false ∧ fn.body.isNone = true ∧ Extern.findNext fn = none ∧ match e with
  | .mark0 => ∃ m, Extern.find fn = some (fun _ => do mark m; pure Extern.Race.none_)
  | .marked => ∃ m, Extern.find fn = some (Extern.Race.marked m)
  | .cas k => Extern.find fn = some (Extern.Atomic.casT (.int k))
  | .load k => Extern.find fn = some (Extern.Atomic.loadT (.int k))
  | .store => Extern.find fn = some Extern.Atomic.storeT
  | .add k => Extern.find fn = some (Extern.Atomic.update (Op.intArith .add) k true)
noncomputable def ekOf (tab : List (Nat × Ek)) (f : Nat) : Option Ek := List.rec (motive := fun _ => Option Ek) none (fun x _ ih => ife (Nat.beq x.1 f) (some x.2) ih) tab
theorem ekOf_mem {f : Nat} {e : Ek} : ∀ {tab : List (Nat × Ek)}, ekOf tab f = some e → (f, e) ∈ tab
  | [], h => by cases h
  | x :: tab, h => by
    change ife (Nat.beq x.1 f) (some x.2) (ekOf tab f) = some e at h
    cases hb : Nat.beq x.1 f
    · rw [hb] at h; exact List.mem_cons_of_mem _ (ekOf_mem h)
    · rw [hb, ife_true] at h
      have h1 := Nat.eq_of_beq_eq_true hb
      injection h with h; subst h h1
      exact List.mem_cons_self
section
variable {P : Program} {α : Type} {V : Va} {W0 : World} {N : Env} {g : G} {p : α → Prop} {k : AV → G → Rs α} {w : World}
/-- The number in a cell. -/
noncomputable def cellInt (g : G) (id off : Nat) (kd : IntKind) (f : E → Rs α) : Rs α :=
  match hget g.heap id with
  | some (.cells cs _ _ _) => match lnth cs off with
    | some (.int kc e) => ife (Nat.beq (IntKind.no kc) (IntKind.no kd)) (f e) (.bad 260)
    | _ => .bad 261
  | _ => .bad 262
theorem cellInt_ok (r : Grel V N W0 g w) {id off : Nat} {kd : IntKind} {f : E → Rs α} (h : (cellInt g id off kd f).All V p) {b : Nat} (hb : N.b id = some b) :
    ∃ e, w.cell? ⟨b, off, none⟩ = some (.int kd (e.den V)) ∧ (f e).All V p := by
  unfold cellInt at h
  split at h
  · rename_i cs elem opn own hcs
    obtain ⟨b', c, fr, hb', hc, _, hlen, _, _, hrel⟩ := r.cells hcs
    rw [hb] at hb'; injection hb' with hb'; subst hb'
    rw [lnth_eq] at h
    split at h
    · rename_i kc e hx
      obtain ⟨h1, h2⟩ := ife1 h (fun x => x)
      have hk := IntKind.no_inj (Nat.eq_of_beq_eq_true h1); subst hk
      obtain ⟨u, hu, hux⟩ := rels_get off hrel hx
      simp only [AV.rel] at hux
      subst hux
      refine ⟨e, ?_, h2⟩
      rw [cell_at hc]
      have : off < cs.length := by
        rcases Nat.lt_or_ge off cs.length with hh | hh
        · exact hh
        · rw [List.getElem?_eq_none hh] at hx; cases hx
      rw [List.getElem?_take, if_pos this] at hu
      simpa using hu
    · exact h.elim
  · exact h.elim
/-- A number into a cell. -/
theorem putInt_ok (P : Program) (r : Grel V N W0 g w) {id off : Nat} {kd : IntKind} {e : E} {kk : G → Rs α} (h : (aPut id off [.int kd e] g kk).All V p) {b : Nat} (hb : N.b id = some b) {u : Value} (hc : w.cell? ⟨b, off, none⟩ = some u) :
    w.frozen? ⟨b, off, none⟩ = false ∧ ∃ g' N', Grel V N' W0 g' (w.setCell ⟨b, off, none⟩ (.int kd (e.den V))) ∧ Ext g N g' N' ∧ (kk g').All V p := by
  have hfz : w.frozen? ⟨b, off, none⟩ = false := by
    unfold aPut at h
    split at h
    · rename_i cs elem opn hcs
      obtain ⟨b', c, fr, hb', hcc, how, _⟩ := r.cells hcs
      rw [hb] at hb'; injection hb' with hb'; subst hb'
      have := (how rfl).1; subst this
      simp [World.frozen?, hcc]
    · exact h.elim
  obtain ⟨w', g', N', h1, h2, h3, h4⟩ := aPut_ok (P := P) r h hb (vs := [.int kd (e.den V)]) (rels_cons' (by simp only [AV.rel]) (rels_nil.2 rfl))
  have : (storeCells ⟨b, off, none⟩ [.int kd (e.den V)]).run P w = .ok () (w.setCell ⟨b, off, none⟩ (.int kd (e.den V))) := by
    simp [storeCells, Addr.add, run_store_int, stored, hc, hfz]
  rw [this] at h1
  injection h1 with _ h1
  subst h1
  exact ⟨hfz, g', N', h2, h3, h4⟩
noncomputable def aExt (R : Rg) (tab : List (Nat × Ek)) : ExtF α := fun f as g k =>
  match ekOf tab f, as with
  | some .mark0, [] => k (.tup []) g
  | some .marked, [.ptr _ _] => k (.tup []) g
  | some (.load kd), [.ptr id off] => cellInt g id off kd fun e => k (.int kd e) g
  | some (.cas kd), [.ptr id off, .int k1 (.k x), .int k2 y] => ife (and2 (Nat.beq (IntKind.no k1) (IntKind.no kd)) (Nat.beq (IntKind.no k2) (IntKind.no kd)))
      (cellInt g id off kd fun e => e.lit (fun n => ife (eqI n x) (aPut id off [.int kd y] g fun g => k (.bool (.k 1)) g) (.bad 263)) (.bad 264)) (.bad 265)
  | some .store, [.ptr id off, .int kd y] => cellInt g id off kd fun _ => aPut id off [.int kd y] g fun g => k (.tup []) g
  | some (.add kd), [.ptr id off, .int k1 y] => ife (Nat.beq (IntKind.no k1) (IntKind.no kd)) (cellInt g id off kd fun e => aPut id off [.int kd (mkWr R g.fs kd (e.add y))] g fun g' => k (.int kd (mkWr R g.fs kd (e.add y))) g') (.bad 266)
  | _, _ => .bad 267
theorem aExt_ok {R : Rg} (hR : R.ok V) {tab : List (Nat × Ek)} (ht : ∀ x ∈ tab, EkOk P x.1 x.2) : ExtOk P V W0 p (aExt R tab) := by
  intro f fn as vs g N w k hf _ _ r hs h
  unfold aExt at h
  have tabOk : ∀ e, ekOf tab f = some e → ∃ fn', P.funcs[f]? = some fn' ∧ EkOk P f e := fun e he => by
    have := ht _ (ekOf_mem he)
    obtain ⟨fn', h1, h2⟩ := this
    exact ⟨fn', h1, fn', h1, h2⟩
  split at h
  · rename_i he
    obtain ⟨_, _, fn', h1, h2, h3, h4, m, h5⟩ := tabOk _ he
    obtain rfl : vs = #[] := Array.ext' (rels_nil.1 hs)
    exact ⟨_, w, _, g, N, run_call_mark0 h1 h2 h3 h4 m h5 w, r, Ext.refl _ _, undef_rel, h⟩
  · rename_i id off he
    obtain ⟨_, _, fn', h1, h2, h3, h4, m, h5⟩ := tabOk _ he
    obtain ⟨v, e, hv⟩ := rels_one1 hs
    obtain rfl : vs = #[v] := Array.ext' e
    simp only [AV.rel] at hv
    obtain ⟨b, hb, rfl⟩ := hv
    exact ⟨_, w, _, g, N, run_call_marked h1 h2 h3 h4 m h5 _ w, r, Ext.refl _ _, undef_rel, h⟩
  · rename_i kd id off he
    obtain ⟨_, _, fn', h1, h2, h3, h4, h5⟩ := tabOk _ he
    obtain ⟨v, e, hv⟩ := rels_one1 hs
    obtain rfl : vs = #[v] := Array.ext' e
    simp only [AV.rel] at hv
    obtain ⟨b, hb, rfl⟩ := hv
    obtain ⟨e, hc, h'⟩ := cellInt_ok r h hb
    exact ⟨_, w, _, g, N, run_call_load h1 h2 h3 h4 kd h5 hc, r, Ext.refl _ _, by simp only [AV.rel], h'⟩
  · rename_i kd id off k1 x k2 y he
    obtain ⟨_, _, fn', h1, h2, h3, h4, h5⟩ := tabOk _ he
    obtain ⟨hk, h⟩ := ife1 h (fun x => x)
    obtain ⟨hk1, hk2⟩ := and2_ok hk
    have hk1 := IntKind.no_inj (Nat.eq_of_beq_eq_true hk1); subst hk1
    have hk2 := IntKind.no_inj (Nat.eq_of_beq_eq_true hk2); subst hk2
    obtain ⟨v0, l, e0, hv0, hl⟩ := rels_cons.1 hs
    obtain ⟨v1, v2, e1, hv1, hv2⟩ := rels_two hl
    subst e1
    obtain rfl : vs = #[v0, v1, v2] := Array.ext' e0
    simp only [AV.rel] at hv0 hv1 hv2
    obtain ⟨b, hb, rfl⟩ := hv0
    subst hv1 hv2
    obtain ⟨e, hc, h'⟩ := cellInt_ok r h hb
    rcases E.lit_cases e (fun n => ife (eqI n x) (aPut id off [.int k2 y] g fun g => k (.bool (.k 1)) g) (.bad 263)) (.bad 264) with ⟨n, rfl, h6⟩ | h6 <;> rw [h6] at h'
    · obtain ⟨hn, h7⟩ := ife1 h' (fun x => x)
      have hn := eqI_iff.1 hn; subst hn
      obtain ⟨hz, g', N', q1, q2, q3⟩ := putInt_ok P r h7 hb hc
      refine ⟨_, _, _, g', N', run_call_cas_hit h1 h2 h3 h4 k2 h5 (by simpa only [E.den] using hc) hz, q1, q2, ?_, q3⟩
      simp [AV.rel, E.den]
    · exact h'.elim
  · rename_i id off kd y he
    obtain ⟨_, _, fn', h1, h2, h3, h4, h5⟩ := tabOk _ he
    obtain ⟨v, u, e, hv, hu⟩ := rels_two hs
    obtain rfl : vs = #[v, u] := Array.ext' e
    simp only [AV.rel] at hv hu
    obtain ⟨b, hb, rfl⟩ := hv
    subst hu
    obtain ⟨e, hc, h'⟩ := cellInt_ok r h hb
    obtain ⟨hz, g', N', q1, q2, q3⟩ := putInt_ok P r h' hb hc
    exact ⟨_, _, _, g', N', run_call_store h1 h2 h3 h4 h5 hc hz, q1, q2, undef_rel, q3⟩
  · rename_i kd id off k1 y he
    obtain ⟨_, _, fn', h1, h2, h3, h4, h5⟩ := tabOk _ he
    obtain ⟨hk1, h⟩ := ife1 h (fun x => x)
    have hk1 := IntKind.no_inj (Nat.eq_of_beq_eq_true hk1); subst hk1
    obtain ⟨v, u, e, hv, hu⟩ := rels_two hs
    obtain rfl : vs = #[v, u] := Array.ext' e
    simp only [AV.rel] at hv hu
    obtain ⟨b, hb, rfl⟩ := hv
    subst hu
    obtain ⟨e, hc, h'⟩ := cellInt_ok r h hb
    obtain ⟨hz, g', N', q1, q2, q3⟩ := putInt_ok P r h' hb hc
    refine ⟨_, _, _, g', N', run_call_add h1 h2 h3 h4 k1 h5 hc hz (s := (mkWr R g.fs k1 (e.add y)).den V) ?_, q1, q2, by simp only [AV.rel], q3⟩
    rw [den_mkWr hR r.facts, E.den_add]
    simp [Op.intArith]
  · exact h.elim
end
/-- With these externs. -/
noncomputable def cxE (P : Program) (R : Rg) (tab : List (Nat × Ek)) (LF iso jn cs tr : Nat) (eff : Nat := 0) (isoh : Nat := 0) (gen : Nat := 0) (rof : Nat := 0) : Cx := ⟨fun _ => aExt R tab, fun _ call => aDraw eff P R call (fun _ => aExt R tab), LF, iso, jn, cs, tr, isoh, gen, rof⟩
theorem cxE_ok {P : Program} (hm : P.follows .mixedOrders = true) {R : Rg} {V : Va} (hR : R.ok V) {tab : List (Nat × Ek)} (ht : ∀ x ∈ tab, EkOk P x.1 x.2) (LF iso jn cs tr : Nat) (eff : Nat := 0) (isoh : Nat := 0) (gen : Nat := 0) (rof : Nat := 0) (htr : ∀ f, Nat.testBit tr f = true → ∀ w, Calls P f #[] w fun e w' => e = .returned (.bool true) ∧ Garb w w') : (cxE P R tab LF iso jn cs tr eff isoh gen rof).ok P V :=
  ⟨fun _ _ _ => aExt_ok hR ht, htr, fun _ _ _ _ hc => aDraw_ok eff hR hm hc (fun _ _ _ => aExt_ok hR ht)⟩
end Go.RX
