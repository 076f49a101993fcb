/- RX, part 14: from one evaluation to a law. -/
import Derived.Test.YtoheklommpochaaRxZ
import Derived.Below
namespace Go.RX
open Go.RowKit
noncomputable def Rs.good {α : Type} (t : Rs α) : Bool :=
  Rs.rec (motive := fun _ => Bool) (fun _ => false) (fun _ => true) (fun _ _ _ ix iy => ife ix iy false) (fun _ _ ix iy => ife ix iy false) t
theorem Rs.good_ok {α : Type} {V : Va} : ∀ {t : Rs α}, t.good = true → t.All V (fun _ => True)
  | .bad _, h => by cases h
  | .leaf _, _ => trivial
  | .fork c x y, h => by
    change ife x.good y.good false = true at h
    cases hx : x.good
    · rw [hx] at h; cases h
    · rw [hx] at h
      simp only [Rs.All]
      split
      · exact Rs.good_ok h
      · exact Rs.good_ok hx
  | .both x y, h => by
    change ife x.good y.good false = true at h
    cases hx : x.good
    · rw [hx] at h; cases h
    · rw [hx] at h
      exact ⟨Rs.good_ok hx, Rs.good_ok h⟩
/-- All is true at the end. -/
noncomputable def kTrue0 (R : Rg) : AV → G → Rs Unit := fun x g => onBool R x g fun b _ => ife b (.leaf ()) (.bad 300)
noncomputable def kTrue (R : Rg) : AV → G → Rs Unit := fun x g => ife (ife (Nat.beq R.prv 0) true (Nat.ble 1000 R.prv)) (kTrue0 R x g) (match x with
  | .bool e => ife (prove R R.prv false g.fs e) (.leaf ()) (.bad 310)
  | _ => .bad 311)
theorem kTrue_ok {V : Va} {N : Env} {W0 w : World} {g : G} {R : Rg} (hR : R.ok V) (r : Grel V N W0 g w) {x : AV} {v : Value} (hx : x.rel V N v) (h : (kTrue R x g).All V (fun _ => True)) : v = .bool true := by
  unfold kTrue at h
  cases hp : ife (Nat.beq R.prv 0) true (Nat.ble 1000 R.prv)
  · rw [hp, ife_false] at h
    split at h
    · rename_i e
      cases hq : prove R R.prv false g.fs e
      · rw [hq] at h; exact h.elim
      · have := prove_ok hR _ r.facts hq
        simp only [AV.rel] at hx
        rcases hx with hx | hx
        · exact absurd hx.1 this
        · exact hx.2
    · exact h.elim
  · rw [hp, ife_true] at h
    unfold kTrue0 at h
    obtain ⟨b, g'', rfl, k5, k6⟩ := onBool_ok hR r hx h
    cases b
    · exact k6.elim
    · rfl
theorem Grel.below' {V : Va} {N : Env} {W0 w : World} {g : G} (r : Grel V N W0 g w) : Below W0.heap.size W0 w := ⟨r.os.1, r.tape, r.output, r.size, r.below⟩
theorem Grel.grown {V : Va} {N : Env} {W0 w : World} {g : G} (r : Grel V N W0 g w) : Grown W0 w := by
  refine ⟨r.below'.frame _, fun a => ?_, r.size⟩
  rcases Nat.lt_or_ge a.block W0.heap.size with h | h
  · exact r.below'.frozen h
  · have e : W0.frozen? a = false := by unfold World.frozen?; rw [Array.getElem?_eq_none h]
    rw [e]
    unfold World.frozen?
    split
    · rename_i c t lo hi hc
      have := r.soft a.block h c t (lo, hi) hc
      cases this
      simp
    · rfl
noncomputable def gTop (fs : List E) : G := ⟨[], 0, Nat.pow 2 200, fs, [], []⟩
noncomputable def lawRun (P : Program) (R : Rg) (cx : Cx) (n : Nat) (f : FuncId) (as : List AV) (fs : List E) : Rs Unit := callN P R cx n Unit false f as (gTop fs) (kTrue R)
/-- The values of some numbers, tried one by one ahead of all. -/
noncomputable def splitL {α : Type} (R : Rg) (es : List E) (kk : G → Rs α) : G → Rs α :=
  List.rec (motive := fun _ => G → Rs α) kk (fun e _ ih g => concr R e g fun _ g => ih g) es
theorem splitL_ok {α : Type} {V : Va} {N : Env} {W0 w : World} {p : α → Prop} {R : Rg} (hR : R.ok V) {kk : G → Rs α} : ∀ (es : List E) {g : G} (_ : Grel V N W0 g w), (splitL R es kk g).All V p → ∃ g', Knows V N W0 w g g' ∧ (kk g').All V p
  | [], g, r, h => ⟨g, ⟨r, Ext.refl _ _, rfl⟩, h⟩
  | e :: es, g, r, h => by
    change (concr R e g fun _ g => splitL R es kk g).All V p at h
    obtain ⟨n, g1, _, h1, h2⟩ := concr_ok hR r h
    obtain ⟨g2, h3, h4⟩ := splitL_ok hR es h1.1 h2
    exact ⟨g2, h1.trans h3, h4⟩
noncomputable def lawRunF (P : Program) (R : Rg) (cx : Cx) (n : Nat) (f : FuncId) (as : List AV) (fs sp : List E) : Rs Unit := splitL R sp (fun g => callN P R cx n Unit false f as g (kTrue R)) (gTop fs)
noncomputable def lawRunS (P : Program) (R : Rg) (cx : Cx) (n : Nat) (f : FuncId) (as : List AV) (sp : List E) : Rs Unit := lawRunF P R cx n f as [] sp
theorem law_okF {P : Program} {R : Rg} {V : Va} (hR : R.ok V) {cx : Cx} (hx : ∀ V, R.ok V → cx.ok P V) {n : Nat} {f : FuncId} {as : List AV} {vs : Array Value} {fs sp : List E} (hs : ∀ N, AV.rels V N as vs.toList)
    (hf : Fs.ok V fs) (h : (lawRunF P R cx n f as fs sp).good = true) (w : World) (ha : ArgsOk V w) : Calls P f vs w fun e w' => e = .returned (.bool true) ∧ Below w.heap.size w w' ∧ Grown w w' ∧ Garb w w' := by
  have h := Rs.good_ok (V := V) h
  unfold lawRunF at h
  have r0 : Grel V ⟨fun _ => none, fun _ => none⟩ w (gTop fs) w := Grel.start ha (fun _ => ⟨rfl, rfl⟩) rfl hf
  obtain ⟨g0, kn, h⟩ := splitL_ok hR sp r0 h
  refine (callN_ok hR hx n Unit w _ false f as vs g0 _ w (kTrue R) kn.1 (hs _) h _ fun v w' x g' N' k1 _ k3 k4 => ?_).1
  obtain rfl := kTrue_ok hR k1 k3 k4
  exact ⟨rfl, k1.below', k1.grown, k1.toGarb⟩
theorem law_okS {P : Program} {R : Rg} {V : Va} (hR : R.ok V) {cx : Cx} (hx : ∀ V, R.ok V → cx.ok P V) {n : Nat} {f : FuncId} {as : List AV} {vs : Array Value} {sp : List E} (hs : ∀ N, AV.rels V N as vs.toList)
    (h : (lawRunS P R cx n f as sp).good = true) (w : World) (ha : ArgsOk V w) : Calls P f vs w fun e w' => e = .returned (.bool true) ∧ Below w.heap.size w w' ∧ Grown w w' ∧ Garb w w' :=
  law_okF hR hx hs (fun _ h => by cases h) h w ha
/-- e is v. -/
noncomputable def isE (e : E) (v : Int) : List E := [e.sub (.k v), E.sub (.k v) e]
theorem isE_ok {V : Va} {e : E} {v : Int} (h : e.den V = v) : Fs.ok V (isE e v) := by
  intro x hx
  simp only [isE, List.mem_cons, List.not_mem_nil, or_false] at hx
  rcases hx with rfl | rfl <;> (rw [E.den_sub]; simp only [E.den]; omega)
/-- A run for each value of e. -/
theorem law_okP {P : Program} {R : Rg} {V : Va} (hR : R.ok V) {cx : Cx} (hx : ∀ V, R.ok V → cx.ok P V) {n : Nat} {f : FuncId} {as : List AV} {vs : Array Value} {sp : List E} (hs : ∀ N, AV.rels V N as vs.toList)
    {e : E} {lo : Int} {m : Nat} (hlo : lo ≤ (e.rng R).1) (hhi : (e.rng R).2 < lo + m) (h : ∀ i : Nat, i < m → (lawRunF P R cx n f as (isE e (lo + i)) sp).good = true) (w : World) (ha : ArgsOk V w) :
    Calls P f vs w fun e w' => e = .returned (.bool true) ∧ Below w.heap.size w w' ∧ Grown w w' ∧ Garb w w' := by
  have hr := E.rng_ok hR e
  exact law_okF hR hx hs (isE_ok (v := lo + (e.den V - lo).toNat) (by omega)) (h (e.den V - lo).toNat (by omega)) w ha
theorem law_okB {P : Program} {R : Rg} {V : Va} (hR : R.ok V) {cx : Cx} (hx : ∀ V, R.ok V → cx.ok P V) {n : Nat} {f : FuncId} {as : List AV} {vs : Array Value} {fs : List E} (hs : ∀ N, AV.rels V N as vs.toList) (hf : Fs.ok V fs)
    (h : (lawRun P R cx n f as fs).good = true) (w : World) (ha : ArgsOk V w) : Calls P f vs w fun e w' => e = .returned (.bool true) ∧ Below w.heap.size w w' ∧ Grown w w' ∧ Garb w w' := by
  have h := Rs.good_ok (V := V) h
  unfold lawRun at h
  have r0 : Grel V ⟨fun _ => none, fun _ => none⟩ w (gTop fs) w := Grel.start ha (fun _ => ⟨rfl, rfl⟩) rfl hf
  refine (callN_ok hR hx n Unit w _ false f as vs (gTop fs) _ w (kTrue R) r0 (hs _) h _ fun v w' x g' N' k1 _ k3 k4 => ?_).1
  obtain rfl := kTrue_ok hR k1 k3 k4
  exact ⟨rfl, k1.below', k1.grown, k1.toGarb⟩
theorem law_ok {P : Program} {R : Rg} {V : Va} (hR : R.ok V) {cx : Cx} (hx : ∀ V, R.ok V → cx.ok P V) {n : Nat} {f : FuncId} {as : List AV} {vs : Array Value} {fs : List E} (hs : ∀ N, AV.rels V N as vs.toList) (hf : Fs.ok V fs)
    (h : (lawRun P R cx n f as fs).good = true) (w : World) (ha : ArgsOk V w) : Calls P f vs w fun e w' => e = .returned (.bool true) ∧ Grown w w' :=
  (law_okB hR hx hs hf h w ha).mono fun _ _ h => ⟨h.1, h.2.2.1⟩
/-- No externs. -/
noncomputable def ext0 : Exts' := fun _ _ _ _ _ => .bad 301
theorem ext0_ok {P : Program} {V : Va} (β : Type) (W0 : World) (p : β → Prop) : ExtOk P V W0 p (ext0 β) := fun _ _ _ _ _ _ _ _ _ _ _ _ _ h => h.elim
noncomputable def cxQ (P : Program) (R : Rg) (LF iso : Nat) : Cx := ⟨ext0, fun _ call => aDraw 0 P R call ext0, LF, iso, 0, 0, 0, 0, 0, 0⟩
theorem cxQ_ok {P : Program} (hm : P.follows .mixedOrders = true) {R : Rg} {V : Va} (hR : R.ok V) (LF iso : Nat) : (cxQ P R LF iso).ok P V :=
  ⟨fun β W0 p => ext0_ok β W0 p, fun f h => by simp [cxQ] at h, fun _ _ _ _ hc => aDraw_ok 0 hR hm hc ext0_ok⟩
end Go.RX
