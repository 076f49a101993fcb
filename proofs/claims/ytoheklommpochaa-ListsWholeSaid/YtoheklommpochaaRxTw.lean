/- RX, part 23: two functions that answer the same: a row of numbers (or none) and a number. -/
import Derived.Test.YtoheklommpochaaRxL
namespace Go.RX
open Go.RowKit
set_option linter.unusedVariables false
section
variable {P : Program} {V : Va} {W0 : World} {N : Env} {g : G} {w : World}
abbrev Lf := List AV × E
noncomputable def rowK (x : AV) (g : G) : Rs Lf := match x with
  | .tup [.nilslice, .int .i64 e] => .leaf ([], e)
  | .tup [.slice id 0 n _, .int .i64 e] => (match hget g.heap id with
    | some (.cells cs _ _ true) => ife (ife (llong cs n) (Nat.ble 1 n) false) (.leaf (ltake cs n, e)) (.bad 901)
    | _ => .bad 902)
  | _ => .bad 903
noncomputable def isI64 (x : AV) : Bool := match x with | .int .i64 _ => true | _ => false
noncomputable def twin (a b : Rs Lf) : Bool := match a, b with
  | .leaf x, .leaf y => and2 (and2 (leqb (AV.eqb 8) x.1 y.1) (eqE x.2 y.2)) (and2 (allL isI64 x.1) (Nat.ble (llen x.1) 1000))
  | _, _ => false
def denI (V : Va) (x : AV) : Int := match x with | .int _ e => e.den V | _ => 0
/-- What a function hands out: nothing, or a row of its own; and a number. -/
def Res (w w' : World) (v : Value) (L : List Int) (code : Int) : Prop :=
  (L = [] ∧ v = .tuple #[.slice none 0 0, .int .i64 code]) ∨
  ∃ b c cur el, v = .tuple #[.slice (some ⟨b, 0, none⟩) L.length c, .int .i64 code] ∧ 0 < L.length ∧ L.length ≤ c ∧ w.heap.size ≤ b ∧ w'.heap[b]? = some (.cells cur el (0, 0)) ∧ ∀ j, j < L.length → cur[j]? = some (.int .i64 (L.getD j 0))
def Answers (P : Program) (f : FuncId) (vs : Array Value) (w : World) (L : List Int) (code : Int) : Prop :=
  Calls P f vs w fun e w' => ∃ v, e = .returned v ∧ Res w w' v L code ∧ Garb w w'
theorem E.den_congr {V V' : Va} (hv : V.v = V'.v) (hf : V.f = V'.f) : ∀ e : E, e.den V = e.den V' := by
  intro e
  induction e <;> simp only [E.den, *]
theorem allI_rel : ∀ (l : List AV) (vs : List Value), allL isI64 l = true → AV.rels V N l vs → vs = l.map fun x => Value.int .i64 (denI V x)
  | [], vs, _, h => by rw [rels_nil.1 h]; rfl
  | x :: l, vs, h, hr => by
    obtain ⟨v, vs, rfl, h1, h2⟩ := rels_cons.1 hr
    change ife (isI64 x) (allL isI64 l) false = true at h
    cases hx : isI64 x
    · rw [hx] at h; cases h
    · rw [hx, ife_true] at h
      rw [allI_rel l vs h h2, List.map_cons]
      congr 1
      unfold isI64 at hx
      split at hx
      · simp only [AV.rel] at h1; rw [h1]; rfl
      · cases hx
theorem leaf_res (r : Grel V N W0 g w) {x : AV} {v : Value} {a : Lf} (hx : x.rel V N v) (h : (rowK x g).All V (fun l => l = a)) (ha : allL isI64 a.1 = true) : Res W0 w v (a.1.map (denI V)) (a.2.den V) := by
  unfold rowK at h
  split at h
  · rename_i e
    have h : (([], e) : Lf) = a := h
    subst h
    simp only [AV.rel] at hx
    obtain ⟨y, rfl, hy⟩ := hx
    obtain ⟨v1, l1, e1, h1, h2⟩ := rels_cons.1 hy
    obtain ⟨v2, l2, rfl, h3, h4⟩ := rels_cons.1 h2
    rw [rels_nil.1 h4] at e1
    simp only [AV.rel] at h1 h3
    subst h1 h3
    exact .inl ⟨rfl, by congr 1; exact Array.ext' e1⟩
  · rename_i id n cap e
    split at h
    · rename_i cs el opn ho
      obtain ⟨k1, k2, h⟩ := ife2 h (fun x => x)
      have h : ((ltake cs n, e) : Lf) = a := h
      subst h
      have k1 := llong_iff.1 k1
      have k2 := Nat.le_of_ble_eq_true k2
      rw [ltake_eq] at ha ⊢
      simp only [AV.rel] at hx
      obtain ⟨y, rfl, hy⟩ := hx
      obtain ⟨v1, l1, e1, h1, h2⟩ := rels_cons.1 hy
      obtain ⟨v2, l2, rfl, h3, h4⟩ := rels_cons.1 h2
      rw [rels_nil.1 h4] at e1
      simp only [AV.rel] at h1 h3
      obtain ⟨b, c, hb, rfl, hc⟩ := h1
      subst h3
      obtain ⟨b', cc, fr, hb', hcc, how, hlen, _, _, hrel⟩ := r.cells ho
      rw [hb] at hb'; injection hb' with hb'; subst hb'
      have hfr := how rfl
      have hlen' : ((cs.take n).map (denI V)).length = n := by simp; omega
      refine .inr ⟨b, c, cc, el, by rw [hlen']; congr 1; exact Array.ext' e1, by rw [hlen']; exact k2, by rw [hlen']; exact hc.le, hfr.2, by rw [hcc, hfr.1], fun j hj => ?_⟩
      rw [hlen'] at hj
      have hrt := rels_take n hrel
      rw [List.take_take, Nat.min_eq_left k1] at hrt
      have heq := allI_rel (V := V) (N := N) _ _ ha hrt
      have : (cc.toList.take n)[j]? = some (.int .i64 (((cs.take n).map (denI V)).getD j 0)) := by
        rw [heq, List.getElem?_map, List.getD_eq_getElem?_getD, List.getElem?_map]
        have : (cs.take n)[j]? = some ((cs.take n)[j]'(by simp; omega)) := List.getElem?_eq_getElem _
        rw [this]; rfl
      rw [List.getElem?_take, if_pos hj, Array.getElem?_toList] at this
      exact this
    · exact h.elim
  · exact h.elim
theorem leaf_ans {R : Rg} (hR : R.ok V) {cx : Cx} (hx : ∀ V, R.ok V → cx.ok P V) {n : Nat} {f : FuncId} {as : List AV} {vs : Array Value} {fs : List E} {a : Lf} (h : callN P R cx n Lf false f as (gTop fs) rowK = .leaf a) (ha : allL isI64 a.1 = true)
    (hs : ∀ N, AV.rels V N as vs.toList) (hf : Fs.ok V fs) (hw : ArgsOk V w) : Answers P f vs w (a.1.map (denI V)) (a.2.den V) := by
  have r0 : Grel V ⟨fun _ => none, fun _ => none⟩ w (gTop fs) w := Grel.start hw (fun _ => ⟨rfl, rfl⟩) rfl hf
  refine (callN_ok hR hx n Lf w (fun l => l = a) false f as vs (gTop fs) _ w rowK r0 (hs _) (by rw [h]; rfl) _ fun v w' x g' N' k1 _ k3 k4 => ?_).1
  exact ⟨v, rfl, leaf_res k1 k3 k4 ha, k1.toGarb⟩
theorem twin_ok {R : Rg} {cx : Cx} (hx : ∀ V, R.ok V → cx.ok P V) {n : Nat} {f1 f2 : FuncId} {as : List AV} {fs : List E} (h : twin (callN P R cx n Lf false f1 as (gTop fs) rowK) (callN P R cx n Lf false f2 as (gTop fs) rowK) = true) (V0 : Va) :
    ∃ L code, L.length ≤ 1000 ∧ ∀ (V : Va), V.v = V0.v → V.f = V0.f → R.ok V → Fs.ok V fs → ∀ (vs : Array Value) (w : World), (∀ N, AV.rels V N as vs.toList) → ArgsOk V w → Answers P f1 vs w L code ∧ Answers P f2 vs w L code := by
  unfold twin at h
  split at h
  · rename_i x y e1 e2
    obtain ⟨h1, h20⟩ := and2_ok h
    obtain ⟨h2, h21⟩ := and2_ok h20
    have h21 := Nat.le_of_ble_eq_true h21
    rw [llen_eq] at h21
    obtain ⟨h3, h4⟩ := and2_ok h1
    have h3 := leqb_ok (AV.eqb_ok 8) _ _ h3
    have h4 := eqE_ok h4
    refine ⟨x.1.map (denI V0), x.2.den V0, by simpa using h21, fun V hv hf hR hF vs w hs hw => ?_⟩
    have hden : denI V = denI V0 := by
      funext q
      unfold denI
      split
      · exact E.den_congr hv hf _
      · rfl
    have a1 := leaf_ans hR hx e1 h2 hs hF hw
    have a2 := leaf_ans hR hx e2 (by rw [← h3]; exact h2) hs hF hw
    rw [← h3, ← h4] at a2
    rw [hden, E.den_congr hv hf] at a1 a2
    exact ⟨a1, a2⟩
  · cases h
/-! ### One function behind another: the same numbers -/
noncomputable def eqU (R : Rg) (fs : List E) (a b : E) : Bool := ife (eqE a b) true (ife ((a.sub b).geq0 R fs) ((b.sub a).geq0 R fs) false)
theorem eqU_ok {R : Rg} (hR : R.ok V) {fs : List E} (hF : Fs.ok V fs) {a b : E} (h : eqU R fs a b = true) : a.den V = b.den V := by
  unfold eqU at h
  cases h1 : eqE a b
  · rw [h1, ife_false] at h
    cases h2 : (a.sub b).geq0 R fs
    · rw [h2] at h; cases h
    · rw [h2, ife_true] at h
      have k1 := E.geq0_ok hR hF h2; have k2 := E.geq0_ok hR hF h
      rw [E.den_sub] at k1 k2; omega
  · rw [eqE_ok h1]
noncomputable def eqI1 (R : Rg) (fs : List E) (x y : AV) : Bool := match x, y with | .int .i64 a, .int .i64 b => eqU R fs a b | _, _ => false
noncomputable def eqIs (R : Rg) (fs : List E) : List AV → List AV → Bool
  | [], [] => true
  | x :: l, y :: m => and2 (eqI1 R fs x y) (eqIs R fs l m)
  | _, _ => false
noncomputable def eqV (R : Rg) (fs : List E) (x y : AV) : Bool := match x, y with
  | .int .i64 a, .int .i64 b => eqU R fs a b
  | .tup l, .tup m => eqIs R fs l m
  | _, _ => false
/-- A number, or some numbers. -/
def IntsV (v : Value) : Prop := (∃ a : Int, v = .int .i64 a) ∨ ∃ l : List Int, v = .tuple (l.map (Value.int .i64)).toArray
theorem eqIs_ok {R : Rg} (hR : R.ok V) {V2 : Va} (hv : V2.v = V.v) (hf : V2.f = V.f) {N2 : Env} {fs : List E} (hF : Fs.ok V fs) : ∀ {l m : List AV} {vs us : List Value}, eqIs R fs l m = true → AV.rels V N l vs → AV.rels V2 N2 m us → us = vs ∧ ∃ z : List Int, vs = z.map (Value.int .i64)
  | [], [], vs, us, _, h1, h2 => by rw [rels_nil.1 h1, rels_nil.1 h2]; exact ⟨rfl, [], rfl⟩
  | x :: l, y :: m, vs, us, h, h1, h2 => by
    obtain ⟨v, vs, rfl, a1, a2⟩ := rels_cons.1 h1
    obtain ⟨u, us, rfl, b1, b2⟩ := rels_cons.1 h2
    obtain ⟨k1, k2⟩ := and2_ok (show and2 (eqI1 R fs x y) (eqIs R fs l m) = true from h)
    obtain ⟨e, z, hz⟩ := eqIs_ok hR hv hf hF k2 a2 b2
    unfold eqI1 at k1
    split at k1
    · rename_i a b
      simp only [AV.rel] at a1 b1
      have := eqU_ok hR hF k1
      rw [E.den_congr hv hf b, ← this] at b1
      subst a1 b1
      exact ⟨by rw [e], a.den V :: z, by rw [hz]; rfl⟩
    · cases k1
  | [], _ :: _, _, _, h, _, _ => by cases h
  | _ :: _, [], _, _, h, _, _ => by cases h
theorem eqV_ok {R : Rg} (hR : R.ok V) {V2 : Va} (hv : V2.v = V.v) (hf : V2.f = V.f) {N2 : Env} {fs : List E} (hF : Fs.ok V fs) {x y : AV} {v u : Value} (h : eqV R fs x y = true) (hx : x.rel V N v) (hy : y.rel V2 N2 u) : u = v ∧ IntsV v := by
  unfold eqV at h
  split at h
  · rename_i a b
    simp only [AV.rel] at hx hy
    have := eqU_ok hR hF h
    rw [E.den_congr hv hf b, ← this] at hy
    subst hx hy
    exact ⟨rfl, .inl ⟨_, rfl⟩⟩
  · rename_i l m
    simp only [AV.rel] at hx hy
    obtain ⟨a, rfl, h1⟩ := hx
    obtain ⟨b, rfl, h2⟩ := hy
    obtain ⟨e, z, hz⟩ := eqIs_ok hR hv hf hF h h1 h2
    exact ⟨by rw [Array.ext' e], .inr ⟨z, by rw [← hz]⟩⟩
  · cases h
theorem Rs.All_congr {α : Type} {V V2 : Va} (hv : V2.v = V.v) (hf : V2.f = V.f) {p : α → Prop} : ∀ {t : Rs α}, t.All V p → t.All V2 p
  | .bad _, h => h
  | .leaf _, h => h
  | .fork c x y, h => by
    simp only [Rs.All] at h ⊢
    rw [E.den_congr hv hf c]
    split
    · rename_i hc; rw [if_pos hc] at h; exact Rs.All_congr hv hf h
    · rename_i hc; rw [if_neg hc] at h; exact Rs.All_congr hv hf h
  | .both x y, h => ⟨Rs.All_congr hv hf h.1, Rs.All_congr hv hf h.2⟩
theorem Rg.ok_congr {R : Rg} {V V2 : Va} (hv : V2.v = V.v) (hf : V2.f = V.f) (h : R.ok V) : R.ok V2 := ⟨fun i => by rw [hv]; exact h.1 i, by rw [hf]; exact h.2⟩
/-- One number (k = 0), or k of them. -/
noncomputable def intsA (k : Nat) (x : AV) : Bool := match x with
  | .int .i64 _ => Nat.beq k 0
  | .tup l => and2 (and2 (Nat.ble 1 k) (Nat.beq k (llen l))) (allL isI64 l)
  | _ => false
def IntsK (k : Nat) (v : Value) : Prop := (k = 0 ∧ ∃ a : Int, v = .int .i64 a) ∨ (0 < k ∧ ∃ l : List Int, l.length = k ∧ v = .tuple (l.map (Value.int .i64)).toArray)
theorem intsA_ok {k : Nat} {x : AV} {v : Value} (h : intsA k x = true) (hx : x.rel V N v) : IntsK k v := by
  unfold intsA at h
  split at h
  · simp only [AV.rel] at hx
    exact .inl ⟨Nat.eq_of_beq_eq_true h, _, hx⟩
  · rename_i l
    obtain ⟨h10, h2⟩ := and2_ok h
    obtain ⟨h11, h1⟩ := and2_ok h10
    have h11 := Nat.le_of_ble_eq_true h11
    have h1 := Nat.eq_of_beq_eq_true h1
    rw [llen_eq] at h1
    simp only [AV.rel] at hx
    obtain ⟨a, rfl, hr⟩ := hx
    have := allI_rel l _ h2 hr
    refine .inr ⟨h11, l.map (denI V), by simp [h1], ?_⟩
    congr 1
    apply Array.ext'
    rw [this, List.map_map]; rfl
  · cases h
noncomputable def thenRun (k : Nat) (P : Program) (R : Rg) (cx : Cx) (n : Nat) (f1 : FuncId) (as1 : List AV) (f2 : FuncId) (as2 : List AV) (fs : List E) : Rs Unit :=
  callN P R cx n Unit false f1 as1 (gTop fs) fun x g => ife (intsA k x) (callN P R cx n Unit false f2 as2 (gTop g.fs) fun y g' => ife (eqV R g'.fs x y) (.leaf ()) (.bad 910)) (.bad 912)
theorem then_ok {k : Nat} {R : Rg} (hR : R.ok V) {cx : Cx} (hx : ∀ V, R.ok V → cx.ok P V) {n : Nat} {f1 f2 : FuncId} {as1 as2 : List AV} {vs1 : Array Value} {fs : List E} (h : (thenRun k P R cx n f1 as1 f2 as2 fs).good = true)
    (hs : ∀ N, AV.rels V N as1 vs1.toList) (hf : Fs.ok V fs) (hw : ArgsOk V w) :
    Calls P f1 vs1 w fun e w' => ∃ v, e = .returned v ∧ IntsK k v ∧ Garb w w' ∧ ∀ V2 : Va, V2.v = V.v → V2.f = V.f → ∀ (w2 : World) (vs2 : Array Value), ArgsOk V2 w2 → (∀ N, AV.rels V2 N as2 vs2.toList) → Calls P f2 vs2 w2 fun e w3 => e = .returned v ∧ Garb w2 w3 := by
  have h := Rs.good_ok (V := V) h
  unfold thenRun at h
  have r0 : Grel V ⟨fun _ => none, fun _ => none⟩ w (gTop fs) w := Grel.start hw (fun _ => ⟨rfl, rfl⟩) rfl hf
  refine (callN_ok hR hx n Unit w (fun _ => True) false f1 as1 vs1 (gTop fs) _ w _ r0 (hs _) h _ fun v w' x g' N' k1 _ k3 k4 => ?_).1
  obtain ⟨k4, k5⟩ : intsA k x = true ∧ (callN P R cx n Unit false f2 as2 (gTop g'.fs) fun y g' => ife (eqV R g'.fs x y) (.leaf ()) (.bad 910)).All V (fun _ => True) := by
    cases hi : intsA k x
    · rw [hi] at k4; exact k4.elim
    · rw [hi, ife_true] at k4; exact ⟨rfl, k4⟩
  refine ⟨v, rfl, intsA_ok k4 k3, k1.toGarb, fun V2 hv hff w2 vs2 hw2 hs2 => ?_⟩
  have hR2 := Rg.ok_congr hv hff hR
  have hf2 : Fs.ok V2 g'.fs := fun e he => by rw [E.den_congr hv hff e]; exact k1.facts e he
  have r2 : Grel V2 ⟨fun _ => none, fun _ => none⟩ w2 (gTop g'.fs) w2 := Grel.start hw2 (fun _ => ⟨rfl, rfl⟩) rfl hf2
  refine (callN_ok hR2 hx n Unit w2 (fun _ => True) false f2 as2 vs2 (gTop g'.fs) _ w2 _ r2 (hs2 _) (Rs.All_congr hv hff k5) _ fun u w3 y g'' N'' q1 _ q3 q4 => ?_).1
  cases hq : eqV R g''.fs x y
  · rw [hq] at q4; exact q4.elim
  · have hF : Fs.ok V g''.fs := fun e he => by rw [← E.den_congr hv hff e]; exact q1.facts e he
    have := eqV_ok hR hv hff hF hq k3 q3
    exact ⟨by rw [this.1], q1.toGarb⟩
/-- A function gives these numbers. -/
noncomputable def litRun (P : Program) (R : Rg) (cx : Cx) (n : Nat) (f : FuncId) (as : List AV) (fs : List E) (y : AV) : Rs Unit := callN P R cx n Unit false f as (gTop fs) fun x g => ife (eqV R g.fs x y) (.leaf ()) (.bad 911)
theorem lit_ok {R : Rg} (hR : R.ok V) {cx : Cx} (hx : ∀ V, R.ok V → cx.ok P V) {n : Nat} {f : FuncId} {as : List AV} {vs : Array Value} {fs : List E} {y : AV} {u : Value} (h : (litRun P R cx n f as fs y).good = true) (hy : ∀ N, y.rel V N u)
    (hs : ∀ N, AV.rels V N as vs.toList) (hf : Fs.ok V fs) (hw : ArgsOk V w) : Calls P f vs w fun e w' => e = .returned u ∧ Garb w w' := by
  have h := Rs.good_ok (V := V) h
  unfold litRun at h
  have r0 : Grel V ⟨fun _ => none, fun _ => none⟩ w (gTop fs) w := Grel.start hw (fun _ => ⟨rfl, rfl⟩) rfl hf
  refine (callN_ok hR hx n Unit w (fun _ => True) false f as vs (gTop fs) _ w _ r0 (hs _) h _ fun v w' x g' N' k1 _ k3 k4 => ?_).1
  cases hq : eqV R g'.fs x y
  · rw [hq] at k4; exact k4.elim
  · have := eqV_ok hR rfl rfl k1.facts hq k3 (hy ⟨fun _ => none, fun _ => none⟩)
    exact ⟨by rw [this.1], k1.toGarb⟩
end
end Go.RX
