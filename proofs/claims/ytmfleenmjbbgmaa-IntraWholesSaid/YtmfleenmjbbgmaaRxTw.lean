/- RX, part 23: two functions that answer the same: a row of numbers (or none) and a number. -/
import Derived.Test.YtmfleenmjbbgmaaRxL
namespace Go.RX
open Go.RowKit
set_option linter.unusedVariables false
section
variable {P : Program} {V : Va} {W0 : World} {N : Env} {g : G} {w : World}
abbrev Lf := List AV × E
noncomputable def rowK (x : AV) (g : G) : Rs Lf := match x with
  | .tup [.nilslice, .int .i64 e] => .leaf ([], e)
  | .tup [.slice id 0 n _, .int .i64 e] => (match hget g.heap id with
    | some (.cells cs _ _ true) => ife (ife (llong cs n) (Nat.ble 1 n) false) (.leaf (ltake cs n, e)) (.bad 901)
    | _ => .bad 902)
  | _ => .bad 903
noncomputable def isI64 (x : AV) : Bool := match x with | .int .i64 _ => true | _ => false
noncomputable def twin (a b : Rs Lf) : Bool := match a, b with
  | .leaf x, .leaf y => and2 (and2 (leqb (AV.eqb 8) x.1 y.1) (eqE x.2 y.2)) (and2 (allL isI64 x.1) (Nat.ble (llen x.1) 1000))
  | _, _ => false
def denI (V : Va) (x : AV) : Int := match x with | .int _ e => e.den V | _ => 0
/-- What a function hands out: nothing, or a row of its own; and a number. -/
def Res (w w' : World) (v : Value) (L : List Int) (code : Int) : Prop :=
  (L = [] ∧ v = .tuple #[.slice none 0 0, .int .i64 code]) ∨
  ∃ b c cur el, v = .tuple #[.slice (some ⟨b, 0, none⟩) L.length c, .int .i64 code] ∧ 0 < L.length ∧ L.length ≤ c ∧ w.heap.size ≤ b ∧ w'.heap[b]? = some (.cells cur el (0, 0)) ∧ ∀ j, j < L.length → cur[j]? = some (.int .i64 (L.getD j 0))
def Answers (P : Program) (f : FuncId) (vs : Array Value) (w : World) (L : List Int) (code : Int) : Prop :=
  Calls P f vs w fun e w' => ∃ v, e = .returned v ∧ Res w w' v L code ∧ Garb w w'
theorem E.den_congr {V V' : Va} (hv : V.v = V'.v) (hf : V.f = V'.f) : ∀ e : E, e.den V = e.den V' := by
  intro e
  induction e <;> simp only [E.den, *]
theorem allI_rel : ∀ (l : List AV) (vs : List Value), allL isI64 l = true → AV.rels V N l vs → vs = l.map fun x => Value.int .i64 (denI V x)
  | [], vs, _, h => by rw [rels_nil.1 h]; rfl
  | x :: l, vs, h, hr => by
    obtain ⟨v, vs, rfl, h1, h2⟩ := rels_cons.1 hr
    change ife (isI64 x) (allL isI64 l) false = true at h
    cases hx : isI64 x
    · rw [hx] at h; cases h
    · rw [hx, ife_true] at h
      rw [allI_rel l vs h h2, List.map_cons]
      congr 1
      unfold isI64 at hx
      split at hx
      · simp only [AV.rel] at h1; rw [h1]; rfl
      · cases hx
theorem leaf_res (r : Grel V N W0 g w) {x : AV} {v : Value} {a : Lf} (hx : x.rel V N v) (h : (rowK x g).All V (fun l => l = a)) (ha : allL isI64 a.1 = true) : Res W0 w v (a.1.map (denI V)) (a.2.den V) := by
  unfold rowK at h
  split at h
  · rename_i e
    have h : (([], e) : Lf) = a := h
    subst h
    simp only [AV.rel] at hx
    obtain ⟨y, rfl, hy⟩ := hx
    obtain ⟨v1, l1, e1, h1, h2⟩ := rels_cons.1 hy
    obtain ⟨v2, l2, rfl, h3, h4⟩ := rels_cons.1 h2
    rw [rels_nil.1 h4] at e1
    simp only [AV.rel] at h1 h3
    subst h1 h3
    exact .inl ⟨rfl, by congr 1; exact Array.ext' e1⟩
  · rename_i id n cap e
    split at h
    · rename_i cs el opn ho
      obtain ⟨k1, k2, h⟩ := ife2 h (fun x => x)
      have h : ((ltake cs n, e) : Lf) = a := h
      subst h
      have k1 := llong_iff.1 k1
      have k2 := Nat.le_of_ble_eq_true k2
      rw [ltake_eq] at ha ⊢
      simp only [AV.rel] at hx
      obtain ⟨y, rfl, hy⟩ := hx
      obtain ⟨v1, l1, e1, h1, h2⟩ := rels_cons.1 hy
      obtain ⟨v2, l2, rfl, h3, h4⟩ := rels_cons.1 h2
      rw [rels_nil.1 h4] at e1
      simp only [AV.rel] at h1 h3
      obtain ⟨b, c, hb, rfl, hc⟩ := h1
      subst h3
      obtain ⟨b', cc, fr, hb', hcc, how, hlen, _, _, hrel⟩ := r.cells ho
      rw [hb] at hb'; injection hb' with hb'; subst hb'
      have hfr := how rfl
      have hlen' : ((cs.take n).map (denI V)).length = n := by simp; omega
      refine .inr ⟨b, c, cc, el, by rw [hlen']; congr 1; exact Array.ext' e1, by rw [hlen']; exact k2, by rw [hlen']; exact hc.le, hfr.2, by rw [hcc, hfr.1], fun j hj => ?_⟩
      rw [hlen'] at hj
      have hrt := rels_take n hrel
      rw [List.take_take, Nat.min_eq_left k1] at hrt
      have heq := allI_rel (V := V) (N := N) _ _ ha hrt
      have : (cc.toList.take n)[j]? = some (.int .i64 (((cs.take n).map (denI V)).getD j 0)) := by
        rw [heq, List.getElem?_map, List.getD_eq_getElem?_getD, List.getElem?_map]
        have : (cs.take n)[j]? = some ((cs.take n)[j]'(by simp; omega)) := List.getElem?_eq_getElem _
        rw [this]; rfl
      rw [List.getElem?_take, if_pos hj, Array.getElem?_toList] at this
      exact this
    · exact h.elim
  · exact h.elim
theorem leaf_ans {R : Rg} (hR : R.ok V) {cx : Cx} (hx : ∀ V, R.ok V → cx.ok P V) {n : Nat} {f : FuncId} {as : List AV} {vs : Array Value} {fs : List E} {a : Lf} (h : callN P R cx n Lf false f as (gTop fs) rowK = .leaf a) (ha : allL isI64 a.1 = true)
    (hs : ∀ N, AV.rels V N as vs.toList) (hf : Fs.ok V fs) (hw : ArgsOk V w) : Answers P f vs w (a.1.map (denI V)) (a.2.den V) := by
  have r0 : Grel V ⟨fun _ => none, fun _ => none⟩ w (gTop fs) w := Grel.start hw (fun _ => ⟨rfl, rfl⟩) rfl hf
  refine (callN_ok hR hx n Lf w (fun l => l = a) false f as vs (gTop fs) _ w rowK r0 (hs _) (by rw [h]; rfl) _ fun v w' x g' N' k1 _ k3 k4 => ?_).1
  exact ⟨v, rfl, leaf_res k1 k3 k4 ha, k1.toGarb⟩
theorem twin_ok {R : Rg} {cx : Cx} (hx : ∀ V, R.ok V → cx.ok P V) {n : Nat} {f1 f2 : FuncId} {as : List AV} {fs : List E} (h : twin (callN P R cx n Lf false f1 as (gTop fs) rowK) (callN P R cx n Lf false f2 as (gTop fs) rowK) = true) (V0 : Va) :
    ∃ L code, L.length ≤ 1000 ∧ ∀ (V : Va), V.v = V0.v → V.f = V0.f → R.ok V → Fs.ok V fs → ∀ (vs : Array Value) (w : World), (∀ N, AV.rels V N as vs.toList) → ArgsOk V w → Answers P f1 vs w L code ∧ Answers P f2 vs w L code := by
  unfold twin at h
  split at h
  · rename_i x y e1 e2
    obtain ⟨h1, h20⟩ := and2_ok h
    obtain ⟨h2, h21⟩ := and2_ok h20
    have h21 := Nat.le_of_ble_eq_true h21
    rw [llen_eq] at h21
    obtain ⟨h3, h4⟩ := and2_ok h1
    have h3 := leqb_ok (AV.eqb_ok 8) _ _ h3
    have h4 := eqE_ok h4
    refine ⟨x.1.map (denI V0), x.2.den V0, by simpa using h21, fun V hv hf hR hF vs w hs hw => ?_⟩
    have hden : denI V = denI V0 := by
      funext q
      unfold denI
      split
      · exact E.den_congr hv hf _
      · rfl
    have a1 := leaf_ans hR hx e1 h2 hs hF hw
    have a2 := leaf_ans hR hx e2 (by rw [← h3]; exact h2) hs hF hw
    rw [← h3, ← h4] at a2
    rw [hden, E.den_congr hv hf] at a1 a2
    exact ⟨a1, a2⟩
  · cases h
end
end Go.RX
