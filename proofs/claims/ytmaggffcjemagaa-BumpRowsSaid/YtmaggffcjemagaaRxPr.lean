/- RX, part 18: what is left at the end, proved by cases. -/
import Derived.Test.YtmaggffcjemagaaRxZ
namespace Go.RX
set_option linter.unusedVariables false
section
variable {V : Va}
/-- The same under facts, made anew. -/
noncomputable def E.simp (R : Rg) (F : List E) (e : E) : E :=
  E.rec (motive := fun _ => Rg → List E → E) (fun c _ _ => .k c) (fun c _ _ ia ir R F => (E.smul c (ia R F)).add (ir R F)) (fun i R F => pinE R F (.atom (.var i)))
    (fun _ ie R F => mkLt0 R F (ie R F)) (fun _ ie R F => mkEq0 R F (ie R F)) (fun _ _ _ ic ia ib R F => mkIte (ic R F) (ia R F) (ib R F))
    (fun _ _ ia ib R F => mkMn R F (ia R F) (ib R F)) (fun _ _ ia ib R F => mkMx R F (ia R F) (ib R F)) (fun _ _ ia ib R F => mkMul (ia R F) (ib R F))
    (fun _ d ia R F => ife (leI 1 d) (mkDv R F (ia R F) d) (.atom (.dv (ia R F) d))) (fun _ d ia R F => pinE R F (mkMd R F (ia R F) d)) (fun _ n ia R F => mkShr R (ia R F) n)
    (fun kd _ ia R F => mkWr R F kd (ia R F)) (fun op kd _ _ ia ib R F => pinE R F (mkBit op kd (ia R F) (ib R F))) (fun f _ _ ia ib R F => .atom (.app f (ia R F) (ib R F))) e R F
theorem E.simp_ok {R : Rg} (hR : R.ok V) {F : List E} (hF : Fs.ok V F) : ∀ e : E, (e.simp R F).den V = e.den V := by
  intro e
  induction e with
  | k c => rfl
  | t c a r ia ir => show ((E.smul c (a.simp R F)).add (r.simp R F)).den V = _; rw [E.den_add, E.den_smul, ia, ir]; rfl
  | var i => show (pinE R F (.atom (.var i))).den V = _; rw [den_pinE hR hF, E.den_atom]
  | lt0 e ih => show (mkLt0 R F (e.simp R F)).den V = _; rw [den_mkLt0 hR hF, ih]; rfl
  | eq0 e ih => show (mkEq0 R F (e.simp R F)).den V = _; rw [den_mkEq0 hR hF, ih]; rfl
  | ite c a b ic ia ib => show (mkIte (c.simp R F) (a.simp R F) (b.simp R F)).den V = _; rw [den_mkIte, ic, ia, ib]; rfl
  | mn a b ia ib => show (mkMn R F (a.simp R F) (b.simp R F)).den V = _; rw [den_mkMn hR hF, ia, ib]; rfl
  | mx a b ia ib => show (mkMx R F (a.simp R F) (b.simp R F)).den V = _; rw [den_mkMx hR hF, ia, ib]; rfl
  | mul a b ia ib => show (mkMul (a.simp R F) (b.simp R F)).den V = _; rw [den_mkMul, ia, ib]; rfl
  | dv a d ia =>
    show (ife (leI 1 d) (mkDv R F (a.simp R F) d) (.atom (.dv (a.simp R F) d))).den V = _
    cases h : leI 1 d
    · rw [ife_false, E.den_atom]; simp only [E.den, ia]
    · have := leI_iff.1 h
      rw [ife_true, den_mkDv hR hF _ (by omega), ia]; rfl
  | md a d ia => show (pinE R F (mkMd R F (a.simp R F) d)).den V = _; rw [den_pinE hR hF, den_mkMd hR hF, ia]; rfl
  | shr a n ia => show (mkShr R (a.simp R F) n).den V = _; rw [den_mkShr hR, ia]; rfl
  | wr kd a ia => show (mkWr R F kd (a.simp R F)).den V = _; rw [den_mkWr hR hF, ia]; rfl
  | bit op kd a b ia ib => show (pinE R F (mkBit op kd (a.simp R F) (b.simp R F))).den V = _; rw [den_pinE hR hF, den_mkBit, ia, ib]; rfl
  | app f a b ia ib => show (E.atom (.app f (a.simp R F) (b.simp R F))).den V = _; rw [E.den_atom]; simp only [E.den, ia, ib]
noncomputable def orO (a b : Option E) : Option E := match a with | some x => some x | none => b
/-- A test within e, an inner one first. -/
noncomputable def E.pick (e : E) : Option E :=
  E.rec (motive := fun _ => Option E) (fun _ => none) (fun _ _ _ ia ir => orO ia ir) (fun _ => none) (fun e ie => orO ie (some (.lt0 e))) (fun e ie => orO ie (some (.eq0 e)))
    (fun c _ _ ic ia ib => orO ic (orO (some c) (orO ia ib))) (fun _ _ ia ib => orO ia ib) (fun _ _ ia ib => orO ia ib) (fun _ _ ia ib => orO ia ib)
    (fun _ _ ia => ia) (fun _ _ ia => ia) (fun _ _ ia => ia) (fun _ _ ia => ia) (fun _ _ _ _ ia ib => orO ia ib) (fun _ _ _ ia ib => orO ia ib) e
/-- What is known where c is not 0, where it is. -/
noncomputable def E.whenT (R : Rg) (F : List E) (c : E) : List E := match c with
  | .lt0 d => [E.addK (-1) (d.smulG (-1))]
  | .eq0 d => [d, d.smulG (-1)]
  | c => exT R F c
noncomputable def E.whenF (R : Rg) (F : List E) (c : E) : List E := match c with
  | .lt0 d => [d]
  | .eq0 d => exN R F d
  | c => exF c
theorem E.whenT_ok {R : Rg} (hR : R.ok V) {F : List E} (hF : Fs.ok V F) {c : E} (h : c.den V ≠ 0) : ∀ x ∈ c.whenT R F, 0 ≤ x.den V := by
  intro x hx
  unfold E.whenT at hx
  split at hx
  · rename_i d
    have : d.den V < 0 := by rcases Int.lt_or_le (d.den V) 0 with q | q; exact q; exact absurd (if_neg (by omega)) h
    simp only [List.mem_singleton] at hx
    subst hx
    rw [E.den_addK, E.den_smulG]; omega
  · rename_i d
    have : d.den V = 0 := Classical.byContradiction fun q => h (if_neg q)
    simp only [List.mem_cons, List.not_mem_nil, or_false] at hx
    rcases hx with rfl | rfl
    · omega
    · rw [E.den_smulG]; omega
  · exact exT_ok hR hF h x hx
theorem E.whenF_ok {R : Rg} (hR : R.ok V) {F : List E} (hF : Fs.ok V F) {c : E} (h : c.den V = 0) : ∀ x ∈ c.whenF R F, 0 ≤ x.den V := by
  intro x hx
  unfold E.whenF at hx
  split at hx
  · rename_i d
    have h' : (if d.den V < 0 then (1 : Int) else 0) = 0 := h
    have : 0 ≤ d.den V := by rcases Int.lt_or_le (d.den V) 0 with q | q; rw [if_pos q] at h'; omega; exact q
    simp only [List.mem_singleton] at hx
    subst hx; exact this
  · rename_i d
    have h' : (if d.den V = 0 then (1 : Int) else 0) = 0 := h
    exact exN_ok hR hF (fun h0 => by rw [if_pos h0] at h'; omega) x hx
  · exact exF_ok h x hx
/-- Is e surely not 0? (The Bool: are there new facts, so that e is to be made anew?) -/
noncomputable def proveC (ih : Bool → List E → E → Bool) (R : Rg) (F : List E) (e : E) : Bool := match e.pick with
  | some c => ife (ih true (lapp (c.whenT R F) F) e) (ih true (lapp (c.whenF R F) F) e) false
  | none => false
noncomputable def proveI (ih : Bool → List E → E → Bool) (R : Rg) (F : List E) (e c a b : E) : Bool :=
  ife (ife b.isK (eqI b.gc 0) false) (ife (ih false F c) (ih false F a) false)
    (ife (ife (ife a.isK (eqI a.gc 0) false) (c.within R 0 1) false) (ife (ih false F (mkNot c)) (ih false F b) false) (proveC ih R F e))
noncomputable def proveS (ih : Bool → List E → E → Bool) (R : Rg) (F : List E) (e : E) : Bool :=
  ife e.isK (ife (eqI e.gc 0) false true) (match iteOf e with
    | some q => proveI ih R F e q.1 q.2.1 q.2.2
    | none => proveC ih R F e)
noncomputable def prove (R : Rg) (n : Nat) : Bool → List E → E → Bool :=
  Nat.rec (motive := fun _ => Bool → List E → E → Bool) (fun _ _ _ => false) (fun _ ih b F e => proveS ih R F (ife b (e.simp R F) e)) n
theorem iteOf_den {x : E} {q : E × E × E} (h : iteOf x = some q) : x.den V = if q.1.den V = 0 then q.2.2.den V else q.2.1.den V := by
  unfold iteOf at h
  split at h
  · injection h with h; subst h; simp only [E.den]; omega
  · cases h
theorem more_ok {F G : List E} (hF : Fs.ok V F) (hG : ∀ x ∈ G, 0 ≤ x.den V) : Fs.ok V (lapp G F) := by
  rw [lapp_eq]
  intro x hx
  rcases List.mem_append.1 hx with hx | hx
  · exact hG x hx
  · exact hF x hx
theorem prove_ok {R : Rg} (hR : R.ok V) : ∀ (n : Nat) {b : Bool} {F : List E} {e : E}, Fs.ok V F → prove R n b F e = true → e.den V ≠ 0
  | 0, _, _, _, _, h => by cases h
  | n + 1, b, F, e, hF, h => by
    have ih : ∀ {b : Bool} {F : List E} {e : E}, Fs.ok V F → prove R n b F e = true → e.den V ≠ 0 := fun hF h => prove_ok hR n hF h
    change proveS (prove R n) R F (ife b (e.simp R F) e) = true at h
    have hden : (ife b (e.simp R F) e).den V = e.den V := by cases b; exact rfl; exact E.simp_ok hR hF e
    rw [← hden]
    generalize ife b (e.simp R F) e = e at h
    have hC : proveC (prove R n) R F e = true → e.den V ≠ 0 := by
      intro h
      unfold proveC at h
      split at h
      · rename_i c _
        cases h1 : prove R n true (lapp (c.whenT R F) F) e
        · rw [h1] at h; cases h
        · rw [h1, ife_true] at h
          by_cases hc : c.den V = 0
          · exact ih (more_ok hF (E.whenF_ok hR hF hc)) h
          · exact ih (more_ok hF (E.whenT_ok hR hF hc)) h1
      · cases h
    unfold proveS at h
    rcases e.isK_cases with ⟨m, rfl, h1, h2⟩ | h1
    · rw [h1, h2, ife_true] at h
      cases h3 : eqI m 0
      · intro h4
        have : m = 0 := h4
        rw [eqI_iff.2 this] at h3; cases h3
      · rw [h3] at h; cases h
    · rw [h1, ife_false] at h
      split at h
      · rename_i q hq
        have hd := iteOf_den (V := V) hq
        unfold proveI at h
        cases hb : ife q.2.2.isK (eqI q.2.2.gc 0) false
        · rw [hb, ife_false] at h
          cases ha : ife (ife q.2.1.isK (eqI q.2.1.gc 0) false) (q.1.within R 0 1) false
          · rw [ha, ife_false] at h; exact hC h
          · rw [ha, ife_true] at h
            have hw : q.1.within R 0 1 = true := by
              cases h5 : ife q.2.1.isK (eqI q.2.1.gc 0) false
              · rw [h5] at ha; cases ha
              · rw [h5] at ha; exact ha
            have hw := E.within_ok hR hw
            cases h5 : prove R n false F (mkNot q.1)
            · rw [h5] at h; cases h
            · rw [h5, ife_true] at h
              have h6 := ih hF h5
              rw [den_mkNot] at h6
              have h7 := ih hF h
              rw [hd, if_pos (by omega)]; exact h7
        · rw [hb, ife_true] at h
          cases h5 : prove R n false F q.1
          · rw [h5] at h; cases h
          · rw [h5, ife_true] at h
            rw [hd, if_neg (ih hF h5)]; exact ih hF h
      · exact hC h
end
end Go.RX
