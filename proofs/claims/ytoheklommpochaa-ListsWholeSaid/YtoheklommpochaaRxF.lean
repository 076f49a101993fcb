/- RX, part 10: forks upon bools; operands; slots. -/
import Derived.Test.YtoheklommpochaaRxD
import Derived.Tactics
import Derived.Defers
namespace Go.RX
set_option linter.unusedVariables false
section
variable {P : Program} {α : Type} {V : Va} {W0 : World} {N : Env} {g : G} {p : α → Prop} {w : World}

noncomputable def isBit : E → Bool
  | .lt0 _ => true
  | .eq0 _ => true
  | _ => false
theorem isBit_ok {e : E} (h : isBit e = true) : e.den V = 0 ∨ e.den V = 1 := by
  cases e <;> first | cases h | skip
  all_goals (simp only [E.den]; split <;> simp)
/-- A fork upon 0 ≤ .. or = 0 that is not known. -/
noncomputable def forkE (R : Rg) (e : E) (kk : Bool → G → Rs α) (g : G) (ft ff : List E) : Rs α :=
  e.lit (fun n => kk (ife (eqI n 0) false true) g) (ife ((E.addK (-1) e).geq0 R g.fs) (kk true g) (ife (ife ((e.smulG (-1)).geq0 R g.fs) (e.geq0 R g.fs) false) (kk false g)
    (.fork e (kk true (g.addF ft)) (kk false (g.addF ff)))))
/-- What is known where e is 0, where it is not. -/
noncomputable def exT (R : Rg) (fs : List E) (e : E) : List E := ife (e.geq0 R fs) [E.addK (-1) e] []
noncomputable def exF (e : E) : List E := [e, e.smulG (-1)]
noncomputable def exN (R : Rg) (fs : List E) (d : E) : List E :=
  ife (d.geq0 R fs) [E.addK (-1) d] (ife ((d.smulG (-1)).geq0 R fs) [E.addK (-1) (d.smulG (-1))] [E.smulG (-1) (.atom (.eq0 d.posE))])
theorem Knows.fs {g : G} (r : Grel V N W0 g w) {l : List E} (h : Fs.ok V l) : Knows V N W0 w g { g with fs := l } :=
  ⟨⟨r.os, r.tape, r.output, r.size, r.below, r.soft, r.ob, r.apart, r.fresh, h⟩, ⟨Env.le.refl _, fun _ _ => ⟨rfl, rfl⟩, Nat.le_refl _, rfl, rfl, fun _ _ _ h => h⟩, rfl⟩
theorem Fs.more {f l : List E} (hf : Fs.ok V f) (h : ∀ e ∈ l, 0 ≤ e.den V) : Fs.ok V (l ++ f) := fun e he => by
  rcases List.mem_append.1 he with he | he
  · exact h e he
  · exact hf e he
theorem ne0_lit (n : Int) : ife (eqI n 0) false true = decide (n ≠ 0) := by
  cases h : eqI n 0
  · have : ¬ n = 0 := fun h' => by rw [eqI_iff.2 h'] at h; cases h
    simp [this]
  · have := eqI_iff.1 h; simp [this]
theorem forkE_fs {R : Rg} (hR : R.ok V) (hF : Fs.ok V g.fs) {e : E} {kk : Bool → G → Rs α} {ft ff : List E} (ht : e.den V ≠ 0 → ∀ x ∈ ft, 0 ≤ x.den V) (hf : e.den V = 0 → ∀ x ∈ ff, 0 ≤ x.den V)
    (h : (forkE R e kk g ft ff).All V p) : ∃ fs, Fs.ok V fs ∧ (kk (decide (e.den V ≠ 0)) { g with fs := fs }).All V p := by
  unfold forkE at h
  generalize hX : (ife ((E.addK (-1) e).geq0 R g.fs) (kk true g) (ife (ife ((e.smulG (-1)).geq0 R g.fs) (e.geq0 R g.fs) false) (kk false g)
    (.fork e (kk true (g.addF ft)) (kk false (g.addF ff))))) = X at h
  rcases E.lit_cases e (fun n => kk (ife (eqI n 0) false true) g) X with ⟨n, rfl, h'⟩ | h' <;> rw [h'] at h
  · rw [ne0_lit] at h
    exact ⟨g.fs, hF, h⟩
  · subst hX
    cases h1 : (E.addK (-1) e).geq0 R g.fs
    · rw [h1, ife_false] at h
      cases h2 : (e.smulG (-1)).geq0 R g.fs
      · rw [h2] at h
        simp only [ife_false, Rs.All] at h
        by_cases he : e.den V = 0
        · rw [if_pos he] at h
          refine ⟨_, Fs.more hF (hf he), ?_⟩
          (first | (rw [show decide (e.den V ≠ 0) = false from by simp [he]]; exact h) | (rw [show decide (e.den V ≠ 0) = true from by simp [he]]; exact h))
        · rw [if_neg he] at h
          refine ⟨_, Fs.more hF (ht he), ?_⟩
          (first | (rw [show decide (e.den V ≠ 0) = false from by simp [he]]; exact h) | (rw [show decide (e.den V ≠ 0) = true from by simp [he]]; exact h))
      · cases h3 : e.geq0 R g.fs
        · rw [h2, h3] at h
          simp only [ife_true, ife_false, Rs.All] at h
          by_cases he : e.den V = 0
          · rw [if_pos he] at h
            refine ⟨_, Fs.more hF (hf he), ?_⟩
            (first | (rw [show decide (e.den V ≠ 0) = false from by simp [he]]; exact h) | (rw [show decide (e.den V ≠ 0) = true from by simp [he]]; exact h))
          · rw [if_neg he] at h
            refine ⟨_, Fs.more hF (ht he), ?_⟩
            (first | (rw [show decide (e.den V ≠ 0) = false from by simp [he]]; exact h) | (rw [show decide (e.den V ≠ 0) = true from by simp [he]]; exact h))
        · rw [h2, h3] at h
          have a := E.geq0_ok hR hF h2; have b := E.geq0_ok hR hF h3
          rw [E.den_smulG] at a
          have : e.den V = 0 := by omega
          refine ⟨g.fs, hF, ?_⟩
          simpa [this] using h
    · rw [h1] at h
      have a := E.geq0_ok hR hF h1
      rw [E.den_addK] at a
      have : e.den V ≠ 0 := by omega
      refine ⟨g.fs, hF, ?_⟩
      simpa [this] using h
theorem exT_ok {R : Rg} (hR : R.ok V) {fs : List E} (hF : Fs.ok V fs) {e : E} (he : e.den V ≠ 0) : ∀ x ∈ exT R fs e, 0 ≤ x.den V := by
  intro x hx
  unfold exT at hx
  cases h : e.geq0 R fs
  · rw [h] at hx; cases hx
  · rw [h] at hx
    have := E.geq0_ok hR hF h
    simp only [ife_true, List.mem_singleton] at hx
    subst hx
    rw [E.den_addK]; omega
theorem exF_ok {e : E} (he : e.den V = 0) : ∀ x ∈ exF e, 0 ≤ x.den V := by
  intro x hx
  simp only [exF, List.mem_cons, List.not_mem_nil, or_false] at hx
  rcases hx with rfl | rfl
  · omega
  · rw [E.den_smulG]; omega
theorem exN_ok {R : Rg} (hR : R.ok V) {fs : List E} (hF : Fs.ok V fs) {d : E} (hd : d.den V ≠ 0) : ∀ x ∈ exN R fs d, 0 ≤ x.den V := by
  intro x hx
  unfold exN at hx
  cases h : d.geq0 R fs
  · rw [h, ife_false] at hx
    cases h' : (d.smulG (-1)).geq0 R fs
    · rw [h', ife_false, List.mem_singleton] at hx
      subst hx
      rw [E.den_smulG, E.den_atom]
      simp only [E.den]
      rw [if_neg (fun h0 => hd ((E.posE_zero V d).1 h0))]
      omega
    · rw [h', ife_true, List.mem_singleton] at hx
      have := E.geq0_ok hR hF h'
      subst hx
      rw [E.den_smulG] at this
      rw [E.den_addK, E.den_smulG]; omega
  · rw [h, ife_true, List.mem_singleton] at hx
    have := E.geq0_ok hR hF h
    subst hx
    rw [E.den_addK]; omega
noncomputable def forkB0 (R : Rg) : E → (Bool → G → Rs α) → G → Rs α
  | .k n, kk, g => kk (ife (eqI n 0) false true) g
  | .t c x r, kk, g => match c, r with
    | 1, .k 0 => forkB0 R x kk g
    | -1, .k 1 => ife (is01 R x) (forkB0 R x (fun b => kk (ife b false true)) g) (forkE R (.t (-1) x (.k 1)) kk g [] [])
    | c, r => forkE R (.t c x r) kk g [] []
  | .lt0 d, kk, g => forkE R (mkLt0 R g.fs d) kk g [E.addK (-1) (d.smulG (-1))] [d]
  | .eq0 d, kk, g => forkE R (mkEq0 R g.fs d) kk g [d, d.smulG (-1)] (exN R g.fs d)
  | .ite c a b, kk, g => forkB0 R c (fun t g => ife t (forkB0 R a kk g) (forkB0 R b kk g)) g
  | e, kk, g => forkE R (.atom e) kk g (exT R g.fs (.atom e)) (exF (.atom e))
theorem is01_ok {R : Rg} (hR : R.ok V) {a : E} (hb : is01 R a = true) : a.den V = 0 ∨ a.den V = 1 := by
  have hr := E.rng_ok hR a
  unfold is01 at hb
  generalize a.rng R = q at hb hr
  obtain ⟨lo, hi⟩ := q
  simp only at hb hr
  cases h1 : leI 0 lo
  · rw [h1] at hb; cases hb
  · rw [h1] at hb
    have h1 := leI_iff.1 h1; have h2 := leI_iff.1 hb
    omega
/-- Is it a number, this one? -/
noncomputable def E.isN (e : E) (n : Int) : Bool := ife e.isK (eqI e.gc n) false
theorem E.isN_ok {e : E} {n : Int} (h : e.isN n = true) : e = .k n := by
  unfold E.isN at h
  rcases e.isK_cases with ⟨m, rfl, h1, h2⟩ | h1
  · rw [h1, h2, ife_true] at h; rw [eqI_iff.1 h]
  · rw [h1] at h; cases h
noncomputable def litO (e : E) : Option Bool := ife e.isK (some (ife (eqI e.gc 0) false true)) none
theorem litO_ok {e : E} {b : Bool} (h : litO e = some b) : b = decide (e.den V ≠ 0) := by
  unfold litO at h
  rcases e.isK_cases with ⟨m, rfl, h1, h2⟩ | h1
  · rw [h1, h2, ife_true, ne0_lit] at h; injection h with h; exact h.symm
  · rw [h1] at h; cases h
/-- A bool that the facts tell, in the parts that a fork tells apart. -/
noncomputable def E.boolB (R : Rg) (F : List E) (e : E) : Option Bool :=
  E.rec (motive := fun _ => Rg → List E → Option Bool) (fun c _ _ => some (ife (eqI c 0) false true))
    (fun c x r ix _ R F => ife (ife (eqI c 1) (r.isN 0) false) (ix R F) (ife (ife (ife (eqI c (-1)) (r.isN 1) false) (is01 R x) false) (match ix R F with | some b => some (ife b false true) | none => none) none))
    (fun _ _ _ => none) (fun d _ R F => litO (mkLt0 R F d)) (fun d _ R F => litO (mkEq0 R F d))
    (fun _ _ _ ic ia ib R F => match ic R F with | some b => ife b (ia R F) (ib R F) | none => none)
    (fun _ _ _ _ _ _ => none) (fun _ _ _ _ _ _ => none) (fun _ _ _ _ _ _ => none) (fun _ _ _ _ _ => none) (fun _ _ _ _ _ => none) (fun _ _ _ _ _ => none) (fun _ _ _ _ _ => none)
    (fun _ _ _ _ _ _ _ _ => none) (fun _ _ _ _ _ _ _ => none) e R F
theorem E.boolB_ok {R : Rg} (hR : R.ok V) {F : List E} (hF : Fs.ok V F) : ∀ (e : E) {b : Bool}, e.boolB R F = some b → b = decide (e.den V ≠ 0) := by
  intro e
  induction e with
  | k n => intro b h; change some (ife (eqI n 0) false true) = some b at h; rw [ne0_lit] at h; injection h with h; exact h.symm
  | t c x r ix _ =>
    intro b h
    change ife (ife (eqI c 1) (r.isN 0) false) (x.boolB R F) (ife (ife (ife (eqI c (-1)) (r.isN 1) false) (is01 R x) false) (match x.boolB R F with | some b => some (ife b false true) | none => none) none) = some b at h
    cases h1 : ife (eqI c 1) (r.isN 0) false
    · rw [h1, ife_false] at h
      cases h2 : ife (ife (eqI c (-1)) (r.isN 1) false) (is01 R x) false
      · rw [h2] at h; cases h
      · rw [h2, ife_true] at h
        cases h3 : ife (eqI c (-1)) (r.isN 1) false
        · rw [h3] at h2; cases h2
        · rw [h3, ife_true] at h2
          cases h4 : eqI c (-1)
          · rw [h4] at h3; cases h3
          · rw [h4, ife_true] at h3
            have hr := E.isN_ok h3
            have hc := eqI_iff.1 h4
            subst hr hc
            split at h
            · rename_i b' hb'
              injection h with h; subst h
              have := ix hb'
              subst this
              rcases is01_ok hR h2 with h5 | h5 <;> simp [E.den, h5]
            · cases h
    · rw [h1, ife_true] at h
      cases h4 : eqI c 1
      · rw [h4] at h1; cases h1
      · rw [h4, ife_true] at h1
        have hr := E.isN_ok h1
        have hc := eqI_iff.1 h4
        subst hr hc
        rw [ix h]; simp [E.den]
  | lt0 d => intro b h; rw [litO_ok (V := V) (show litO (mkLt0 R F d) = some b from h), den_mkLt0 hR hF]; rfl
  | eq0 d => intro b h; rw [litO_ok (V := V) (show litO (mkEq0 R F d) = some b from h), den_mkEq0 hR hF]; rfl
  | ite c x y ic ix iy =>
    intro b h
    change (match c.boolB R F with | some b => ife b (x.boolB R F) (y.boolB R F) | none => none) = some b at h
    split at h
    · rename_i b' hb'
      have := ic hb'
      cases b'
      · have hc : c.den V = 0 := by simpa using this
        rw [iy h]; simp [E.den, hc]
      · have hc : ¬ c.den V = 0 := by simpa using this
        rw [ix h]; simp [E.den, hc]
    · cases h
  | _ => intro b h; cases h
theorem forkB0_fs {R : Rg} (hR : R.ok V) : ∀ (e : E) {g : G} {kk : Bool → G → Rs α} (_ : Fs.ok V g.fs), (forkB0 R e kk g).All V p → ∃ fs, Fs.ok V fs ∧ (kk (decide (e.den V ≠ 0)) { g with fs := fs }).All V p := by
  intro e
  induction e with
  | k n => intro g kk r h; simp only [forkB0, ne0_lit] at h; exact ⟨g.fs, r, h⟩
  | t c x y ix _ =>
    intro g kk r h
    unfold forkB0 at h
    split at h
    · obtain ⟨g', h1, h2⟩ := ix r h
      refine ⟨g', h1, ?_⟩
      simpa [E.den] using h2
    · cases hb : is01 R x
      · rw [hb, ife_false] at h
        exact forkE_fs hR r (by simp) (by simp) h
      · rw [hb, ife_true] at h
        obtain ⟨g', h1, h2⟩ := ix r h
        refine ⟨g', h1, ?_⟩
        rcases is01_ok hR hb with h3 | h3
        · simpa [E.den, h3] using h2
        · simpa [E.den, h3] using h2
    · exact forkE_fs hR r (by simp) (by simp) h
  | lt0 d =>
    intro g kk r h
    simp only [forkB0] at h
    have hd := den_mkLt0 hR r d
    have hs : (E.lt0 d).den V = (mkLt0 R g.fs d).den V := by rw [hd]; rfl
    rw [hs]
    refine forkE_fs hR r (fun hne x hx => ?_) (fun he x hx => ?_) h
    · rw [hd] at hne
      have : d.den V < 0 := by rcases Int.lt_or_le (d.den V) 0 with h | h; exact h; exact absurd (if_neg (by omega)) hne
      simp only [List.mem_singleton] at hx
      subst hx
      rw [E.den_addK, E.den_smulG]; omega
    · rw [hd] at he
      have : 0 ≤ d.den V := by rcases Int.lt_or_le (d.den V) 0 with h | h; rw [if_pos h] at he; omega; exact h
      simp only [List.mem_singleton] at hx
      subst hx; exact this
  | eq0 d =>
    intro g kk r h
    simp only [forkB0] at h
    have hd := den_mkEq0 hR r d
    have hs : (E.eq0 d).den V = (mkEq0 R g.fs d).den V := by rw [hd]; rfl
    rw [hs]
    refine forkE_fs hR r (fun hne x hx => ?_) (fun he x hx => ?_) h
    · rw [hd] at hne
      have : d.den V = 0 := Classical.byContradiction fun h => hne (if_neg h)
      simp only [List.mem_cons, List.not_mem_nil, or_false] at hx
      rcases hx with rfl | rfl
      · omega
      · rw [E.den_smulG]; omega
    · rw [hd] at he
      exact exN_ok hR r (fun h0 => by rw [if_pos h0] at he; omega) x hx
  | ite c a b ic ia ib =>
    intro g kk r h
    simp only [forkB0] at h
    obtain ⟨g1, h1, h2⟩ := ic r h
    by_cases hc : c.den V = 0
    · simp only [hc, ne_eq, not_true_eq_false, decide_false, ife_false] at h2
      obtain ⟨g2, h3, h4⟩ := ib h1 h2
      refine ⟨g2, h3, ?_⟩
      simpa [E.den, hc] using h4
    · simp only [hc, ne_eq, not_false_eq_true, decide_true, ife_true] at h2
      obtain ⟨g2, h3, h4⟩ := ia h1 h2
      refine ⟨g2, h3, ?_⟩
      simpa [E.den, hc] using h4
  | _ =>
    intro g kk r h
    simp only [forkB0] at h
    obtain ⟨g', h1, h2⟩ := forkE_fs hR r (fun he => exT_ok hR r he) (fun he => exF_ok he) h
    exact ⟨g', h1, by simpa only [E.den_atom] using h2⟩

/-! ### Choices within what is asked -/
structure Sp where
  c : E
  a : E
  b : E
noncomputable def sp1 (c : Int) (a r : E) (ih : Option Sp) : Option Sp := match a with
  | .ite x y z => some ⟨x, (E.smul c y).add r, (E.smul c z).add r⟩
  | a => match ih with | some q => some ⟨q.c, (E.smul c (.atom a)).add q.a, (E.smul c (.atom a)).add q.b⟩ | none => none
/-- A choice among the terms. -/
noncomputable def spE (e : E) : Option Sp :=
  E.rec (motive := fun _ => Option Sp) (fun _ => none) (fun c a r _ ih => sp1 c a r ih)
    (fun _ => none) (fun _ _ => none) (fun _ _ => none) (fun _ _ _ _ _ _ => none) (fun _ _ _ _ => none) (fun _ _ _ _ => none) (fun _ _ _ _ => none)
    (fun _ _ _ => none) (fun _ _ _ => none) (fun _ _ _ => none) (fun _ _ _ => none) (fun _ _ _ _ _ _ => none) (fun _ _ _ _ _ => none) e
theorem spE_ok (V : Va) : ∀ (e : E) {q : Sp}, spE e = some q → e.den V = if q.c.den V = 0 then q.b.den V else q.a.den V := by
  intro e
  induction e with
  | t c a r ia ir =>
    intro q h
    change sp1 c a r (spE r) = some q at h
    unfold sp1 at h
    split at h
    · cases h
      simp only [E.den, E.den_add, E.den_smul]
      split <;> rfl
    · split at h
      · rename_i q' hq
        cases h
        simp only [E.den, E.den_add, E.den_smul, E.den_atom, ir hq]
        split <;> rfl
      · cases h
  | _ => intro q h; cases h
/-- Below 0?, 0?: with a choice within. -/
noncomputable def spl (R : Rg) (F : List E) (e : E) : Option (E × Sp) := match e with
  | .lt0 d => match spE d with | some q => some (mkLt0 R F d, ⟨q.c, .lt0 q.a, .lt0 q.b⟩) | none => none
  | .eq0 d => match spE d with | some q => some (mkEq0 R F d, ⟨q.c, .eq0 q.a, .eq0 q.b⟩) | none => none
  | .t 1 (.lt0 d) (.k 0) => match spE d with | some q => some (mkLt0 R F d, ⟨q.c, .lt0 q.a, .lt0 q.b⟩) | none => none
  | .t 1 (.eq0 d) (.k 0) => match spE d with | some q => some (mkEq0 R F d, ⟨q.c, .eq0 q.a, .eq0 q.b⟩) | none => none
  | _ => none
theorem spl_ok {R : Rg} (hR : R.ok V) {F : List E} (hF : Fs.ok V F) {e : E} {q : E × Sp} (h : spl R F e = some q) : q.1.den V = e.den V ∧ e.den V = if q.2.c.den V = 0 then q.2.b.den V else q.2.a.den V := by
  have lt : ∀ (d : E) (s : Sp), spE d = some s → (mkLt0 R F d).den V = (E.lt0 d).den V ∧ (E.lt0 d).den V = if s.c.den V = 0 then (E.lt0 s.b).den V else (E.lt0 s.a).den V := by
    intro d s hs
    have := spE_ok V d hs
    rw [den_mkLt0 hR hF]
    simp only [E.den]
    refine ⟨trivial, ?_⟩
    rw [this]
    split <;> rfl
  have eq : ∀ (d : E) (s : Sp), spE d = some s → (mkEq0 R F d).den V = (E.eq0 d).den V ∧ (E.eq0 d).den V = if s.c.den V = 0 then (E.eq0 s.b).den V else (E.eq0 s.a).den V := by
    intro d s hs
    have := spE_ok V d hs
    rw [den_mkEq0 hR hF]
    simp only [E.den]
    refine ⟨trivial, ?_⟩
    rw [this]
    split <;> rfl
  have at1 : ∀ d : E, (E.t 1 d (.k 0)).den V = d.den V := fun d => by simp only [E.den]; omega
  unfold spl at h
  split at h
  · split at h
    · rename_i s hs; cases h; exact lt _ s hs
    · cases h
  · split at h
    · rename_i s hs; cases h; exact eq _ s hs
    · cases h
  · split at h
    · rename_i s hs; cases h; rw [at1]; exact lt _ s hs
    · cases h
  · split at h
    · rename_i s hs; cases h; rw [at1]; exact eq _ s hs
    · cases h
  · cases h
noncomputable def forkC (R : Rg) (n : Nat) : E → (Bool → G → Rs α) → G → Rs α :=
  Nat.rec (motive := fun _ => E → (Bool → G → Rs α) → G → Rs α) (fun e kk g => forkB0 R e kk g)
    (fun _ ih e kk g => match spl R g.fs e with
      | some q => q.1.lit (fun m => kk (ife (eqI m 0) false true) g) (ih q.2.c (fun t g => ife t (ih q.2.a kk g) (ih q.2.b kk g)) g)
      | none => forkB0 R e kk g) n
theorem forkC_fs {R : Rg} (hR : R.ok V) : ∀ (n : Nat) (e : E) {g : G} {kk : Bool → G → Rs α} (_ : Fs.ok V g.fs), (forkC R n e kk g).All V p → ∃ fs, Fs.ok V fs ∧ (kk (decide (e.den V ≠ 0)) { g with fs := fs }).All V p
  | 0, e, g, kk, r, h => forkB0_fs hR e r h
  | n + 1, e, g, kk, r, h => by
    change (match spl R g.fs e with
      | some q => q.1.lit (fun m => kk (ife (eqI m 0) false true) g) (forkC R n q.2.c (fun t g => ife t (forkC R n q.2.a kk g) (forkC R n q.2.b kk g)) g)
      | none => forkB0 R e kk g : Rs α).All V p at h
    split at h
    · rename_i q hq
      obtain ⟨h1, h2⟩ := spl_ok hR r hq
      generalize hX : forkC R n q.2.c (fun t g => ife t (forkC R n q.2.a kk g) (forkC R n q.2.b kk g)) g = X at h
      rcases E.lit_cases q.1 (fun m => kk (ife (eqI m 0) false true) g) X with ⟨m, hm, h'⟩ | h' <;> rw [h'] at h
      · rw [ne0_lit] at h
        rw [hm] at h1
        have : m = e.den V := h1
        rw [this] at h
        exact ⟨g.fs, r, h⟩
      · rw [← hX] at h
        obtain ⟨fs, k1, k2⟩ := forkC_fs hR n q.2.c r h
        rw [h2]
        by_cases hc : q.2.c.den V = 0
        · simp only [hc, ne_eq, not_true_eq_false, decide_false, ife_false] at k2
          rw [if_pos hc]
          exact forkC_fs hR n q.2.b (g := { g with fs := fs }) k1 k2
        · simp only [hc, ne_eq, not_false_eq_true, decide_true, ife_true] at k2
          rw [if_neg hc]
          exact forkC_fs hR n q.2.a (g := { g with fs := fs }) k1 k2
    · exact forkB0_fs hR e r h
/-- The same under facts, made anew. -/
noncomputable def E.simp (R : Rg) (F : List E) (e : E) : E :=
  E.rec (motive := fun _ => Rg → List E → E) (fun c _ _ => .k c) (fun c _ _ ia ir R F => (E.smul c (ia R F)).add (ir R F)) (fun i R F => pinE R F (.atom (.var i)))
    (fun _ ie R F => mkLt0 R F (ie R F)) (fun _ ie R F => mkEq0 R F (ie R F)) (fun _ _ _ ic ia ib R F => mkIte (ic R F) (ia R F) (ib R F))
    (fun _ _ ia ib R F => mkMn R F (ia R F) (ib R F)) (fun _ _ ia ib R F => mkMx R F (ia R F) (ib R F)) (fun _ _ ia ib R F => mkMul (ia R F) (ib R F))
    (fun _ d ia R F => ife (leI 1 d) (mkDv R F (ia R F) d) (.atom (.dv (ia R F) d))) (fun _ d ia R F => pinE R F (mkMd R F (ia R F) d)) (fun _ n ia R F => pinE R F (mkShr R (ia R F) n))
    (fun kd _ ia R F => mkWr R F kd (ia R F)) (fun op kd _ _ ia ib R F => pinE R F (mkBit op kd (ia R F) (ib R F))) (fun f _ _ ia ib R F => .atom (.app f (ia R F) (ib R F))) e R F
theorem E.simp_ok {R : Rg} (hR : R.ok V) {F : List E} (hF : Fs.ok V F) : ∀ e : E, (e.simp R F).den V = e.den V := by
  intro e
  induction e with
  | k c => rfl
  | t c a r ia ir => show ((E.smul c (a.simp R F)).add (r.simp R F)).den V = _; rw [E.den_add, E.den_smul, ia, ir]; rfl
  | var i => show (pinE R F (.atom (.var i))).den V = _; rw [den_pinE hR hF, E.den_atom]
  | lt0 e ih => show (mkLt0 R F (e.simp R F)).den V = _; rw [den_mkLt0 hR hF, ih]; rfl
  | eq0 e ih => show (mkEq0 R F (e.simp R F)).den V = _; rw [den_mkEq0 hR hF, ih]; rfl
  | ite c a b ic ia ib => show (mkIte (c.simp R F) (a.simp R F) (b.simp R F)).den V = _; rw [den_mkIte, ic, ia, ib]; rfl
  | mn a b ia ib => show (mkMn R F (a.simp R F) (b.simp R F)).den V = _; rw [den_mkMn hR hF, ia, ib]; rfl
  | mx a b ia ib => show (mkMx R F (a.simp R F) (b.simp R F)).den V = _; rw [den_mkMx hR hF, ia, ib]; rfl
  | mul a b ia ib => show (mkMul (a.simp R F) (b.simp R F)).den V = _; rw [den_mkMul, ia, ib]; rfl
  | dv a d ia =>
    show (ife (leI 1 d) (mkDv R F (a.simp R F) d) (.atom (.dv (a.simp R F) d))).den V = _
    cases h : leI 1 d
    · rw [ife_false, E.den_atom]; simp only [E.den, ia]
    · have := leI_iff.1 h
      rw [ife_true, den_mkDv hR hF _ (by omega), ia]; rfl
  | md a d ia => show (pinE R F (mkMd R F (a.simp R F) d)).den V = _; rw [den_pinE hR hF, den_mkMd hR hF, ia]; rfl
  | shr a n ia => show (pinE R F (mkShr R (a.simp R F) n)).den V = _; rw [den_pinE hR hF, den_mkShr hR, ia]; rfl
  | wr kd a ia => show (mkWr R F kd (a.simp R F)).den V = _; rw [den_mkWr hR hF, ia]; rfl
  | bit op kd a b ia ib => show (pinE R F (mkBit op kd (a.simp R F) (b.simp R F))).den V = _; rw [den_pinE hR hF, den_mkBit, ia, ib]; rfl
  | app f a b ia ib => show (E.atom (.app f (a.simp R F) (b.simp R F))).den V = _; rw [E.den_atom]; simp only [E.den, ia, ib]
noncomputable def orO (a b : Option E) : Option E := match a with | some x => some x | none => b
/-- A test within e, an inner one first. -/
noncomputable def E.pick (e : E) : Option E :=
  E.rec (motive := fun _ => Option E) (fun _ => none) (fun _ _ _ ia ir => orO ia ir) (fun _ => none) (fun e ie => orO ie (some (.lt0 e))) (fun e ie => orO ie (some (.eq0 e)))
    (fun c _ _ ic ia ib => orO ic (orO (some c) (orO ia ib))) (fun _ _ ia ib => orO ia ib) (fun _ _ ia ib => orO ia ib) (fun _ _ ia ib => orO ia ib)
    (fun _ _ ia => ia) (fun _ _ ia => ia) (fun _ _ ia => ia) (fun _ _ ia => ia) (fun _ _ _ _ ia ib => orO ia ib) (fun _ _ _ ia ib => orO ia ib) e
/-- What is known where c is not 0, where it is. -/
noncomputable def E.whenT (R : Rg) (F : List E) (c : E) : List E := match c with
  | .lt0 d => [E.addK (-1) (d.smulG (-1))]
  | .eq0 d => [d, d.smulG (-1)]
  | c => exT R F c
noncomputable def E.whenF (R : Rg) (F : List E) (c : E) : List E := match c with
  | .lt0 d => ife ((d.smulG (-1)).geqN R F) [d, d.smulG (-1)] [d]
  | .eq0 d => exN R F d
  | c => exF c
theorem E.whenT_ok {R : Rg} (hR : R.ok V) {F : List E} (hF : Fs.ok V F) {c : E} (h : c.den V ≠ 0) : ∀ x ∈ c.whenT R F, 0 ≤ x.den V := by
  intro x hx
  unfold E.whenT at hx
  split at hx
  · rename_i d
    have : d.den V < 0 := by rcases Int.lt_or_le (d.den V) 0 with q | q; exact q; exact absurd (if_neg (by omega)) h
    simp only [List.mem_singleton] at hx
    subst hx
    rw [E.den_addK, E.den_smulG]; omega
  · rename_i d
    have : d.den V = 0 := Classical.byContradiction fun q => h (if_neg q)
    simp only [List.mem_cons, List.not_mem_nil, or_false] at hx
    rcases hx with rfl | rfl
    · omega
    · rw [E.den_smulG]; omega
  · exact exT_ok hR hF h x hx
theorem E.whenF_ok {R : Rg} (hR : R.ok V) {F : List E} (hF : Fs.ok V F) {c : E} (h : c.den V = 0) : ∀ x ∈ c.whenF R F, 0 ≤ x.den V := by
  intro x hx
  unfold E.whenF at hx
  split at hx
  · rename_i d
    have h' : (if d.den V < 0 then (1 : Int) else 0) = 0 := h
    have : 0 ≤ d.den V := by rcases Int.lt_or_le (d.den V) 0 with q | q; rw [if_pos q] at h'; omega; exact q
    cases hg : (d.smulG (-1)).geqN R F
    · rw [hg, ife_false, List.mem_singleton] at hx
      subst hx; exact this
    · rw [hg, ife_true] at hx
      simp only [List.mem_cons, List.not_mem_nil, or_false] at hx
      rcases hx with rfl | rfl
      · exact this
      · exact E.geqN_ok hR hF hg
  · rename_i d
    have h' : (if d.den V = 0 then (1 : Int) else 0) = 0 := h
    exact exN_ok hR hF (fun h0 => by rw [if_pos h0] at h'; omega) x hx
  · exact exF_ok h x hx
/-- Is e surely not 0? (The Bool: are there new facts, so that e is to be made anew?) -/
noncomputable def proveC (ih : Bool → List E → E → Bool) (R : Rg) (F : List E) (e : E) : Bool := match e.pick with
  | some c => ife (ih true (lapp (c.whenT R F) F) e) (ih true (lapp (c.whenF R F) F) e) false
  | none => false
noncomputable def proveI (ih : Bool → List E → E → Bool) (R : Rg) (F : List E) (e c a b : E) : Bool :=
  ife (ife b.isK (eqI b.gc 0) false) (ife (ih false F c) (ih false F a) false)
    (ife (ife (ife a.isK (eqI a.gc 0) false) (c.within R 0 1) false) (ife (ih false F (mkNot c)) (ih false F b) false) (proveC ih R F e))
noncomputable def proveS (ih : Bool → List E → E → Bool) (R : Rg) (F : List E) (e : E) : Bool :=
  ife e.isK (ife (eqI e.gc 0) false true) (match iteOf e with
    | some q => proveI ih R F e q.1 q.2.1 q.2.2
    | none => proveC ih R F e)
noncomputable def prove (R : Rg) (n : Nat) : Bool → List E → E → Bool :=
  Nat.rec (motive := fun _ => Bool → List E → E → Bool) (fun _ _ _ => false) (fun _ ih b F e => proveS ih R F (ife b (e.simp R F) e)) n
theorem iteOf_den {x : E} {q : E × E × E} (h : iteOf x = some q) : x.den V = if q.1.den V = 0 then q.2.2.den V else q.2.1.den V := by
  unfold iteOf at h
  split at h
  · injection h with h; subst h; simp only [E.den]; omega
  · cases h
theorem more_ok {F G : List E} (hF : Fs.ok V F) (hG : ∀ x ∈ G, 0 ≤ x.den V) : Fs.ok V (lapp G F) := by
  rw [lapp_eq]
  intro x hx
  rcases List.mem_append.1 hx with hx | hx
  · exact hG x hx
  · exact hF x hx
theorem prove_ok {R : Rg} (hR : R.ok V) : ∀ (n : Nat) {b : Bool} {F : List E} {e : E}, Fs.ok V F → prove R n b F e = true → e.den V ≠ 0
  | 0, _, _, _, _, h => by cases h
  | n + 1, b, F, e, hF, h => by
    have ih : ∀ {b : Bool} {F : List E} {e : E}, Fs.ok V F → prove R n b F e = true → e.den V ≠ 0 := fun hF h => prove_ok hR n hF h
    change proveS (prove R n) R F (ife b (e.simp R F) e) = true at h
    have hden : (ife b (e.simp R F) e).den V = e.den V := by cases b; exact rfl; exact E.simp_ok hR hF e
    rw [← hden]
    generalize ife b (e.simp R F) e = e at h
    have hC : proveC (prove R n) R F e = true → e.den V ≠ 0 := by
      intro h
      unfold proveC at h
      split at h
      · rename_i c _
        cases h1 : prove R n true (lapp (c.whenT R F) F) e
        · rw [h1] at h; cases h
        · rw [h1, ife_true] at h
          by_cases hc : c.den V = 0
          · exact ih (more_ok hF (E.whenF_ok hR hF hc)) h
          · exact ih (more_ok hF (E.whenT_ok hR hF hc)) h1
      · cases h
    unfold proveS at h
    rcases e.isK_cases with ⟨m, rfl, h1, h2⟩ | h1
    · rw [h1, h2, ife_true] at h
      cases h3 : eqI m 0
      · intro h4
        have : m = 0 := h4
        rw [eqI_iff.2 this] at h3; cases h3
      · rw [h3] at h; cases h
    · rw [h1, ife_false] at h
      split at h
      · rename_i q hq
        have hd := iteOf_den (V := V) hq
        unfold proveI at h
        cases hb : ife q.2.2.isK (eqI q.2.2.gc 0) false
        · rw [hb, ife_false] at h
          cases ha : ife (ife q.2.1.isK (eqI q.2.1.gc 0) false) (q.1.within R 0 1) false
          · rw [ha, ife_false] at h; exact hC h
          · rw [ha, ife_true] at h
            have hw : q.1.within R 0 1 = true := by
              cases h5 : ife q.2.1.isK (eqI q.2.1.gc 0) false
              · rw [h5] at ha; cases ha
              · rw [h5] at ha; exact ha
            have hw := E.within_ok hR hw
            cases h5 : prove R n false F (mkNot q.1)
            · rw [h5] at h; cases h
            · rw [h5, ife_true] at h
              have h6 := ih hF h5
              rw [den_mkNot] at h6
              have h7 := ih hF h
              rw [hd, if_pos (by omega)]; exact h7
        · rw [hb, ife_true] at h
          cases h5 : prove R n false F q.1
          · rw [h5] at h; cases h
          · rw [h5, ife_true] at h
            rw [hd, if_neg (ih hF h5)]; exact ih hF h
      · exact hC h
/-- Is it a row of tests, each of which decides? -/
noncomputable def chainE (e : E) : Bool := match iteOf e with | some q => ife q.2.1.isK true q.2.2.isK | none => false
/-- Tests upon sums of numbers alone: nothing more can be told there. -/
noncomputable def flatE (e : E) : Bool :=
  E.rec (motive := fun _ => Bool) (fun _ => true) (fun _ _ _ ia ir => ife ia ir false) (fun _ => true) (fun _ i => i) (fun _ i => i) (fun _ _ _ ic ia ib => ife ic (ife ia ib false) false)
    (fun _ _ _ _ => false) (fun _ _ _ _ => false) (fun _ _ _ _ => false) (fun _ _ _ => false) (fun _ _ _ => false) (fun _ _ _ => false) (fun _ _ _ => false) (fun _ _ _ _ _ _ => false) (fun _ _ _ _ _ => false) e
noncomputable def proveP (R : Rg) (F : List E) (e : E) : Bool := ife (ife (Nat.ble 2000 R.prv) true (flatE e)) false (prove R (Nat.sub R.prv 1000) true F e)
theorem proveP_ok {R : Rg} (hR : R.ok V) {F : List E} {e : E} (hF : Fs.ok V F) (h : proveP R F e = true) : e.den V ≠ 0 := by
  unfold proveP at h
  cases hf : ife (Nat.ble 2000 R.prv) true (flatE e)
  · rw [hf, ife_false] at h; exact prove_ok hR (Nat.sub R.prv 1000) hF h
  · rw [hf] at h; cases h
/-! ### Affine bounds: 2^k x lies near a sum -/
noncomputable def pw (n : Nat) : Int := Int.ofNat (Nat.pow 2 n)
theorem pw_pos (n : Nat) : 0 < pw n := by
  have : 0 < 2 ^ n := Nat.pow_pos (by omega)
  unfold pw; rw [Int.ofNat_eq_natCast]; exact_mod_cast this
theorem pw_eq (n : Nat) : pw n = (2 : Int) ^ n := by unfold pw; rw [Int.ofNat_eq_natCast]; exact Int.natCast_pow 2 n
theorem pw_add (k n : Nat) : pw (k + n) = pw n * pw k := by rw [pw_eq, pw_eq, pw_eq, Int.pow_add, Int.mul_comm]
structure Af where
  k : Nat
  e : E
  lo : Int
  hi : Int
def Af.ok (V : Va) (x : Int) (a : Af) : Prop := a.lo ≤ pw a.k * x - a.e.den V ∧ pw a.k * x - a.e.den V ≤ a.hi
noncomputable def afOf (e : E) : Af := ⟨0, e, 0, 0⟩
theorem afOf_ok (V : Va) (e : E) : (afOf e).ok V (e.den V) := by
  have : pw 0 = 1 := rfl
  unfold Af.ok afOf
  simp only [this]; omega
noncomputable def afUp (n : Nat) (a : Af) : Af := ife (Nat.beq n 0) a ⟨Nat.add a.k n, E.smul (pw n) a.e, mulI (pw n) a.lo, mulI (pw n) a.hi⟩
theorem afUp_ok {x : Int} {a : Af} (h : a.ok V x) (n : Nat) : (afUp n a).ok V x ∧ (afUp n a).k = a.k + n := by
  unfold afUp
  cases hn : Nat.beq n 0
  · refine ⟨?_, rfl⟩
    show mulI (pw n) a.lo ≤ pw (a.k + n) * x - (E.smul (pw n) a.e).den V ∧ pw (a.k + n) * x - (E.smul (pw n) a.e).den V ≤ mulI (pw n) a.hi
    have hp := Int.le_of_lt (pw_pos n)
    have e : pw (a.k + n) * x - (E.smul (pw n) a.e).den V = pw n * (pw a.k * x - a.e.den V) := by rw [pw_add, E.den_smul, Int.mul_sub, Int.mul_assoc]
    rw [e, mulI_eq, mulI_eq]
    exact ⟨Int.mul_le_mul_of_nonneg_left h.1 hp, Int.mul_le_mul_of_nonneg_left h.2 hp⟩
  · have := Nat.eq_of_beq_eq_true hn
    subst this
    exact ⟨h, rfl⟩
noncomputable def afMul (c : Int) (a : Af) : Af := ife (leI 0 c) ⟨a.k, E.smul c a.e, mulI c a.lo, mulI c a.hi⟩ ⟨a.k, E.smul c a.e, mulI c a.hi, mulI c a.lo⟩
theorem afMul_ok {x : Int} {a : Af} (h : a.ok V x) (c : Int) : (afMul c a).ok V (c * x) := by
  have e : pw a.k * (c * x) - (E.smul c a.e).den V = c * (pw a.k * x - a.e.den V) := by rw [E.den_smul, Int.mul_sub, Int.mul_left_comm]
  unfold afMul
  cases hc : leI 0 c
  · have hc := leI_false hc
    show mulI c a.hi ≤ pw a.k * (c * x) - (E.smul c a.e).den V ∧ pw a.k * (c * x) - (E.smul c a.e).den V ≤ mulI c a.lo
    rw [e, mulI_eq, mulI_eq]
    exact ⟨Int.mul_le_mul_of_nonpos_left (by omega) h.2, Int.mul_le_mul_of_nonpos_left (by omega) h.1⟩
  · have hc := leI_iff.1 hc
    show mulI c a.lo ≤ pw a.k * (c * x) - (E.smul c a.e).den V ∧ pw a.k * (c * x) - (E.smul c a.e).den V ≤ mulI c a.hi
    rw [e, mulI_eq, mulI_eq]
    exact ⟨Int.mul_le_mul_of_nonneg_left h.1 hc, Int.mul_le_mul_of_nonneg_left h.2 hc⟩
noncomputable def afAdd0 (a b : Af) : Af := ⟨a.k, a.e.add b.e, addI a.lo b.lo, addI a.hi b.hi⟩
noncomputable def afAdd (a b : Af) : Af := afAdd0 (afUp (Nat.sub b.k a.k) a) (afUp (Nat.sub a.k b.k) b)
theorem afAdd_ok {x y : Int} {a b : Af} (h : a.ok V x) (h' : b.ok V y) : (afAdd a b).ok V (x + y) := by
  obtain ⟨h1, h2⟩ := afUp_ok h (Nat.sub b.k a.k)
  obtain ⟨h3, h4⟩ := afUp_ok h' (Nat.sub a.k b.k)
  unfold afAdd
  generalize afUp (Nat.sub b.k a.k) a = p at h1 h2
  generalize afUp (Nat.sub a.k b.k) b = q at h3 h4
  have hk : p.k = q.k := by rw [h2, h4]; show a.k + (b.k - a.k) = b.k + (a.k - b.k); omega
  unfold Af.ok at h1 h3
  unfold afAdd0 Af.ok
  simp only [addI_eq, E.den_add, Int.mul_add]
  rw [← hk] at h3
  omega
noncomputable def afShr (n : Nat) (a : Af) : Af := ⟨Nat.add a.k n, a.e, addI a.lo (mulI (pw a.k) (snn 1 (Nat.pow 2 n))), a.hi⟩
theorem afShr_ok {x : Int} {a : Af} (h : a.ok V x) (n : Nat) : (afShr n a).ok V (x / (2 ^ n : Int)) := by
  have hp := pw_pos n
  have hk := Int.le_of_lt (pw_pos a.k)
  rw [← pw_eq]
  have h1 := Int.mul_ediv_add_emod x (pw n)
  have h2 := Int.emod_nonneg x (by omega : pw n ≠ 0)
  have h3 := Int.emod_lt_of_pos x hp
  have e : pw (a.k + n) * (x / pw n) = pw a.k * x - pw a.k * (x % pw n) := by
    rw [pw_add, Int.mul_assoc, Int.mul_left_comm, ← Int.mul_sub]; congr 1; omega
  have h4 := Int.mul_nonneg hk h2
  have h5 := Int.mul_le_mul_of_nonneg_left (show x % pw n ≤ pw n - 1 by omega) hk
  have e2 : pw a.k * (1 - pw n) = - (pw a.k * (pw n - 1)) := by rw [← Int.mul_neg]; congr 1; omega
  have h6 := h.1; have h7 := h.2
  show addI a.lo (mulI (pw a.k) (snn 1 (Nat.pow 2 n))) ≤ pw (a.k + n) * (x / pw n) - a.e.den V ∧ pw (a.k + n) * (x / pw n) - a.e.den V ≤ a.hi
  rw [addI_eq, mulI_eq, snn_eq, show ((Nat.pow 2 n : Nat) : Int) = pw n from rfl, show ((1 : Nat) : Int) = 1 from rfl, e, e2]
  omega
noncomputable def afIte0 (a b : Af) (d : E) : Af := ife (sameE a.e b.e) ⟨a.k, a.e, mnI a.lo b.lo, mxI a.hi b.hi⟩ (afOf d)
noncomputable def afIte (a b : Af) (d : E) : Af := afIte0 (afUp (Nat.sub b.k a.k) a) (afUp (Nat.sub a.k b.k) b) d
theorem afIte_ok {x : Int} {a b : Af} {d : E} (hd : d.den V = x) (h : a.ok V x ∨ b.ok V x) : (afIte a b d).ok V x := by
  have ha : (afUp (Nat.sub b.k a.k) a).k = (afUp (Nat.sub a.k b.k) b).k := by
    have k1 : ∀ (n : Nat) (a : Af), (afUp n a).k = a.k + n := fun n a => by
      unfold afUp
      cases hn : Nat.beq n 0
      · rfl
      · have := Nat.eq_of_beq_eq_true hn; subst this; rfl
    rw [k1, k1]; show a.k + (b.k - a.k) = b.k + (a.k - b.k); omega
  have h : (afUp (Nat.sub b.k a.k) a).ok V x ∨ (afUp (Nat.sub a.k b.k) b).ok V x := h.imp (fun h => (afUp_ok h _).1) (fun h => (afUp_ok h _).1)
  unfold afIte
  generalize afUp (Nat.sub b.k a.k) a = p at ha h
  generalize afUp (Nat.sub a.k b.k) b = q at ha h
  unfold afIte0
  cases he : sameE p.e q.e
  · rw [ife_false, ← hd]; exact afOf_ok V d
  · have he := sameE_ok he
    rw [ife_true]
    unfold Af.ok at h ⊢
    rw [← ha, ← he] at h
    have h1 := mnI_le p.lo q.lo; have h2 := le_mxI p.hi q.hi
    simp only
    omega
noncomputable def afLb (R : Rg) (a : Af) : Int := addI (a.e.rng R).1 a.lo / pw a.k
noncomputable def afUb (R : Rg) (a : Af) : Int := addI (a.e.rng R).2 a.hi / pw a.k
theorem afB_ok {R : Rg} (hR : R.ok V) {x : Int} {a : Af} (h : a.ok V x) : afLb R a ≤ x ∧ x ≤ afUb R a := by
  have hr := E.rng_ok hR a.e
  have hp := pw_pos a.k
  unfold Af.ok at h
  unfold afLb afUb
  rw [addI_eq, addI_eq]
  have e : pw a.k * x = x * pw a.k := Int.mul_comm _ _
  refine ⟨?_, (Int.le_ediv_iff_mul_le hp).2 (by omega)⟩
  have h1 := Int.ediv_le_ediv hp (show (a.e.rng R).1 + a.lo ≤ pw a.k * x by omega)
  rw [Int.mul_ediv_cancel_left _ (by omega : pw a.k ≠ 0)] at h1
  exact h1
noncomputable def afMx (R : Rg) (a b : Af) : Af := ⟨0, .k 0, mxI (afLb R a) (afLb R b), mxI (afUb R a) (afUb R b)⟩
theorem afMx_ok {R : Rg} (hR : R.ok V) {x y : Int} {a b : Af} (h : a.ok V x) (h' : b.ok V y) : (afMx R a b).ok V (if y > x then y else x) := by
  have h1 := afB_ok hR h; have h2 := afB_ok hR h'
  have h3 := le_mxI (afUb R a) (afUb R b); have h4 := mxI_or (afLb R a) (afLb R b)
  have e : pw 0 = 1 := rfl
  unfold Af.ok afMx
  simp only [e, E.den]
  split <;> omega
/-- A sum of numbers alone? -/
noncomputable def E.linS (e : E) : Bool :=
  E.rec (motive := fun _ => Bool) (fun _ => true) (fun _ a _ _ ir => E.rec (motive := fun _ => Bool) (fun _ => false) (fun _ _ _ _ _ => false) (fun _ => ir) (fun _ _ => false) (fun _ _ => false) (fun _ _ _ _ _ _ => false) (fun _ _ _ _ => false) (fun _ _ _ _ => false) (fun _ _ _ _ => false) (fun _ _ _ => false) (fun _ _ _ => false) (fun _ _ _ => false) (fun _ _ _ => false) (fun _ _ _ _ _ _ => false) (fun _ _ _ _ _ => false) a)
    (fun _ => false) (fun _ _ => false) (fun _ _ => false) (fun _ _ _ _ _ _ => false) (fun _ _ _ _ => false) (fun _ _ _ _ => false) (fun _ _ _ _ => false) (fun _ _ _ => false) (fun _ _ _ => false) (fun _ _ _ => false) (fun _ _ _ => false) (fun _ _ _ _ _ _ => false) (fun _ _ _ _ _ => false) e
/-- What 1 * e + 0 is. -/
noncomputable def E.bare (e : E) : E := match e with | .t 1 a (.k 0) => a | e => e
theorem E.den_bare (V : Va) (e : E) : e.bare.den V = e.den V := by
  unfold E.bare
  split
  · simp only [E.den]; omega
  · rfl
noncomputable def E.aff (R : Rg) (e : E) : List E → Af :=
  E.rec (motive := fun _ => List E → Af) (fun c _ => ⟨0, .k 0, c, c⟩) (fun c a r ia ir F => ife (E.t c a r).linS (afOf (.t c a r)) (afAdd (afMul c (ia F)) (ir F))) (fun i _ => afOf (.atom (.var i)))
    (fun e _ _ => afOf (.atom (.lt0 e))) (fun e _ _ => afOf (.atom (.eq0 e))) (fun c a b _ ia ib F => afIte (ia (lapp (c.bare.whenT R F) F)) (ib (lapp (c.bare.whenF R F) F)) (.atom (.ite c a b)))
    (fun a b _ _ _ => afOf (.atom (.mn a b))) (fun a b ia ib F => ife ((a.sub b).geq0 R F) (ia F) (ife ((b.sub a).geq0 R F) (ib F) (afMx R (ia F) (ib F)))) (fun a b _ _ _ => afOf (.atom (.mul a b)))
    (fun a d _ _ => afOf (.atom (.dv a d))) (fun a d _ _ => afOf (.atom (.md a d))) (fun _ n ia F => afShr n (ia F)) (fun kd a _ _ => afOf (.atom (.wr kd a))) (fun op kd a b _ _ _ => afOf (.atom (.bit op kd a b))) (fun f a b _ _ _ => afOf (.atom (.app f a b))) e
theorem E.aff_ok {R : Rg} (hR : R.ok V) : ∀ (e : E) {F : List E}, Fs.ok V F → (e.aff R F).ok V (e.den V) := by
  intro e
  have at0 : ∀ e : E, (afOf (.atom e)).ok V (e.den V) := fun e => by have := afOf_ok V (.atom e); rw [E.den_atom] at this; exact this
  induction e with
  | k c =>
    intro F _
    show Af.ok V c ⟨0, .k 0, c, c⟩
    have : pw 0 = 1 := rfl
    unfold Af.ok
    simp only [this, E.den]; omega
  | t c a r ia ir =>
    intro F hF
    show (ife (E.t c a r).linS (afOf (.t c a r)) (afAdd (afMul c (a.aff R F)) (r.aff R F))).ok V _
    cases (E.t c a r).linS
    · exact afAdd_ok (afMul_ok (ia hF) c) (ir hF)
    · exact afOf_ok V _
  | ite c a b _ ia ib =>
    intro F hF
    show (afIte (a.aff R (lapp (c.bare.whenT R F) F)) (b.aff R (lapp (c.bare.whenF R F) F)) (.atom (.ite c a b))).ok V _
    refine afIte_ok (E.den_atom V _) ?_
    simp only [E.den]
    rw [← E.den_bare V c]
    by_cases hc : c.bare.den V = 0
    · rw [if_pos hc]; exact .inr (ib (more_ok hF (E.whenF_ok hR hF hc)))
    · rw [if_neg hc]; exact .inl (ia (more_ok hF (E.whenT_ok hR hF hc)))
  | mx a b ia ib =>
    intro F hF
    show (ife ((a.sub b).geq0 R F) (a.aff R F) (ife ((b.sub a).geq0 R F) (b.aff R F) (afMx R (a.aff R F) (b.aff R F)))).ok V _
    simp only [E.den]
    cases h1 : (a.sub b).geq0 R F
    · rw [ife_false]
      cases h2 : (b.sub a).geq0 R F
      · exact afMx_ok hR (ia hF) (ib hF)
      · have h3 := E.geq0_ok hR hF h2
        rw [E.den_sub] at h3
        have : (if b.den V > a.den V then b.den V else a.den V) = b.den V := by split <;> omega
        rw [ife_true, this]; exact ib hF
    · have h3 := E.geq0_ok hR hF h1
      rw [E.den_sub] at h3
      have : (if b.den V > a.den V then b.den V else a.den V) = a.den V := by split <;> omega
      rw [ife_true, this]; exact ia hF
  | shr a n ia => intro F hF; exact afShr_ok (ia hF) n
  | _ => intro F _; exact at0 _
/-- Surely not below 0. -/
noncomputable def E.affB (R : Rg) (F : List E) (d : E) : Bool := leI 0 (afLb R (d.aff R F))
theorem E.affB_ok {R : Rg} (hR : R.ok V) {F : List E} (hF : Fs.ok V F) {d : E} (h : d.affB R F = true) : 0 ≤ d.den V := by
  have h1 := leI_iff.1 h
  have h2 := (afB_ok hR (E.aff_ok hR d hF)).1
  omega
/-- A test that is surely not so. -/
noncomputable def affNo (R : Rg) (F : List E) (e : E) : Bool := match e with
  | .lt0 d => d.affB R F
  | .t 1 (.lt0 d) (.k 0) => d.affB R F
  | _ => false
theorem affNo_ok {R : Rg} (hR : R.ok V) {F : List E} (hF : Fs.ok V F) {e : E} (h : affNo R F e = true) : e.den V = 0 := by
  unfold affNo at h
  split at h
  · have := E.affB_ok hR hF h
    simp only [E.den]; rw [if_neg (by omega)]
  · have := E.affB_ok hR hF h
    simp only [E.den]; rw [if_neg (by omega)]; rfl
  · cases h
/-- A test that can be proved or refuted by telling its tests apart forks not. -/
noncomputable def forkP0 (R : Rg) (e : E) (kk : Bool → G → Rs α) (g : G) : Rs α :=
  ife ((E.addK (-1) e).geq0 R g.fs) (kk true g) (ife (ife ((e.smulG (-1)).geq0 R g.fs) (e.geq0 R g.fs) false) (kk false g)
    (ife (ife (e.within R 0 1) (proveP R g.fs (mkNot e)) false) (kk false g) (ife (proveP R g.fs e) (kk true g)
      (ife (chainE e) (forkE R e kk g (exT R g.fs e) (exF e)) (forkB0 R e kk g)))))
theorem forkP0_fs {R : Rg} (hR : R.ok V) (e : E) {g : G} {kk : Bool → G → Rs α} (r : Fs.ok V g.fs) (h : (forkP0 R e kk g).All V p) : ∃ fs, Fs.ok V fs ∧ (kk (decide (e.den V ≠ 0)) { g with fs := fs }).All V p := by
  unfold forkP0 at h
  cases h5 : (E.addK (-1) e).geq0 R g.fs
  · rw [h5, ife_false] at h
    cases h6 : ife ((e.smulG (-1)).geq0 R g.fs) (e.geq0 R g.fs) false
    · rw [h6, ife_false] at h
      cases h1 : ife (e.within R 0 1) (proveP R g.fs (mkNot e)) false
      · rw [h1, ife_false] at h
        cases h2 : proveP R g.fs e
        · rw [h2, ife_false] at h
          cases h7 : chainE e
          · rw [h7, ife_false] at h; exact forkB0_fs hR e r h
          · rw [h7, ife_true] at h
            exact forkE_fs hR r (fun hd => exT_ok hR r hd) (fun hd => exF_ok hd) h
        · rw [h2, ife_true] at h
          have := proveP_ok hR r h2
          refine ⟨g.fs, r, ?_⟩
          rw [decide_eq_true this]; exact h
      · rw [h1, ife_true] at h
        cases hw : e.within R 0 1
        · rw [hw] at h1; cases h1
        · rw [hw, ife_true] at h1
          have h3 := proveP_ok hR r h1
          rw [den_mkNot] at h3
          have h4 := E.within_ok hR hw
          refine ⟨g.fs, r, ?_⟩
          rw [decide_eq_false (show ¬ e.den V ≠ 0 from fun h5 => by omega)]; exact h
    · rw [h6, ife_true] at h
      have h0 : e.den V = 0 := by
        cases h8 : (e.smulG (-1)).geq0 R g.fs
        · rw [h8] at h6; cases h6
        · rw [h8, ife_true] at h6
          have a := E.geq0_ok hR r h8; have b := E.geq0_ok hR r h6
          rw [E.den_smulG] at a; omega
      refine ⟨g.fs, r, ?_⟩
      rw [decide_eq_false (show ¬ e.den V ≠ 0 from fun q => q h0)]; exact h
  · rw [h5, ife_true] at h
    have a := E.geq0_ok hR r h5
    rw [E.den_addK] at a
    refine ⟨g.fs, r, ?_⟩
    rw [decide_eq_true (show e.den V ≠ 0 by omega)]; exact h
noncomputable def forkP (R : Rg) (e : E) (kk : Bool → G → Rs α) (g : G) : Rs α := ife (ife (Nat.ble 2000 R.prv) (affNo R g.fs e) false) (kk false g) (forkP0 R e kk g)
theorem forkP_fs {R : Rg} (hR : R.ok V) (e : E) {g : G} {kk : Bool → G → Rs α} (r : Fs.ok V g.fs) (h : (forkP R e kk g).All V p) : ∃ fs, Fs.ok V fs ∧ (kk (decide (e.den V ≠ 0)) { g with fs := fs }).All V p := by
  unfold forkP at h
  cases h1 : ife (Nat.ble 2000 R.prv) (affNo R g.fs e) false
  · rw [h1, ife_false] at h; exact forkP0_fs hR e r h
  · rw [h1, ife_true] at h
    cases h2 : Nat.ble 2000 R.prv
    · rw [h2] at h1; cases h1
    · rw [h2, ife_true] at h1
      have h3 := affNo_ok hR r h1
      refine ⟨g.fs, r, ?_⟩
      rw [decide_eq_false (show ¬ e.den V ≠ 0 from fun q => q h3)]; exact h
noncomputable def forkB (R : Rg) (e : E) (kk : Bool → G → Rs α) (g : G) : Rs α := ife e.isK (kk (ife (eqI e.gc 0) false true) g) (ife R.spl (forkC R 120 e kk g) (ife (Nat.ble 1000 R.prv) (forkP R e kk g) (forkB0 R e kk g)))
theorem forkB_fs {R : Rg} (hR : R.ok V) (e : E) {g : G} {kk : Bool → G → Rs α} (r : Fs.ok V g.fs) (h : (forkB R e kk g).All V p) : ∃ fs, Fs.ok V fs ∧ (kk (decide (e.den V ≠ 0)) { g with fs := fs }).All V p := by
  unfold forkB at h
  rcases e.isK_cases with ⟨n, rfl, h1, h2⟩ | h1
  · rw [h1, h2, ife_true, ne0_lit] at h; exact ⟨g.fs, r, h⟩
  · rw [h1, ife_false] at h
    cases hs : R.spl
    · rw [hs, ife_false] at h
      cases hp : Nat.ble 1000 R.prv
      · rw [hp, ife_false] at h; exact forkB0_fs hR e r h
      · rw [hp, ife_true] at h; exact forkP_fs hR e r h
    · rw [hs, ife_true] at h; exact forkC_fs hR _ e r h
theorem forkB_ok {R : Rg} (hR : R.ok V) (e : E) {g : G} {kk : Bool → G → Rs α} (r : Grel V N W0 g w) (h : (forkB R e kk g).All V p) : ∃ g', Knows V N W0 w g g' ∧ (kk (decide (e.den V ≠ 0)) g').All V p := by
  obtain ⟨fs, h1, h2⟩ := forkB_fs hR e r.facts h
  exact ⟨_, Knows.fs r h1, h2⟩
/-- Upon an abstract bool. -/
noncomputable def onBool (R : Rg) (x : AV) (g : G) (kk : Bool → G → Rs α) : Rs α := match x with | .bool e => forkB R e kk g | _ => .bad 200
theorem onBool_ok {R : Rg} (hR : R.ok V) (r : Grel V N W0 g w) {x : AV} {v : Value} {kk : Bool → G → Rs α} (hx : x.rel V N v) (h : (onBool R x g kk).All V p) :
    ∃ b g', v = .bool b ∧ Knows V N W0 w g g' ∧ (kk b g').All V p := by
  unfold onBool at h
  split at h
  · rename_i e
    obtain ⟨b, rfl, s⟩ := says_of_rel hx
    obtain ⟨g', h1, h2⟩ := forkB_ok hR e r h
    refine ⟨b, g', rfl, h1, ?_⟩
    unfold Says at s
    rw [s] at h2
    cases b <;> simpa using h2
  · exact h.elim
theorem boolK_rel (b : Bool) : (AV.bool (.k (ife b 1 0))).rel V N (.bool b) := by cases b <;> simp [AV.rel, E.den]

/-! ### Operands and slots -/
noncomputable def aev (nt : Nat) (tm : PT) (x : Operand) : AV :=
  Operand.rec (motive := fun _ => Nat → PT → AV) (fun t nt tm => ife (Nat.ble (Nat.succ t) nt) (tm.get t) .top) (fun v _ _ => (ofVal v).self) (fun _ _ _ => .top) (fun f _ _ => .func f [] []) x nt tm
theorem aev_ok {nt d : Nat} {tm : PT} {a : Act} (h : Trel V N nt d tm a.tmps) (x : Operand) : (aev nt tm x).rel V N (a.eval x) := by
  cases x with
  | tmp t =>
    show (ife (Nat.ble (Nat.succ t) nt) (tm.get t) .top).rel V N (a.tmps.getD t undef)
    cases hb : Nat.ble (Nat.succ t) nt
    · simp only [ife_false, AV.rel]
    · exact h.rel t (Nat.le_of_ble_eq_true hb)
  | const v => show (ofVal v).self.rel V N _; rw [AV.self_eq]; exact ofVal_rel V N v
  | global _ => show AV.top.rel V N _; simp only [AV.rel]
  | func f => show (AV.func f [] []).rel V N _; simp only [AV.rel, Act.eval]; exact ⟨#[], #[], rfl, by simp [rels_nil], by simp [rels_nil]⟩
noncomputable def aevs (nt : Nat) (tm : PT) (l : List Operand) : List AV := List.rec (motive := fun _ => List AV) [] (fun x _ ih => aev nt tm x :: ih) l
theorem aevs_ok {nt d : Nat} {tm : PT} {a : Act} (h : Trel V N nt d tm a.tmps) : ∀ l : List Operand, AV.rels V N (aevs nt tm l) (l.map a.eval)
  | [] => rels_nil.2 rfl
  | x :: l => rels_cons' (aev_ok h x) (aevs_ok h l)
noncomputable def aput (nt : Nat) (tm : PT) (dst : Option Tmp) (x : AV) : PT :=
  Option.rec (motive := fun _ => Nat → PT → AV → PT) (fun _ tm _ => tm) (fun t nt tm x => ife (Nat.ble (Nat.succ t) nt) (PT.set x tm t) tm) dst nt tm x
theorem aput_ok {nt d : Nat} {tm : PT} {a : Act} (h : Trel V N nt d tm a.tmps) {x : AV} {v : Value} (hx : x.rel V N v) (dst : Option Tmp) : Trel V N nt d (aput nt tm dst x) (a.put dst v).tmps := by
  cases dst with
  | none => exact h
  | some t =>
    show Trel V N nt d (ife (Nat.ble (Nat.succ t) nt) (PT.set x tm t) tm) (a.tmps.setIfInBounds t v)
    cases hb : Nat.ble (Nat.succ t) nt
    · have : ¬ t < nt := fun h' => by rw [Nat.ble_eq_true_of_le h'] at hb; cases hb
      have e : a.tmps.setIfInBounds t v = a.tmps := by
        apply Array.ext_getElem?
        intro i
        rw [Array.getElem?_setIfInBounds]
        split
        · rename_i he; subst he
          rw [h.size, if_neg this]; exact (Array.getElem?_eq_none (by rw [h.size]; exact Nat.le_of_not_lt this)).symm
        · rfl
      rw [e]; exact h
    · exact h.put hx (Nat.le_of_ble_eq_true hb)
/-- The slot of an operand, known to hold a bool now. -/
noncomputable def aknow (nt : Nat) (tm : PT) (x : Operand) (b : Bool) : PT := match x with
  | .tmp t => ife (Nat.ble (Nat.succ t) nt) (PT.set (.bool (.k (ife b 1 0))) tm t) tm
  | _ => tm
theorem aknow_ok {nt d : Nat} {tm : PT} {a : Act} (h : Trel V N nt d tm a.tmps) {x : Operand} {b : Bool} (hx : a.eval x = .bool b) : Trel V N nt d (aknow nt tm x b) a.tmps := by
  unfold aknow
  split
  · rename_i t
    cases hb : Nat.ble (Nat.succ t) nt
    · exact h
    · have hlt : t < nt := Nat.le_of_ble_eq_true hb
      have hx' : a.tmps.getD t undef = .bool b := hx
      have e : a.tmps.setIfInBounds t (.bool b) = a.tmps := by
        apply Array.ext_getElem?
        intro i
        rw [Array.getElem?_setIfInBounds]
        split
        · rename_i he; subst he
          rw [h.size, if_pos hlt]
          have : t < a.tmps.size := by rw [h.size]; exact hlt
          rw [Array.getD_eq_getD_getElem?, Array.getElem?_eq_getElem this] at hx'
          rw [Array.getElem?_eq_getElem this]; simpa using hx'.symm
        · rfl
      have := h.put (boolK_rel (V := V) (N := N) b) hlt
      rw [e] at this; exact this
  · exact h
end
end Go.RX
