/- RX, part 9: arithmetic, comparisons, conversions; maps without entries. -/
import Derived.Test.YtoheklommpochaaRxB
import Derived.Laws.BytesString
namespace Go.RX
section
variable {P : Program} {α : Type} {V : Va} {W0 : World} {N : Env} {g : G} {p : α → Prop} {k : AV → G → Rs α} {w : World}

/-- e says the Bool b. -/
def Says (V : Va) (e : E) (b : Bool) : Prop := e.den V = if b then 1 else 0
theorem Says.rel {e : E} {b : Bool} (h : Says V e b) : (AV.bool e).rel V N (.bool b) := by
  simp only [AV.rel]
  cases b
  · exact .inl ⟨h, rfl⟩
  · exact .inr ⟨h, rfl⟩
theorem says_of_rel {e : E} {v : Value} (h : (AV.bool e).rel V N v) : ∃ b, v = .bool b ∧ Says V e b := by
  simp only [AV.rel] at h
  rcases h with ⟨h1, rfl⟩ | ⟨h1, rfl⟩
  · exact ⟨false, rfl, h1⟩
  · exact ⟨true, rfl, h1⟩
theorem says_and {a b : E} {x y : Bool} (h : Says V a x) (h' : Says V b y) : Says V (mkIte a b (.k 0)) (x && y) := by
  unfold Says at *
  rw [den_mkIte, h]
  cases x
  · simp [E.den]
  · simpa using h'
theorem says_not {a : E} {x : Bool} (h : Says V a x) : Says V (mkNot a) (!x) := by
  unfold Says at *
  rw [den_mkNot, h]
  cases x <;> simp
theorem says_eq {R : Rg} {F : List E} (hR : R.ok V) (hF : Fs.ok V F) (a b : E) : Says V (mkEq0 R F (a.sub b)) (a.den V == b.den V) := by
  unfold Says
  rw [den_mkEq0 hR hF, E.den_sub]
  by_cases h : a.den V = b.den V
  · rw [if_pos (by omega)]; simp [h]
  · rw [if_neg (by omega)]; simp [h]
theorem says_eqB {R : Rg} {F : List E} (hR : R.ok V) (hF : Fs.ok V F) {a b : E} {x y : Bool} (h : Says V a x) (h' : Says V b y) : Says V (mkEq0 R F (a.sub b)) (x == y) := by
  have := says_eq hR hF a b
  rw [h, h'] at this
  cases x <;> cases y <;> simpa using this

/-! ### == at a type -/
variable (P) in
noncomputable def aEq (R : Rg) (F : List E) : Nat → TypeId → AV → AV → Option E
  | 0, _, _, _ => none
  | d + 1, t, x, y => match P.underlying t with
    | some .bool => match x, y with | .bool a, .bool b => some (mkEq0 R F (a.sub b)) | _, _ => none
    | some (.int _) => match x, y with | .int ka a, .int kb b => ife (Nat.beq (IntKind.no ka) (IntKind.no kb)) (some (mkEq0 R F (a.sub b))) none | _, _ => none
    | some (.struct fs) => match x, y with
      | .agg xs, .agg ys => ife (P.stoodInHeld t) none (fs.toList.foldr (fun f acc => ife (decide (f.name ≠ "_")) (match partOf P f.type xs f.offset, partOf P f.type ys f.offset with
          | some a, some b => match aEq R F d f.type a b, acc with | some e, some r => some (mkIte e r (.k 0)) | _, _ => none
          | _, _ => none) acc) (some (.k 1)))
      | _, _ => none
    | some (.array len elem) => match x, y, P.info? elem with
      | .agg xs, .agg ys, some i => (List.range' 0 len).foldr (fun j acc => match partOf P elem xs (j * i.size), partOf P elem ys (j * i.size) with
          | some a, some b => match aEq R F d elem a b, acc with | some e, some r => some (mkIte e r (.k 0)) | _, _ => none
          | _, _ => none) (some (.k 1))
      | _, _, _ => none
    | some (.pointer _) => match x, y with | .nilptr, .nilptr => some (.k 1) | .nilptr, .ptr _ _ => some (.k 0) | .ptr _ _, .nilptr => some (.k 0) | _, _ => none
    | some (.slice _) => match x, y with | .nilslice, .nilslice => some (.k 1) | .nilslice, .slice _ _ _ _ => some (.k 0) | .slice _ _ _ _, .nilslice => some (.k 0) | _, _ => none
    | some (.func _ _ _) => match x, y with | .nilfunc, .nilfunc => some (.k 1) | .nilfunc, .func _ _ _ => some (.k 0) | .func _ _ _, .nilfunc => some (.k 0) | _, _ => none
    | _ => none
theorem aEq_ok {R : Rg} {F : List E} (hR : R.ok V) (hF : Fs.ok V F) (w : World) : ∀ (d : Nat) (t : TypeId) (x y : AV) (e : E) (v u : Value), aEq P R F d t x y = some e → x.rel V N v → y.rel V N u →
    ∀ D, d ≤ D → ∃ b, (Op.equalIn D t v u).run P w = .ok b w ∧ Says V e b := by
  intro d
  induction d with
  | zero => intro t x y e v u h; simp [aEq] at h
  | succ d ih =>
    intro t x y e v u h hx hy D hD
    obtain ⟨D, rfl⟩ : ∃ D', D = D' + 1 := ⟨D - 1, by omega⟩
    simp only [aEq] at h
    split at h
    · rename_i ht
      split at h
      · rename_i a b
        injection h with h; subst h
        obtain ⟨x', rfl, hx'⟩ := says_of_rel hx
        obtain ⟨y', rfl, hy'⟩ := says_of_rel hy
        exact ⟨x' == y', by simp [Op.equalIn, run_underlying ht], says_eqB hR hF hx' hy'⟩
      · cases h
    · rename_i kt ht
      split at h
      · rename_i ka a kb b
        cases hk : Nat.beq (IntKind.no ka) (IntKind.no kb)
        · rw [hk] at h; cases h
        · rw [hk] at h
          injection h with h; subst h
          have hk := IntKind.no_inj (Nat.eq_of_beq_eq_true hk); subst hk
          simp only [AV.rel] at hx hy
          subst hx hy
          exact ⟨a.den V == b.den V, by simp [Op.equalIn, run_underlying ht], says_eq hR hF a b⟩
      · cases h
    · rename_i fs ht
      split at h
      · rename_i xs ys
        simp only [AV.rel] at hx hy
        obtain ⟨xv, rfl, hxs⟩ := hx
        obtain ⟨yv, rfl, hys⟩ := hy
        cases hp : P.stoodInHeld t
        · rw [hp] at h
          simp only [ife_false] at h
          have hfs : P.fieldsOf t = fs := by simp [Program.fieldsOf, ht]
          rw [run_equalIn_struct w D t xv yv (by rw [hfs]; exact ht) hp, hfs]
          generalize fs.toList = l at h
          clear ht hfs
          induction l generalizing e with
          | nil => simp at h; subst h; exact ⟨true, by simp [Op.eqFields], rfl⟩
          | cons f l ihl =>
            simp only [List.foldr_cons] at h
            by_cases hn : f.name ≠ "_"
            · rw [show decide (f.name ≠ "_") = true from by simp [hn]] at h
              simp only [ife_true] at h
              split at h
              · rename_i a b ha hb
                split at h
                · rename_i e1 r he hr
                  injection h with h; subst h
                  obtain ⟨av, ra, hav⟩ := partOf_ok hxs ha w
                  obtain ⟨bv, rb, hbv⟩ := partOf_ok hys hb w
                  obtain ⟨b1, h1, s1⟩ := ih _ _ _ _ _ _ he hav hbv D (by omega)
                  obtain ⟨b2, h2, s2⟩ := ihl _ hr
                  refine ⟨b1 && b2, ?_, says_and s1 s2⟩
                  simp only [Op.eqFields, hn, if_true, Sem.run_bind, ra, rb, Result.andThen_ok, h1, ne_eq, not_false_eq_true]
                  cases b1
                  · simp
                  · simpa using h2
                · cases h
              · cases h
            · rw [show decide (f.name ≠ "_") = false from by simpa using hn] at h
              simp only [ife_false] at h
              obtain ⟨b2, h2, s2⟩ := ihl _ h
              refine ⟨b2, ?_, s2⟩
              simp only [Op.eqFields, hn, if_false]
              exact h2
        · rw [hp] at h; cases h
      · cases h
    · rename_i len elem ht
      split at h
      · rename_i xs ys i hi
        simp only [AV.rel] at hx hy
        obtain ⟨xv, rfl, hxs⟩ := hx
        obtain ⟨yv, rfl, hys⟩ := hy
        simp only [Op.equalIn, Sem.run_bind, run_underlying ht, Result.andThen_ok, run_sizeOf hi, Std.Legacy.Range.forIn_eq_forIn_range', Std.Legacy.Range.size, Nat.sub_zero, Nat.add_sub_cancel, Nat.div_one]
        generalize List.range' 0 len = l at h
        clear ht
        induction l generalizing e with
        | nil => simp at h; subst h; exact ⟨true, by simp, rfl⟩
        | cons j l ihl =>
          simp only [List.foldr_cons] at h
          split at h
          · rename_i a b ha hb
            split at h
            · rename_i e1 r he hr
              injection h with h; subst h
              obtain ⟨av, ra, hav⟩ := partOf_ok hxs ha w
              obtain ⟨bv, rb, hbv⟩ := partOf_ok hys hb w
              obtain ⟨b1, h1, s1⟩ := ih _ _ _ _ _ _ he hav hbv D (by omega)
              obtain ⟨b2, h2, s2⟩ := ihl _ hr
              refine ⟨b1 && b2, ?_, says_and s1 s2⟩
              simp only [List.forIn_cons, Sem.run_bind, ra, rb, Result.andThen_ok, h1]
              cases b1
              · simp
              · simpa using h2
            · cases h
          · cases h
      · cases h
    · rename_i el ht
      split at h
      · injection h with h; subst h
        simp only [AV.rel] at hx hy; subst hx hy
        exact ⟨true, by simp [Op.equalIn, run_underlying ht], rfl⟩
      · injection h with h; subst h
        simp only [AV.rel] at hx hy; subst hx; obtain ⟨b, _, rfl⟩ := hy
        exact ⟨false, by simp [Op.equalIn, run_underlying ht], rfl⟩
      · injection h with h; subst h
        simp only [AV.rel] at hx hy; subst hy; obtain ⟨b, _, rfl⟩ := hx
        exact ⟨false, by simp [Op.equalIn, run_underlying ht], rfl⟩
      · cases h
    · rename_i el ht
      split at h
      · injection h with h; subst h
        simp only [AV.rel] at hx hy; subst hx hy
        exact ⟨true, by simp [Op.equalIn, run_underlying ht], rfl⟩
      · injection h with h; subst h
        simp only [AV.rel] at hx hy; subst hx; obtain ⟨b, c, _, rfl, _⟩ := hy
        exact ⟨false, by simp [Op.equalIn, run_underlying ht], rfl⟩
      · injection h with h; subst h
        simp only [AV.rel] at hx hy; subst hy; obtain ⟨b, c, _, rfl, _⟩ := hx
        exact ⟨false, by simp [Op.equalIn, run_underlying ht], rfl⟩
      · cases h
    · rename_i ps rs vv ht
      split at h
      · injection h with h; subst h
        simp only [AV.rel] at hx hy; subst hx hy
        exact ⟨true, by simp [Op.equalIn, run_underlying ht], rfl⟩
      · injection h with h; subst h
        simp only [AV.rel] at hx hy; subst hx; obtain ⟨a, b, rfl, _⟩ := hy
        exact ⟨false, by simp [Op.equalIn, run_underlying ht], rfl⟩
      · injection h with h; subst h
        simp only [AV.rel] at hx hy; subst hy; obtain ⟨a, b, rfl, _⟩ := hx
        exact ⟨false, by simp [Op.equalIn, run_underlying ht], rfl⟩
      · cases h
    · cases h
end
end Go.RX
