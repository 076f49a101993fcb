/- RX, part 13: joins of values; values that all worlds share. -/
import Derived.Test.YtoheklommpochaaRxY
namespace Go.RX
/-! ### Values without pointers -/
noncomputable def allL (f : AV → Bool) (l : List AV) : Bool := List.rec (motive := fun _ => Bool) true (fun x _ ih => ife (f x) ih false) l
noncomputable def AV.pure (n : Nat) : AV → Bool :=
  Nat.rec (motive := fun _ => AV → Bool) (fun _ => false) (fun _ ih a => match a with
    | .int _ _ => true
    | .bool _ => true
    | .nilptr => true
    | .nilslice => true
    | .nilfunc => true
    | .xsl id _ => Nat.ble id 15
    | .aptr _ _ => true
    | .agg cs => allL ih cs
    | .tup cs => allL ih cs
    | .str cs => allL ih cs
    | _ => false) n
/-- All numbers are literal. -/
noncomputable def AV.lits (n : Nat) : AV → Bool :=
  Nat.rec (motive := fun _ => AV → Bool) (fun _ => false) (fun _ ih a => match a with
    | .int _ (.k _) => true
    | .bool (.k _) => true
    | .nilptr => true
    | .nilslice => true
    | .nilfunc => true
    | .agg cs => allL ih cs
    | .tup cs => allL ih cs
    | .str cs => allL ih cs
    | _ => false) n
section
variable {V : Va} {N N' : Env}
theorem rels_pure {f : AV → Bool} (hf : ∀ a v, f a = true → a.rel V N v → a.rel V N' v) : ∀ (l : List AV) (vs : List Value), allL f l = true → AV.rels V N l vs → AV.rels V N' l vs
  | [], vs, _, h => rels_nil.2 (rels_nil.1 h)
  | a :: l, vs, h, h' => by
    obtain ⟨v, vs, rfl, h1, h2⟩ := rels_cons.1 h'
    change ife (f a) (allL f l) false = true at h
    cases ha : f a
    · rw [ha] at h; cases h
    · rw [ha] at h
      exact rels_cons' (hf a v ha h1) (rels_pure hf l vs h h2)
theorem AV.rel_pure : ∀ (n : Nat) (a : AV) (v : Value), a.pure n = true → a.rel V N v → a.rel V N' v
  | 0, _, _, h, _ => by cases h
  | n + 1, a, v, h, h' => by
    cases a with
    | agg cs =>
      simp only [AV.rel] at h' ⊢
      obtain ⟨x, e, h1⟩ := h'
      exact ⟨x, e, rels_pure (AV.rel_pure n) cs _ h h1⟩
    | tup cs =>
      simp only [AV.rel] at h' ⊢
      obtain ⟨x, e, h1⟩ := h'
      exact ⟨x, e, rels_pure (AV.rel_pure n) cs _ h h1⟩
    | str cs =>
      simp only [AV.rel] at h' ⊢
      obtain ⟨x, e, h1⟩ := h'
      exact ⟨x, e, rels_pure (AV.rel_pure n) cs _ h h1⟩
    | int _ _ => exact h'
    | bool _ => exact h'
    | nilptr => exact h'
    | nilslice => exact h'
    | nilfunc => exact h'
    | xsl id _ =>
      have hid := Nat.le_of_ble_eq_true (show Nat.ble id 15 = true from h)
      simp only [AV.rel] at h' ⊢
      obtain ⟨A, m, c, k1, k2, k3, k4, _⟩ := h'
      exact ⟨A, m, c, k1, k2, k3, k4, fun h16 => by omega⟩
    | aptr _ _ => simp only [AV.rel] at h' ⊢; exact h'
    | _ => cases h
end

/-! ### Joins -/
section
variable {V : Va} {N : Env}
/-- The value of a tree of results, each let in by ok. -/
noncomputable def Rs.join (ok : AV → Bool) (t : Rs AV) : Option AV :=
  Rs.rec (motive := fun _ => Option AV) (fun _ => none) (fun a => ife (ok a) (some a) none)
    (fun c _ _ ix iy => match ix, iy with
      | some x, some y => mrg c 6 x y
      | _, _ => none) (fun _ _ _ _ => none) t
noncomputable def Rs.at (V : Va) : Rs AV → Option AV
  | .leaf a => some a
  | .fork c x y => if c.den V = 0 then y.at V else x.at V
  | _ => none
theorem Rs.join_ok {ok : AV → Bool} : ∀ (t : Rs AV) {m : AV}, t.join ok = some m → t.All V (fun a => t.at V = some a) ∧
    ∀ (a : AV), t.at V = some a → ∀ (N N' : Env) (v : Value), (∀ x, ok x = true → x.rel V N v → x.rel V N' v) → a.rel V N v → m.rel V N' v
  | .bad _, m, h => by cases h
  | .leaf a, m, h => by
    change ife (ok a) (some a) none = some m at h
    cases hp : ok a
    · rw [hp] at h; cases h
    · rw [hp] at h; cases h
      refine ⟨rfl, fun b hb N N' v hx hv => ?_⟩
      cases hb
      exact hx _ hp hv
  | .both _ _, m, h => by cases h
  | .fork c x y, m, h => by
    change (match x.join ok, y.join ok with
      | some x, some y => mrg c 6 x y
      | _, _ => none) = some m at h
    split at h
    · rename_i x' y' hx hy
      have ix := Rs.join_ok x hx
      have iy := Rs.join_ok y hy
      have hm := mrg_ok (V := V) 6 _ _ _ h
      by_cases hc : c.den V = 0
      · refine ⟨?_, fun a ha N N' v ho hv => ?_⟩
        · simp only [Rs.All, Rs.at, if_pos hc]; exact iy.1
        · simp only [Rs.at, if_pos hc] at ha
          exact hm N' v (by rw [if_pos hc]; exact iy.2 a ha N N' v ho hv)
      · refine ⟨?_, fun a ha N N' v ho hv => ?_⟩
        · simp only [Rs.All, Rs.at, if_neg hc]; exact ix.1
        · simp only [Rs.at, if_neg hc] at ha
          exact hm N' v (by rw [if_neg hc]; exact ix.2 a ha N N' v ho hv)
    · cases h
end

/-! ### Values that all worlds share -/
/-- The number is no new one. -/
noncomputable def oldId (lo hi id : Nat) : Bool := ife (Nat.ble (Nat.succ id) lo) true (Nat.ble hi id)
def Cap.sure : Cap → Bool
  | .any => false
  | _ => true
noncomputable def AV.tight (lo hi : Nat) (n : Nat) : AV → Bool :=
  Nat.rec (motive := fun _ => AV → Bool) (fun _ => false) (fun _ ih a => match a with
    | .int _ _ => true
    | .bool _ => true
    | .ptr id _ => oldId lo hi id
    | .nilptr => true
    | .slice id _ _ k => ife (oldId lo hi id) k.sure false
    | .nilslice => true
    | .xsl _ _ => false
    | .aptr _ _ => true
    | .sptr id _ _ _ _ => oldId lo hi id
    | .map id => oldId lo hi id
    | .func _ fi ca => ife (allL ih fi) (allL ih ca) false
    | .nilfunc => true
    | .agg cs => allL ih cs
    | .tup cs => allL ih cs
    | .str cs => allL ih cs
    | .top => false) n
section
variable {V : Va} {N N' : Env}
theorem oldId_ok {lo hi id : Nat} (h : oldId lo hi id = true) : ¬ (lo ≤ id ∧ id < hi) := by
  unfold oldId at h
  cases h1 : Nat.ble (Nat.succ id) lo
  · rw [h1] at h
    have := Nat.le_of_ble_eq_true h; omega
  · have := Nat.le_of_ble_eq_true h1; omega
theorem AV.tight_old {lo hi : Nat} (hN : ∀ id, ¬ (lo ≤ id ∧ id < hi) → N'.b id = N.b id ∧ N'.c id = N.c id) : ∀ (n : Nat) (a : AV) (v : Value), a.tight lo hi n = true → a.rel V N' v → a.rel V N v
  | 0, _, _, h, _ => by cases h
  | n + 1, a, v, h, h' => by
    cases a with
    | agg cs =>
      simp only [AV.rel] at h' ⊢
      obtain ⟨x, e, h1⟩ := h'
      exact ⟨x, e, rels_pure (AV.tight_old hN n) cs _ h h1⟩
    | tup cs =>
      simp only [AV.rel] at h' ⊢
      obtain ⟨x, e, h1⟩ := h'
      exact ⟨x, e, rels_pure (AV.tight_old hN n) cs _ h h1⟩
    | str cs =>
      simp only [AV.rel] at h' ⊢
      obtain ⟨x, e, h1⟩ := h'
      exact ⟨x, e, rels_pure (AV.tight_old hN n) cs _ h h1⟩
    | func f fi ca =>
      simp only [AV.rel] at h' ⊢
      obtain ⟨x, y, e, h1, h2⟩ := h'
      change ife (allL (AV.tight lo hi n) fi) (allL (AV.tight lo hi n) ca) false = true at h
      cases hfi : allL (AV.tight lo hi n) fi
      · rw [hfi] at h; cases h
      · rw [hfi] at h
        exact ⟨x, y, e, rels_pure (AV.tight_old hN n) fi _ hfi h1, rels_pure (AV.tight_old hN n) ca _ h h2⟩
    | ptr id off =>
      simp only [AV.rel] at h' ⊢
      obtain ⟨b, h1, h2⟩ := h'
      rw [(hN id (oldId_ok h)).1] at h1
      exact ⟨b, h1, h2⟩
    | map id =>
      simp only [AV.rel] at h' ⊢
      obtain ⟨b, h1, h2⟩ := h'
      rw [(hN id (oldId_ok h)).1] at h1
      exact ⟨b, h1, h2⟩
    | slice id off len k =>
      change ife (oldId lo hi id) k.sure false = true at h
      cases ho : oldId lo hi id
      · rw [ho] at h; cases h
      · simp only [AV.rel] at h' ⊢
        obtain ⟨b, c, h1, h2, h3⟩ := h'
        rw [(hN id (oldId_ok ho)).1] at h1
        refine ⟨b, c, h1, h2, ?_⟩
        cases k with
        | lit m => exact h3
        | full e => obtain ⟨gg, h4, h5⟩ := h3; rw [(hN id (oldId_ok ho)).2] at h4; exact ⟨gg, h4, h5⟩
        | any => exact h3
    | int _ _ => exact h'
    | bool _ => exact h'
    | nilptr => exact h'
    | nilslice => exact h'
    | nilfunc => exact h'
    | xsl _ _ => cases h
    | aptr _ _ => simp only [AV.rel] at h' ⊢; exact h'
    | sptr id off e n st =>
      simp only [AV.rel] at h' ⊢
      obtain ⟨b, m, h1, h2⟩ := h'
      rw [(hN id (oldId_ok h)).1] at h1
      exact ⟨b, m, h1, h2⟩
    | top => cases h
theorem rels_uniq {f : AV → Bool} (hf : ∀ a v u, f a = true → a.rel V N v → a.rel V N u → v = u) : ∀ (l : List AV) (vs us : List Value), allL f l = true → AV.rels V N l vs → AV.rels V N l us → vs = us
  | [], vs, us, _, h, h' => by rw [rels_nil.1 h, rels_nil.1 h']
  | a :: l, vs, us, h, h', h'' => by
    obtain ⟨v, vs, rfl, h1, h2⟩ := rels_cons.1 h'
    obtain ⟨u, us, rfl, k1, k2⟩ := rels_cons.1 h''
    change ife (f a) (allL f l) false = true at h
    cases ha : f a
    · rw [ha] at h; cases h
    · rw [ha] at h
      rw [hf a v u ha h1 k1, rels_uniq hf l vs us h h2 k2]
theorem AV.tight_uniq {lo hi : Nat} : ∀ (n : Nat) (a : AV) (v u : Value), a.tight lo hi n = true → a.rel V N v → a.rel V N u → v = u
  | 0, _, _, _, h, _, _ => by cases h
  | n + 1, a, v, u, h, h', h'' => by
    cases a with
    | agg cs =>
      simp only [AV.rel] at h' h''
      obtain ⟨x, rfl, h1⟩ := h'
      obtain ⟨y, rfl, h2⟩ := h''
      rw [Array.ext' (rels_uniq (AV.tight_uniq n) cs _ _ h h1 h2)]
    | tup cs =>
      simp only [AV.rel] at h' h''
      obtain ⟨x, rfl, h1⟩ := h'
      obtain ⟨y, rfl, h2⟩ := h''
      rw [Array.ext' (rels_uniq (AV.tight_uniq n) cs _ _ h h1 h2)]
    | str cs =>
      simp only [AV.rel] at h' h''
      obtain ⟨x, rfl, h1⟩ := h'
      obtain ⟨y, rfl, h2⟩ := h''
      have e := rels_uniq (AV.tight_uniq n) cs _ _ h h1 h2
      have inj : ∀ a b : UInt8, Value.int .u8 a.toNat = Value.int .u8 b.toNat → a = b := fun a b e => by
        injection e with _ e
        exact UInt8.toNat_inj.1 (by exact_mod_cast e)
      have e2 := List.map_inj_right (fun a b e => inj a b e) |>.1 e
      have : x = y := by
        cases x; cases y
        simp only [ByteArray.mk.injEq]
        exact Array.ext' e2
      rw [this]
    | func f fi ca =>
      simp only [AV.rel] at h' h''
      obtain ⟨x, y, rfl, h1, h2⟩ := h'
      obtain ⟨x', y', rfl, k1, k2⟩ := h''
      change ife (allL (AV.tight lo hi n) fi) (allL (AV.tight lo hi n) ca) false = true at h
      cases hfi : allL (AV.tight lo hi n) fi
      · rw [hfi] at h; cases h
      · rw [hfi] at h
        rw [Array.ext' (rels_uniq (AV.tight_uniq n) fi _ _ hfi h1 k1), Array.ext' (rels_uniq (AV.tight_uniq n) ca _ _ h h2 k2)]
    | ptr id off =>
      simp only [AV.rel] at h' h''
      obtain ⟨b, h1, rfl⟩ := h'
      obtain ⟨b', h2, rfl⟩ := h''
      rw [h1] at h2; injection h2 with h2; rw [h2]
    | map id =>
      simp only [AV.rel] at h' h''
      obtain ⟨b, h1, rfl⟩ := h'
      obtain ⟨b', h2, rfl⟩ := h''
      rw [h1] at h2; injection h2 with h2; rw [h2]
    | slice id off len k =>
      change ife (oldId lo hi id) k.sure false = true at h
      simp only [AV.rel] at h' h''
      obtain ⟨b, c, h1, rfl, h3⟩ := h'
      obtain ⟨b', c', h2, rfl, k3⟩ := h''
      rw [h1] at h2; injection h2 with h2; subst h2
      have : c = c' := by
        cases k with
        | lit m => exact h3.1.trans k3.1.symm
        | full e =>
          obtain ⟨gg, h4, _, h5, _⟩ := h3
          obtain ⟨gg', k4, _, k5, _⟩ := k3
          rw [h4] at k4; injection k4 with k4; subst k4
          rw [h5, k5]
        | any => cases hoo : oldId lo hi id <;> rw [hoo] at h <;> cases h
      rw [this]
    | int _ _ => simp only [AV.rel] at h' h''; rw [h', h'']
    | bool _ =>
      simp only [AV.rel] at h' h''
      rcases h' with ⟨h1, rfl⟩ | ⟨h1, rfl⟩ <;> rcases h'' with ⟨h2, rfl⟩ | ⟨h2, rfl⟩ <;> first | rfl | omega
    | nilptr => simp only [AV.rel] at h' h''; rw [h', h'']
    | nilslice => simp only [AV.rel] at h' h''; rw [h', h'']
    | nilfunc => simp only [AV.rel] at h' h''; rw [h', h'']
    | xsl _ _ => cases h
    | sptr id off e n st =>
      simp only [AV.rel] at h' h''
      obtain ⟨b, m, h1, rfl, h3, _⟩ := h'
      obtain ⟨b', m', h2, rfl, h4, _⟩ := h''
      rw [h1] at h2; injection h2 with h2; subst h2
      have : m = m' := by omega
      subst this; rfl
    | aptr _ _ =>
      simp only [AV.rel] at h' h''
      obtain ⟨b, h1, rfl, _⟩ := h'
      obtain ⟨b', h2, rfl, _⟩ := h''
      rw [h1] at h2; injection h2 with h2; subst h2; rfl
    | top => cases h
end
end Go.RX
