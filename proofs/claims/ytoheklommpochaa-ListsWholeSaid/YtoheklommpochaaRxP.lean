/- RX, part 6: addresses, parts, slices, built values. -/
import Derived.Test.YtoheklommpochaaRxO
namespace Go.RX
section
variable {P : Program} {α : Type} {V : Va} {W0 : World} {N : Env} {g : G} {p : α → Prop} {k : AV → G → Rs α} {w : World}

theorem ife3 {a b c : Bool} {x y : Rs α} (h : (ife (ife a (ife b c false) false) x y).All V p) (hy : ¬ y.All V p) : a = true ∧ b = true ∧ c = true ∧ x.All V p := by
  cases a
  · exact (hy h).elim
  · cases b
    · exact (hy h).elim
    · cases c
      · exact (hy h).elim
      · exact ⟨rfl, rfl, rfl, h⟩
theorem ife2 {a b : Bool} {x y : Rs α} (h : (ife (ife a b false) x y).All V p) (hy : ¬ y.All V p) : a = true ∧ b = true ∧ x.All V p := by
  cases a
  · exact (hy h).elim
  · cases b
    · exact (hy h).elim
    · exact ⟨rfl, rfl, h⟩
theorem ife1 {a : Bool} {x y : Rs α} (h : (ife a x y).All V p) (hy : ¬ y.All V p) : a = true ∧ x.All V p := by
  cases a
  · exact (hy h).elim
  · exact ⟨rfl, h⟩
theorem Does.know {g' : G} {s : Sem Value} (hk : Knows V N W0 w g g') (h : Does P V W0 N g' p k w s) : Does P V W0 N g p k w s := by
  obtain ⟨v, w', a, g'', N', h1, h2, h3, h4⟩ := h
  exact ⟨v, w', a, g'', N', h1, h2, hk.2.1.trans h3, h4⟩
theorem Does.map {s s' : Sem Value} (h : Does P V W0 N g p k w s) (hs : ∀ v w', s.run P w = .ok v w' → s'.run P w = .ok v w') : Does P V W0 N g p k w s' := by
  obtain ⟨v, w', a, g', N', h1, h2⟩ := h
  exact ⟨v, w', a, g', N', hs _ _ h1, h2⟩

/-- A literal number in a slot. -/
noncomputable def onInt (a : AV) (f : IntKind → E → Rs α) : Rs α := match a with | .int kd e => f kd e | _ => .bad 50
theorem onInt_ok {a : AV} {v : Value} {f : IntKind → E → Rs α} (ha : a.rel V N v) (h : (onInt a f).All V p) : ∃ kd e, v = .int kd (e.den V) ∧ (f kd e).All V p := by
  unfold onInt at h
  split at h
  · rename_i kd e; exact ⟨kd, e, by simpa only [AV.rel] using ha, h⟩
  · exact h.elim
/-- An index: a number, tried one by one where it is none. -/
noncomputable def onIdx (R : Rg) (a : AV) (g : G) (f : Nat → G → Rs α) : Rs α := onInt a fun _ e => concr R e g fun n g => natK n fun m => f m g
theorem onIdx_ok {R : Rg} (hR : R.ok V) (r : Grel V N W0 g w) {a : AV} {v : Value} {f : Nat → G → Rs α} (ha : a.rel V N v) (h : (onIdx R a g f).All V p) :
    ∃ kd m g', v = .int kd (Int.ofNat m) ∧ Knows V N W0 w g g' ∧ (f m g').All V p := by
  obtain ⟨kd, e, rfl, h⟩ := onInt_ok ha h
  obtain ⟨n, g', h1, h2, h3⟩ := concr_ok hR r h
  obtain ⟨m, rfl, h4⟩ := natK_ok h3
  exact ⟨kd, m, g', by rw [h1]; rfl, h2, h4⟩

/-! ### Parts of an aggregate -/
noncomputable def partOf (P : Program) (t : TypeId) (cs : List AV) (off : Nat) : Option AV :=
  match P.underlying t with
  | some d => ife (aggD d) (match P.info? t with | some i => some (.agg (ltake (ldrop cs off) i.size)) | none => none) (lnth cs off)
  | none => none
theorem partOf_ok {t : TypeId} {cs : List AV} {off : Nat} {a : AV} {xs : Array Value} (hc : AV.rels V N cs xs.toList) (h : partOf P t cs off = some a) (w : World) :
    ∃ v, (part t xs off).run P w = .ok v w ∧ a.rel V N v := by
  unfold partOf at h
  split at h
  · rename_i d hd
    cases hag : aggD d
    · rw [hag] at h
      simp only [ife_false, lnth_eq] at h
      obtain ⟨v, hv, hr⟩ := rels_get off hc h
      refine ⟨v, ?_, hr⟩
      have hv' : xs[off]? = some v := by simpa using hv
      simp [part, run_isAgg hd, hag, hv']
    · rw [hag] at h
      simp only [ife_true] at h
      split at h
      · rename_i i hi
        injection h with h; subst h
        refine ⟨.agg (xs.extract off (off + i.size)), by simp [part, run_isAgg hd, hag, run_sizeOf hi], ?_⟩
        simp only [AV.rel]
        refine ⟨_, rfl, ?_⟩
        rw [ltake_eq, ldrop_eq, Array.toList_extract, List.extract_eq_take_drop, Nat.add_sub_cancel_left]
        exact rels_take _ (rels_drop _ hc)
      · cases h
  · cases h
noncomputable def aField (P : Program) (t : TypeId) (x : AV) (fi : Nat) (g : G) (k : AV → G → Rs α) : Rs α :=
  match P.underlying t with
  | some (.struct fs) => match fs[fi]?, x with
    | some f, .agg cs => match partOf P f.type cs f.offset with | some a => k a g | none => .bad 51
    | _, _ => .bad 52
  | _ => .bad 53
theorem aField_ok (r : Grel V N W0 g w) {t : TypeId} {x : AV} {v : Value} {fi : Nat} (hx : x.rel V N v) (h : (aField P t x fi g k).All V p) : Does P V W0 N g p k w (Instr.field t v fi) := by
  unfold aField at h
  split at h
  · rename_i fs ht
    split at h
    · rename_i f cs hf
      simp only [AV.rel] at hx
      obtain ⟨xs, rfl, hc⟩ := hx
      split at h
      · rename_i a ha
        obtain ⟨v, hv, hr⟩ := partOf_ok hc ha w
        exact Does.val r hr h (by simp [Instr.field, run_underlying ht, hf, asAgg, hv])
      · exact h.elim
    · exact h.elim
  · exact h.elim
/-- Bounds of e by its range and by facts. -/
noncomputable def bndL (R : Rg) (e : E) (F : List E) (q : Int × Int) : Int × Int :=
  List.rec (motive := fun _ => Int × Int → Int × Int) (fun q => q) (fun f _ ih q => ih (mxI q.1 ((e.sub f).rng R).1, mnI q.2 ((E.add e f).rng R).2)) F q
theorem bndL_ok {R : Rg} (hR : R.ok V) {e : E} : ∀ (F : List E) (q : Int × Int), Fs.ok V F → q.1 ≤ e.den V ∧ e.den V ≤ q.2 → (bndL R e F q).1 ≤ e.den V ∧ e.den V ≤ (bndL R e F q).2
  | [], q, _, h => h
  | f :: F, q, hF, h => by
    show (bndL R e F (mxI q.1 ((e.sub f).rng R).1, mnI q.2 ((E.add e f).rng R).2)).1 ≤ e.den V ∧ e.den V ≤ (bndL R e F (mxI q.1 ((e.sub f).rng R).1, mnI q.2 ((E.add e f).rng R).2)).2
    refine bndL_ok hR F _ (fun x hx => hF x (List.mem_cons_of_mem _ hx)) ?_
    have h1 := hF f List.mem_cons_self
    have h2 := E.rng_ok hR (e.sub f)
    have h3 := E.rng_ok hR (E.add e f)
    rw [E.den_sub] at h2
    rw [E.den_add] at h3
    constructor
    · show mxI q.1 ((e.sub f).rng R).1 ≤ _
      rcases mxI_or q.1 ((e.sub f).rng R).1 with e | e <;> rw [e] <;> omega
    · show _ ≤ mnI q.2 ((E.add e f).rng R).2
      rcases mnI_or q.2 ((E.add e f).rng R).2 with e | e <;> rw [e] <;> omega
noncomputable def E.bnd (R : Rg) (F : List E) (e : E) : Int × Int := bndL R e F (e.rng R)
theorem E.bnd_ok {R : Rg} (hR : R.ok V) {F : List E} (hF : Fs.ok V F) (e : E) : (e.bnd R F).1 ≤ e.den V ∧ e.den V ≤ (e.bnd R F).2 := bndL_ok hR F _ hF (E.rng_ok hR e)
/-- A place among len: known (fl), or one of n behind lo, by e (fs). -/
noncomputable def idxS (R : Rg) (ix : AV) (g : G) (len : Nat) (fl : Nat → G → Rs α) (fs : E → Nat → Nat → Rs α) : Rs α :=
  onInt ix fun _ e => e.lit (fun _ => onIdx R ix g fun m g => ife (Nat.ble (Nat.succ m) len) (fl m g) (.bad 62))
    (ife R.sel (match pin R g.fs e with
      | some _ => onIdx R ix g fun m g => ife (Nat.ble (Nat.succ m) len) (fl m g) (.bad 62)
      | none => match e.bnd R g.fs with
        | (lo, hi) => ife (ife (leI 0 lo) true (e.geq0 R g.fs)) (ife (ife (leI hi (Int.ofNat len - 1)) true ((E.sub (.k (Int.ofNat len - 1)) e).geq0 R g.fs))
          (fs (e.sub (.k (Int.ofNat lo.toNat))) lo.toNat ((mnI hi (Int.ofNat len - 1) - Int.ofNat lo.toNat + 1).toNat)) (.bad 68)) (.bad 69))
      (onIdx R ix g fun m g => ife (Nat.ble (Nat.succ m) len) (fl m g) (.bad 62)))
theorem idxS_ok {R : Rg} (hR : R.ok V) (r : Grel V N W0 g w) {ix : AV} {v : Value} {len : Nat} {fl : Nat → G → Rs α} {fs : E → Nat → Nat → Rs α} (ha : ix.rel V N v) (h : (idxS R ix g len fl fs).All V p) :
    ∃ kd m g', v = .int kd (Int.ofNat m) ∧ Knows V N W0 w g g' ∧ m < len ∧ ((fl m g').All V p ∨ (g' = g ∧ ∃ e lo n m', (fs e lo n).All V p ∧ m = lo + m' ∧ e.den V = (m' : Int) ∧ m' < n)) := by
  have plain : (onIdx R ix g fun m g => ife (Nat.ble (Nat.succ m) len) (fl m g) (.bad 62)).All V p →
      ∃ kd m g', v = .int kd (Int.ofNat m) ∧ Knows V N W0 w g g' ∧ m < len ∧ ((fl m g').All V p ∨ (g' = g ∧ ∃ e lo n m', (fs e lo n).All V p ∧ m = lo + m' ∧ e.den V = (m' : Int) ∧ m' < n)) := by
    intro h
    obtain ⟨kd, m, g', h1, h2, h3⟩ := onIdx_ok hR r ha h
    cases hm : Nat.ble (Nat.succ m) len
    · rw [hm] at h3; exact h3.elim
    · rw [hm] at h3
      exact ⟨kd, m, g', h1, h2, Nat.le_of_ble_eq_true hm, .inl h3⟩
  unfold idxS at h
  obtain ⟨kd, e, rfl, h⟩ := onInt_ok ha h
  generalize hX : (ife R.sel (match pin R g.fs e with
      | some _ => onIdx R ix g fun m g => ife (Nat.ble (Nat.succ m) len) (fl m g) (.bad 62)
      | none => match e.bnd R g.fs with
        | (lo, hi) => ife (ife (leI 0 lo) true (e.geq0 R g.fs)) (ife (ife (leI hi (Int.ofNat len - 1)) true ((E.sub (.k (Int.ofNat len - 1)) e).geq0 R g.fs))
          (fs (e.sub (.k (Int.ofNat lo.toNat))) lo.toNat ((mnI hi (Int.ofNat len - 1) - Int.ofNat lo.toNat + 1).toNat)) (.bad 68)) (.bad 69))
      (onIdx R ix g fun m g => ife (Nat.ble (Nat.succ m) len) (fl m g) (.bad 62))) = X at h
  rcases E.lit_cases e (fun _ => onIdx R ix g fun m g => ife (Nat.ble (Nat.succ m) len) (fl m g) (.bad 62)) X with ⟨n, _, h'⟩ | h' <;> rw [h'] at h
  · exact plain h
  · rw [← hX] at h
    cases hs : R.sel
    · rw [hs, ife_false] at h; exact plain h
    · rw [hs, ife_true] at h
      split at h
      · exact plain h
      · have hr := E.bnd_ok hR r.facts e
        generalize e.bnd R g.fs = q at h hr
        obtain ⟨lo, hi⟩ := q
        simp only at h hr
        obtain ⟨c1, h⟩ := ife1 h (fun x => x)
        obtain ⟨c2, h⟩ := ife1 h (fun x => x)
        have d1 : 0 ≤ e.den V := by
          cases h1 : leI 0 lo
          · rw [h1] at c1; exact E.geq0_ok hR r.facts c1
          · have := leI_iff.1 h1; omega
        have d2 : e.den V ≤ Int.ofNat len - 1 := by
          cases h1 : leI hi (Int.ofNat len - 1)
          · rw [h1] at c2
            have := E.geq0_ok hR r.facts c2
            rw [E.den_sub] at this; simp only [E.den] at this; omega
          · have := leI_iff.1 h1; omega
        have d3 : e.den V ≤ mnI hi (Int.ofNat len - 1) := by rcases mnI_or hi (Int.ofNat len - 1) with q | q <;> rw [q] <;> omega
        have hlen : Int.ofNat len = (len : Int) := rfl
        have hlo : Int.ofNat lo.toNat = (lo.toNat : Int) := rfl
        rw [hlen] at d2
        rw [hlo] at h
        refine ⟨kd, (e.den V).toNat, g, ?_, ⟨r, Ext.refl _ _, rfl⟩, by omega, .inr ⟨rfl, _, _, _, (e.den V).toNat - lo.toNat, h, by omega, ?_, by omega⟩⟩
        · congr 1
          show e.den V = ((e.den V).toNat : Int)
          omega
        · rw [E.den_sub]; simp only [E.den]; omega
noncomputable def aFieldAddr (P : Program) (s : TypeId) (x : AV) (fi : Nat) (g : G) (k : AV → G → Rs α) : Rs α :=
  match P.underlying s with
  | some (.struct fs) => match fs[fi]?, x with
    | some f, .ptr id off => match P.info? f.type with | some i => ife (Nat.beq i.size 0) (.bad 54) (k (.ptr id (off + f.offset)) g) | none => .bad 55
    | some f, .sptr id off e n st => match P.info? f.type with | some i => ife (Nat.beq i.size 0) (.bad 54) (k (.sptr id (off + f.offset) e n st) g) | none => .bad 55
    | _, _ => .bad 56
  | _ => .bad 57
theorem aFieldAddr_ok (r : Grel V N W0 g w) {s : TypeId} {x : AV} {v : Value} {fi : Nat} (hx : x.rel V N v) (h : (aFieldAddr P s x fi g k).All V p) : Does P V W0 N g p k w (Instr.fieldAt s v fi) := by
  unfold aFieldAddr at h
  split at h
  · rename_i fs ht
    split at h
    · rename_i f id off hf
      simp only [AV.rel] at hx
      obtain ⟨b, hb, rfl⟩ := hx
      split at h
      · rename_i i hi
        cases hz : Nat.beq i.size 0
        · rw [hz] at h
          have hne : ¬ i.size = 0 := fun e => by rw [e] at hz; cases hz
          refine Does.val r (v := .pointer (some ⟨b, off + f.offset, none⟩)) (by simp only [AV.rel]; exact ⟨b, hb, rfl⟩) h ?_
          simp [Instr.fieldAt, run_underlying ht, hf, Instr.sureAddr, fieldPlace, run_sizeOf hi, hne, addr_add]
        · rw [hz] at h; exact h.elim
      · exact h.elim
    · rename_i f id off e n st hf
      simp only [AV.rel] at hx
      obtain ⟨b, m, hb, rfl, hm, hlt⟩ := hx
      split at h
      · rename_i i hi
        cases hz : Nat.beq i.size 0
        · rw [hz] at h
          have hne : ¬ i.size = 0 := fun e => by rw [e] at hz; cases hz
          refine Does.val r (v := .pointer (some ⟨b, off + f.offset + m * st, none⟩)) (by simp only [AV.rel]; exact ⟨b, m, hb, rfl, hm, hlt⟩) h ?_
          simp [Instr.fieldAt, run_underlying ht, hf, Instr.sureAddr, fieldPlace, run_sizeOf hi, hne, addr_add]
          omega
        · rw [hz] at h; exact h.elim
      · exact h.elim
    · exact h.elim
  · exact h.elim
noncomputable def aIndex (P : Program) (R : Rg) (t : TypeId) (x ix : AV) (g : G) (k : AV → G → Rs α) : Rs α :=
  match P.underlying t, x with
  | some (.array len elem), .agg cs => match P.info? elem with
    | some i => idxS R ix g len (fun m g => match partOf P elem cs (m * i.size) with | some a => k a g | none => .bad 58)
        (fun e lo n => match selC e (cands (fun o => partOf P elem cs o) i.size n (lo * i.size)) with | some a => k a g | none => .bad 59)
    | none => .bad 60
  | _, _ => .bad 61
theorem aIndex_ok {R : Rg} (hR : R.ok V) (r : Grel V N W0 g w) {t : TypeId} {x ix : AV} {v u : Value} (hx : x.rel V N v) (hu : ix.rel V N u) (h : (aIndex P R t x ix g k).All V p) : Does P V W0 N g p k w (Instr.index t v u) := by
  unfold aIndex at h
  split at h
  · rename_i len elem cs ht
    simp only [AV.rel] at hx
    obtain ⟨xs, rfl, hc⟩ := hx
    split at h
    · rename_i i hi
      obtain ⟨kd, m, g', rfl, hkn, hlt, h⟩ := idxS_ok hR r hu h
      rcases h with h | ⟨rfl, e, lo, n, m', h, rfl, hm', hlt'⟩
      · split at h
        · rename_i a ha
          obtain ⟨v, hv, hr⟩ := partOf_ok hc ha w
          refine Does.know hkn (Does.val hkn.1 hr h ?_)
          simp [Instr.index, asIntOf, run_underlying ht, run_sizeOf hi, hlt, hv]
        · exact h.elim
      · split at h
        · rename_i a ha
          obtain ⟨b, h1, h2⟩ := selC_ok (V := V) r.os.2.1 (N := N) ha hm' hlt'
          rw [show lo * i.size + m' * i.size = (lo + m') * i.size from by rw [Nat.add_mul]] at h1
          obtain ⟨v, hv, hr⟩ := partOf_ok hc h1 w
          refine Does.val r (h2 v hr) h ?_
          generalize lo + m' = mm at hlt hv ⊢
          simp [Instr.index, asIntOf, run_underlying ht, run_sizeOf hi, hlt, hv]
        · exact h.elim
    · exact h.elim
  · exact h.elim
noncomputable def E.smulP (e : E) (c : Int) : E := E.smul c e
theorem E.den_smulP (V : Va) (e : E) (c : Int) : (e.smulP c).den V = c * e.den V := E.den_smul V c e
noncomputable def aIndexAddr (P : Program) (R : Rg) (t : TypeId) (x ix : AV) (g : G) (k : AV → G → Rs α) : Rs α :=
  match P.underlying t with
  | some (.array len elem) => match P.info? elem, x with
    | some i, .ptr id off => idxS R ix g len (fun m g => k (.ptr id (off + m * i.size)) g) (fun e lo n => k (.sptr id (off + lo * i.size) e n i.size) g)
    | some i, .sptr id off e n st => idxS R ix g len (fun m g => k (.sptr id (off + m * i.size) e n st) g)
        (fun e' lo n' => k (.sptr id (off + lo * i.size) ((e.smulP (Int.ofNat st)).add (e'.smulP (Int.ofNat i.size))) ((n - 1) * st + (n' - 1) * i.size + 1) 1) g)
    | _, _ => .bad 63
  | some (.slice elem) => match P.info? elem, x with
    | some i, .slice id off len _ => idxS R ix g len (fun m g => k (.ptr id (off + m * i.size)) g) (fun e lo n => k (.sptr id (off + lo * i.size) e n i.size) g)
    | some i, .xsl id len => onIdx R ix g fun m g => ife (ife (ife (Nat.ble id 15) (Nat.beq i.size 1) false) ((len.sub (.k (Int.ofNat (Nat.succ m)))).geq0 R g.fs) false) (k (.aptr id m) g) (.bad 65)
    | _, _ => .bad 66
  | _ => .bad 67
theorem aIndexAddr_ok {R : Rg} (hR : R.ok V) (r : Grel V N W0 g w) {t : TypeId} {x ix : AV} {v u : Value} (hx : x.rel V N v) (hu : ix.rel V N u) (h : (aIndexAddr P R t x ix g k).All V p) : Does P V W0 N g p k w (Instr.indexAt t v u) := by
  unfold aIndexAddr at h
  split at h
  · rename_i len elem ht
    split at h
    · rename_i i id off hi
      simp only [AV.rel] at hx
      obtain ⟨b, hb, rfl⟩ := hx
      obtain ⟨kd, m, g', rfl, hkn, hlt, h⟩ := idxS_ok hR r hu h
      have hrun : (Instr.indexAt t (.pointer (some ⟨b, off, none⟩)) (.int kd (Int.ofNat m))).run P w = .ok (.pointer (some ⟨b, off + m * i.size, none⟩)) w := by
        simp [Instr.indexAt, asIntOf, run_underlying ht, run_sizeOf hi, hlt, Instr.sureAddr, addr_add]
      rcases h with h | ⟨rfl, e, lo, n, m', h, rfl, hm', hlt'⟩
      · exact Does.know hkn (Does.val hkn.1 (by simp only [AV.rel]; exact ⟨b, hb, rfl⟩) h hrun)
      · refine Does.val r ?_ h hrun
        simp only [AV.rel]
        exact ⟨b, m', hb, by rw [Nat.add_mul, Nat.add_assoc], hm', hlt'⟩
    · rename_i i id off e n st hi
      simp only [AV.rel] at hx
      obtain ⟨b, m0, hb, rfl, hm0, hlt0⟩ := hx
      obtain ⟨kd, m, g', rfl, hkn, hlt, h⟩ := idxS_ok hR r hu h
      have hrun : (Instr.indexAt t (.pointer (some ⟨b, off + m0 * st, none⟩)) (.int kd (Int.ofNat m))).run P w = .ok (.pointer (some ⟨b, off + m0 * st + m * i.size, none⟩)) w := by
        simp [Instr.indexAt, asIntOf, run_underlying ht, run_sizeOf hi, hlt, Instr.sureAddr, addr_add]
      rcases h with h | ⟨rfl, e', lo, n', m', h, rfl, hm', hlt'⟩
      · refine Does.know hkn (Does.val hkn.1 ?_ h hrun)
        simp only [AV.rel]
        exact ⟨b, m0, hb, by rw [show off + m0 * st + m * i.size = off + m * i.size + m0 * st from by omega], hm0, hlt0⟩
      · refine Does.val r ?_ h hrun
        simp only [AV.rel]
        refine ⟨b, m0 * st + m' * i.size, hb, ?_, ?_, ?_⟩
        · rw [Nat.mul_one, Nat.add_mul, show off + m0 * st + (lo * i.size + m' * i.size) = off + lo * i.size + (m0 * st + m' * i.size) from by omega]
        · rw [E.den_add, E.den_smulP, E.den_smulP, hm0, hm']
          show (st : Int) * m0 + (i.size : Int) * m' = _
          push_cast
          rw [Int.mul_comm, Int.mul_comm (i.size : Int)]
        · have a := Nat.mul_le_mul_right st (show m0 ≤ n - 1 by omega)
          have b := Nat.mul_le_mul_right i.size (show m' ≤ n' - 1 by omega)
          omega
    · exact h.elim
  · rename_i elem ht
    split at h
    · rename_i i id off len cap hi
      simp only [AV.rel] at hx
      obtain ⟨b, c, hb, rfl, hcap⟩ := hx
      obtain ⟨kd, m, g', rfl, hkn, hlt, h⟩ := idxS_ok hR r hu h
      have hrun : (Instr.indexAt t (.slice (some ⟨b, off, none⟩) len c) (.int kd (Int.ofNat m))).run P w = .ok (.pointer (some ⟨b, off + m * i.size, none⟩)) w := by
        simp [Instr.indexAt, asIntOf, run_underlying ht, run_sizeOf hi, hlt, addr_add]
      rcases h with h | ⟨rfl, e, lo, n, m', h, rfl, hm', hlt'⟩
      · exact Does.know hkn (Does.val hkn.1 (by simp only [AV.rel]; exact ⟨b, hb, rfl⟩) h hrun)
      · refine Does.val r ?_ h hrun
        simp only [AV.rel]
        exact ⟨b, m', hb, by rw [Nat.add_mul, Nat.add_assoc], hm', hlt'⟩
    · rename_i i id lenE hi
      simp only [AV.rel] at hx
      obtain ⟨A, n, c, rfl, hn, hnc, hA, _⟩ := hx
      obtain ⟨kd, m, g', rfl, hkn, h⟩ := onIdx_ok hR r hu h
      obtain ⟨e01, e2, h⟩ := ife2 h (fun x => x)
      obtain ⟨e0, e1⟩ : Nat.ble id 15 = true ∧ Nat.beq i.size 1 = true := by
        cases e0 : Nat.ble id 15
        · rw [e0] at e01; cases e01
        · rw [e0] at e01; exact ⟨rfl, e01⟩
      have e0 := Nat.le_of_ble_eq_true e0
      have e1 : i.size = 1 := Nat.eq_of_beq_eq_true e1
      have e2 := E.geq0_ok hR hkn.1.facts e2
      rw [E.den_sub] at e2
      simp only [E.den] at e2
      have e3 : Int.ofNat (Nat.succ m) = (m : Int) + 1 := rfl
      rw [e3] at e2
      have hlt : m < n := by omega
      obtain ⟨hna, ad, ha, rfl⟩ := hA (by omega) (by omega)
      refine Does.know hkn (Does.val hkn.1 (v := .pointer (some (ad.add m))) (by simp only [AV.rel]; exact ⟨ad, ha, rfl, by omega⟩) h ?_)
      simp [Instr.indexAt, asIntOf, run_underlying ht, run_sizeOf hi, hlt, e1]
    · exact h.elim
  · exact h.elim
noncomputable def aExtract (x : AV) (i : Nat) (g : G) (k : AV → G → Rs α) : Rs α :=
  match x with
  | .tup cs => match lnth cs i with | some a => k a g | none => .bad 68
  | _ => .bad 69
theorem aExtract_ok (r : Grel V N W0 g w) {x : AV} {v : Value} {i : Nat} (hx : x.rel V N v) (h : (aExtract x i g k).All V p) : Does P V W0 N g p k w (Instr.extract v i) := by
  unfold aExtract at h
  split at h
  · rename_i cs
    simp only [AV.rel] at hx
    obtain ⟨xs, rfl, hc⟩ := hx
    rw [lnth_eq] at h
    split at h
    · rename_i a ha
      obtain ⟨v, hv, hr⟩ := rels_get i hc ha
      have hv' : xs[i]? = some v := by simpa using hv
      exact Does.val r hr h (by simp [Instr.extract, hv'])
    · exact h.elim
  · exact h.elim

/-! ### Values built of parts -/
noncomputable def afill (place : Nat → Option (Nat × Nat)) (ps : List (Nat × AV)) : List AV → Option (List AV) :=
  List.rec (motive := fun _ => List AV → Option (List AV)) (fun cs => some cs) (fun q _ ih cs => match place q.1 with
    | some (off, size) => ife (ife q.2.known (ife (Nat.beq (llen q.2.cells) size) (Nat.ble (off + size) (llen cs)) false) false) (ih (lspl q.2.cells cs off)) none
    | none => none) ps
theorem foldl_set (vs : List Value) : ∀ (c : Array Value) (o i : Nat), o + i + vs.length ≤ c.size →
    (vs.zipIdx i).foldl (fun cs (x : Value × Nat) => cs.setIfInBounds (o + x.2) x.1) c = splice c (o + i) vs := by
  induction vs with
  | nil => intro c o i _; simp [splice]
  | cons v vs ih =>
    intro c o i h
    simp only [List.length_cons] at h
    simp only [List.zipIdx_cons, List.foldl_cons]
    rw [ih _ o (i + 1) (by simp; omega), ← Nat.add_assoc, splice_cons (by omega)]
theorem afill_ok {place : Nat → Option (Nat × Nat)} : ∀ (ps : List (Nat × AV)) (cs : List AV) {cs' : List AV} {qs : List (Nat × Value)} {c : Array Value},
    ps.length = qs.length → (∀ (i : Nat) (a : Nat × AV) (b : Nat × Value), ps[i]? = some a → qs[i]? = some b → a.1 = b.1 ∧ a.2.rel V N b.2) → AV.rels V N cs c.toList → afill place ps cs = some cs' →
    ∃ c', Instr.fill place c qs = some c' ∧ AV.rels V N cs' c'.toList
  | [], cs, cs', [], c, _, _, hc, h => by
    have : cs = cs' := by simpa [afill] using h
    subst this; exact ⟨c, rfl, hc⟩
  | [], _, _, _ :: _, _, h, _, _, _ => by simp at h
  | _ :: _, _, _, [], _, h, _, _, _ => by simp at h
  | q :: ps, cs, cs', (i, v) :: qs, c, hl, hps, hc, h => by
    have h0 := hps 0 q (i, v) rfl rfl
    change (match place q.1 with
      | some (off, size) => ife (ife q.2.known (ife (Nat.beq (llen q.2.cells) size) (Nat.ble (off + size) (llen cs)) false) false) (afill place ps (lspl q.2.cells cs off)) none
      | none => none) = some cs' at h
    obtain ⟨q1, q2⟩ := q
    simp only at h0 h
    obtain ⟨e, hr⟩ := h0
    subst e
    simp only [Instr.fill]
    split at h
    · rename_i off size hp
      rw [hp]
      simp only
      cases h1 : q2.known
      · rw [h1] at h; cases h
      · cases h2 : Nat.beq (llen q2.cells) size
        · rw [h1, h2] at h; cases h
        · cases h3 : Nat.ble (off + size) (llen cs)
          · rw [h1, h2, h3] at h; cases h
          · rw [h1, h2, h3] at h
            simp only [ife_true] at h
            have e2 := Nat.eq_of_beq_eq_true h2
            have e3 := Nat.le_of_ble_eq_true h3
            rw [llen_eq] at e2 e3
            have hcells := AV.rel_cells h1 hr
            have hvl := rels_length hcells
            have hcl := rels_length hc
            simp only [Array.length_toList] at hvl hcl
            rw [if_neg (by simp; omega)]
            have hf := foldl_set v.cells.toList c off 0 (by simp; omega)
            rw [← Array.toList_zipIdx, Array.foldl_toList, Nat.add_zero] at hf
            rw [hf]
            refine afill_ok ps _ (by simpa using hl) (fun j a b ha hb => hps (j + 1) a b (by simpa using ha) (by simpa using hb)) ?_ h
            rw [lspl_eq _ _ _ (by omega)]
            simp only [splice]
            have : v.cells.toList.length = q2.cells.length := by simpa using hvl
            rw [this]
            exact rels_append (rels_append (rels_take _ hc) hcells) (rels_drop _ hc)
    · cases h
noncomputable def placesOf (P : Program) (fs : List Field) : Option (List (Nat × Nat)) :=
  List.rec (motive := fun _ => Option (List (Nat × Nat))) (some []) (fun f _ ih => match P.info? f.type, ih with | some i, some l => some ((f.offset, i.size) :: l) | _, _ => none) fs
theorem placesOf_ok : ∀ {fs : List Field} {l : List (Nat × Nat)}, placesOf P fs = some l → ∀ w : World,
    (fs.mapM (fun f => do pure (f.offset, ← sizeOf f.type) : Field → Sem (Nat × Nat))).run P w = .ok l w
  | [], l, h, w => by
    have : [] = l := by simpa [placesOf] using h
    subst this; rfl
  | f :: fs, l, h, w => by
    change (match P.info? f.type, placesOf P fs with | some i, some l => some ((f.offset, i.size) :: l) | _, _ => none) = some l at h
    split at h
    · rename_i i l' hi hl'
      injection h with h; subst h
      have := placesOf_ok hl' w
      simp only [List.mapM_cons, Sem.run_bind, run_sizeOf hi, Result.andThen_ok, Sem.run_pure, this]
    · cases h
noncomputable def aBuild (P : Program) (t : TypeId) (parts : List (Nat × AV)) (g : G) (k : AV → G → Rs α) : Rs α :=
  match P.info? t with
  | some i => match i.zero with
    | some z => ife (ofVal z).known (match P.underlying t with
      | some (.struct fs) => match placesOf P fs.toList with
        | some pl => match afill (fun j => lnth pl j) parts (ofVal z).cells with | some cs => k (.agg cs) g | none => .bad 70
        | none => .bad 71
      | some (.array _ elem) => match P.info? elem with
        | some ei => match afill (fun j => some (j * ei.size, ei.size)) parts (ofVal z).cells with | some cs => k (.agg cs) g | none => .bad 72
        | none => .bad 73
      | _ => .bad 74) (.bad 75)
    | none => .bad 76
  | none => .bad 77
theorem mapM_toList {β γ : Type} (f : β → Sem γ) (xs : Array β) (w : World) {l : List γ} (h : (xs.toList.mapM f).run P w = .ok l w) : (xs.mapM f).run P w = .ok l.toArray w := by
  have e : xs.mapM f = List.toArray <$> xs.toList.mapM f := by rw [Array.mapM_eq_mapM_toList]
  rw [e]
  simp [h]
theorem aBuild_ok (r : Grel V N W0 g w) {t : TypeId} {ps : List (Nat × AV)} {qs : Array (Nat × Value)} (hl : ps.length = qs.size)
    (hps : ∀ (i : Nat) (a : Nat × AV) (b : Nat × Value), ps[i]? = some a → qs.toList[i]? = some b → a.1 = b.1 ∧ a.2.rel V N b.2) (h : (aBuild P t ps g k).All V p) : Does P V W0 N g p k w (Instr.build t qs) := by
  unfold aBuild at h
  split at h
  · rename_i i hi
    split at h
    · rename_i z hz
      cases hk : (ofVal z).known
      · rw [hk] at h; exact h.elim
      · rw [hk] at h
        simp only [ife_true] at h
        have hz' := AV.rel_cells hk (ofVal_rel V N z)
        split at h
        · rename_i fs ht
          split at h
          · rename_i pl hpl
            split at h
            · rename_i cs hcs
              obtain ⟨c', h1, h2⟩ := afill_ok (c := z.cells) ps _ (by simpa using hl) hps hz' hcs
              refine Does.val r (v := .agg c') (by simp only [AV.rel]; exact ⟨c', rfl, h2⟩) h ?_
              have hm := mapM_toList (P := P) _ fs w (placesOf_ok hpl w)
              have e : (fun x => pl.toArray[x]?) = fun j => lnth pl j := by funext j; rw [lnth_eq]; simp
              simp only [Instr.build, Sem.run_bind, run_zeroValue hi hz, run_underlying ht, Result.andThen_ok]
              rw [hm]
              simp only [Result.andThen_ok, e, h1, Sem.run_pure]
            · exact h.elim
          · exact h.elim
        · rename_i len elem ht
          split at h
          · rename_i ei hei
            split at h
            · rename_i cs hcs
              obtain ⟨c', h1, h2⟩ := afill_ok (c := z.cells) ps _ (by simpa using hl) hps hz' hcs
              refine Does.val r (v := .agg c') (by simp only [AV.rel]; exact ⟨c', rfl, h2⟩) h ?_
              simp [Instr.build, run_zeroValue hi hz, run_underlying ht, run_sizeOf hei, h1]
            · exact h.elim
          · exact h.elim
        · exact h.elim
    · exact h.elim
  · exact h.elim
/-- n times the cells of a zero value. -/
noncomputable def zeros (zs : List AV) (n : Nat) : List AV := Nat.rec [] (fun _ ih => lapp zs ih) n
theorem zeros_len (zs : List AV) : ∀ n, (zeros zs n).length = n * zs.length
  | 0 => by rw [Nat.zero_mul]; rfl
  | n + 1 => by show (lapp zs (zeros zs n)).length = _; rw [lapp_eq, List.length_append, zeros_len zs n, Nat.succ_mul]; omega
theorem zeros_ok {zs : List AV} {z : Array Value} (h : AV.rels V N zs z.toList) : ∀ n : Nat, AV.rels V N (zeros zs n) (List.replicate n z.toList).flatten
  | 0 => rels_nil.2 rfl
  | n + 1 => by
    show AV.rels V N (lapp zs (zeros zs n)) _
    rw [lapp_eq]
    rw [List.replicate_succ, List.flatten_cons]
    exact rels_append h (zeros_ok h n)
theorem rows_eq (z : Array Value) (n : Nat) : (Array.range (n * z.size)).map (fun x => z[x % z.size]!) = ((List.replicate n z.toList).flatten).toArray := by
  apply Array.ext'
  simp only [Array.toList_map, Array.toList_range]
  induction n with
  | zero => simp
  | succ n ih =>
    rw [List.replicate_succ', List.flatten_append, ← ih, Nat.add_mul, Nat.one_mul, List.range_add, List.map_append]
    congr 1
    simp only [List.map_map, List.flatten_cons, List.flatten_nil, List.append_nil]
    apply List.ext_getElem
    · simp
    · intro i h1 h2
      simp only [List.length_map, List.length_range] at h1
      simp only [List.getElem_map, List.getElem_range, Function.comp_apply, Array.getElem_toList]
      rw [Nat.mul_comm, Nat.mul_add_mod, Nat.mod_eq_of_lt h1]
      simp [h1]
/-- All parts in their row. -/
noncomputable def aflat (size : Nat) (ps : List (Nat × AV)) : Nat → Option (List AV) :=
  List.rec (motive := fun _ => Nat → Option (List AV)) (fun _ => some []) (fun q _ ih i => ife (ife (Nat.beq q.1 i) (ife q.2.known (Nat.beq (llen q.2.cells) size) false) false)
    (match ih (Nat.succ i) with | some l => some (lapp q.2.cells l) | none => none) none) ps
noncomputable def afillS (size len : Nat) (ps : List (Nat × AV)) (cs : List AV) : Option (List AV) :=
  ife (Nat.beq (llen ps) len) (match aflat size ps 0 with | some l => some l | none => afill (fun j => some (j * size, size)) ps cs) (afill (fun j => some (j * size, size)) ps cs)
theorem aflat_ok (size : Nat) : ∀ (ps : List (Nat × AV)) (i : Nat) {l pre rest : List AV}, aflat size ps i = some l → pre.length = i * size → rest.length = ps.length * size →
    afill (fun j => some (j * size, size)) ps (pre ++ rest) = some (pre ++ l)
  | [], i, l, pre, rest, h, _, hr => by
    change some [] = some l at h
    injection h with h; subst h
    have : rest = [] := List.eq_nil_of_length_eq_zero (by simpa using hr)
    subst this; rfl
  | q :: ps, i, l, pre, rest, h, hp, hr => by
    change ife (ife (Nat.beq q.1 i) (ife q.2.known (Nat.beq (llen q.2.cells) size) false) false) (match aflat size ps (Nat.succ i) with | some l => some (lapp q.2.cells l) | none => none) none = some l at h
    cases h1 : Nat.beq q.1 i
    · rw [h1] at h; cases h
    · cases h2 : q.2.known
      · rw [h1, h2] at h; cases h
      · cases h3 : Nat.beq (llen q.2.cells) size
        · rw [h1, h2, h3] at h; cases h
        · rw [h1, h2, h3] at h
          simp only [ife_true] at h
          split at h
          · rename_i l' hl'
            injection h with h; subst h
            have e1 := Nat.eq_of_beq_eq_true h1
            have e3 := Nat.eq_of_beq_eq_true h3
            have e4 := e3
            rw [llen_eq] at e4
            simp only [List.length_cons, Nat.succ_mul] at hr
            show (match some (q.1 * size, size) with
              | some (off, size) => ife (ife q.2.known (ife (Nat.beq (llen q.2.cells) size) (Nat.ble (off + size) (llen (pre ++ rest))) false) false) (afill (fun j => some (j * size, size)) ps (lspl q.2.cells (pre ++ rest) off)) none
              | none => none) = _
            have hb : Nat.ble (q.1 * size + size) (llen (pre ++ rest)) = true := Nat.ble_eq_true_of_le (by rw [llen_eq, List.length_append, e1]; omega)
            simp only [h2, h3, hb, ife_true]
            rw [lspl_eq _ _ _ (by rw [List.length_append, e1]; omega), e1, lapp_eq, ← List.append_assoc pre]
            have a : (pre ++ rest).take (i * size) = pre := by rw [← hp]; simp
            have b : (pre ++ rest).drop (i * size + q.2.cells.length) = rest.drop size := by rw [← hp, List.drop_append, e4]; simp
            rw [a, b]
            exact aflat_ok size ps (Nat.succ i) hl' (by rw [List.length_append, hp, e4, Nat.succ_mul]) (by rw [List.length_drop]; omega)
          · cases h
theorem afillS_eq {size len : Nat} {ps : List (Nat × AV)} {cs : List AV} (h : cs.length = len * size) : afillS size len ps cs = afill (fun j => some (j * size, size)) ps cs := by
  unfold afillS
  cases h1 : Nat.beq (llen ps) len
  · rfl
  · have e := Nat.eq_of_beq_eq_true h1
    rw [llen_eq] at e
    rw [ife_true]
    split
    · rename_i l hl
      have := aflat_ok size ps 0 (pre := []) (rest := cs) hl (by simp) (by rw [h, e])
      simpa using this.symm
    · rfl
noncomputable def aBuildSlice (P : Program) (t : TypeId) (len : Nat) (parts : List (Nat × AV)) (g : G) (k : AV → G → Rs α) : Rs α :=
  match P.underlying t with
  | some (.slice elem) => match P.info? elem with
    | some ei => match ei.zero with
      | some z => ife (ife (ofVal z).known (ife (Nat.beq (llen (ofVal z).cells) ei.size) (ife (Nat.ble (len * ei.size) 16777216) (Nat.ble 1 ei.size) false) false) false)
        (match afillS ei.size len parts (zeros (ofVal z).cells len) with
          | some cs => aNew cs elem g (fun a g' => match a with | .ptr id _ => k (.slice id 0 len (.lit len)) g' | _ => .bad 80)
          | none => .bad 81) (.bad 82)
      | none => .bad 83
    | none => .bad 84
  | _ => .bad 85
theorem aBuildSlice_ok (r : Grel V N W0 g w) {t : TypeId} {len : Nat} {ps : List (Nat × AV)} {qs : Array (Nat × Value)} (hl : ps.length = qs.size)
    (hps : ∀ (i : Nat) (a : Nat × AV) (b : Nat × Value), ps[i]? = some a → qs.toList[i]? = some b → a.1 = b.1 ∧ a.2.rel V N b.2) (h : (aBuildSlice P t len ps g k).All V p) : Does P V W0 N g p k w (Instr.buildSlice t len qs) := by
  unfold aBuildSlice at h
  split at h
  · rename_i elem ht
    split at h
    · rename_i ei hei
      split at h
      · rename_i z hz
        cases hk : (ofVal z).known
        · rw [hk] at h; exact h.elim
        · cases h1 : Nat.beq (llen (ofVal z).cells) ei.size
          · rw [hk, h1] at h; exact h.elim
          · cases h2 : Nat.ble (len * ei.size) 16777216
            · rw [hk, h1, h2] at h; exact h.elim
            · cases h3 : Nat.ble 1 ei.size
              · rw [hk, h1, h2, h3] at h; exact h.elim
              · rw [hk, h1, h2, h3] at h
                simp only [ife_true] at h
                have e1 := Nat.eq_of_beq_eq_true h1
                have e2 := Nat.le_of_ble_eq_true h2
                have e3 := Nat.le_of_ble_eq_true h3
                rw [llen_eq] at e1
                have hz' := AV.rel_cells hk (ofVal_rel V N z)
                have hzl := rels_length hz'
                simp only [Array.length_toList] at hzl
                split at h
                · rename_i cs hcs
                  rw [afillS_eq (by rw [zeros_len, e1])] at hcs
                  have hrow : (Array.range (len * ei.size)).map (fun x => (if len * ei.size = 0 then #[] else z.cells)[x % (if len * ei.size = 0 then #[] else z.cells).size]!) = ((List.replicate len z.cells.toList).flatten).toArray := by
                    rw [← rows_eq]
                    by_cases h0 : len * ei.size = 0
                    · have : len * z.cells.size = 0 := by rw [hzl, e1]; exact h0
                      rw [this, h0]; simp
                    · rw [if_neg h0, hzl, e1]
                  obtain ⟨c', f1, f2⟩ := afill_ok (c := ((List.replicate len z.cells.toList).flatten).toArray) ps _ (by simpa using hl) hps (by simpa using zeros_ok hz' len) hcs
                  have hd := aNew_ok (P := P) (s := Pure.pure (.pointer (some ⟨w.heap.size, 0, none⟩)) >>= fun (v : Value) => Sem.new (.cells c' elem) fun _ => Pure.pure v) r f2 h (by simp [Sem.run, World.alloc_eq])
                  obtain ⟨v, w', a, g', N', g1, g2, g3, g4, g5⟩ := hd
                  have hww : w' = w.alloc (.cells c' elem) ∧ v = .pointer (some ⟨w.heap.size, 0, none⟩) := by
                    simp [Sem.run] at g1; exact ⟨g1.2.symm, g1.1.symm⟩
                  obtain ⟨rfl, rfl⟩ := hww
                  dsimp only at g5
                  split at g5
                  · rename_i id off'
                    simp only [AV.rel] at g4
                    obtain ⟨b, hb, hbe⟩ := g4
                    simp only [Value.pointer.injEq, Option.some.injEq, Addr.mk.injEq] at hbe
                    obtain ⟨rfl, _, _⟩ := hbe
                    refine ⟨.slice (some ⟨w.heap.size, 0, none⟩) len len, _, _, _, N', ?_, g2, g3, ?_, g5⟩
                    · have h24 : ¬ len * ei.size > 2 ^ 24 := by omega
                      simp only [Instr.buildSlice, Sem.run_bind, run_underlying ht, run_sizeOf hei, Result.andThen_ok]
                      simp only [h24, if_false, Sem.run_bind, Sem.run_ite, Sem.run_pure, run_zeroValue hei hz, Result.andThen_ok]
                      split
                      · rename_i h0
                        rw [if_pos h0] at hrow
                        rw [hrow]
                        simp [f1, newRow]
                      · rename_i h0
                        rw [if_neg h0] at hrow
                        rw [hrow]
                        simp [f1, newRow]
                    · simp only [AV.rel]; exact ⟨_, _, hb, rfl, rfl, Nat.le_refl _⟩
                  · exact g5.elim
                · exact h.elim
      · exact h.elim
    · exact h.elim
  · exact h.elim
end
end Go.RX
