/- RX, part 7: slices of slices, make, len, min, max, copy, append. -/
import Derived.Test.YtoheklommpochaaRxP
import Derived.Laws.Append
namespace Go.RX
section
variable {P : Program} {α : Type} {V : Va} {W0 : World} {N : Env} {g : G} {p : α → Prop} {k : AV → G → Rs α} {w : World}
theorem Knows.refl (r : Grel V N W0 g w) : Knows V N W0 w g g := ⟨r, Ext.refl _ _, rfl⟩
theorem Knows.trans {g' g'' : G} (h : Knows V N W0 w g g') (h' : Knows V N W0 w g' g'') : Knows V N W0 w g g'' := ⟨h'.1, h.2.1.trans h'.2.1, h'.2.2.trans h.2.2⟩

/-! ### Slices of slices -/
noncomputable def onOpt (R : Rg) (o : Option AV) (g : G) (f : Option Nat → G → Rs α) : Rs α := match o with | none => f none g | some a => onIdx R a g fun m g => f (some m) g
/-- A bound that is given: a number. -/
def OptRel : Option Nat → Option Value → Prop
  | none, none => True
  | some m, some v => ∃ kd, v = .int kd (Int.ofNat m)
  | _, _ => False
theorem onOpt_ok {R : Rg} (hR : R.ok V) (r : Grel V N W0 g w) {o : Option AV} {u : Option Value} {f : Option Nat → G → Rs α} (ho : match o, u with | none, none => True | some a, some v => a.rel V N v | _, _ => False)
    (h : (onOpt R o g f).All V p) : ∃ m g', OptRel m u ∧ Knows V N W0 w g g' ∧ (f m g').All V p := by
  unfold onOpt at h
  cases o with
  | none => cases u with
    | none => exact ⟨none, g, trivial, Knows.refl r, h⟩
    | some v => exact ho.elim
  | some a => cases u with
    | none => exact ho.elim
    | some v =>
      obtain ⟨kd, m, g', rfl, h1, h2⟩ := onIdx_ok hR r ho h
      exact ⟨some m, g', ⟨kd, rfl⟩, h1, h2⟩
theorem run_sliceBound {kd : IntKind} {m y : Nat} (h : m ≤ y) (c : BoundsCode) : (Instr.sliceBound (.int kd (Int.ofNat m)) y c).run P w = .ok m w := by
  simp [Instr.sliceBound, asIntOf, h]
theorem run_sliceBounds {isS : Bool} {len cap : Nat} {lo hi mx : Option Nat} {ulo uhi umx : Option Value} (h1 : OptRel lo ulo) (h2 : OptRel hi uhi) (h3 : OptRel mx umx)
    (hm : mx.getD cap ≤ cap) (hh : hi = none ∧ mx = none ∨ ∃ x, hi = some x ∧ x ≤ mx.getD cap) (hl : lo.getD 0 ≤ hi.getD len) :
    (Instr.sliceBounds isS len cap ulo uhi umx).run P w = .ok (lo.getD 0, hi.getD len, mx.getD cap) w := by
  have key : ∀ {m : Option Nat} {u : Option Value}, OptRel m u → m = none ∧ u = none ∨ ∃ n kd, m = some n ∧ u = some (.int kd (Int.ofNat n)) := by
    intro m u h
    cases m <;> cases u
    · exact .inl ⟨rfl, rfl⟩
    · exact h.elim
    · exact h.elim
    · obtain ⟨kd, rfl⟩ := h; exact .inr ⟨_, kd, rfl, rfl⟩
  rcases key h3 with ⟨rfl, rfl⟩ | ⟨m, k3, rfl, rfl⟩ <;> rcases key h2 with ⟨rfl, rfl⟩ | ⟨x, k2, rfl, rfl⟩ <;> rcases key h1 with ⟨rfl, rfl⟩ | ⟨l, k1, rfl, rfl⟩ <;> clear key <;>
    simp only [Option.getD_some, Option.getD_none] at hm hh hl ⊢ <;>
    simp only [Instr.sliceBounds] <;>
    first
      | (exfalso; simp at hh; done)
      | (have hh' : x ≤ _ := (by rcases hh with ⟨h, _⟩ | ⟨y, h, hy⟩; cases h; injection h with h; subst h; exact hy)
         simp only [Sem.run_bind, Sem.run_pure, Result.andThen_ok, run_sliceBound hm, run_sliceBound hh', run_sliceBound hl]; done)
      | (have hh' : x ≤ _ := (by rcases hh with ⟨h, _⟩ | ⟨y, h, hy⟩; cases h; injection h with h; subst h; exact hy)
         simp only [Sem.run_bind, Sem.run_pure, Result.andThen_ok, run_sliceBound hm, run_sliceBound hh']; done)
      | (have hh' : x ≤ _ := (by rcases hh with ⟨h, _⟩ | ⟨y, h, hy⟩; cases h; injection h with h; subst h; exact hy)
         simp only [Sem.run_bind, Sem.run_pure, Result.andThen_ok, run_sliceBound hh', run_sliceBound hl]; done)
      | (have hh' : x ≤ _ := (by rcases hh with ⟨h, _⟩ | ⟨y, h, hy⟩; cases h; injection h with h; subst h; exact hy)
         simp only [Sem.run_bind, Sem.run_pure, Result.andThen_ok, run_sliceBound hh']; done)
      | (simp only [Sem.run_bind, Sem.run_pure, Result.andThen_ok, run_sliceBound hl]; done)
      | (simp only [Sem.run_bind, Sem.run_pure, Result.andThen_ok]; done)
/-- What of a capacity is known. -/
noncomputable def capKn (g : G) (id off len : Nat) : Cap → Nat
  | .lit n => n
  | .any => len
  | .full esz => match hget g.heap id with
    | some (.cells cs _ _ _) => match Nat.ble len ((llen cs - off) / esz) with | true => (llen cs - off) / esz | false => len
    | _ => len
theorem capKn_ok (r : Grel V N W0 g w) {id off len c : Nat} {cap : Cap} (h : cap.rel N id off len c) : capKn g id off len cap ≤ c ∧ len ≤ capKn g id off len cap := by
  have hl := h.le
  cases cap with
  | lit n => obtain ⟨rfl, h⟩ := h; exact ⟨Nat.le_refl _, h⟩
  | any => exact ⟨hl, Nat.le_refl _⟩
  | full esz =>
    simp only [capKn]
    split
    · rename_i cs elem opn own hcs
      obtain ⟨b, cc, fr, h1, h2, h3, h4, h5, h6, h7⟩ := r.cells hcs
      obtain ⟨gs, g1, g2, g3, g4⟩ := h
      rw [h6] at g1; injection g1 with g1; subst g1
      split
      · rename_i hb
        have := Nat.le_of_ble_eq_true hb
        refine ⟨?_, this⟩
        rw [g3, llen_eq]
        exact Nat.div_le_div_right (by omega)
      · exact ⟨hl, Nat.le_refl _⟩
    · exact ⟨hl, Nat.le_refl _⟩
noncomputable def slLit (id off m l h size : Nat) : AV := .slice id (ife (Nat.beq m l) off (off + l * size)) (h - l) (.lit (m - l))
noncomputable def aSl (g : G) (id off len : Nat) (cap : Cap) (size : Nat) (lo hi mx : Option Nat) (k : AV → G → Rs α) : Rs α :=
  match mx, hi, cap with
  | some m, some h, cap => ife (ife (Nat.ble m (capKn g id off len cap)) (ife (Nat.ble h m) (Nat.ble (lo.getD 0) h) false) false) (k (slLit id off m (lo.getD 0) h size) g) (.bad 90)
  | none, hi, .lit n => ife (ife (Nat.ble (hi.getD 0) n) (Nat.ble (lo.getD 0) (hi.getD len)) false) (k (slLit id off n (lo.getD 0) (hi.getD len) size) g) (.bad 91)
  | none, hi, .any => ife (ife (Nat.ble (hi.getD len) len) (ife (Nat.ble (lo.getD 0) (hi.getD len)) (ife (Nat.beq (lo.getD 0) 0) true (Nat.ble (Nat.succ (lo.getD 0)) len)) false) false)
      (k (.slice id (off + lo.getD 0 * size) (hi.getD len - lo.getD 0) .any) g) (.bad 92)
  | none, hi, .full esz => ife (Nat.beq esz size) (ife (ife (Nat.ble (hi.getD len) (capKn g id off len (.full esz))) (ife (Nat.ble (lo.getD 0) (hi.getD len)) (ife (Nat.beq (lo.getD 0) 0) true (Nat.ble (Nat.succ (lo.getD 0)) (capKn g id off len (.full esz)))) false) false)
      (k (.slice id (off + lo.getD 0 * size) (hi.getD len - lo.getD 0) (.full esz)) g)
      (ife (ife (Nat.beq (lo.getD 0) (hi.getD len)) (Nat.beq (lo.getD 0) (capKn g id off len (.full esz))) false) (k (.xsl 0 (.k 0)) g) (.bad 93))) (.bad 94)
  | _, _, _ => .bad 95
theorem slLit_rel {id off m l h size b : Nat} (hb : N.b id = some b) (hh : h ≤ m) (hl : l ≤ h) :
    (slLit id off m l h size).rel V N (.slice (some (if m = l then ⟨b, off, none⟩ else (⟨b, off, none⟩ : Addr).add (l * size))) (h - l) (m - l)) := by
  unfold slLit
  simp only [AV.rel, addr_add]
  refine ⟨b, m - l, hb, ?_, rfl, by omega⟩
  cases e : Nat.beq m l
  · have : ¬ m = l := fun e' => by subst e'; simp at e
    rw [if_neg this]; rfl
  · rw [if_pos (Nat.eq_of_beq_eq_true e)]; rfl
/-- The slice of block b from off on, of length len and capacity c, cut: the bounds are within, and what comes out. -/
theorem aSl_ok (r : Grel V N W0 g w) {id off len c b size : Nat} {cap : Cap} {lo hi mx : Option Nat} (hb : N.b id = some b) (hc : cap.rel N id off len c)
    (h : (aSl g id off len cap size lo hi mx k).All V p) :
    mx.getD c ≤ c ∧ (hi = none ∧ mx = none ∨ ∃ x, hi = some x ∧ x ≤ mx.getD c) ∧ lo.getD 0 ≤ hi.getD len ∧
      ∃ a, a.rel V N (.slice (some (if mx.getD c = lo.getD 0 then ⟨b, off, none⟩ else (⟨b, off, none⟩ : Addr).add (lo.getD 0 * size))) (hi.getD len - lo.getD 0) (mx.getD c - lo.getD 0)) ∧ (k a g).All V p := by
  have hkn := capKn_ok r hc
  unfold aSl at h
  split at h
  · rename_i m hh
    obtain ⟨e1, e2, e3, h⟩ := ife3 h (fun x => x)
    have e1 := Nat.le_of_ble_eq_true e1; have e2 := Nat.le_of_ble_eq_true e2; have e3 := Nat.le_of_ble_eq_true e3
    exact ⟨by simp only [Option.getD_some]; omega, .inr ⟨hh, rfl, e2⟩, e3, _, slLit_rel hb e2 e3, h⟩
  · rename_i n
    obtain ⟨e1, e2, h⟩ := ife2 h (fun x => x)
    have e1 := Nat.le_of_ble_eq_true e1; have e2 := Nat.le_of_ble_eq_true e2
    obtain ⟨rfl, hlen⟩ := hc
    refine ⟨Nat.le_refl _, ?_, e2, _, slLit_rel hb ?_ e2, h⟩
    · cases hi with
      | none => exact .inl ⟨rfl, rfl⟩
      | some x => exact .inr ⟨x, rfl, e1⟩
    · cases hi with
      | none => exact hlen
      | some x => exact e1
  · obtain ⟨e1, e2, e3, h⟩ := ife3 h (fun x => x)
    have e1 := Nat.le_of_ble_eq_true e1; have e2 := Nat.le_of_ble_eq_true e2
    have hlen := hc.le
    have e3 : lo.getD 0 = 0 ∨ lo.getD 0 < len := by
      cases e : Nat.beq (lo.getD 0) 0
      · rw [e] at e3; exact .inr (Nat.le_of_ble_eq_true e3)
      · exact .inl (Nat.eq_of_beq_eq_true e)
    refine ⟨Nat.le_refl _, ?_, e2, _, ?_, h⟩
    · cases hi with
      | none => exact .inl ⟨rfl, rfl⟩
      | some x => exact .inr ⟨x, rfl, by simp at e1; simp; omega⟩
    · simp only [AV.rel, Option.getD_none, addr_add]
      refine ⟨b, c - lo.getD 0, hb, ?_, ?_⟩
      · split
        · rename_i e; rcases e3 with e3 | e3
          · rw [e3]; simp
          · omega
        · rfl
      · simp only [Cap.rel]; omega
  · rename_i esz
    obtain ⟨e0, h⟩ := ife1 h (fun x => x)
    have e0 := Nat.eq_of_beq_eq_true e0; subst e0
    cases hC : ife (Nat.ble (hi.getD len) (capKn g id off len (.full esz))) (ife (Nat.ble (lo.getD 0) (hi.getD len)) (ife (Nat.beq (lo.getD 0) 0) true (Nat.ble (Nat.succ (lo.getD 0)) (capKn g id off len (.full esz)))) false) false
    · rw [hC, ife_false] at h
      obtain ⟨e1, e2, h⟩ := ife2 h (fun x => x)
      have e1 := Nat.eq_of_beq_eq_true e1; have e2 := Nat.eq_of_beq_eq_true e2
      refine ⟨Nat.le_refl _, ?_, by omega, .xsl 0 (.k 0), ?_, h⟩
      · cases hi with
        | none => exact .inl ⟨rfl, rfl⟩
        | some x => exact .inr ⟨x, rfl, by simp at e1; simp; omega⟩
      · simp only [AV.rel, E.den]
        exact ⟨_, _, _, rfl, by omega, by simp only [Option.getD_none]; omega, fun _ hlt => by omega, fun h16 => absurd h16 (by decide)⟩
    · obtain ⟨e1, e2, e3, h⟩ := ife3 (y := Rs.bad 93) (by rw [hC, ife_true] at h; rw [hC, ife_true]; exact h) (fun x => x)
      have e1 := Nat.le_of_ble_eq_true e1; have e2 := Nat.le_of_ble_eq_true e2
      have e3 : lo.getD 0 = 0 ∨ lo.getD 0 < c := by
        cases e : Nat.beq (lo.getD 0) 0
        · rw [e] at e3; right; have := Nat.le_of_ble_eq_true e3; omega
        · exact .inl (Nat.eq_of_beq_eq_true e)
      refine ⟨Nat.le_refl _, ?_, e2, _, ?_, h⟩
      · cases hi with
        | none => exact .inl ⟨rfl, rfl⟩
        | some x => exact .inr ⟨x, rfl, by simp at e1; simp; omega⟩
      · simp only [AV.rel, Option.getD_none, addr_add]
        refine ⟨b, c - lo.getD 0, hb, ?_, ?_⟩
        · split
          · rename_i e; rcases e3 with e3 | e3
            · rw [e3]; simp
            · omega
          · rfl
        · obtain ⟨gs, g1, g2, g3, g4⟩ := hc
          have hhc : hi.getD len ≤ c := by omega
          have hmul : hi.getD len * esz ≤ gs - off := by
            have := Nat.mul_le_mul_right esz hhc
            rw [g3] at this
            have h2 := Nat.div_mul_le_self (gs - off) esz
            omega
          have hoff : off ≤ gs := by omega
          refine ⟨gs, g1, g2, ?_, ?_⟩
          · rw [g3]
            have hle : lo.getD 0 * esz ≤ gs - off := Nat.le_trans (Nat.mul_le_mul_right _ e2) hmul
            rw [show gs - (off + lo.getD 0 * esz) = gs - off - esz * lo.getD 0 from by rw [Nat.mul_comm esz]; omega, Nat.sub_mul_div]
          · have : (hi.getD len - lo.getD 0) * esz = hi.getD len * esz - lo.getD 0 * esz := Nat.sub_mul _ _ _
            have h3 := Nat.mul_le_mul_right esz e2
            omega
  · exact h.elim
/-- The first numbers of a list that came in. -/
noncomputable def xslH (R : Rg) (id : Nat) (len : E) (lo hi mx : Option Nat) (g : G) (k : AV → G → Rs α) : Rs α := match lo, hi, mx with
  | none, some h, none => ife (ife (Nat.ble id 15) ((len.sub (.k (Int.ofNat h))).geq0 R g.fs) false) (k (.xsl id (.k (Int.ofNat h))) g) (.bad 97)
  | _, _, _ => .bad 98
noncomputable def aSlice (P : Program) (R : Rg) (t : TypeId) (x : AV) (lo hi mx : Option AV) (g : G) (k : AV → G → Rs α) : Rs α :=
  onOpt R lo g fun lo g => onOpt R hi g fun hi g => onOpt R mx g fun mx g =>
  match P.underlying t with
  | some (.array n elem) => match P.info? elem, x with
    | some i, .ptr id off => aSl g id off n (.lit n) i.size lo hi mx k
    | _, _ => .bad 96
  | some (.slice elem) => match P.info? elem, x with
    | some i, .slice id off len cap => aSl g id off len cap i.size lo hi mx k
    | some _, .nilslice => ife (ife (Nat.beq (lo.getD 0) 0) (ife (Nat.beq (hi.getD 0) 0) (match hi, mx with | none, some _ => false | _, _ => Nat.beq (mx.getD 0) 0) false) false) (k .nilslice g) (.bad 99)
    | some _, .xsl id len => xslH R id len lo hi mx g k
    | _, _ => .bad 100
  | _ => .bad 101
def ORel (V : Va) (N : Env) (o : Option AV) (u : Option Value) : Prop := match o, u with | none, none => True | some a, some v => a.rel V N v | _, _ => False
theorem aSlice_ok {R : Rg} (hR : R.ok V) (r : Grel V N W0 g w) {t : TypeId} {x : AV} {v : Value} {olo ohi omx : Option AV} {ulo uhi umx : Option Value} (hx : x.rel V N v) (hlo : ORel V N olo ulo) (hhi : ORel V N ohi uhi)
    (hmx : ORel V N omx umx) (h0 : (aSlice P R t x olo ohi omx g k).All V p) : Does P V W0 N g p k w (Instr.sliceAt t v ulo uhi umx) := by
  unfold aSlice at h0
  obtain ⟨lo, g1, f1, k1, hA⟩ := onOpt_ok hR r hlo h0
  obtain ⟨hi, g2, f2, k2, hB⟩ := onOpt_ok hR k1.1 hhi hA
  obtain ⟨mx, g3, f3, k3, h⟩ := onOpt_ok hR k2.1 hmx hB
  have kn := (k1.trans k2).trans k3
  have r3 := kn.1
  refine Does.know kn ?_
  clear k1 k2 k3 r kn h0 hA hB hlo hhi hmx
  split at h
  · rename_i n elem ht
    split at h
    · rename_i i id off hinf
      simp only [AV.rel] at hx
      obtain ⟨b, hb, rfl⟩ := hx
      obtain ⟨e1, e2, e3, a, e4, h⟩ := aSl_ok r3 hb (cap := .lit n) (c := n) ⟨rfl, Nat.le_refl _⟩ h
      refine Does.val r3 e4 h ?_
      simp only [Instr.sliceAt, Sem.run_bind, run_underlying ht, Result.andThen_ok, Instr.sureAddr, Sem.run_pure, run_sliceBounds f1 f2 f3 e1 e2 e3, run_sizeOf hinf]
    · exact h.elim
  · rename_i elem ht
    have hat : ∀ (s : Sem Value), (Instr.slice t v ulo uhi umx).run P w = s.run P w → (Instr.sliceAt t v ulo uhi umx).run P w = s.run P w := by
      intro s hs
      simp only [Instr.sliceAt, Sem.run_bind, run_underlying ht, Result.andThen_ok]
      exact hs
    have hrun : (Instr.sliceAt t v ulo uhi umx).run P w = (Instr.slice t v ulo uhi umx).run P w := by
      simp only [Instr.sliceAt, Sem.run_bind, run_underlying ht, Result.andThen_ok]
    clear hat
    split at h
    · rename_i i id off len cap hinf
      simp only [AV.rel] at hx
      obtain ⟨b, c, hb, rfl, hcap⟩ := hx
      obtain ⟨e1, e2, e3, a, e4, h⟩ := aSl_ok r3 hb hcap h
      refine Does.val r3 e4 h ?_
      rw [hrun]
      simp only [Instr.slice, Sem.run_bind, run_underlying ht, Result.andThen_ok, Sem.run_pure, run_sliceBounds f1 f2 f3 e1 e2 e3, run_sizeOf hinf]
      congr 2
      split <;> rfl
    · simp only [AV.rel] at hx
      subst hx
      rename_i hinf
      obtain ⟨e1, e2, e3, h⟩ := ife3 h (fun x => x)
      have e1 := Nat.eq_of_beq_eq_true e1; have e2 := Nat.eq_of_beq_eq_true e2
      have hsb : (Instr.sliceBounds true 0 0 ulo uhi umx).run P w = .ok (0, 0, 0) w := by
        have := run_sliceBounds (P := P) (w := w) (isS := true) (len := 0) (cap := 0) f1 f2 f3
        have emx : mx.getD 0 = 0 := by
          cases hi <;> cases mx <;> simp at e3 ⊢ <;> omega
        rw [e1, e2, emx] at this
        refine this (Nat.le_refl _) ?_ (Nat.le_refl _)
        cases hi with
        | none => cases mx with
          | none => exact .inl ⟨rfl, rfl⟩
          | some m => simp at e3
        | some x => exact .inr ⟨x, rfl, by simp at e2; omega⟩
      refine Does.val r3 (a := .nilslice) (v := .slice none 0 0) (by simp only [AV.rel]) h ?_
      rw [hrun]
      simp only [Instr.slice, Sem.run_bind, run_underlying ht, Result.andThen_ok, Sem.run_pure, hsb, run_sizeOf hinf]
      rfl
    · rename_i i id len hinf
      unfold xslH at h
      split at h
      · rename_i hh
        obtain ⟨e0, e1, h⟩ := ife2 h (fun x => x)
        have e0 := Nat.le_of_ble_eq_true e0
        have e1 := E.geq0_ok hR r3.facts e1
        rw [E.den_sub] at e1
        simp only [E.den, Int.ofNat_eq_natCast] at e1
        simp only [AV.rel] at hx
        obtain ⟨A, q, c, rfl, hq, hqc, hA, _⟩ := hx
        have hsb := run_sliceBounds (P := P) (w := w) (isS := true) (len := q) (cap := c) f1 f2 f3 (Nat.le_refl _) (.inr ⟨hh, rfl, by simp only [Option.getD_none]; omega⟩) (Nat.zero_le _)
        refine Does.val r3 (a := .xsl id (.k (Int.ofNat hh))) (v := .slice A hh c) ?_ h ?_
        · simp only [AV.rel, E.den]
          exact ⟨A, hh, c, rfl, rfl, by omega, fun hi h0 => by obtain ⟨k1, k2⟩ := hA hi (by omega); exact ⟨by omega, k2⟩, fun h16 => by omega⟩
        · rw [hrun]
          simp only [Instr.slice, Sem.run_bind, run_underlying ht, Result.andThen_ok, Sem.run_pure, hsb, run_sizeOf hinf]
          have : (if c = 0 then A else A.map (·.add (0 * i.size))) = A := by
            split
            · rfl
            · cases A with
              | none => rfl
              | some a => simp [Addr.add]
          simp only [Option.getD_some, Option.getD_none, Nat.sub_zero] at this ⊢
          rw [this]
      · exact h.elim
    · exact h.elim
  · exact h.elim
noncomputable def aArrAt (P : Program) (t : TypeId) (x : AV) (g : G) (k : AV → G → Rs α) : Rs α :=
  match P.underlying t, x with
  | some (.array n _), .slice id off len _ => ife (Nat.ble n len) (k (.ptr id off) g) (.bad 102)
  | _, _ => .bad 103
theorem aArrAt_ok (r : Grel V N W0 g w) {t : TypeId} {x : AV} {v : Value} (hx : x.rel V N v) (h : (aArrAt P t x g k).All V p) : Does P V W0 N g p k w (Instr.arrayAt t v) := by
  unfold aArrAt at h
  split at h
  · rename_i n elem id off len cap ht
    simp only [AV.rel] at hx
    obtain ⟨b, c, hb, rfl, hcap⟩ := hx
    obtain ⟨e0, h⟩ := ife1 h (fun x => x)
    have e0 := Nat.le_of_ble_eq_true e0
    refine Does.val r (a := .ptr id off) (v := .pointer (some ⟨b, off, none⟩)) (by simp only [AV.rel]; exact ⟨b, hb, rfl⟩) h ?_
    simp only [Instr.arrayAt, Sem.run_bind, run_underlying ht, Result.andThen_ok, if_neg (show ¬ len < n by omega), Sem.run_pure]
  · exact h.elim
end
end Go.RX
