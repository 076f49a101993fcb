/- RX, part 8: make, len, cap, min, max, copy, clear, append. -/
import Derived.Test.YtoheklommpochaaRxQ
namespace Go.RX
section
variable {P : Program} {α : Type} {V : Va} {W0 : World} {N : Env} {g : G} {p : α → Prop} {k : AV → G → Rs α} {w : World}

/-- A number of a slot that is a literal. -/
noncomputable def onLit (a : AV) (f : Nat → Rs α) : Rs α := match a with | .int _ (.k (.ofNat m)) => f m | _ => .bad 110
theorem onLit_ok {a : AV} {v : Value} {f : Nat → Rs α} (ha : a.rel V N v) (h : (onLit a f).All V p) : ∃ kd m, v = .int kd (Int.ofNat m) ∧ (f m).All V p := by
  unfold onLit at h
  split at h
  · rename_i kd m; exact ⟨kd, m, by simpa only [AV.rel, E.den] using ha, h⟩
  · exact h.elim

/-- A new block, whose first cells are known; its number goes on. -/
noncomputable def aNewI (cs : List AV) (elem : TypeId) (opn : Bool) (g : G) (k : Nat → G → Rs α) : Rs α :=
  ife (Nat.ble (Nat.succ g.nx) g.lim) (k g.nx (g.new (.cells cs elem opn true))) (.bad 116)
theorem aNewI_ok (r : Grel V N W0 g w) {cs : List AV} {elem : TypeId} {opn : Bool} {vs : Array Value} {kk : Nat → G → Rs α} (hl : cs.length ≤ vs.size) (ho : opn = false → vs.size = cs.length)
    (hv : AV.rels V N cs (vs.toList.take cs.length)) (h : (aNewI cs elem opn g kk).All V p) :
    ∃ N', Grel V N' W0 (g.new (.cells cs elem opn true)) (w.alloc (.cells vs elem)) ∧ Ext g N (g.new (.cells cs elem opn true)) N' ∧ N'.b g.nx = some w.heap.size ∧ N'.c g.nx = some vs.size ∧
      (kk g.nx (g.new (.cells cs elem opn true))).All V p := by
  obtain ⟨hlt, h⟩ := ife1 h (fun x => x)
  have hlt := Nat.le_of_ble_eq_true hlt
  have hf := r.fresh g.nx (Nat.le_refl _) (by omega)
  obtain ⟨h1, h2⟩ := r.new (o := .cells cs elem opn true) (x := .cells vs elem) (by omega) rfl (fun _ _ _ e => by injection e with _ _ e; exact e.symm)
    ⟨vs, (0, 0), rfl, fun _ => rfl, hl, ho, by simp [Env.bind, objSize], AV.rels.mono (Env.le_bind hf.1 hf.2) _ _ hv⟩
  exact ⟨_, h1, h2, by simp [Env.bind], by simp [Env.bind, objSize], h⟩

/-! ### make -/
noncomputable def aMake (P : Program) (t : TypeId) (l c : AV) (g : G) (k : AV → G → Rs α) : Rs α :=
  onLit l fun l => onLit c fun c => match P.underlying t with
  | some (.slice elem) => match P.info? elem with
    | some i => match i.zero with
      | some z => ife (ife (ife (ofVal z).known (Nat.beq (llen (ofVal z).cells) i.size) false) (ife (Nat.ble l c) (ife (Nat.ble (c * i.bytes) 281474976710656) (Nat.ble c 281474976710656) false) false) false)
        (aNewI (zeros (ofVal z).cells c) elem false g (fun id g' => k (.slice id 0 l (.lit c)) g')) (.bad 112)
      | none => .bad 113
    | none => .bad 114
  | _ => .bad 115
theorem aMake_ok (r : Grel V N W0 g w) {t : TypeId} {l c : AV} {vl vc : Value} (hl : l.rel V N vl) (hc : c.rel V N vc) (h : (aMake P t l c g k).All V p) : Does P V W0 N g p k w (Instr.makeSlice t vl vc) := by
  unfold aMake at h
  obtain ⟨kl, l, rfl, h⟩ := onLit_ok hl h
  obtain ⟨kc, c, rfl, h⟩ := onLit_ok hc h
  split at h
  · rename_i elem ht
    split at h
    · rename_i i hi
      split at h
      · rename_i z hz
        obtain ⟨e1, e2, h⟩ := ife2 h (fun x => x)
        have e1' : (ofVal z).known = true ∧ Nat.beq (llen (ofVal z).cells) i.size = true := by
          revert e1; cases (ofVal z).known <;> cases Nat.beq (llen (ofVal z).cells) i.size <;> simp
        have e2' : l ≤ c ∧ c * i.bytes ≤ 281474976710656 ∧ c ≤ 281474976710656 := by
          cases a : Nat.ble l c
          · rw [a] at e2; cases e2
          · cases b : Nat.ble (c * i.bytes) 281474976710656
            · rw [a, b] at e2; cases e2
            · rw [a, b] at e2
              exact ⟨Nat.le_of_ble_eq_true a, Nat.le_of_ble_eq_true b, Nat.le_of_ble_eq_true e2⟩
        obtain ⟨a1, a2⟩ := e1'
        have a2 := Nat.eq_of_beq_eq_true a2
        rw [llen_eq] at a2
        obtain ⟨b1, b2, b3⟩ := e2'
        have hz' := AV.rel_cells a1 (ofVal_rel V N z)
        have hzl := rels_length hz'
        simp only [Array.length_toList] at hzl
        have hzz := zeros_ok hz' c
        have hlen := rels_length hzz
        obtain ⟨N', g1, g2, g3, g4, g5⟩ := aNewI_ok (vs := ((List.replicate c z.cells.toList).flatten).toArray) r (by rw [List.size_toArray, hlen]; exact Nat.le_refl _) (fun _ => by rw [List.size_toArray, hlen])
          (by rw [List.toList_toArray, ← hlen, List.take_length]; exact hzz) h
        refine ⟨.slice (some ⟨w.heap.size, 0, none⟩) l c, _, _, _, N', ?_, g1, g2, ?_, g5⟩
        · have hw1 : IntKind.i64.wrap (c : Int) = (c : Int) := wrap_in (by show (-9223372036854775808 : Int) ≤ _; omega) (by show _ ≤ (9223372036854775807 : Int); omega)
          have hw2 : IntKind.i64.wrap (l : Int) = (l : Int) := wrap_in (by show (-9223372036854775808 : Int) ≤ _; omega) (by show _ ≤ (9223372036854775807 : Int); omega)
          have hrow : (Array.range (c * i.size)).map (fun x => (if c * i.size = 0 then #[] else z.cells)[x % (if c * i.size = 0 then #[] else z.cells).size]!) = ((List.replicate c z.cells.toList).flatten).toArray := by
            rw [← rows_eq]
            by_cases h0 : c * i.size = 0
            · have : c * z.cells.size = 0 := by rw [hzl, a2]; exact h0
              rw [this, h0]; simp
            · rw [if_neg h0, hzl, a2]
          have hbytes : ¬ ((i.bytes : Int) * (c : Int) > 2 ^ 48) := by
            have : (i.bytes : Int) * (c : Int) = ((c * i.bytes : Nat) : Int) := by rw [Nat.mul_comm]; simp
            rw [this]; omega
          simp only [Instr.makeSlice, Sem.run_bind, run_underlying ht, Result.andThen_ok, asInt, asIntOf, Sem.run_pure, run_typeInfo hi, Int.ofNat_eq_natCast, hw1, hw2]
          have hc1 : ((c : Int) < 0 || (i.bytes : Int) * (c : Int) > 2 ^ 48) = false := by
            rw [Bool.or_eq_false_iff]; exact ⟨by simp, by simpa using hbytes⟩
          have hcond : ((((c : Int) < 0 || (i.bytes : Int) * (c : Int) > 2 ^ 48) || decide ((l : Int) < 0)) || decide ((l : Int) > (c : Int))) = false := by
            rw [hc1]; simp; omega
          simp only [hcond, Bool.false_eq_true, if_false, Sem.run_bind, run_askRoom, Result.andThen_ok, Int.toNat_natCast, Sem.run_ite, Sem.run_pure, run_zeroValue hi hz, run_sizeOf hi]
          split
          · rename_i h0
            rw [if_pos h0] at hrow
            rw [hrow]
            simp [newRow]
          · rename_i h0
            rw [if_neg h0] at hrow
            rw [hrow]
            simp [newRow]
        · simp only [AV.rel]; exact ⟨_, _, g3, rfl, rfl, b1⟩
      · exact h.elim
    · exact h.elim
  · exact h.elim

/-! ### len, cap, min, max -/
noncomputable def aLen (P : Program) (t : TypeId) (x : AV) (g : G) (k : AV → G → Rs α) : Rs α :=
  match P.underlying t with
  | some (.array n _) => k (.int .i64 (.k (Int.ofNat n))) g
  | some (.slice _) => match x with
    | .nilslice => k (.int .i64 (.k 0)) g
    | .slice _ _ n _ => k (.int .i64 (.k (Int.ofNat n))) g
    | .xsl _ e => k (.int .i64 e) g
    | _ => .bad 120
  | some (.pointer arr) => match P.underlying arr with
    | some (.array n _) => k (.int .i64 (.k (Int.ofNat n))) g
    | _ => .bad 121
  | _ => .bad 122
theorem aLen_ok (r : Grel V N W0 g w) {t tt : TypeId} {ts : Array TypeId} {x : AV} {v : Value} (hx : x.rel V N v) (hts : ts[0]? = some t) (h : (aLen P t x g k).All V p) : Does P V W0 N g p k w (Builtin.len_ ts tt #[v]) := by
  unfold aLen at h
  split at h
  · rename_i n elem ht
    refine Does.val r (v := goInt n) (by simp only [AV.rel, E.den]; rfl) h ?_
    simp [Builtin.len_, hts, run_underlying ht]
  · rename_i elem ht
    split at h
    · simp only [AV.rel] at hx; subst hx
      refine Does.val r (v := goInt 0) (by simp only [AV.rel, E.den]; rfl) h ?_
      simp [Builtin.len_, hts, run_underlying ht]
    · rename_i id off n cap
      simp only [AV.rel] at hx
      obtain ⟨b, c, hb, rfl, hcap⟩ := hx
      refine Does.val r (v := goInt n) (by simp only [AV.rel, E.den]; rfl) h ?_
      simp [Builtin.len_, hts, run_underlying ht]
    · rename_i id e
      simp only [AV.rel] at hx
      obtain ⟨b, n, c, rfl, hn, _⟩ := hx
      refine Does.val r (v := goInt n) (by simp only [AV.rel]; rw [← hn]; rfl) h ?_
      simp [Builtin.len_, hts, run_underlying ht]
    · exact h.elim
  · rename_i arr ht
    split at h
    · rename_i n elem ha
      refine Does.val r (v := goInt n) (by simp only [AV.rel, E.den]; rfl) h ?_
      simp [Builtin.len_, hts, run_underlying ht, run_underlying ha]
    · exact h.elim
  · exact h.elim
noncomputable def aMm (f : E → E → E) (x y : AV) (g : G) (k : AV → G → Rs α) : Rs α :=
  match x, y with
  | .int kx a, .int _ b => k (.int kx (f a b)) g
  | _, _ => .bad 123
theorem aMin_ok {R : Rg} (hR : R.ok V) (r : Grel V N W0 g w) {ts : Array TypeId} {tt : TypeId} {x y : AV} {v u : Value} (hx : x.rel V N v) (hy : y.rel V N u) (h : (aMm (mkMn R g.fs) x y g k).All V p) : Does P V W0 N g p k w (Builtin.min_ ts tt #[v, u]) := by
  unfold aMm at h
  split at h
  · rename_i kx a ky b
    simp only [AV.rel] at hx hy
    subst hx hy
    refine Does.val r (v := .int kx ((mkMn R g.fs a b).den V)) (by simp only [AV.rel]) h ?_
    simp [Builtin.min_, Builtin.min2, den_mkMn hR r.facts]
  · exact h.elim
theorem aMax_ok {R : Rg} (hR : R.ok V) (r : Grel V N W0 g w) {ts : Array TypeId} {tt : TypeId} {x y : AV} {v u : Value} (hx : x.rel V N v) (hy : y.rel V N u) (h : (aMm (mkMx R g.fs) x y g k).All V p) : Does P V W0 N g p k w (Builtin.max_ ts tt #[v, u]) := by
  unfold aMm at h
  split at h
  · rename_i kx a ky b
    simp only [AV.rel] at hx hy
    subst hx hy
    refine Does.val r (v := .int kx ((mkMx R g.fs a b).den V)) (by simp only [AV.rel]) h ?_
    simp [Builtin.max_, Builtin.max2, den_mkMx hR r.facts]
  · exact h.elim

/-! ### The cells of a slice -/
/-- Numbers of a list that came in, from the i-th on. -/
noncomputable def xsL (id n : Nat) : Nat → List AV := Nat.rec (motive := fun _ => Nat → List AV) (fun _ => []) (fun _ ih i => .int .i64 (.atom (.var (argVar id i))) :: ih (Nat.succ i)) n
theorem xsL_rel (V : Va) (N : Env) (id : Nat) : ∀ n i : Nat, AV.rels V N (xsL id n i) ((List.range' i n).map fun j => Value.int .i64 (V.v (argVar id j)))
  | 0, _ => rels_nil.2 rfl
  | n + 1, i => by
    show AV.rels V N (_ :: xsL id n (i + 1)) _
    rw [List.range'_succ, List.map_cons]
    exact rels_cons' (by simp only [AV.rel, E.den_atom, E.den]) (xsL_rel V N id n (i + 1))
noncomputable def xslC (id n size : Nat) (m : Int) : Option (List AV) := ife (Nat.beq n 0) (some []) (ife (ife (ife (Nat.ble id 15) (Nat.beq size 1) false) (ife (leI (Int.ofNat n) m) (Nat.ble n 64) false) false) (some (xsL id n 0)) none)
theorem xslC_ok (ha : ArgsOk V w) {v : Value} {id n size : Nat} {m : Int} {as : List AV} (hx : (AV.xsl id (.k m)).rel V N v) (h : xslC id n size m = some as) :
    ∃ xs : Array Value, (∀ w' : World, w'.heap = w.heap → (Builtin.firstCells size n v).run P w' = .ok xs w') ∧ AV.rels V N as xs.toList ∧ as.length = n * size := by
  simp only [AV.rel, E.den] at hx
  obtain ⟨A, q, c, rfl, hm, hqc, hA, _⟩ := hx
  unfold xslC at h
  cases h0 : Nat.beq n 0
  · rw [h0, ife_false] at h
    obtain ⟨e4, e1, e2, e3⟩ : Nat.ble id 15 = true ∧ Nat.beq size 1 = true ∧ leI (Int.ofNat n) m = true ∧ Nat.ble n 64 = true := by
      cases e4 : Nat.ble id 15
      · rw [e4] at h; cases h
      · cases e1 : Nat.beq size 1
        · rw [e4, e1] at h; cases h
        · cases e2 : leI (Int.ofNat n) m
          · rw [e4, e1, e2] at h; cases h
          · cases e3 : Nat.ble n 64
            · rw [e4, e1, e2, e3] at h; cases h
            · exact ⟨rfl, rfl, rfl, rfl⟩
    rw [e4, e1, e2, e3] at h
    have e4 := Nat.le_of_ble_eq_true e4
    simp only [ife_true] at h
    injection h with h; subst h
    have e1 := Nat.eq_of_beq_eq_true e1; subst e1
    have e2 := leI_iff.1 e2
    have hn : 0 < n := Nat.pos_of_ne_zero fun e => by subst e; cases h0
    rw [Int.ofNat_eq_natCast] at e2
    obtain ⟨h1, ad, h2, rfl⟩ := hA (by omega) (by omega)
    refine ⟨((List.range' 0 n).map fun j => Value.int .i64 (V.v (argVar id j))).toArray, fun w' hw' => ?_, by simpa using xsL_rel V N id n 0, ?_⟩
    · refine run_firstCells_some w' 1 n ad q c _ (by simp) fun j u hj => ?_
      rw [List.getElem?_map] at hj
      have hlt : j < n := by
        rcases Nat.lt_or_ge j n with hl | hl
        · exact hl
        · rw [List.getElem?_eq_none (by simpa using hl)] at hj; cases hj
      rw [List.getElem?_range' hlt, Option.map_some] at hj
      injection hj with hj; subst hj
      have := (ha.2 id ad j h2 (by omega)).2
      rw [show 0 + 1 * j = j from by omega]
      rw [← this]
      unfold World.cell?
      rw [hw']
    · have := rels_length (xsL_rel V N id n 0)
      simp at this; omega
  · rw [h0, ife_true] at h
    injection h with h; subst h
    have := Nat.eq_of_beq_eq_true h0
    subst this
    refine ⟨#[], fun w' _ => ?_, by simp [rels_nil], by simp⟩
    cases A with
    | none => rfl
    | some a => simp only [Builtin.firstCells, Nat.zero_mul]; rfl
noncomputable def slCells (g : G) (x : AV) (n size : Nat) : Option (List AV) :=
  match x with
  | .nilslice => some []
  | .xsl id (.k m) => xslC id n size m
  | .slice id off _ _ => ife (Nat.beq (n * size) 0) (some []) (match hget g.heap id with
    | some (.cells cs _ _ _) => ife (llong cs (off + n * size)) (some (ltake (ldrop cs off) (n * size))) none
    | _ => none)
  | _ => none
noncomputable def slLen (x : AV) : Option Nat := match x with | .nilslice => some 0 | .slice _ _ n _ => some n | _ => none
theorem slLen_ok {x : AV} {v : Value} {n : Nat} (hx : x.rel V N v) (h : slLen x = some n) : (Builtin.lenOf v).run P w = .ok n w := by
  unfold slLen at h
  split at h
  · simp only [AV.rel] at hx; subst hx; injection h with h; subst h; rfl
  · simp only [AV.rel] at hx; obtain ⟨b, c, hb, rfl, _⟩ := hx; injection h with h; subst h; rfl
  · cases h
/-- What is read from: its length. -/
noncomputable def slLenS (x : AV) : Option Nat := match x with | .xsl _ (.k m) => some m.toNat | x => slLen x
theorem slLenS_ok {x : AV} {v : Value} {n : Nat} (hx : x.rel V N v) (h : slLenS x = some n) : (Builtin.lenOf v).run P w = .ok n w := by
  unfold slLenS at h
  split at h
  · simp only [AV.rel, E.den] at hx
    obtain ⟨A, m, c, rfl, hm, _⟩ := hx
    injection h with h; subst h
    have e : m = Int.toNat (m : Int) := by omega
    rw [hm] at e
    rw [← e]; rfl
  · exact slLen_ok hx h
theorem slCells_ok (r : Grel V N W0 g w) {x : AV} {v : Value} {n size : Nat} {as : List AV} (hx : x.rel V N v) (hn : x = .nilslice → n = 0) (h : slCells g x n size = some as) :
    ∃ xs : Array Value, (Builtin.firstCells size n v).run P w = .ok xs w ∧ AV.rels V N as xs.toList ∧ as.length = n * size := by
  unfold slCells at h
  split at h
  · simp only [AV.rel] at hx; subst hx
    injection h with h; subst h
    refine ⟨#[], rfl, by simp [rels_nil], ?_⟩
    rw [hn rfl]; simp
  · obtain ⟨xs, h1, h2, h3⟩ := xslC_ok (P := P) (r.os.2.keep r.size r.below) hx h
    exact ⟨xs, h1 w rfl, h2, h3⟩
  · rename_i id off len cap
    simp only [AV.rel] at hx
    obtain ⟨b, c, hb, rfl, hcap⟩ := hx
    cases h0 : Nat.beq (n * size) 0
    · rw [h0] at h
      simp only [ife_false] at h
      split at h
      · rename_i cs elem opn own hcs
        obtain ⟨b', cc, fr, hb', hc, _, hlen, _, _, hrel⟩ := r.cells hcs
        rw [hb] at hb'; injection hb' with hb'; subst hb'
        cases hll : llong cs (off + n * size)
        · rw [hll] at h; cases h
        · rw [hll] at h
          injection h with h; subst h
          have hle := llong_iff.1 hll
          rw [ltake_eq, ldrop_eq]
          refine ⟨_, run_loadCells hc (show off + n * size ≤ cc.size by omega), ?_, by simp; omega⟩
          have e : (cc.toList.drop off).take (n * size) = ((cc.toList.take cs.length).drop off).take (n * size) := by
            rw [List.drop_take, List.take_take, Nat.min_eq_left (by omega)]
          rw [List.toList_toArray, e]
          exact rels_take _ (rels_drop _ hrel)
      · cases h
    · rw [h0] at h
      injection h with h; subst h
      have := Nat.eq_of_beq_eq_true h0
      refine ⟨#[], ?_, by simp [rels_nil], by simp [this]⟩
      simp only [Builtin.firstCells, this]; rfl
  · cases h

/-! ### copy, clear -/
noncomputable def aCopy (P : Program) (t : TypeId) (d s : AV) (g : G) (k : AV → G → Rs α) : Rs α :=
  match P.underlying t, slLen d, slLenS s with
  | some (.slice elem), some ld, some ls => match P.info? elem, slCells g s (Nat.min ls ld) ((match P.info? elem with | some i => i.size | none => 0)) with
    | some _, some as => match d with
      | .slice id off _ _ => match as with
        | [] => k (.int .i64 (.k (Int.ofNat (Nat.min ls ld)))) g
        | as => aPut id off as g (fun g => k (.int .i64 (.k (Int.ofNat (Nat.min ls ld)))) g)
      | _ => k (.int .i64 (.k (Int.ofNat (Nat.min ls ld)))) g
    | _, _ => .bad 124
  | _, _, _ => .bad 125
theorem aCopy_ok (r : Grel V N W0 g w) {t tt : TypeId} {ts : Array TypeId} {d s : AV} {v u : Value} (hd : d.rel V N v) (hs : s.rel V N u) (hts : ts[0]? = some t) (h : (aCopy P t d s g k).All V p) :
    Does P V W0 N g p k w (Builtin.copy_ ts tt #[v, u]) := by
  unfold aCopy at h
  split at h
  · rename_i elem ld ls ht hld hls
    split at h
    · rename_i i as hi has
      simp only [hi] at has
      have hnil : s = .nilslice → Nat.min ls ld = 0 := fun e => by subst e; simp [slLenS, slLen] at hls; subst hls; simp
      obtain ⟨xs, f1, f2, f3⟩ := slCells_ok (P := P) r hs hnil has
      have hlen := slLenS_ok (P := P) (w := w) hs hls
      have hend : (Builtin.copy_ ts tt #[v, u]).run P w = (match v with
          | .slice (some a) _ _ => (storeCells a xs.toList).run P w
          | _ => .ok () w : Result Unit).andThen fun _ w' => .ok (goInt (Nat.min ls ld)) w' := by
        unfold slLen at hld
        split at hld
        · simp only [AV.rel] at hd; subst hd
          injection hld with hld; subst hld
          rw [show ls.min 0 = 0 from Nat.min_eq_right (Nat.zero_le _)] at f1 ⊢
          simp [Builtin.copy_, hts, run_underlying ht, hlen, run_sizeOf hi, f1]
        · simp only [AV.rel] at hd; obtain ⟨b, c, hb, rfl, _⟩ := hd
          injection hld with hld; subst hld
          simp [Builtin.copy_, hts, run_underlying ht, hlen, run_sizeOf hi, f1]
        · cases hld
      split at h
      · rename_i id off n cap
        simp only [AV.rel] at hd
        obtain ⟨b, c, hb, rfl, _⟩ := hd
        split at h
        · have hx : xs.toList = [] := rels_nil.1 f2
          refine Does.val r (v := goInt (Nat.min ls ld)) (by simp only [AV.rel, E.den]; rfl) h ?_
          rw [hend]
          simp only [hx]
          rfl
        · obtain ⟨w', g', N', g1, g2, g3, g4⟩ := aPut_ok (P := P) r h hb f2
          exact ⟨goInt (Nat.min ls ld), w', _, g', N', by rw [hend]; simp only [g1, Result.andThen_ok], g2, g3, by simp only [AV.rel, E.den]; rfl, g4⟩
      · rename_i hne
        refine Does.val r (v := goInt (Nat.min ls ld)) (by simp only [AV.rel, E.den]; rfl) h ?_
        rw [hend]
        have : d = .nilslice := by
          cases d <;> simp [slLen] at hld <;> first | rfl | exact absurd rfl (hne _ _ _ _)
        subst this
        simp only [AV.rel] at hd; subst hd
        rfl
    · exact h.elim
  · exact h.elim
noncomputable def aClear (P : Program) (t : TypeId) (x : AV) (g : G) (k : AV → G → Rs α) : Rs α :=
  match P.underlying t, x with
  | some (.slice _), .nilslice => k (.tup []) g
  | some (.slice elem), .slice id off n _ => match P.info? elem with
    | some i => match i.zero with
      | some z => ife (Nat.beq n 0) (k (.tup []) g) (ife (ofVal z).known (aPut id off (zeros (ofVal z).cells n) g (fun g => k (.tup []) g)) (.bad 126))
      | none => .bad 127
    | none => .bad 128
  | _, _ => .bad 129
theorem aClear_ok (r : Grel V N W0 g w) {t tt : TypeId} {ts : Array TypeId} {x : AV} {v : Value} (hx : x.rel V N v) (hts : ts[0]? = some t) (h : (aClear P t x g k).All V p) : Does P V W0 N g p k w (Builtin.clear_ ts tt #[v]) := by
  unfold aClear at h
  have ht0 : (AV.tup []).rel V N (.tuple #[]) := by simp only [AV.rel]; exact ⟨#[], rfl, rels_nil.2 rfl⟩
  split at h
  · rename_i elem ht
    simp only [AV.rel] at hx; subst hx
    exact Does.val r (v := .tuple #[]) ht0 h (by simp [Builtin.clear_, hts, run_underlying ht])
  · rename_i elem id off n cap ht
    simp only [AV.rel] at hx
    obtain ⟨b, c, hb, rfl, _⟩ := hx
    split at h
    · rename_i i hi
      split at h
      · rename_i z hz
        cases h0 : Nat.beq n 0
        · rw [h0] at h
          have hne : ¬ n = 0 := fun e => by rw [e] at h0; cases h0
          simp only [ife_false] at h
          obtain ⟨hk, h⟩ := ife1 h (fun x => x)
          have hz' := AV.rel_cells hk (ofVal_rel V N z)
          obtain ⟨w', g', N', g1, g2, g3, g4⟩ := aPut_ok (P := P) r h hb (zeros_ok hz' n)
          have hzc : (Builtin.zeroCells z.cells n).toList = (List.replicate n z.cells.toList).flatten := by
            simp only [Builtin.zeroCells]; rw [rows_eq]
          refine ⟨.tuple #[], w', _, g', N', ?_, g2, g3, AV.rel.mono g3.le _ _ ht0, g4⟩
          cases n with
          | zero => exact absurd rfl hne
          | succ n =>
            simp only [Builtin.clear_, hts, List.getElem?_toArray, List.getElem?_cons_zero, Sem.run_bind, run_underlying ht, Result.andThen_ok, run_zeroValue hi hz]
            rw [hzc, g1]; rfl
        · rw [h0] at h
          have := Nat.eq_of_beq_eq_true h0; subst this
          exact Does.val r (v := .tuple #[]) ht0 h (by simp [Builtin.clear_, hts, run_underlying ht])
      · exact h.elim
    · exact h.elim
  · exact h.elim

/-! ### append -/
/-- A block takes another number. -/
theorem Grel.rename (r : Grel V N W0 g w) (hl : g.nx < g.lim) {id : Nat} {o : Ob} (h : hget g.heap id = some o) (hro : ∀ x ∈ g.ro, x ≠ id) :
    ∃ N', Grel V N' W0 { g with heap := hput (hdel g.heap id) g.nx o, nx := g.nx + 1 } w ∧ Ext g N { g with heap := hput (hdel g.heap id) g.nx o, nx := g.nx + 1 } N' ∧ N'.b g.nx = N.b id ∧ N'.c g.nx = N.c id := by
  have hf := r.fresh g.nx (Nat.le_refl _) hl
  have hle : N.le ⟨fun i => if i = g.nx then N.b id else N.b i, fun i => if i = g.nx then N.c id else N.c i⟩ := by
    refine ⟨fun i m hi => ?_, fun i m hi => ?_⟩ <;> dsimp only
    · rw [if_neg (fun e => by subst e; rw [hf.1] at hi; cases hi)]; exact hi
    · rw [if_neg (fun e => by subst e; rw [hf.2] at hi; cases hi)]; exact hi
  have hne : ∀ i o', hget g.heap i = some o' → i ≠ g.nx := by
    intro i o' hi e
    obtain ⟨b, h1, _⟩ := r.ob i o' hi
    rw [e, hf.1] at h1; cases h1
  refine ⟨⟨fun i => if i = g.nx then N.b id else N.b i, fun i => if i = g.nx then N.c id else N.c i⟩, ⟨r.os, r.tape, r.output, r.size, r.below, r.soft, ?_, ?_, ?_, r.facts⟩, ⟨hle, ?_, by simp, rfl, rfl, fun i hi o' ho' => by
    show hget (hput (hdel g.heap id) g.nx o) i = some o'
    rw [hget_hput, if_neg (Ne.symm (hne i o' ho')), hget_hdel, if_neg (Ne.symm (hro i hi))]; exact ho'⟩, by simp, by simp⟩
  · intro i o' hi
    simp only [hget_hput, hget_hdel] at hi
    split at hi
    · rename_i e; subst e; injection hi with hi; subst hi
      obtain ⟨b, h1, h2, h3⟩ := r.ob id o h
      refine ⟨b, by simpa using h1, ?_, h3⟩
      cases o with
      | cells cs elem opn own =>
        obtain ⟨c, fr, e1, e2, e3, e4, e5, e6⟩ := h2
        exact ⟨c, fr, e1, e2, e3, e4, by simpa using e5, AV.rels.mono hle _ _ e6⟩
      | emap => exact h2
      | row => exact h2
    · split at hi
      · cases hi
      · obtain ⟨b, h1, h2, h3⟩ := r.ob i o' hi
        exact ⟨b, hle.1 _ _ h1, h2.mono hle, h3⟩
  · intro i o1 i' o2 h1 h2 hii hown b hb hb'
    simp only [hget_hput, hget_hdel] at h1 h2
    dsimp only at hb hb'
    split at h1
    · rename_i e; subst e
      rw [if_pos rfl] at hb
      injection h1 with h1; subst h1
      rw [if_neg (Ne.symm hii)] at hb'
      split at h2
      · rename_i e; exact hii e
      · split at h2
        · cases h2
        · rename_i hn; exact r.apart id o i' o2 h h2 hn hown b hb hb'
    · rename_i hn1
      rw [if_neg (Ne.symm hn1)] at hb
      split at h1
      · cases h1
      · rename_i hn2
        split at h2
        · rename_i e; subst e
          rw [if_pos rfl] at hb'
          injection h2 with h2; subst h2
          exact r.apart i o1 id o h1 h (Ne.symm hn2) hown b hb hb'
        · rename_i hn3
          rw [if_neg (Ne.symm hn3)] at hb'
          split at h2
          · cases h2
          · exact r.apart i o1 i' o2 h1 h2 hii hown b hb hb'
  · intro i h1 h2
    dsimp only at h1 h2 ⊢
    have := r.fresh i (by omega) h2
    rw [if_neg (by omega), if_neg (by omega)]; exact this
  · intro i hi
    dsimp only
    rw [if_neg (fun e => hi ⟨by omega, by omega⟩), if_neg (fun e => hi ⟨by omega, by omega⟩)]; exact ⟨rfl, rfl⟩

/-- s grows into a new block; 'kill': the old block is given up. -/
noncomputable def aGrow (old new : List AV) (elem : TypeId) (i : TypeInfo) (need : Nat) (g : G) (k : AV → G → Rs α) : Rs α :=
  ife (ife (Nat.ble (need * i.bytes) 140737488355328) (ife (Nat.ble 1 i.size) (Nat.ble need 140737488355328) false) false) (aNewI (lapp old new) elem true g (fun id g' => k (.slice id 0 need (.full i.size)) g')) (.bad 130)
theorem size_zeroCells (z : Array Value) (n : Nat) : (Builtin.zeroCells z n).size = n * z.size := by simp [Builtin.zeroCells]
theorem aGrow_ok (r : Grel V N W0 g w) {old new : List AV} {elem t : TypeId} {tt : TypeId} {ts : Array TypeId} {xt xe : TypeId} {i : TypeInfo} {z : Value} {n sLen sCap : Nat} {base : Option Addr} {u : Value} {xo xn : Array Value}
    (hts : ts[0]? = some t) (hts1 : ts[1]? = some xt) (hxt : P.underlying xt = some (.slice xe))
    (ht : P.underlying t = some (.slice elem)) (hi : P.info? elem = some i) (hz : i.zero = some z) (hzs : z.cells.size = i.size) (hgrow : sCap < sLen + n)
    (hlen : (Builtin.lenOf u).run P w = .ok n w) (ho : ∀ w' : World, w'.heap = w.heap → (Builtin.firstCells i.size sLen (.slice base sLen sCap)).run P w' = .ok xo w') (hn : ∀ w' : World, w'.heap = w.heap → (Builtin.firstCells i.size n u).run P w' = .ok xn w')
    (rold : AV.rels V N old xo.toList) (rnew : AV.rels V N new xn.toList) (lold : old.length = sLen * i.size) (lnew : new.length = n * i.size)
    (h : (aGrow old new elem i (sLen + n) g k).All V p) : Does P V W0 N g p k w (Builtin.append_ ts tt #[.slice base sLen sCap, u]) := by
  obtain ⟨e1, e2, e3, h⟩ := ife3 h (fun x => x)
  rw [lapp_eq] at h
  have e1 := Nat.le_of_ble_eq_true e1; have e2 := Nat.le_of_ble_eq_true e2; have e3 := Nat.le_of_ble_eq_true e3
  -- the capacity that is drawn
  let q : Question := .appendCap (sLen + n) sCap elem
  let cap := q.cut (w.tape w.drawn q)
  let w1 : World := { w with drawn := w.drawn + 1 }
  have hcap : sLen + n ≤ cap := Nat.le_add_right _ _
  let cells : Array Value := xo ++ xn ++ Builtin.zeroCells z.cells (cap - (sLen + n))
  have hxo : xo.size = sLen * i.size := by have := rels_length rold; simp only [Array.length_toList] at this; omega
  have hxn : xn.size = n * i.size := by have := rels_length rnew; simp only [Array.length_toList] at this; omega
  have hcs : cells.size = cap * i.size := by
    simp only [cells, Array.size_append, size_zeroCells, hxo, hxn, hzs]
    rw [← Nat.add_mul, ← Nat.add_mul]; congr 1; omega
  have hpre : AV.rels V N (old ++ new) (cells.toList.take (old ++ new).length) := by
    have : cells.toList.take (old ++ new).length = xo.toList ++ xn.toList := by
      simp only [cells, Array.toList_append]
      rw [List.take_append_of_le_length (by simp; omega), List.take_of_length_le (by simp; omega)]
    rw [this]; exact rels_append rold rnew
  have r1 : Grel V N W0 g w1 := r.drew _
  obtain ⟨N', g1, g2, g3, g4, g5⟩ := aNewI_ok (vs := cells) r1 (by rw [hcs]; simp only [List.length_append, lold, lnew, ← Nat.add_mul]; exact Nat.mul_le_mul_right _ hcap) (fun x => by cases x) hpre h
  refine ⟨.slice (some ⟨w.heap.size, 0, none⟩) (sLen + n) cap, w1.alloc (.cells cells elem), _, _, N', ?_, g1, g2, ?_, g5⟩
  · have hfit := growslice_fits (bytes := i.bytes) hgrow e1
    have h1 : ¬ (sLen + n ≤ sCap) := by omega
    have h63 : ¬ (((sLen + n : Nat) : Int) > IntKind.i64.max ∧ (false = true ∨ i.bytes = 0)) := by
      have : IntKind.i64.max = 9223372036854775807 := by decide
      rw [this]; omega
    have h48 : ¬ (Builtin.nextslicecap (sLen + n) sCap * i.bytes > 2 ^ 48) := by omega
    have hz1 : ∀ w', (zeroValue elem).run P w' = .ok z w' := fun w' => run_zeroValue hi hz w'
    simp only [Builtin.append_, hts, hts1, List.getElem?_toArray, List.getElem?_cons_zero, List.getElem?_cons_succ, Sem.run_bind, run_underlying ht, run_underlying hxt, Result.andThen_ok, run_sizeOf hi, Sem.run_pure, Bool.false_eq_true, if_false,
      hlen, h1, run_typeInfo hi, Bool.not_false, if_true]
    have h63' : ¬ (((sLen + n : Nat) : Int) > IntKind.i64.max ∧ i.bytes = 0) := fun hh => h63 ⟨hh.1, .inr hh.2⟩
    simp only [false_or, h63', if_false, Sem.run_bind, Sem.run_ite, run_typeInfo hi, Result.andThen_ok, h48, run_choose, run_askRoom, Sem.run_pure]
    rw [if_neg (show ¬ (Question.appendCap (sLen + n) sCap elem).forced = true from by rw [show (Question.appendCap (sLen + n) sCap elem).forced = false from rfl]; simp)]
    simp only [Result.andThen_ok]
    rw [ho { w with drawn := w.drawn + 1 } rfl]
    simp only [Result.andThen_ok]
    rw [hn { w with drawn := w.drawn + 1 } rfl]
    simp only [Result.andThen_ok, hz1]
    simp [newRow, cells, cap, q, w1]
    rfl
  · simp only [AV.rel]
    refine ⟨w.heap.size, cap, g3, rfl, cells.size, g4, e2, ?_, ?_⟩
    · rw [hcs, Nat.sub_zero, Nat.mul_div_cancel _ e2]
    · rw [hcs, Nat.zero_add]; exact Nat.mul_le_mul_right _ hcap

/-- s grows, within its block or into a new one: whichever, a new number stands for what comes out. -/
noncomputable def aUpon (id : Nat) (new : List AV) (elem : TypeId) (i : TypeInfo) (len : Nat) (need : Nat) (g : G) (k : AV → G → Rs α) : Rs α :=
  match hget g.heap id with
  | some (.cells cs elem' true true) => ife (ife (Nat.beq elem' elem) (ife (Nat.beq (llen cs) (len * i.size)) (ife (noneEq id g.ro) (allOne new) false) false) false)
      (ife (ife (Nat.ble (need * i.bytes) 140737488355328) (ife (Nat.ble 1 i.size) (Nat.ble need 140737488355328) false) false)
        (ife (Nat.ble (Nat.succ g.nx) g.lim) (k (.slice g.nx 0 need (.full i.size)) (g.setHNW (hput (hdel g.heap id) g.nx (.cells (lapp cs new) elem true true)) id)) (.bad 131)) (.bad 132)) (.bad 133)
  | _ => .bad 134
noncomputable def aApp2 (elem : TypeId) (i : TypeInfo) (s : AV) (new : List AV) (lx : Nat) (g : G) (k : AV → G → Rs α) : Rs α :=
  match s with
  | .nilslice => aGrow [] new elem i (0 + lx) g k
  | .slice id off len cap => ife (Nat.ble (len + lx) (capKn g id off len cap)) (aPut id (off + len * i.size) new g (fun g => k (.slice id off (len + lx) cap) g))
    (match cap with
      | .lit n => match slCells g (.slice id off len (.lit n)) len i.size with | some old => aGrow old new elem i (len + lx) g k | none => .bad 135
      | .full esz => ife (ife (Nat.beq esz i.size) (Nat.beq off 0) false) (aUpon id new elem i len (len + lx) g k) (.bad 136)
      | .any => .bad 137)
  | _ => .bad 138
/-- So many zeros onto a nil slice. -/
noncomputable def aAppZ (P : Program) (t : TypeId) (s x : AV) (g : G) (k : AV → G → Rs α) : Rs α := match s with
  | .nilslice => onLit x fun n => match P.underlying t with
    | some (.slice elem) => match P.info? elem with
      | some i => match i.zero with
        | some z => ife (ife (ife (ofVal z).known (Nat.beq (llen (ofVal z).cells) i.size) false) (ife (Nat.ble 1 n) (ife (Nat.ble (n * i.bytes) 140737488355328) (ife (Nat.ble 1 i.size) (Nat.ble n 140737488355328) false) false) false) false)
            (aNewI (zeros (ofVal z).cells n) elem true g (fun id g' => k (.slice id 0 n (.full i.size)) g')) (.bad 144)
        | none => .bad 145
      | none => .bad 146
    | _ => .bad 147
  | _ => .bad 148
theorem aAppZ_ok (r : Grel V N W0 g w) {t xt tt : TypeId} {ts : Array TypeId} {kx : IntKind} {s x : AV} {v u : Value} (hs : s.rel V N v) (hx : x.rel V N u) (hts : ts[0]? = some t) (hts1 : ts[1]? = some xt) (hxt : P.underlying xt = some (.int kx))
    (h : (aAppZ P t s x g k).All V p) : Does P V W0 N g p k w (Builtin.append_ ts tt #[v, u]) := by
  unfold aAppZ at h
  split at h
  · simp only [AV.rel] at hs
    subst hs
    obtain ⟨kd, n, rfl, h⟩ := onLit_ok hx h
    split at h
    · rename_i elem ht
      split at h
      · rename_i i hi
        split at h
        · rename_i z hz
          obtain ⟨e1, e2, h⟩ := ife2 h (fun x => x)
          have e1' : (ofVal z).known = true ∧ Nat.beq (llen (ofVal z).cells) i.size = true := by
            revert e1; cases (ofVal z).known <;> cases Nat.beq (llen (ofVal z).cells) i.size <;> simp
          have e2' : 1 ≤ n ∧ n * i.bytes ≤ 140737488355328 ∧ 1 ≤ i.size ∧ n ≤ 140737488355328 := by
            cases a : Nat.ble 1 n
            · rw [a] at e2; cases e2
            · cases b : Nat.ble (n * i.bytes) 140737488355328
              · rw [a, b] at e2; cases e2
              · cases c : Nat.ble 1 i.size
                · rw [a, b, c] at e2; cases e2
                · rw [a, b, c] at e2
                  exact ⟨Nat.le_of_ble_eq_true a, Nat.le_of_ble_eq_true b, Nat.le_of_ble_eq_true c, Nat.le_of_ble_eq_true e2⟩
          obtain ⟨a1, a2⟩ := e1'
          have a2 := Nat.eq_of_beq_eq_true a2
          rw [llen_eq] at a2
          obtain ⟨b1, b2, b3, b4⟩ := e2'
          have hz' := AV.rel_cells a1 (ofVal_rel V N z)
          have hzl := rels_length hz'
          simp only [Array.length_toList] at hzl
          have hzz := zeros_ok hz' n
          have hlen := rels_length hzz
          have hzn : (zeros (ofVal z).cells n).length = n * i.size := by rw [zeros_len, a2]
          let q : Question := .appendCap (0 + n) 0 elem
          let cap := q.cut (w.tape w.drawn q)
          let w1 : World := { w with drawn := w.drawn + 1 }
          have hcap : 0 + n ≤ cap := Nat.le_add_right _ _
          let cells : Array Value := #[] ++ Builtin.zeroCells z.cells n ++ Builtin.zeroCells z.cells (cap - (0 + n))
          have hzc : (Builtin.zeroCells z.cells n).toList = (List.replicate n z.cells.toList).flatten := by
            have := rows_eq z.cells n
            unfold Builtin.zeroCells
            rw [this]
          have hcs : cells.size = cap * i.size := by
            simp only [cells, Array.size_append, size_zeroCells, hzl, a2]
            have e : (#[] : Array Value).size = 0 := rfl
            rw [e, Nat.zero_add, ← Nat.add_mul]; congr 1; omega
          have hpre : AV.rels V N (zeros (ofVal z).cells n) (cells.toList.take (zeros (ofVal z).cells n).length) := by
            have : cells.toList.take (zeros (ofVal z).cells n).length = (List.replicate n z.cells.toList).flatten := by
              simp only [cells, Array.toList_append]
              rw [hzc, ← hlen]
              rw [List.take_append_of_le_length (by simp), List.take_of_length_le (by simp)]
              rfl
            rw [this]; exact hzz
          have r1 : Grel V N W0 g w1 := r.drew _
          obtain ⟨N', g1, g2, g3, g4, g5⟩ := aNewI_ok (vs := cells) r1 (by rw [hcs, hzn]; exact Nat.mul_le_mul_right _ (by omega)) (fun x => by cases x) hpre h
          refine ⟨.slice (some ⟨w.heap.size, 0, none⟩) (0 + n) cap, w1.alloc (.cells cells elem), _, _, N', ?_, g1, g2, ?_, g5⟩
          · have hfit := growslice_fits (bytes := i.bytes) (show 0 < 0 + n by omega) (by rw [Nat.zero_add]; exact b2)
            have h1 : ¬ (0 + n ≤ 0) := by omega
            have h63 : ¬ (((0 + n : Nat) : Int) > IntKind.i64.max) := by
              have : IntKind.i64.max = 9223372036854775807 := by decide
              rw [this]; omega
            have h48 : ¬ (Builtin.nextslicecap (0 + n) 0 * i.bytes > 2 ^ 48) := by omega
            have hw1 : IntKind.i64.wrap (n : Int) = (n : Int) := wrap_in (by show (-9223372036854775808 : Int) ≤ _; omega) (by show _ ≤ (9223372036854775807 : Int); omega)
            have hneg : ¬ ((n : Int) < 0) := by omega
            have hb48 : ¬ ((n : Int) * (i.bytes : Int) > 2 ^ 48) := by
              have : (n : Int) * (i.bytes : Int) = ((n * i.bytes : Nat) : Int) := by simp
              rw [this]; omega
            have hn0 : ¬ (n * i.size = 0) := by
              have := Nat.mul_le_mul b1 b3
              omega
            have hz1 : ∀ w', (zeroValue elem).run P w' = .ok z w' := fun w' => run_zeroValue hi hz w'
            simp only [Builtin.append_, hts, hts1, List.getElem?_toArray, List.getElem?_cons_zero, List.getElem?_cons_succ, Sem.run_bind, run_underlying ht, run_underlying hxt, Result.andThen_ok, run_sizeOf hi, Sem.run_pure, if_true, asInt, asIntOf, Int.ofNat_eq_natCast, hw1, hneg, if_false, run_typeInfo hi, hb48,
              Int.toNat_natCast, h1, h63, false_and, Sem.run_ite, h48, run_choose, run_askRoom, Bool.not_true, Bool.false_eq_true, hn0]
            rw [if_neg (show ¬ (Question.appendCap (0 + n) 0 elem).forced = true from by rw [show (Question.appendCap (0 + n) 0 elem).forced = false from rfl]; simp)]
            simp only [Result.andThen_ok]
            have h0 : ∀ w' : World, (Builtin.firstCells i.size 0 (.slice none 0 0)).run P w' = .ok #[] w' := fun _ => rfl
            rw [h0 { w with drawn := w.drawn + 1 }]
            simp only [Result.andThen_ok, hz1]
            simp [newRow, cells, cap, q, w1]
            rfl
          · simp only [AV.rel]
            refine ⟨w.heap.size, cap, g3, by rw [Nat.zero_add], cells.size, g4, b3, ?_, ?_⟩
            · rw [hcs, Nat.sub_zero, Nat.mul_div_cancel _ b3]
            · rw [hcs, Nat.zero_add]; exact Nat.mul_le_mul_right _ (by omega)
        · exact h.elim
      · exact h.elim
    · exact h.elim
  · exact h.elim
noncomputable def aAppend (P : Program) (t xt : TypeId) (s x : AV) (g : G) (k : AV → G → Rs α) : Rs α :=
  match P.underlying t, P.underlying xt, slLen s, slLenS x with
  | some (.slice elem), some (.slice _), some _, some lx => match P.info? elem with
    | some i => match i.zero with
      | some z => ife (Nat.beq z.cells.size i.size) (match slCells g x lx i.size with
        | some new => natC lx (k s g) (fun m => aApp2 elem i s new (Nat.succ m) g k)
        | none => .bad 139) (.bad 140)
      | none => .bad 141
    | none => .bad 142
  | _, some (.int _), _, _ => aAppZ P t s x g k
  | _, _, _, _ => .bad 143
theorem run_append_room {t xt xe elem tt : TypeId} {ts : Array TypeId} {i : TypeInfo} {n sLen sCap : Nat} {base : Option Addr} {u : Value} {xn : Array Value} (hts : ts[0]? = some t) (hts1 : ts[1]? = some xt) (hxt : P.underlying xt = some (.slice xe))
    (ht : P.underlying t = some (.slice elem)) (hi : P.info? elem = some i) (hroom : sLen + n ≤ sCap) (hlen : (Builtin.lenOf u).run P w = .ok n w) (hn : (Builtin.firstCells i.size n u).run P w = .ok xn w) :
    (Builtin.append_ ts tt #[.slice base sLen sCap, u]).run P w = (match base with | some a => (storeCells (a.add (sLen * i.size)) xn.toList).run P w | none => .ok () w : Result Unit).andThen fun _ w' => .ok (.slice base (sLen + n) sCap) w' := by
  simp only [Builtin.append_, hts, hts1, List.getElem?_toArray, List.getElem?_cons_zero, List.getElem?_cons_succ, Sem.run_bind, run_underlying ht, run_underlying hxt, Result.andThen_ok, run_sizeOf hi, Sem.run_pure, Bool.false_eq_true, if_false,
      hlen, hroom, Bool.not_false, if_true, hn]
  cases base <;> simp
theorem aUpon_ok (r : Grel V N W0 g w) {id : Nat} {new : List AV} {elem t xt xe tt : TypeId} {ts : Array TypeId} {i : TypeInfo} {z : Value} {n len c : Nat} {u : Value} {xn : Array Value} {b : Nat}
    (hts : ts[0]? = some t) (hts1 : ts[1]? = some xt) (hxt : P.underlying xt = some (.slice xe)) (ht : P.underlying t = some (.slice elem)) (hi : P.info? elem = some i) (hz : i.zero = some z) (hzs : z.cells.size = i.size)
    (hb : N.b id = some b) (hcap : (Cap.full i.size).rel N id 0 len c) (hlen : (Builtin.lenOf u).run P w = .ok n w) (hn : ∀ w' : World, w'.heap = w.heap → (Builtin.firstCells i.size n u).run P w' = .ok xn w')
    (rnew : AV.rels V N new xn.toList) (lnew : new.length = n * i.size) (h : (aUpon id new elem i len (len + n) g k).All V p) :
    Does P V W0 N g p k w (Builtin.append_ ts tt #[.slice (some ⟨b, 0, none⟩) len c, u]) := by
  unfold aUpon at h
  simp only [lapp_eq] at h
  split at h
  · rename_i cs elem' hcs
    obtain ⟨e1, e2, e3', h⟩ := ife3 h (fun x => x)
    have hro : noneEq id g.ro = true := by cases hh : noneEq id g.ro <;> rw [hh] at e3' <;> first | rfl | cases e3'
    have e3 : allOne new = true := by rw [hro] at e3'; exact e3'
    obtain ⟨f1, f2, f3, h⟩ := ife3 h (fun x => x)
    obtain ⟨hnx, h⟩ := ife1 h (fun x => x)
    have e1 := Nat.eq_of_beq_eq_true e1; subst e1
    have e2 := Nat.eq_of_beq_eq_true e2; rw [llen_eq] at e2
    have f1' := Nat.le_of_ble_eq_true f1; have f2' := Nat.le_of_ble_eq_true f2; have f3' := Nat.le_of_ble_eq_true f3; have hnx' := Nat.le_of_ble_eq_true hnx
    obtain ⟨b', cc, fr, hb', hc, how, hlc, _, hN, hrel⟩ := r.cells hcs
    rw [hb] at hb'; injection hb' with hb'; subst hb'
    have hfr := (how rfl).1; subst hfr
    obtain ⟨gs, g1, g2, g3, g4⟩ := hcap
    rw [hN] at g1; injection g1 with g1; subst g1
    have hxn : xn.toList.length = n * i.size := by rw [rels_length rnew, lnew]
    by_cases hroom : len + n ≤ c
    · -- within the block
      have hsz : (len + n) * i.size ≤ cc.size := by
        have := Nat.mul_le_mul_right i.size hroom
        rw [g3, Nat.sub_zero] at this
        exact Nat.le_trans this (Nat.div_mul_le_self _ _)
      rw [Nat.add_mul] at hsz
      have hrun := run_storeCells (P := P) xn.toList hc (len * i.size) 0 (by rw [hxn]; omega) (rels_one (allOne_ok e3) rnew)
      have r1 := r.write (cs' := cs ++ new) hcs hb hc (c' := splice cc (len * i.size + 0) xn.toList) (splice_size (by rw [hxn]; omega)) (by simp [e2, lnew]; omega) (fun x => by cases x) (by
        have : (splice cc (len * i.size + 0) xn.toList).toList.take (cs ++ new).length = cc.toList.take cs.length ++ xn.toList := by
          simp only [splice, Nat.add_zero]
          rw [List.take_append_of_le_length (by simp [e2, lnew, hxn]; omega), ← e2, List.take_of_length_le (by simp [hxn, lnew]; omega)]
        rw [this]; exact rels_append hrel rnew)
      obtain ⟨N', h1, h2, h3, h4⟩ := r1.rename (show g.nx < g.lim by omega) (id := id) (o := .cells (cs ++ new) elem' true true) (by simp [hget_hput]) (noneEq_ok hro)
      have hheap : hput (hdel (hput g.heap id (.cells (cs ++ new) elem' true true)) id) g.nx (.cells (cs ++ new) elem' true true) = hput (hdel g.heap id) g.nx (.cells (cs ++ new) elem' true true) := by
        congr 1
        exact hdel_hput g.heap id _
      simp only [hheap] at h1 h2
      refine ⟨.slice (some ⟨b, 0, none⟩) (len + n) c, _, _, _, N', ?_, h1.wl (id :: g.wl), ⟨h2.le, h2.out, by simp, rfl, rfl, fun j hj o ho => ?_⟩, ?_, h⟩
      rotate_left 1
      · show hget (hput (hdel g.heap id) g.nx _) j = some o
        have hjid := noneEq_ok hro j hj
        have hjnx : j ≠ g.nx := by
          intro e; subst e
          obtain ⟨bb, q1, _⟩ := r.ob _ o ho
          rw [(r.fresh g.nx (Nat.le_refl _) (by omega)).1] at q1; cases q1
        rw [hget_hput, if_neg (Ne.symm hjnx), hget_hdel, if_neg (Ne.symm hjid)]; exact ho
      rotate_left 1
      · rw [run_append_room hts hts1 hxt ht hi hroom hlen (hn w rfl)]
        simp only [addr_add, Nat.zero_add]
        rw [hrun]; rfl
      · simp only [AV.rel]
        refine ⟨b, c, by rw [h3]; exact hb, rfl, cc.size, by rw [h4]; exact hN, g2, g3, by rw [Nat.zero_add, Nat.add_mul]; omega⟩
    · -- a new block
      have hold : ∀ w' : World, w'.heap = w.heap → (Builtin.firstCells i.size len (.slice (some ⟨b, 0, none⟩) len c)).run P w' = .ok ((cc.toList.drop 0).take (len * i.size)).toArray w' := by
        intro w' hw'
        exact run_loadCells (by rw [hw']; exact hc) (by omega)
      have rold : AV.rels V N cs ((cc.toList.drop 0).take (len * i.size)).toArray.toList := by
        rw [List.toList_toArray, List.drop_zero, ← e2]; exact hrel
      have rdel := (r.del id).wl (id :: g.wl)
      have hgr : (aGrow cs new elem' i (len + n) { g with heap := hdel g.heap id, wl := id :: g.wl } k).All V p := by
        unfold aGrow
        rw [lapp_eq]
        rw [f1, f2, f3]
        simp only [ife_true]
        unfold aNewI
        rw [hnx]
        exact h
      obtain ⟨v, w', a, g', N', h1, h2, h3, h4, h5⟩ := aGrow_ok (P := P) rdel hts hts1 hxt ht hi hz hzs (by omega) hlen hold hn rold rnew e2 lnew hgr
      refine ⟨v, w', a, g', N', h1, h2, ⟨h3.le, h3.out, h3.nx, h3.lim, h3.ro, fun j hj o ho => h3.keep j hj o ?_⟩, h4, h5⟩
      show hget (hdel g.heap id) j = some o
      rw [hget_hdel, if_neg (Ne.symm (noneEq_ok hro j hj))]; exact ho
  · exact h.elim

theorem firstCells_heap (r : Grel V N W0 g w) {x : AV} {v : Value} {n size : Nat} {as : List AV} (hx : x.rel V N v) (hn : x = .nilslice → n = 0) (h : slCells g x n size = some as) :
    ∃ xs : Array Value, (∀ w' : World, w'.heap = w.heap → (Builtin.firstCells size n v).run P w' = .ok xs w') ∧ AV.rels V N as xs.toList ∧ as.length = n * size := by
  obtain ⟨xs, h1, h2, h3⟩ := slCells_ok (P := P) r hx hn h
  refine ⟨xs, fun w' hw' => ?_, h2, h3⟩
  have r' : Grel V N W0 { g with fs := g.fs } w := r
  unfold slCells at h
  split at h
  · simp only [AV.rel] at hx; subst hx
    have : (Builtin.firstCells size n (.slice none 0 0)).run P w = .ok #[] w := rfl
    rw [this] at h1; injection h1 with h1; subst h1; rfl
  · obtain ⟨ys, k1, _, _⟩ := xslC_ok (P := P) (r.os.2.keep r.size r.below) hx h
    rw [k1 w rfl] at h1; injection h1 with h1; subst h1
    exact k1 w' hw'
  · rename_i id off len cap
    simp only [AV.rel] at hx
    obtain ⟨b, c, hb, rfl, hcap⟩ := hx
    cases h0 : Nat.beq (n * size) 0
    · rw [h0] at h
      simp only [ife_false] at h
      split at h
      · rename_i cs elem opn own hcs
        obtain ⟨b', cc, fr, hb', hc, _, hlen, _, _, hrel⟩ := r.cells hcs
        rw [hb] at hb'; injection hb' with hb'; subst hb'
        cases hll : llong cs (off + n * size)
        · rw [hll] at h; cases h
        · have hle := llong_iff.1 hll
          have e1 := run_loadCells (P := P) hc (show off + n * size ≤ cc.size by omega)
          have e2 := run_loadCells (P := P) (w := w') (by rw [hw']; exact hc) (show off + n * size ≤ cc.size by omega)
          have e3 : (Builtin.firstCells size n (.slice (some ⟨b, off, none⟩) len c)).run P w = .ok ((cc.toList.drop off).take (n * size)).toArray w := e1
          rw [e3] at h1; injection h1 with h1; subst h1
          exact e2
      · cases h
    · have := Nat.eq_of_beq_eq_true h0
      have e3 : ∀ u : World, (Builtin.firstCells size n (.slice (some ⟨b, off, none⟩) len c)).run P u = .ok #[] u := by
        intro u; simp only [Builtin.firstCells, this]; rfl
      rw [e3] at h1; injection h1 with h1; subst h1
      exact e3 w'
  · cases h
theorem aAppend_ok (r : Grel V N W0 g w) {t xt tt : TypeId} {ts : Array TypeId} {s x : AV} {v u : Value} (hs : s.rel V N v) (hx : x.rel V N u) (hts : ts[0]? = some t) (hts1 : ts[1]? = some xt)
    (h : (aAppend P t xt s x g k).All V p) : Does P V W0 N g p k w (Builtin.append_ ts tt #[v, u]) := by
  unfold aAppend at h
  split at h
  · rename_i elem xe ls lx ht hxt hls hlx
    split at h
    · rename_i i hi
      split at h
      · rename_i z hz
        obtain ⟨hzs, h⟩ := ife1 h (fun x => x)
        have hzs := Nat.eq_of_beq_eq_true hzs
        have hnil : x = .nilslice → lx = 0 := fun e => by subst e; simp [slLenS, slLen] at hlx; exact hlx.symm
        have hlen := slLenS_ok (P := P) (w := w) hx hlx
        cases has : slCells g x lx i.size with
        | none => rw [has] at h; exact h.elim
        | some new =>
        rw [has] at h
        obtain ⟨xn, f1, f2, f3⟩ := firstCells_heap (P := P) r hx hnil has
        cases lx with
        | zero =>
          have hxn : xn.toList = [] := by
            have := rels_length f2; rw [f3] at this; simpa using this
          have hroom : ∃ base sLen sCap, v = .slice base sLen sCap ∧ sLen ≤ sCap := by
            unfold slLen at hls
            split at hls
            · simp only [AV.rel] at hs; exact ⟨none, 0, 0, hs, Nat.le_refl _⟩
            · simp only [AV.rel] at hs; obtain ⟨b, c, _, rfl, hc⟩ := hs; exact ⟨_, _, _, rfl, hc.le⟩
            · cases hls
          obtain ⟨base, sLen, sCap, rfl, hle⟩ := hroom
          refine Does.val r hs h ?_
          rw [run_append_room (n := 0) hts hts1 hxt ht hi hle hlen (f1 w rfl), hxn]
          cases base <;> rfl
        | succ lx0 =>
          change (aApp2 elem i s new (lx0 + 1) g k).All V p at h
          unfold aApp2 at h
          split at h
          · simp only [AV.rel] at hs; subst hs
            exact aGrow_ok (P := P) r hts hts1 hxt ht hi hz hzs (by omega) hlen (xo := #[]) (fun w' _ => rfl) f1 (by simp [rels_nil]) f2 (by simp) f3 h
          · rename_i id off len cap hsl
            simp only [AV.rel] at hs
            obtain ⟨b, c, hb, rfl, hcap⟩ := hs
            have hkn := capKn_ok r hcap
            cases hroom : Nat.ble (len + (lx0 + 1)) (capKn g id off len cap)
            · rw [hroom] at h
              simp only [ife_false] at h
              split at h
              · rename_i nn
                obtain ⟨hc1, hc2⟩ := hcap
                have hno : ¬ (len + (lx0 + 1) ≤ nn) := fun e => by
                  have : Nat.ble (len + (lx0 + 1)) nn = true := by simpa using e
                  simp only [capKn] at hroom; rw [this] at hroom; cases hroom
                split at h
                · rename_i old hold
                  obtain ⟨xo, d1, d2, d3⟩ := firstCells_heap (P := P) r (x := .slice id off len (.lit nn)) (v := .slice (some ⟨b, off, none⟩) len c) (by simp only [AV.rel]; exact ⟨b, c, hb, rfl, hc1, hc2⟩) (fun e => by cases e) hold
                  exact aGrow_ok (P := P) r hts hts1 hxt ht hi hz hzs (by omega) hlen d1 f1 d2 f2 d3 f3 h
                · exact h.elim
              · rename_i esz
                obtain ⟨q1, q2, hU⟩ := ife2 h (fun x => x)
                have q1 := Nat.eq_of_beq_eq_true q1; have q2 := Nat.eq_of_beq_eq_true q2
                clear h
                subst q1 q2
                exact aUpon_ok (P := P) r hts hts1 hxt ht hi hz hzs hb hcap hlen f1 f2 f3 hU
              · exact h.elim
            · rw [hroom] at h
              simp only [ife_true] at h
              have hle := Nat.le_of_ble_eq_true hroom
              obtain ⟨w', g', N', g1, g2, g3, g4⟩ := aPut_ok (P := P) r h hb f2
              refine ⟨.slice (some ⟨b, off, none⟩) (len + (lx0 + 1)) c, w', _, g', N', ?_, g2, g3, ?_, g4⟩
              · rw [run_append_room hts hts1 hxt ht hi (by omega) hlen (f1 w rfl)]
                simp only [addr_add, g1]; rfl
              · simp only [AV.rel]
                refine ⟨b, c, g3.le.1 _ _ hb, rfl, ?_⟩
                cases cap with
                | lit nn => exact ⟨hcap.1, by simp only [capKn] at hle; exact hle⟩
                | any => simp only [Cap.rel]; omega
                | full esz =>
                  obtain ⟨gs, q1, q2, q3, q4⟩ := hcap
                  refine ⟨gs, g3.le.2 _ _ q1, q2, q3, ?_⟩
                  have hlc : len + (lx0 + 1) ≤ c := by omega
                  have := Nat.mul_le_mul_right esz hlc
                  have h2 := Nat.div_mul_le_self (gs - off) esz
                  rw [q3] at this
                  have : 0 < (len + (lx0 + 1)) * esz := Nat.mul_pos (by omega) q2
                  omega
          · exact h.elim
      · exact h.elim
    · exact h.elim
  · exact aAppZ_ok r hs hx hts hts1 (by assumption) h
  · exact h.elim
end
end Go.RX
