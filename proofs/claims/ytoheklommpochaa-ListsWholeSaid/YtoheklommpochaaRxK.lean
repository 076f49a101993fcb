/- RX, part 15d: all regions that draw their order. -/
import Derived.Test.YtoheklommpochaaRxN
namespace Go.RX
set_option linter.unusedVariables false
open Go.RowKit
section
variable {P : Program} {α : Type} {V : Va} {W0 : World} {N : Env} {g : G} {p : α → Prop} {w : World}
noncomputable def hfilter (wl : List Nat) (h : Heap) : Heap := List.rec (motive := fun _ => Heap) [] (fun x _ ih => ife (noneEq x.1 wl) (x :: ih) ih) h
noncomputable def hids (h : Heap) (l : List Nat) : List Nat := List.rec (motive := fun _ => List Nat) l (fun x _ ih => x.1 :: ih) h
noncomputable def wlOf (t : Rs (PT × G)) : Option (List Nat) := match t with | .leaf q => some q.2.wl | _ => none
/-- How many numbers each operation has. -/
noncomputable def sizeS (d : Nat) : Nat :=
  ife (Nat.ble (Nat.pow 2 199) d) (Nat.pow 2 150) (ife (Nat.ble (Nat.pow 2 149) d) (Nat.pow 2 112) (ife (Nat.ble (Nat.pow 2 111) d) (Nat.pow 2 84) (ife (Nat.ble (Nat.pow 2 83) d) (Nat.pow 2 63)
    (ife (Nat.ble (Nat.pow 2 62) d) (Nat.pow 2 47) (ife (Nat.ble (Nat.pow 2 46) d) (Nat.pow 2 35) (Nat.pow 2 20))))))
noncomputable def mkEr (n : Nat) (g : G) (hS : Heap) : Er :=
  let S := sizeS (Nat.sub g.lim g.nx)
  ⟨g.nx, S, g.nx + n * S, g.lim, g.fs, hids hS g.ro, roHeap hS⟩
/-- Kept by number: those of g's blocks that were not written. The list is checked block by block: what is written is left out. -/
noncomputable def aDrawEw (P : Program) (R : Rg) (call : Calls') (ext : Exts') (wl : List Nat) : DrawF α := fun nt ops kk tm ds g =>
    let hS := hfilter wl g.heap
    let c := mkEr ops.length g hS
    ife (and2 (Region.noSelect ⟨ops⟩) (and2 (Nat.ble c.top c.lim) (Nat.ble c.base c.top)))
      (match exR P R call ext nt ops c ops.length (Array.replicate ops.length false) tm g.heap with
        | some q => kk q.1 ds (g.setE q.2 c.top wl)
        | none => .bad 251) (.bad 252)
noncomputable def aDrawE (P : Program) (R : Rg) (call : Calls') (ext : Exts') : DrawF α := fun nt ops kk tm ds g =>
  match wlOf (aOps P R (call (PT × G)) (ext (PT × G)) nt ops ops (fun tm _ g => .leaf (tm, g)) tm ds g.setW0) with
  | none => .bad 250
  | some wl => aDrawEw P R call ext wl nt ops kk tm ds g
theorem hget_hfilter {wl : List Nat} {id : Nat} {o : Ob} : ∀ {h : Heap}, hget (hfilter wl h) id = some o → hget h id = some o ∧ noneEq id wl = true
  | [], h => by cases h
  | x :: l, h => by
    change hget (ife (noneEq x.1 wl) (x :: hfilter wl l) (hfilter wl l)) id = some o at h
    rw [hget_cons]
    cases hn : noneEq x.1 wl
    · rw [hn, ife_false] at h
      obtain ⟨h1, h2⟩ := hget_hfilter h
      rw [if_neg (fun e => by subst e; rw [hn] at h2; cases h2)]
      exact ⟨h1, h2⟩
    · rw [hn, ife_true, hget_cons] at h
      split at h
      · rename_i e; subst e; exact ⟨by rw [if_pos rfl]; exact h, hn⟩
      · rename_i e; rw [if_neg e]; exact hget_hfilter h
theorem mem_hids {id : Nat} {o : Ob} {l : List Nat} : ∀ {h : Heap}, hget h id = some o → id ∈ hids h l
  | [], h => by cases h
  | x :: m, h => by
    show id ∈ x.1 :: hids m l
    rw [hget_cons] at h
    split at h
    · rename_i e; subst e; exact List.mem_cons_self
    · exact List.mem_cons_of_mem _ (mem_hids h)
theorem hids_old {id : Nat} {l : List Nat} (h : id ∈ l) : ∀ (m : Heap), id ∈ hids m l
  | [] => h
  | _ :: m => List.mem_cons_of_mem _ (hids_old h m)
theorem aDrawEw_ok (wl : List Nat) {R : Rg} (hR : R.ok V) (hm : P.follows .mixedOrders = true) {call : Calls'} {ext : Exts'} (hc : ∀ (β : Type) (W0 : World) (p : β → Prop), CallOk P V W0 p (call β)) (he : ∀ (β : Type) (W0 : World) (p : β → Prop), ExtOk P V W0 p (ext β)) :
    DrawOk P V W0 p (aDrawEw P R call ext wl) := by
  intro nt d id ops kk tm ds g N a w r ra h Q hk
  unfold aDrawEw at h
  · obtain ⟨hB, h'⟩ := ife1 h (fun x => x)
    clear h
    obtain ⟨hsel, hB⟩ := and2_ok hB
    obtain ⟨hlim, hbase⟩ := and2_ok hB
    have hlim := Nat.le_of_ble_eq_true hlim
    have hbase := Nat.le_of_ble_eq_true hbase
    split at h'
    · rename_i q hq
      refine wp_mono (Q := onlyNormal Q) (wp_region_any hm (AnyG.any _ _ _ _ (SI := fun _ w => Grel V N W0 { g with heap := hfilter wl g.heap } w) ?_)) fun e a w hq => by cases e <;> first | exact hq | exact hq.elim
      have rw0 := r.garb (Garb.drew w (w.drawn + 1))
      refine exR_ok (ops := ops) (d := d) (ds := ds) (c := mkEr ops.toList.length g (hfilter wl g.heap)) hR hc he rw0 rfl (fun _ _ h => h) rfl (fun id o ho => ⟨mem_hids ho, (hget_hfilter ho).1⟩) (by simp [mkEr]) hlim hsel (fun _ _ _ h => h) (fun ⟨_, _, h⟩ => h) (tmR := q.1) (hR' := q.2) ?_
        ops.size (Array.replicate ops.size false) tm g.heap N a _ (by simpa using hq) ?_ ?_ (fun _ _ _ h => h)
      · intro N' listed a' w' hI
        refine hk q.1 ds { g with heap := q.2, nx := (mkEr ops.toList.length g (hfilter wl g.heap)).top, wl := wl ++ g.wl } N' a' w' ?_ ?_ hI.a h'
        · exact ⟨hI.r.os, hI.r.tape, hI.r.output, hI.r.size, hI.r.below, hI.r.soft, hI.r.ob, hI.r.apart, hI.r.fresh, hI.r.facts⟩
        · exact ⟨hI.le, hI.out, hbase, rfl, rfl, fun id hid o ho => hI.keep id (hids_old hid _) o ho⟩
      · refine ⟨⟨rw0.os, rw0.tape, rw0.output, rw0.size, rw0.below, rw0.soft, rw0.ob, rw0.apart, fun id h1 h2 => rw0.fresh id (Nat.le_trans hbase h1) h2, rw0.facts⟩, Env.le.refl N, fun _ _ => ⟨rfl, rfl⟩, fun j hj _ id h1 h2 => ?_, fun _ _ _ h => h, ra, Closed.none _⟩
        refine rw0.fresh id (Nat.le_trans (Nat.le_add_right _ _) h1) ?_
        have := range_in (n := ops.size) hj rfl h2
        have e : (mkEr ops.toList.length g (hfilter wl g.heap)).top = (mkEr ops.toList.length g (hfilter wl g.heap)).base + ops.size * (mkEr ops.toList.length g (hfilter wl g.heap)).S := by simp [mkEr]
        have hl : (mkEr ops.toList.length g (hfilter wl g.heap)).lim = g.lim := rfl
        omega
      · exact Grel.sub rw0 rw0 (Env.le.refl N) fun id o ho => ⟨(hget_hfilter ho).1, (hget_hfilter ho).1⟩
    · exact h'.elim

theorem aDrawE_ok {R : Rg} (hR : R.ok V) (hm : P.follows .mixedOrders = true) {call : Calls'} {ext : Exts'} (hc : ∀ (β : Type) (W0 : World) (p : β → Prop), CallOk P V W0 p (call β)) (he : ∀ (β : Type) (W0 : World) (p : β → Prop), ExtOk P V W0 p (ext β)) :
    DrawOk P V W0 p (aDrawE P R call ext) := by
  intro nt d id ops kk tm ds g N a w r ra h Q hk
  unfold aDrawE at h
  split at h
  · exact h.elim
  · exact aDrawEw_ok (p := p) (W0 := W0) _ hR hm hc he nt d id ops kk tm ds g N a w r ra h Q hk
/-! ### Trees, then what follows -/
noncomputable def Rs.bind {β : Type} (t : Rs β) (k : β → Rs α) : Rs α :=
  Rs.rec (motive := fun _ => Rs α) (fun n => .bad n) (fun a => k a) (fun c _ _ ix iy => .fork c ix iy) (fun _ _ ix iy => .both ix iy) t
theorem Rs.bind_ok {β : Type} {k : β → Rs α} : ∀ (t : Rs β), (t.bind k).All V p → t.All V (fun a => (k a).All V p)
  | .bad _, h => h
  | .leaf _, h => h
  | .fork c x y, h => by
    change (Rs.fork c (x.bind k) (y.bind k)).All V p at h
    simp only [Rs.All] at h ⊢
    split at h
    · rename_i hc; rw [if_pos hc]; exact Rs.bind_ok y h
    · rename_i hc; rw [if_neg hc]; exact Rs.bind_ok x h
  | .both x y, h => ⟨Rs.bind_ok x h.1, Rs.bind_ok y h.2⟩
noncomputable def Rs.clean {β : Type} (t : Rs β) : Bool :=
  Rs.rec (motive := fun _ => Bool) (fun _ => false) (fun _ => true) (fun _ _ _ ix iy => ife ix iy false) (fun _ _ ix iy => ife ix iy false) t
noncomputable def anyEff (eff : Nat) (l : List Oper) : Bool := List.rec (motive := fun _ => Bool) false (fun o _ ih => ife (effOp eff o.op) true ih) l
noncomputable def lastOf (l : List Oper) : Option (List Oper × Oper) :=
  List.rec (motive := fun _ => Option (List Oper × Oper)) none (fun o _ ih => match ih with | none => some ([], o) | some q => some (o :: q.1, q.2)) l
theorem lastOf_ok : ∀ (l : List Oper) {q : List Oper × Oper}, lastOf l = some q → l = q.1 ++ [q.2]
  | [], _, h => by cases h
  | o :: l, q, h => by
    change (match lastOf l with | none => some ([], o) | some q => some (o :: q.1, q.2)) = some q at h
    split at h
    · rename_i hn
      injection h with h; subst h
      cases l with
      | nil => rfl
      | cons x l =>
        change (match lastOf l with | none => some ([], x) | some q => some (x :: q.1, q.2)) = none at hn
        split at hn <;> cases hn
    · rename_i q' hq
      injection h with h; subst h
      rw [lastOf_ok l hq]; rfl
/-- The forks of a tree, upon what is known. -/
noncomputable def forkT {β : Type} (R : Rg) (kk : G → Rs α) (t : Rs β) : G → Rs α :=
  Rs.rec (motive := fun _ => G → Rs α) (fun n _ => .bad n) (fun _ g => kk g) (fun c _ _ ix iy g => forkB R c (fun b g => ife b (ix g) (iy g)) g) (fun _ _ _ _ _ => .bad 253) t
theorem forkT_ok {β : Type} {R : Rg} (hR : R.ok V) {kk : G → Rs α} : ∀ (t : Rs β) {g : G} (_ : Grel V N W0 g w), (forkT R kk t g).All V p → ∃ g', Knows V N W0 w g g' ∧ (kk g').All V p
  | .bad _, _, _, h => h.elim
  | .leaf _, g, r, h => ⟨g, ⟨r, Ext.refl _ _, rfl⟩, h⟩
  | .both _ _, _, _, h => h.elim
  | .fork c x y, g, r, h => by
    change (forkB R c (fun b g => ife b (forkT R kk x g) (forkT R kk y g)) g).All V p at h
    obtain ⟨g1, h1, h2⟩ := forkB_ok hR c r h
    cases hb : decide (c.den V ≠ 0)
    · rw [hb, ife_false] at h2
      obtain ⟨g2, h3, h4⟩ := forkT_ok hR y h1.1 h2
      exact ⟨g2, h1.trans h3, h4⟩
    · rw [hb, ife_true] at h2
      obtain ⟨g2, h3, h4⟩ := forkT_ok hR x h1.1 h2
      exact ⟨g2, h1.trans h3, h4⟩
/-- The forks of the region ahead of it. -/
noncomputable def aDrawE' (P : Program) (R : Rg) (call : Calls') (ext : Exts') : DrawF α := fun nt ops kk tm ds g =>
  match aOps P R (call (PT × G)) (ext (PT × G)) nt ops ops (fun tm _ g => .leaf (tm, g)) tm ds g.setW0 with
  | .leaf q => aDrawEw P R call ext q.2.wl nt ops kk tm ds g
  | t => forkT R (fun g => aDrawE P R call ext nt ops kk tm ds g) t g
theorem aDrawE'_ok {R : Rg} (hR : R.ok V) (hm : P.follows .mixedOrders = true) {call : Calls'} {ext : Exts'} (hc : ∀ (β : Type) (W0 : World) (p : β → Prop), CallOk P V W0 p (call β)) (he : ∀ (β : Type) (W0 : World) (p : β → Prop), ExtOk P V W0 p (ext β)) :
    DrawOk P V W0 p (aDrawE' P R call ext) := by
  intro nt d id ops kk tm ds g N a w r ra h Q hk
  unfold aDrawE' at h
  split at h
  · exact aDrawEw_ok (p := p) (W0 := W0) _ hR hm hc he nt d id ops kk tm ds g N a w r ra h Q hk
  · obtain ⟨g', h1, h2⟩ := forkT_ok hR _ r h
    exact aDrawE_ok (p := p) (W0 := W0) hR hm hc he nt d id ops kk tm ds g' N a w h1.1 ra h2 Q (hk.ext h1.2.1)
/-! ### Regions in an order that their code tells -/
/-- The blocks that an operand may lie in (a hint: nothing hangs on it). -/
noncomputable def idOf (x : AV) : List Nat := match x with
  | .ptr id _ => [id]
  | .sptr id _ _ _ _ => [id]
  | .slice id _ _ _ => [id]
  | _ => []
noncomputable def defOf (ops : List Oper) (t : Nat) : Option Op := List.rec (motive := fun _ => Option Op) none (fun o _ ih => ife (match o.dst with | some u => Nat.beq u t | none => false) (some o.op) ih) ops
noncomputable def idsAt (h : Heap) (l : List Nat) : List Nat :=
  List.rec (motive := fun _ => List Nat) [] (fun id _ ih => lapp (match hget h id with | some (.cells cs _ _ _) => List.rec (motive := fun _ => List Nat) [] (fun x _ ih => lapp (idOf x) ih) cs | _ => []) ih) l
noncomputable def baseOf (h : Heap) (ops : List Oper) (nt : Nat) (tm : PT) (n : Nat) : Operand → List Nat :=
  Nat.rec (motive := fun _ => Operand → List Nat) (fun x => idOf (aev nt tm x)) (fun _ ih x => match x with
    | .tmp t => match defOf ops t with
      | some (.move y) => ih y
      | some (.assign y) => ih y
      | some (.fieldAddr _ y _) => ih y
      | some (.indexAddr _ y _) => ih y
      | some (.slice _ y _ _ _) => ih y
      | some (.nilCheck y) => ih y
      | some (.load _ y) => idsAt h (ih y)
      | some _ => []
      | none => idOf (tm.get t)
    | _ => []) n
noncomputable def argsOf (h : Heap) (pre : List Oper) (nt : Nat) (tm : PT) (l : List Operand) : List Nat := List.rec (motive := fun _ => List Nat) [] (fun x _ ih => lapp (baseOf h pre nt tm 6 x) ih) l
noncomputable def AV.ids (n : Nat) : AV → List Nat :=
  Nat.rec (motive := fun _ => AV → List Nat) (fun _ => []) (fun _ ih a => match a with
    | .ptr id _ => [id]
    | .slice id _ _ _ => [id]
    | .sptr id _ _ _ _ => [id]
    | .map id => [id]
    | .xsl id _ => ife (Nat.ble 16 id) [Nat.sub id 16] []
    | .func _ fi ca => lapp (List.rec (motive := fun _ => List Nat) [] (fun x _ r => lapp (ih x) r) fi) (List.rec (motive := fun _ => List Nat) [] (fun x _ r => lapp (ih x) r) ca)
    | .agg cs => List.rec (motive := fun _ => List Nat) [] (fun x _ r => lapp (ih x) r) cs
    | .tup cs => List.rec (motive := fun _ => List Nat) [] (fun x _ r => lapp (ih x) r) cs
    | _ => []) n
noncomputable def idsOb (o : Ob) : List Nat := match o with
  | .cells cs _ _ _ => List.rec (motive := fun _ => List Nat) [] (fun x _ r => lapp (AV.ids 3 x) r) cs
  | .emap _ => []
  | .row _ _ _ => []
/-- What is reached from these. -/
noncomputable def reach (h : Heap) (n : Nat) : List Nat → List Nat :=
  Nat.rec (motive := fun _ => List Nat → List Nat) (fun l => l) (fun _ ih l => ih (List.rec (motive := fun _ => List Nat) l (fun id _ r => match hget h id with | some o => unionN (idsOb o) r | none => r) l)) n
/-- What may be written through, by the code alone: with what comes ahead of it. -/
noncomputable def hintO (eff : Nat) (l : List Oper) : List Oper → List (List Oper × Operand × Nat) :=
  List.rec (motive := fun _ => List Oper → List (List Oper × Operand × Nat)) (fun _ => []) (fun o _ ih pre => match o.op with
    | .store _ a _ => (pre, a, 0) :: ih (o :: pre)
    | .call c => match c.callee with
      | .builtin .append => (match c.args.toList with | x :: _ => (pre, x, 0) :: ih (o :: pre) | [] => ih (o :: pre))
      | .builtin .copy => (match c.args.toList with | x :: _ => (pre, x, 0) :: ih (o :: pre) | [] => ih (o :: pre))
      | .builtin .clear => (match c.args.toList with | x :: _ => (pre, x, 0) :: ih (o :: pre) | [] => ih (o :: pre))
      | .value (.func f) => ife (Nat.testBit eff f) (lapp (c.args.toList.map fun x => (pre, x, 1)) (ih (o :: pre))) (ih (o :: pre))
      | _ => ih (o :: pre)
    | _ => ih (o :: pre)) l
noncomputable def hintL (h : Heap) (nt : Nat) (tm : PT) (l : List (List Oper × Operand × Nat)) : List Nat := List.rec (motive := fun _ => List Nat) [] (fun q _ ih => lapp (reach h q.2.2 (baseOf h q.1 nt tm 6 q.2.1)) ih) l
noncomputable def hintW (eff : Nat) (h : Heap) (nt : Nat) (tm : PT) (l pre : List Oper) : List Nat := hintL h nt tm (hintO eff l pre)
/-- What 'append' took its new cells from: slices that were built for it alone. They are forgotten. -/
noncomputable def tempsO (l : List Oper) : List Oper → List Operand :=
  List.rec (motive := fun _ => List Oper → List Operand) (fun _ => []) (fun o _ ih pre => match o.op with
    | .call c => match c.callee with
      | .builtin .append => (match c.args.toList with
        | [_, .tmp t] => match defOf pre t with
          | some (.buildSlice _ _ _) => .tmp t :: ih (o :: pre)
          | _ => ih (o :: pre)
        | _ => ih (o :: pre))
      | _ => ih (o :: pre)
    | _ => ih (o :: pre)) l
noncomputable def tempsL (nt : Nat) (tm : PT) (l : List Operand) : List Nat := List.rec (motive := fun _ => List Nat) [] (fun x _ ih => lapp (idOf (aev nt tm x)) ih) l
noncomputable def tempsOf (nt : Nat) (tm : PT) (l pre : List Oper) : List Nat := tempsL nt tm (tempsO l pre)
noncomputable def hdelL (base lim : Nat) (l : List Nat) (h : Heap) : Heap :=
  List.rec (motive := fun _ => Heap) h (fun id _ ih => ife (and2 (Nat.ble base id) (Nat.ble (Nat.succ id) lim)) (hdel ih id) ih) l
theorem hdelL_old {base lim : Nat} {h : Heap} {j : Nat} (hj : ¬ (base ≤ j ∧ j < lim)) : ∀ l : List Nat, hget (hdelL base lim l h) j = hget h j
  | [] => rfl
  | id :: l => by
    change hget (ife (and2 (Nat.ble base id) (Nat.ble (Nat.succ id) lim)) (hdel (hdelL base lim l h) id) (hdelL base lim l h)) j = _
    cases hb : and2 (Nat.ble base id) (Nat.ble (Nat.succ id) lim)
    · exact hdelL_old hj l
    · obtain ⟨h1, h2⟩ := and2_ok hb
      have h1 := Nat.le_of_ble_eq_true h1
      have h2 := Nat.le_of_ble_eq_true h2
      rw [ife_true, hget_hdel, if_neg (by rintro rfl; exact hj ⟨h1, h2⟩)]
      exact hdelL_old hj l
theorem Grel.delL {h : Heap} (base lim : Nat) (r : Grel V N W0 { g with heap := h } w) : ∀ l : List Nat, Grel V N W0 { g with heap := hdelL base lim l h } w
  | [] => r
  | id :: l => by
    change Grel V N W0 { g with heap := ife (and2 (Nat.ble base id) (Nat.ble (Nat.succ id) lim)) (hdel (hdelL base lim l h) id) (hdelL base lim l h) } w
    cases and2 (Nat.ble base id) (Nat.ble (Nat.succ id) lim)
    · exact Grel.delL base lim r l
    · exact (Grel.delL base lim r l).del id
theorem hids_filter {id : Nat} {wl l : List Nat} : ∀ {h : Heap}, id ∈ hids (hfilter wl h) l → id ∈ hids h l
  | [], h => h
  | x :: m, h => by
    change id ∈ hids (ife (noneEq x.1 wl) (x :: hfilter wl m) (hfilter wl m)) l at h
    show id ∈ x.1 :: hids m l
    cases hn : noneEq x.1 wl
    · rw [hn] at h; exact List.mem_cons_of_mem _ (hids_filter h)
    · rw [hn] at h
      rcases List.mem_cons.1 (show id ∈ x.1 :: hids (hfilter wl m) l from h) with rfl | h
      · exact List.mem_cons_self
      · exact List.mem_cons_of_mem _ (hids_filter h)
noncomputable def planW (ops : List Oper) (p : PL) (f : Nat) : Nat → Option PL :=
  Nat.rec (motive := fun _ => Nat → Option PL) (fun _ => none)
    (fun _ ih n => ife (PL.hasSw (p.addSw ops n)) (ife (planB ops (infs ⟨ops⟩ ops) (p.qs ops) (p.addSw ops n) true none ops.length 0) (some (p.addSw ops n)) (ih (Nat.succ n))) none) f
theorem planW_ok {ops : Array Oper} {p q : PL} : ∀ (f n : Nat), planW ops.toList p f n = some q → Planned ops (p.qs ops.toList) q true none ops.size (Array.replicate ops.size false)
  | 0, _, h => by cases h
  | f + 1, n, h => by
    change ife (PL.hasSw (p.addSw ops.toList n)) (ife (planB ops.toList (infs ops ops.toList) (p.qs ops.toList) (p.addSw ops.toList n) true none ops.toList.length 0) (some (p.addSw ops.toList n)) (planW ops.toList p f (Nat.succ n))) none = some q at h
    cases h1 : PL.hasSw (p.addSw ops.toList n)
    · rw [h1] at h; cases h
    · rw [h1, ife_true] at h
      cases h2 : planB ops.toList (infs ops ops.toList) (p.qs ops.toList) (p.addSw ops.toList n) true none ops.toList.length 0
      · rw [h2, ife_false] at h; exact planW_ok f _ h
      · rw [h2, ife_true] at h
        injection h with h; subst h
        simpa using planB_ok _ (LM.start _) h2
noncomputable def planO (ops : List Oper) (p : PL) : Option (PL × Bool) := match planW ops p 6 0 with
  | some q => some (q, true)
  | none => ife (planB ops (infs ⟨ops⟩ ops) (p.qs ops) p false none ops.length 0) (some (p, false)) none
noncomputable def planOf (eff : Nat) (ops : List Oper) : Option (PL × Bool) := ife (Region.noSelect ⟨ops⟩) (match planT eff ops (infs ⟨ops⟩ ops) ops.length 0 with | some p => planO ops p | none => none) none
theorem planOf_ok {eff : Nat} {ops : Array Oper} {q : PL × Bool} (h : planOf eff ops.toList = some q) : Region.noSelect ops = true ∧ ∃ qs, Planned ops qs q.1 q.2 none ops.size (Array.replicate ops.size false) := by
  unfold planOf at h
  cases hsel : Region.noSelect ⟨ops.toList⟩
  · rw [hsel] at h; cases h
  rw [hsel, ife_true] at h
  refine ⟨by first | rfl | exact hsel, ?_⟩
  split at h
  · rename_i p hp
    unfold planO at h
    refine ⟨p.qs ops.toList, ?_⟩
    split at h
    · rename_i q' hq
      cases h
      exact planW_ok _ _ hq
    · cases h2 : planB ops.toList (infs ⟨ops.toList⟩ ops.toList) (p.qs ops.toList) p false none ops.toList.length 0
      · rw [h2] at h; cases h
      · rw [h2] at h; cases h
        simpa using planB_ok p (LM.start _) h2
  · cases h
/-- The operations of some numbers. -/
noncomputable def subOps (l : List Oper) (js : List Nat) : Nat → List Oper := List.rec (motive := fun _ => Nat → List Oper) (fun _ => []) (fun o _ ih i => ife (noneEq i js) (ih (Nat.succ i)) (o :: ih (Nat.succ i))) l
noncomputable def runP (P : Program) (R : Rg) (call : Calls') (ext : Exts') (nt : Nat) (ops : List Oper) (c1 c2 : Er) (p : PL) : RunF :=
  runT (quietC P R call ext nt ops c1) (stepC P R call ext nt ops c1) (runT (quietC P R call ext nt ops c2) (stepC P R call ext nt ops c2) (fun _ _ _ _ => .bad 263)) p
noncomputable def G.setEF (g : G) (h : List (Nat × Ob)) (n : Nat) (l : List Nat) (f : List E) : G := G.rec (fun _ _ lim _ ro wl => ⟨h, n, lim, f, ro, l ++ wl⟩) g
noncomputable def aDrawR (P : Program) (R : Rg) (call : Calls') (ext : Exts') (nt : Nat) (ops : List Oper) (plan : PL) (wl : List Nat) (c1 c : Er) (kk : Nx α) (other : Rs α) (tm : PT) (ds : List Df) (g : G) : Rs α :=
  ife (and2 (Nat.ble c.top c.lim) (Nat.ble c.base c.top))
    (match runP P R call ext nt ops c1 c plan tm g.heap g.fs with
      | T => ife T.clean (T.bind fun q => kk q.1 ds (g.setEF (hdelL c.base c.lim (tempsOf nt q.1 ops []) q.2.1) c.top wl q.2.2)) other) other
noncomputable def wlE (sp : Bool) (p : PL) (eff : Nat) (ops : List Oper) (nt : Nat) (tm : PT) (h : Heap) : List Nat := ife sp (hintW eff h nt tm (subOps ops p.early 0) []) []
noncomputable def aDrawP (eff : Nat) (P : Program) (R : Rg) (call : Calls') (ext : Exts') (old : DrawF α) : DrawF α := fun nt ops kk tm ds g =>
  match planOf eff ops with
  | some q => aDrawR P R call ext nt ops q.1 (hintW eff g.heap nt tm ops []) (ife q.2 (mkEr ops.length g (hfilter (wlE q.2 q.1 eff ops nt tm g.heap) g.heap)) (mkEr ops.length g (hfilter (hintW eff g.heap nt tm ops []) (hfilter (wlE q.2 q.1 eff ops nt tm g.heap) g.heap))))
      (mkEr ops.length g (hfilter (hintW eff g.heap nt tm ops []) (hfilter (wlE q.2 q.1 eff ops nt tm g.heap) g.heap))) kk (old nt ops kk tm ds g) tm ds g
  | none => old nt ops kk tm ds g
theorem aDrawP_ok {eff : Nat} {R : Rg} (hR : R.ok V) (hm : P.follows .mixedOrders = true) {call : Calls'} {ext : Exts'} (hc : ∀ (β : Type) (W0 : World) (p : β → Prop), CallOk P V W0 p (call β)) (he : ∀ (β : Type) (W0 : World) (p : β → Prop), ExtOk P V W0 p (ext β))
    {old : DrawF α} (hold : DrawOk P V W0 p old) : DrawOk P V W0 p (aDrawP eff P R call ext old) := by
  intro nt d id ops kk tm ds g N a w r ra h Q hk
  have hO := fun h => hold nt d id ops kk tm ds g N a w r ra h Q hk
  unfold aDrawP at h
  split at h
  · rename_i q hpl
    obtain ⟨plan, sp⟩ := q
    obtain ⟨hsel, qs, hplan⟩ := planOf_ok hpl
    simp only at h hplan
    generalize wlE sp plan eff ops.toList nt tm g.heap = wl1 at h
    generalize hintW eff g.heap nt tm ops.toList [] = wl at h
    generalize hh1 : hfilter wl1 g.heap = hS1 at h
    generalize hh2 : hfilter wl hS1 = hS2 at h
    have sub2 : ∀ id o, hget hS2 id = some o → hget hS1 id = some o := fun id o ho => by subst hh2; exact (hget_hfilter ho).1
    have sub1 : ∀ id o, hget hS1 id = some o → hget g.heap id = some o := fun id o ho => by subst hh1; exact (hget_hfilter ho).1
    unfold aDrawR at h
    cases hB : and2 (Nat.ble (mkEr ops.toList.length g hS2).top (mkEr ops.toList.length g hS2).lim) (Nat.ble (mkEr ops.toList.length g hS2).base (mkEr ops.toList.length g hS2).top)
    · rw [hB, ife_false] at h; exact hO h
    rw [hB, ife_true] at h
    obtain ⟨hlim, hbase⟩ := and2_ok hB
    have hlim := Nat.le_of_ble_eq_true hlim
    have hbase := Nat.le_of_ble_eq_true hbase
    dsimp only at h
    cases hcl : (runP P R call ext nt ops.toList (ife sp (mkEr ops.toList.length g hS1) (mkEr ops.toList.length g hS2)) (mkEr ops.toList.length g hS2) plan tm g.heap g.fs).clean
    · rw [hcl, ife_false] at h; exact hO h
    · rw [hcl, ife_true] at h
      have h := Rs.bind_ok _ h
      have rw0 := r.garb (Garb.drew w (w.drawn + 1))
      have htop : (mkEr ops.toList.length g hS2).base + ops.size * (mkEr ops.toList.length g hS2).S = (mkEr ops.toList.length g hS2).top := by simp [mkEr]
      generalize hK : (fun q : PT × Heap × List E => (kk q.1 ds (g.setEF (hdelL (mkEr ops.toList.length g hS2).base (mkEr ops.toList.length g hS2).lim (tempsOf nt q.1 ops.toList []) q.2.1) (mkEr ops.toList.length g hS2).top wl q.2.2)).All V p) = K at h
      have hk2 : ∀ q N' listed a' w', K q → EI ops V W0 N g ops.size nt d ds ((mkEr ops.toList.length g hS2).fac q.2.2) N' listed q.1 q.2.1 a' w' → onlyNormal Q .normal a' w' := by
        intro q N' listed a' w' hq hI
        subst hK
        refine hk q.1 ds (g.setEF (hdelL (mkEr ops.toList.length g hS2).base (mkEr ops.toList.length g hS2).lim (tempsOf nt q.1 ops.toList []) q.2.1) (mkEr ops.toList.length g hS2).top wl q.2.2) N' a' w' ?_ ?_ hI.a hq
        · refine Grel.delL (g := { g with nx := (mkEr ops.toList.length g hS2).top, wl := wl ++ g.wl, fs := q.2.2 }) _ _ ?_ _
          exact ⟨hI.r.os, hI.r.tape, hI.r.output, hI.r.size, hI.r.below, hI.r.soft, hI.r.ob, hI.r.apart, hI.r.fresh, hI.r.facts⟩
        · refine ⟨hI.le, hI.out, hbase, rfl, rfl, fun id hid o ho => ?_⟩
          refine (hdelL_old (fun hh => ?_) _).trans (hI.keep id (hids_old hid _) o ho)
          obtain ⟨b, hb, _⟩ := r.ob id o ho
          rw [(r.fresh id hh.1 hh.2).1] at hb
          cases hb
      have start : ∀ hS, EI ops V W0 N g ops.size nt d ds ((mkEr ops.toList.length g hS).fac g.fs) N (Array.replicate ops.size false) tm g.heap a { w with drawn := w.drawn + 1 } := by
        intro hS
        refine ⟨⟨rw0.os, rw0.tape, rw0.output, rw0.size, rw0.below, rw0.soft, rw0.ob, rw0.apart, fun id h1 h2 => rw0.fresh id (Nat.le_trans hbase h1) h2, rw0.facts⟩, Env.le.refl N, fun _ _ => ⟨rfl, rfl⟩, fun j hj _ id h1 h2 => ?_, fun _ _ _ h => h, ra, Closed.none _⟩
        have h1 : (mkEr ops.toList.length g hS).base + j * (mkEr ops.toList.length g hS).S ≤ id := h1
        have h2 : id < (mkEr ops.toList.length g hS).base + Nat.succ j * (mkEr ops.toList.length g hS).S := h2
        refine rw0.fresh id (Nat.le_trans (Nat.le_add_right _ _) h1) ?_
        have := range_in (n := ops.size) hj rfl h2
        have e : (mkEr ops.toList.length g hS2).top = (mkEr ops.toList.length g hS).base + ops.size * (mkEr ops.toList.length g hS).S := by simp [mkEr]
        have hl : (mkEr ops.toList.length g hS2).lim = g.lim := rfl
        omega
      have in2 : ∀ id o, hget hS2 id = some o → id ∈ (mkEr ops.toList.length g hS2).ro ∧ hget g.heap id = some o := fun id o ho => ⟨mem_hids ho, sub1 _ _ (sub2 _ _ ho)⟩
      have s2 : Grel V N W0 { g with heap := hS2 } { w with drawn := w.drawn + 1 } := Grel.sub rw0 rw0 (Env.le.refl N) fun id o ho => ⟨(in2 id o ho).2, (in2 id o ho).2⟩
      cases sp with
      | false =>
        refine wp_mono (Q := onlyNormal Q) (wp_region_any hm (AnyG.any _ _ _ _ (SI := fun j w => pureAt ops.toList j = false → Grel V N W0 { g with heap := hS2 } w) ?_)) fun e a w hq => by cases e <;> first | exact hq | exact hq.elim
        refine (runT_ok (ops := ops) (SI := fun j w => pureAt ops.toList j = false → Grel V N W0 { g with heap := hS2 } w) (d := d) (ds := ds) (c := mkEr ops.toList.length g hS2) (Un := fun _ => True) (ph := false) (qs := qs) hR hc he rw0 rfl rfl in2 htop hlim (fun _ _ _ _ _ _ _ h => h) hsel (fun _ _ _ h => h) (fun ⟨_, _, h⟩ => h)
          (fun _ _ _ h _ => h) (fun _ _ _ _ _ _ _ _ _ hp h => h hp) (fun _ _ hp hp' => by rw [hp] at hp'; cases hp') (fun _ _ _ _ _ _ _ _ _ _ _ h => by cases h) plan).1 K hk2 ops.size (Array.replicate ops.size false) tm g.heap g.fs N a _ hplan h (start hS2) s2 fun _ _ => trivial
      | true =>
        have conv : ∀ {f N' listed tm h a w}, EI ops V W0 N g ops.size nt d ds ((mkEr ops.toList.length g hS1).fac f) N' listed tm h a w → EI ops V W0 N g ops.size nt d ds ((mkEr ops.toList.length g hS2).fac f) N' listed tm h a w :=
          fun hI => ⟨⟨hI.r.os, hI.r.tape, hI.r.output, hI.r.size, hI.r.below, hI.r.soft, hI.r.ob, hI.r.apart, hI.r.fresh, hI.r.facts⟩, hI.le, hI.out, hI.free, fun id hid o ho => hI.keep id (by subst hh2; exact hids_filter hid) o ho, hI.a, hI.cl⟩
        have down : ∀ w', Grel V N W0 { g with heap := hS1 } w' → Grel V N W0 { g with heap := hS2 } w' := fun w' h' =>
          ⟨h'.os, h'.tape, h'.output, h'.size, h'.below, h'.soft, fun id o ho => h'.ob id o (sub2 _ _ ho), fun id o id' o' ho ho' => h'.apart id o id' o' (sub2 _ _ ho) (sub2 _ _ ho'), h'.fresh, h'.facts⟩
        have in1 : ∀ id o, hget hS1 id = some o → id ∈ (mkEr ops.toList.length g hS1).ro ∧ hget g.heap id = some o := fun id o ho => ⟨mem_hids ho, sub1 _ _ ho⟩
        have s1 : Grel V N W0 { g with heap := hS1 } { w with drawn := w.drawn + 1 } := Grel.sub rw0 rw0 (Env.le.refl N) fun id o ho => ⟨(in1 id o ho).2, (in1 id o ho).2⟩
        refine wp_mono (Q := onlyNormal Q) (wp_region_any hm (AnyG.any _ _ _ _ (SI := fun j w => pureAt ops.toList j = false → (j < ops.size → lateB qs .any ops.toList j = false → Grel V N W0 { g with heap := hS1 } w) ∧ Grel V N W0 { g with heap := hS2 } w) ?_)) fun e a w hq => by cases e <;> first | exact hq | exact hq.elim
        have hdn : ∀ (i j : Nat) (listed : Array Bool) (w' : World), (true = true → qs.testBit i = true) → Closed .any ops listed → j ∈ Region.ready .any ops listed → i ∈ Region.ready .any ops listed → j ≠ i → ((j < ops.size → lateB qs .any ops.toList j = false → Grel V N W0 { g with heap := hS1 } w') ∧ Grel V N W0 { g with heap := hS2 } w') → Grel V N W0 { g with heap := hS1 } w' := by
          intro i j listed w' hqs hcl hj hi hji hs
          obtain ⟨_, o, ho, _⟩ := mem_ready.1 hj
          refine hs.1 (Array.getElem?_eq_some_iff.1 ho).1 ?_
          cases hl : lateB qs .any ops.toList j
          · rfl
          · have h1 := lateB_ok hl hcl hj (hqs rfl)
            have h0 := (mem_ready.1 hi).1
            rcases Nat.lt_or_ge i listed.size with h' | h'
            · simp [h'] at h0 h1; rw [h0] at h1; cases h1
            · simp [Array.getElem?_eq_none h'] at h1
        refine (runT_ok (ops := ops) (SI := fun j w => pureAt ops.toList j = false → (j < ops.size → lateB qs .any ops.toList j = false → Grel V N W0 { g with heap := hS1 } w) ∧ Grel V N W0 { g with heap := hS2 } w) (d := d) (ds := ds) (c := mkEr ops.toList.length g hS1) (Un := fun _ => True) (ph := true) (qs := qs) hR hc he rw0 rfl rfl in1 htop hlim (fun _ _ _ _ _ _ _ hI => conv hI) hsel (fun _ _ _ h => h) (fun ⟨_, _, h⟩ => h)
          (fun j w' _ h' _ => ⟨fun _ _ => h', down _ h'⟩) (fun i j listed w' hqs hcl hj hi hji hp hs => hdn i j listed w' hqs hcl hj hi hji (hs hp)) (fun _ _ hp hp' => by rw [hp] at hp'; cases hp') (onSw := runT (quietC P R call ext nt ops.toList (mkEr ops.toList.length g hS2)) (stepC P R call ext nt ops.toList (mkEr ops.toList.length g hS2)) (fun _ _ _ _ => .bad 263)) ?_ plan).1 K hk2 ops.size (Array.replicate ops.size false) tm g.heap g.fs N a _ hplan h (start hS1) s1 fun _ _ => trivial
        intro n listed r' tm' h' f' N' a' w' K' hk' _ hp' hlate hx hI hs1
        refine (runT_ok (ops := ops) (SI := fun j w => pureAt ops.toList j = false → (j < ops.size → lateB qs .any ops.toList j = false → Grel V N W0 { g with heap := hS1 } w) ∧ Grel V N W0 { g with heap := hS2 } w) (d := d) (ds := ds) (c := mkEr ops.toList.length g hS2) (Un := fun j => j < ops.size → pureAt ops.toList j = false → lateB qs .any ops.toList j = true) (ph := false) (qs := qs) hR hc he rw0 rfl rfl in2 htop hlim (fun _ _ _ _ _ _ _ h => h) hsel (fun _ _ _ h => h) (fun ⟨_, _, h⟩ => h)
            (fun j w' hu h' hp => ⟨fun hj hl => (by rw [hu hj hp] at hl; cases hl), h'⟩) (fun _ _ _ _ _ _ _ _ _ hp h => (h hp).2) (fun _ _ hp hp' => by rw [hp] at hp'; cases hp') (fun _ _ _ _ _ _ _ _ _ _ _ h => by cases h) r').1 K' hk' n listed tm' h' f' N' a' w' hp' hx (conv hI) (down _ hs1) fun j hj hjs hp => hlate j hjs hj hp
  · exact hO h
noncomputable def aDraw (eff : Nat) (P : Program) (R : Rg) (call : Calls') (ext : Exts') : DrawF α := fun nt ops kk tm ds g =>
  ife (anyEff eff ops)
    (match lastOf ops with
      | some (init, o) => ife (ife (anyEff eff init) false (planLM init o))
        (match aQOps P R call ext nt (roHeap g.heap) ops init (fun tm g => .leaf (tm, g)) tm g with
          | t => ife t.clean (t.bind fun q => aGuard P R (call α) (ext α) nt ops o kk q.1 ds q.2) (aDrawP eff P R call ext (aDrawE' P R call ext) nt ops kk tm ds g))
        (aDrawP eff P R call ext (aDrawE' P R call ext) nt ops kk tm ds g)
      | none => aDrawP eff P R call ext (aDrawE' P R call ext) nt ops kk tm ds g)
    (ife (planQM ops)
      (match aQOps P R call ext nt (roHeap g.heap) ops ops (fun tm g => .leaf (tm, g)) tm g with
        | t => ife t.clean (t.bind fun q => kk q.1 ds q.2) (aDrawP eff P R call ext (aDrawE' P R call ext) nt ops kk tm ds g))
      (aDrawP eff P R call ext (aDrawE' P R call ext) nt ops kk tm ds g))
theorem aDraw_ok (eff : Nat) {R : Rg} (hR : R.ok V) (hm : P.follows .mixedOrders = true) {call : Calls'} {ext : Exts'} (hc : ∀ (β : Type) (W0 : World) (p : β → Prop), CallOk P V W0 p (call β)) (he : ∀ (β : Type) (W0 : World) (p : β → Prop), ExtOk P V W0 p (ext β)) :
    DrawOk P V W0 p (aDraw eff P R call ext) := by
  intro nt d id ops kk tm ds g N a w r ra h Q hk
  have hE := fun h => aDrawP_ok (eff := eff) (p := p) (W0 := W0) hR hm hc he (aDrawE'_ok hR hm hc he) nt d id ops kk tm ds g N a w r ra h Q hk
  unfold aDraw at h
  cases hef : anyEff eff ops.toList
  · rw [hef, ife_false] at h
    cases hB : planQM ops.toList
    · rw [hB, ife_false] at h; exact hE h
    · rw [hB, ife_true] at h
      dsimp only at h
      cases hcl : (aQOps P R call ext nt (roHeap g.heap) ops.toList ops.toList (fun tm g => Rs.leaf (tm, g)) tm g).clean
      · rw [hcl, ife_false] at h; exact hE h
      · rw [hcl, ife_true] at h
        exact walkQ_ok hR hm hc he r ra (planQM_ok hB) (Rs.bind_ok _ h) fun tm' g' a' w' r' c' ra' h' => hk tm' ds g' N a' w' r' c'.ext ra' h'
  · rw [hef, ife_true] at h
    split at h
    · rename_i init o hlo
      have ho := lastOf_ok _ hlo
      simp only at ho
      cases hB : ife (anyEff eff init) false (planLM init o)
      · rw [hB, ife_false] at h; exact hE h
      · rw [hB, ife_true] at h
        have hB : planLM init o = true := by
          cases ha : anyEff eff init
          · rw [ha] at hB; exact hB
          · rw [ha] at hB; cases hB
        dsimp only at h
        cases hcl : (aQOps P R call ext nt (roHeap g.heap) ops.toList init (fun tm g => Rs.leaf (tm, g)) tm g).clean
        · rw [hcl, ife_false] at h; exact hE h
        · rw [hcl, ife_true] at h
          exact walkL_ok hR hm hc he ho r ra (planLM_ok hB) (Rs.bind_ok _ h) (fun tm' g' c' h' => h') hk
    · exact hE h
end
end Go.RX
