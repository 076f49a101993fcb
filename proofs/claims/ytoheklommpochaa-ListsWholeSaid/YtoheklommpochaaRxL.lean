/- RX, part 22: a loop told round by round, each round from a state of its own. -/
import Derived.Test.YtoheklommpochaaRxArg
namespace Go.RX
open Go.RowKit
set_option linter.unusedVariables false
section
variable {P : Program} {α : Type} {V : Va} {W0 : World} {N : Env} {g : G} {p : α → Prop} {w : World}
/-- As aCode, but for loops: these are told by lp. -/
noncomputable def aCodeL (P : Program) (R : Rg) (call : (β : Type) → CallF β) (ext : (β : Type) → ExtF β) (draw : (β : Type) → DrawF β) (nt : Nat) (lp : Code → (β : Type) → Kx β → Nx β) (c : Code) : (α : Type) → Kx α → Nx α :=
  Code.rec (motive := fun _ => (α : Type) → Kx α → Nx α)
    (fun _ kk => kk .normal)
    (fun _ ops dr β kk => ife dr (draw β nt ops.toList (kk .normal)) (aOps P R (call β) (ext β) nt ops.toList ops.toList (kk .normal)))
    (fun _ _ ia ib β kk => ia β fun x => x.sel (ib β kk) (fun i => kk (.exit i)) (kk .ret))
    (fun c _ _ ia ib β kk tm ds g => onBool R (aev nt tm c) g fun b g => ife b (ia β kk (aknow nt tm c b) ds g) (ib β kk (aknow nt tm c b) ds g))
    (fun id _ ib β kk => ib β fun x => x.sel (kk .normal) (fun i => ife (Nat.beq i id) (kk .normal) (kk (.exit i))) (kk .ret))
    (fun x _ => lp x)
    (fun _ _ _ _ _ _ _ _ _ _ _ => .bad 218)
    (fun id _ kk => kk (.exit id))
    (fun _ _ _ _ _ _ _ => .bad 219)
    (fun _ _ kk => kk .normal)
    (fun _ _ _ _ _ _ => .bad 220)
    (fun _ kk => kk .ret)
    (fun _ _ _ _ _ _ => .bad 221)
    c
/-- The bodies of c's loops, the outermost. -/
noncomputable def loopsOf (c : Code) : List Code := Code.rec (motive := fun _ => List Code) [] (fun _ _ _ => []) (fun _ _ ia ib => lapp ia ib) (fun _ _ _ ia ib => lapp ia ib) (fun _ _ ib => ib) (fun x _ => [x])
  (fun _ _ _ _ _ _ => []) (fun _ => []) (fun _ _ => []) (fun _ => []) (fun _ => []) [] (fun _ => []) c
theorem aCodeL_ok {R : Rg} (hR : R.ok V) {call : (β : Type) → CallF β} {ext : (β : Type) → ExtF β} {draw : (β : Type) → DrawF β} (hc : ∀ (β : Type) (p : β → Prop), CallOk P V W0 p (call β)) (he : ∀ (β : Type) (p : β → Prop), ExtOk P V W0 p (ext β))
    (hd : ∀ (β : Type) (p : β → Prop), DrawOk P V W0 p (draw β)) (nt d : Nat) {lp : Code → (β : Type) → Kx β → Nx β} (c : Code) (hl : ∀ x ∈ loopsOf c, ∀ (α : Type) (p : α → Prop), CodeOk P V W0 p nt d (lp x α) (.loop x)) :
    ∀ (α : Type) (p : α → Prop), CodeOk P V W0 p nt d (aCodeL P R call ext draw nt lp c α) c := by
  induction c with
  | skip => intro α p kk tm ds g N a w r ra h Q hk; exact wp_skip (hk .normal _ _ g N _ w r (Ext.refl _ _) ra h)
  | region id ops dr =>
    intro α p kk tm ds g N a w r ra h Q hk
    change (ife dr (draw α nt ops.toList (kk .normal)) (aOps P R (call α) (ext α) nt ops.toList ops.toList (kk .normal)) tm ds g).All V p at h
    cases dr with
    | false => exact wp_region_list (aOps_ok hR (hc α p) (he α p) _ r ra h (hk .normal))
    | true => exact hd α p nt d id ops (kk .normal) tm ds g N a w r ra h Q (hk .normal)
  | seq x y ix iy =>
    have ix := ix (fun z hz => hl z (by show z ∈ lapp (loopsOf x) (loopsOf y); rw [lapp_eq]; exact List.mem_append_left _ hz))
    have iy := iy (fun z hz => hl z (by show z ∈ lapp (loopsOf x) (loopsOf y); rw [lapp_eq]; exact List.mem_append_right _ hz))
    intro α p kk tm ds g N a w r ra h Q hk
    change (aCodeL P R call ext draw nt lp x α (fun q => q.sel (aCodeL P R call ext draw nt lp y α kk) (fun i => kk (.exit i)) (kk .ret)) tm ds g).All V p at h
    refine wp_seq (ix α p _ tm ds g N a w r ra h _ fun q => ?_)
    intro tm' ds' g' N' a' w' h1 h2 h3 h4
    cases q with
    | normal => exact iy α p kk tm' ds' g' N' a' w' h1 h3 h4 Q (hk.ext h2)
    | exit i => exact hk (.exit i) tm' ds' g' N' a' w' h1 h2 h3 h4
    | ret => exact hk .ret tm' ds' g' N' a' w' h1 h2 h3 h4
  | cond c x y ix iy =>
    have ix := ix (fun z hz => hl z (by show z ∈ lapp (loopsOf x) (loopsOf y); rw [lapp_eq]; exact List.mem_append_left _ hz))
    have iy := iy (fun z hz => hl z (by show z ∈ lapp (loopsOf x) (loopsOf y); rw [lapp_eq]; exact List.mem_append_right _ hz))
    intro α p kk tm ds g N a w r ra h Q hk
    change (onBool R (aev nt tm c) g fun b g => ife b (aCodeL P R call ext draw nt lp x α kk (aknow nt tm c b) ds g) (aCodeL P R call ext draw nt lp y α kk (aknow nt tm c b) ds g)).All V p at h
    obtain ⟨b, g', hv, h1, h2⟩ := onBool_ok hR r (aev_ok ra.t c) h
    refine wp_cond hv ?_
    have ra' := ra.know hv
    cases b
    · exact iy α p kk _ _ g' N a w h1.1 ra' h2 Q (hk.ext h1.2.1)
    · exact ix α p kk _ _ g' N a w h1.1 ra' h2 Q (hk.ext h1.2.1)
  | block id x ix =>
    have ix := ix hl
    intro α p kk tm ds g N a w r ra h Q hk
    change (aCodeL P R call ext draw nt lp x α (fun q => q.sel (kk .normal) (fun i => ife (Nat.beq i id) (kk .normal) (kk (.exit i))) (kk .ret)) tm ds g).All V p at h
    refine wp_block (ix α p _ tm ds g N a w r ra h _ fun q => ?_)
    intro tm' ds' g' N' a' w' h1 h2 h3 h4
    cases q with
    | normal => exact hk .normal tm' ds' g' N' a' w' h1 h2 h3 h4
    | exit i =>
      change ((ife (Nat.beq i id) (kk .normal) (kk (.exit i))) tm' ds' g').All V p at h4
      show (if i = id then Q .normal a' w' else Q (.exit i) a' w')
      cases hb : Nat.beq i id
      · have : ¬ i = id := fun e => by rw [e] at hb; simp at hb
        rw [if_neg this]
        rw [hb] at h4
        exact hk (.exit i) tm' ds' g' N' a' w' h1 h2 h3 h4
      · rw [if_pos (Nat.eq_of_beq_eq_true hb)]
        rw [hb] at h4
        exact hk .normal tm' ds' g' N' a' w' h1 h2 h3 h4
    | ret => exact hk .ret tm' ds' g' N' a' w' h1 h2 h3 h4
  | loop x ix => exact hl x (by show x ∈ [x]; simp)
  | rangeFunc _ _ _ _ _ _ => intro α p kk tm ds g N a w r ra h; exact h.elim
  | exit id => intro α p kk tm ds g N a w r ra h Q hk; exact wp_exit (hk (.exit id) _ _ g N _ w r (Ext.refl _ _) ra h)
  | scope _ _ => intro α p kk tm ds g N a w r ra h; exact h.elim
  | label l => intro α p kk tm ds g N a w r ra h Q hk; exact wp_label (hk .normal _ _ g N _ w r (Ext.refl _ _) ra h)
  | goto _ => intro α p kk tm ds g N a w r ra h; exact h.elim
  | ret => intro α p kk tm ds g N a w r ra h Q hk; exact wp_ret (hk .ret _ _ g N _ w r (Ext.refl _ _) ra h)
  | refuse _ => intro α p kk tm ds g N a w r ra h; exact h.elim
/-- The depth of a tree of so many slots. -/
noncomputable def dep (nt : Nat) : Nat := Nat.succ (Nat.div (Nat.log2 nt) 2)
noncomputable def aFunL (P : Program) (R : Rg) (call : (β : Type) → CallF β) (ext : (β : Type) → ExtF β) (draw : (β : Type) → DrawF β) (lp : Code → (β : Type) → Kx β → Nx β) (α : Type) (f : FuncId) (as : List AV) (g : G) (k : AV → G → Rs α) : Rs α :=
  match P.funcs[f]? with
  | some fn => match fn.body with
    | some c => ife (Nat.ble (llen as) fn.ntmps) (ife (ife (Nat.ble fn.ntmps (Nat.pow 4 (dep fn.ntmps))) (Nat.ble (dep fn.ntmps) 20) false)
        (aCodeL P R call ext draw fn.ntmps lp c α (fun x => x.sel (fun tm ds g => aLeave P (call α) false fn fn.ntmps tm k ds g) (fun _ _ _ _ => .bad 226) (fun tm ds g => aLeave P (call α) false fn fn.ntmps tm k ds g))
          (aSlots as 0 (PT.mk (dep fn.ntmps))) [] g) (.bad 227)) (.bad 228)
    | none => .bad 229
  | none => .bad 230
theorem aFunL_ok {R : Rg} (hR : R.ok V) {call : (β : Type) → CallF β} {ext : (β : Type) → ExtF β} {draw : (β : Type) → DrawF β} (hc : ∀ (β : Type) (p : β → Prop), CallOk P V W0 p (call β)) (he : ∀ (β : Type) (p : β → Prop), ExtOk P V W0 p (ext β))
    (hd : ∀ (β : Type) (p : β → Prop), DrawOk P V W0 p (draw β)) {lp : Code → (β : Type) → Kx β → Nx β} {f : FuncId}
    (hl : ∀ fn c, P.funcs[f]? = some fn → fn.body = some c → ∀ x ∈ loopsOf c, ∀ (α : Type) (p : α → Prop), CodeOk P V W0 p fn.ntmps (dep fn.ntmps) (lp x α) (.loop x))
    {as : List AV} {vs : Array Value} {k : AV → G → Rs α} (r : Grel V N W0 g w) (hs : AV.rels V N as vs.toList) (h : (aFunL P R call ext draw lp α f as g k).All V p)
    (Z : Ending → World → Prop) (hZ : ∀ v w' x g' N', Grel V N' W0 g' w' → Ext g N g' N' → x.rel V N' v → (k x g').All V p → Z (.returned v) w') : Calls P f vs w Z := by
  unfold aFunL at h
  split at h
  · rename_i fn hf
    split at h
    · rename_i c hb
      obtain ⟨h1, h'⟩ := ife1 h (fun x => x)
      obtain ⟨h2, h3⟩ := ife1 h' (fun x => x)
      clear h h'
      have hle : as.length ≤ fn.ntmps := by rw [← llen_eq]; exact Nat.le_of_ble_eq_true h1
      obtain ⟨hb1, hb2⟩ : Nat.ble fn.ntmps (Nat.pow 4 (dep fn.ntmps)) = true ∧ Nat.ble (dep fn.ntmps) 20 = true := by
        cases q : Nat.ble fn.ntmps (Nat.pow 4 (dep fn.ntmps))
        · rw [q] at h2; cases h2
        · rw [q] at h2; exact ⟨rfl, h2⟩
      have hpow : fn.ntmps ≤ 4 ^ (dep fn.ntmps) ∧ dep fn.ntmps ≤ 20 := ⟨Nat.le_of_ble_eq_true hb1, Nat.le_of_ble_eq_true hb2⟩
      have hvs : vs.size = as.length := by rw [← Array.length_toList]; exact rels_length hs
      have ht0 : Trel V N fn.ntmps (dep fn.ntmps) (PT.mk (dep fn.ntmps)) (vs ++ Array.replicate (fn.ntmps - vs.size) undef) :=
        ⟨PT.full_mk _, by simp; omega, hpow, fun i _ => by rw [show (PT.mk (dep fn.ntmps)).get i = .top from PT.get_mk _ _]; simp only [AV.rel]⟩
      have ht := aSlots_ok as vs.toList 0 _ ht0 hs (by omega) fun j v hv => by
        rw [Nat.zero_add, Array.getElem?_append]
        rw [Array.getElem?_toList] at hv
        have : j < vs.size := by
          rcases Nat.lt_or_ge j vs.size with h | h
          · exact h
          · rw [Array.getElem?_eq_none h] at hv; cases hv
        rw [if_pos this]; exact hv
      have ra : Arel V N fn.ntmps (dep fn.ntmps) (aSlots as 0 (PT.mk (dep fn.ntmps))) [] { tmps := vs ++ Array.replicate (fn.ntmps - vs.size) undef, defers := [] } := ⟨ht, rfl⟩
      have hcode := aCodeL_ok hR hc he hd fn.ntmps (dep fn.ntmps) c (hl fn c hf hb) α p _ _ _ g N _ w r ra h3
      refine calls_of_wp_defers hf hb (hcode _ ?_)
      intro x tm ds g' N' a' w' k1 k2 k3 k4
      cases x with
      | normal => exact aLeave_ok (hc α p) ds a'.defers g' N' w' k1 k3.t k3.d k4 fun v w'' z g'' N'' q1 q2 q3 q4 => hZ v w'' z g'' N'' q1 (k2.trans q2) q3 q4
      | exit i => exact k4.elim
      | ret => exact aLeave_ok (hc α p) ds a'.defers g' N' w' k1 k3.t k3.d k4 fun v w'' z g'' N'' q1 q2 q3 q4 => hZ v w'' z g'' N'' q1 (k2.trans q2) q3 q4
    · exact h.elim
  · exact h.elim

/-! ### Rounds -/
/-- Nothing that was there is changed. -/
structure WOk (W0 w : World) : Prop where
  os : w.os = W0.os
  tape : w.tape = W0.tape
  output : w.output = W0.output
  size : W0.heap.size ≤ w.heap.size
  below : ∀ b, b < W0.heap.size → w.heap[b]? = W0.heap[b]?
  soft : ∀ b, W0.heap.size ≤ b → ∀ c e fr, w.heap[b]? = some (.cells c e fr) → fr = (0, 0)
theorem Grel.wok (r : Grel V N W0 g w) : WOk W0 w := ⟨r.os.1, r.tape, r.output, r.size, r.below, r.soft⟩
def N0 : Env := ⟨fun _ => none, fun _ => none⟩
theorem WOk.grel (h : WOk W0 w) (ha : ArgsOk V W0) (hh : g.heap = []) (hn : ∀ id, g.nx ≤ id → id < g.lim → N.b id = none ∧ N.c id = none) (hf : Fs.ok V g.fs) : Grel V N W0 g w :=
  ⟨⟨h.os, ha⟩, h.tape, h.output, h.size, h.below, h.soft, fun id o ho => (by rw [hh] at ho; cases ho), fun id o id' o' ho => (by rw [hh] at ho; cases ho), hn, hf⟩
noncomputable def Rs.chk {α : Type} (F : α → Bool) (t : Rs α) : Bool :=
  Rs.rec (motive := fun _ => Bool) (fun _ => false) F (fun _ _ _ ix iy => ife ix iy false) (fun _ _ ix iy => ife ix iy false) t
theorem Rs.chk_ok {α : Type} {F : α → Bool} {V : Va} : ∀ {t : Rs α}, t.chk F = true → t.All V (fun a => F a = true)
  | .bad _, h => by cases h
  | .leaf _, h => h
  | .fork c x y, h => by
    change ife (x.chk F) (y.chk F) false = true at h
    cases hx : x.chk F
    · rw [hx] at h; cases h
    · rw [hx] at h
      simp only [Rs.All]
      split
      · exact Rs.chk_ok h
      · exact Rs.chk_ok hx
  | .both x y, h => by
    change ife (x.chk F) (y.chk F) false = true at h
    cases hx : x.chk F
    · rw [hx] at h; cases h
    · rw [hx] at h
      exact ⟨Rs.chk_ok hx, Rs.chk_ok h⟩
/-- One round from tm, under facts. -/
noncomputable def rnd (P : Program) (R : Rg) (cx : Cx) (n nt : Nat) (cb : Code) (tm : PT) (fs : List E) : Rs St :=
  aCode P R (fun β => callN P R cx n β) cx.ext (fun β => cx.draw β (callN P R cx n)) cx.LF nt false cb St leafK tm [] (gTop fs)
/-- At a round's end: on, in a state that ok tells; or out of the loop. -/
noncomputable def finB (id : Nat) (ok : PT → Bool) (s : St) : Bool := match s.ds with
  | [] => s.x.sel (ok s.tm) (fun i => Nat.beq i id) false
  | _ => false
def Qend (W0 : World) (nt id : Nat) (x : Exit) (a : Act) (w : World) : Prop := x = .exit id ∧ WOk W0 w ∧ a.tmps.size = nt ∧ a.defers = []
theorem rnd_ok {R : Rg} (hR : R.ok V) {cx : Cx} (hx : ∀ V, R.ok V → cx.ok P V) {n nt d id : Nat} {cb : Code} {tm : PT} {fs : List E} {ok : PT → Bool} (hrun : (rnd P R cx n nt cb tm fs).chk (finB id ok) = true) (ha : ArgsOk V W0) (hf : Fs.ok V fs)
    {a : Act} (hw : WOk W0 w) (ht : Trel V N0 nt d tm a.tmps) (hd : a.defers = []) {J : Act → World → Prop}
    (hJ : ∀ N' tm' a' w', WOk W0 w' → Trel V N' nt d tm' a'.tmps → a'.defers = [] → ok tm' = true → J a' w') : cb.wp P (Exit.then J (Qend W0 nt id)) a w := by
  have hrun := Rs.chk_ok (V := V) hrun
  have r0 : Grel V N0 W0 (gTop fs) w := hw.grel ha rfl (fun _ _ _ => ⟨rfl, rfl⟩) hf
  refine aCode_ok hR (fun β p => callN_ok hR hx n β W0 p) (fun β p => (hx V hR).ext β W0 p) (fun β p => (hx V hR).draw β W0 p _ fun β W0 p => callN_ok hR hx n β W0 p) cx.LF nt d false cb St _ leafK tm [] (gTop fs) N0 a w r0 ⟨ht, hd⟩ hrun _ ?_
  intro x tm' ds' g' N' a' w' k1 k2 k3 k4
  have k4 : finB id ok ⟨x, tm', ds', g'⟩ = true := k4
  unfold finB at k4
  split at k4
  · rename_i hds
    have hds : ds' = [] := hds
    subst hds
    have hd' : a'.defers = [] := k3.d
    cases x with
    | normal => exact hJ N' tm' a' w' k1.wok k3.t hd' k4
    | exit i =>
      have : i = id := Nat.eq_of_beq_eq_true k4
      subst this
      exact ⟨rfl, k1.wok, k3.t.size, hd'⟩
    | ret => cases k4
  · cases k4
theorem LoopWp.mono {c : Code} {Q Q' : Exit → Act → World → Prop} {a : Act} (h : LoopWp P c Q a w) (hq : ∀ e a w, Q e a w → Q' e a w) : LoopWp P c Q' a w := fun b k cs => by
  obtain ⟨e, a', w', h1, h2⟩ := h b k cs
  exact ⟨e, a', w', hq _ _ _ h1, h2⟩
theorem loop_rounds {cb : Code} {Q : Exit → Act → World → Prop} {Inv : Nat → Act → World → Prop} {M : Nat} (hM : ∀ a w, ¬ Inv M a w) (hstep : ∀ r a w, r < M → Inv r a w → cb.wp P (Exit.then (Inv (r + 1)) Q) a w) :
    ∀ (k r : Nat) (a : Act) (w : World), r + k = M → Inv r a w → LoopWp P cb Q a w
  | 0, r, a, w, e, h => by have : r = M := by omega
                           subst this; exact absurd h (hM a w)
  | k + 1, r, a, w, e, h => by
    refine loop_unroll ?_
    have := hstep r a w (by omega) h
    intro b kk cs
    obtain ⟨e', a', w', h1, h2⟩ := this b kk cs
    refine ⟨e', a', w', ?_, h2⟩
    cases e' with
    | normal => exact loop_rounds hM hstep k (r + 1) a' w' (by omega) h1
    | _ => exact h1
/-- A loop: it is entered in a state that chk tells, and left by an exit. -/
noncomputable def lpE (nt : Nat) (chk : PT → Bool) (id : Nat) (β : Type) (kk : Kx β) : Nx β := fun tm ds g => match ds, g.heap with
  | [], [] => ife (chk tm) (kk (.exit id) (PT.mk (dep nt)) [] g) (.bad 240)
  | _, _ => .bad 241
theorem lpE_ok {nt : Nat} {chk : PT → Bool} {id : Nat} {cb : Code} {Inv : Nat → Act → World → Prop} {M : Nat} (ha : ArgsOk V W0) (hnt : nt ≤ 4 ^ dep nt ∧ dep nt ≤ 20)
    (h0 : ∀ N tm a w, chk tm = true → Trel V N nt (dep nt) tm a.tmps → a.defers = [] → WOk W0 w → Inv 0 a w) (hM : ∀ a w, ¬ Inv M a w)
    (hstep : ∀ r a w, r < M → Inv r a w → cb.wp P (Exit.then (Inv (r + 1)) (Qend W0 nt id)) a w) (α : Type) (p : α → Prop) : CodeOk P V W0 p nt (dep nt) (lpE nt chk id α) (.loop cb) := by
  intro kk tm ds g N a w r ra h Q hk
  unfold lpE at h
  split at h
  · rename_i hh
    cases hc : chk tm
    · rw [hc] at h; exact h.elim
    · rw [hc, ife_true] at h
      refine loop_of ((loop_rounds hM hstep M 0 a w (by omega) (h0 N tm a w hc ra.t ra.d r.wok)).mono fun e a' w' hq => ?_)
      obtain ⟨rfl, h1, h2, h3⟩ := hq
      exact hk (.exit id) (PT.mk (dep nt)) [] g N a' w' (h1.grel r.os.2 hh r.fresh r.facts) (Ext.refl _ _)
        ⟨⟨PT.full_mk _, h2, hnt, fun i _ => by rw [show (PT.mk (dep nt)).get i = .top from PT.get_mk _ _]; simp only [AV.rel]⟩, h3⟩ h
  · exact h.elim
noncomputable def lawRunL (P : Program) (R : Rg) (cx : Cx) (n : Nat) (lp : Code → (β : Type) → Kx β → Nx β) (f : FuncId) (as : List AV) (fs : List E) : Rs Unit :=
  aFunL P R (fun β => callN P R cx n β) cx.ext (fun β => cx.draw β (callN P R cx n)) lp Unit f as (gTop fs) (kTrue R)
theorem law_okL {R : Rg} (hR : R.ok V) {cx : Cx} (hx : ∀ V, R.ok V → cx.ok P V) {n : Nat} {lp : Code → (β : Type) → Kx β → Nx β} {f : FuncId} {as : List AV} {vs : Array Value} {fs : List E} (hs : ∀ N, AV.rels V N as vs.toList) (hf : Fs.ok V fs)
    (ha : ArgsOk V w) (hl : ∀ fn c, P.funcs[f]? = some fn → fn.body = some c → ∀ x ∈ loopsOf c, ∀ (α : Type) (p : α → Prop), CodeOk P V w p fn.ntmps (dep fn.ntmps) (lp x α) (.loop x))
    (h : (lawRunL P R cx n lp f as fs).good = true) : Calls P f vs w fun e w' => e = .returned (.bool true) ∧ Below w.heap.size w w' := by
  have h := Rs.good_ok (V := V) h
  unfold lawRunL at h
  have r0 : Grel V ⟨fun _ => none, fun _ => none⟩ w (gTop fs) w := Grel.start ha (fun _ => ⟨rfl, rfl⟩) rfl hf
  refine aFunL_ok hR (fun β p => callN_ok hR hx n β w p) (fun β p => (hx V hR).ext β w p) (fun β p => (hx V hR).draw β w p _ fun β W0 p => callN_ok hR hx n β W0 p) hl r0 (hs _) h _ fun v w' x g' N' k1 _ k3 k4 => ?_
  obtain rfl := kTrue_ok hR k1 k3 k4
  exact ⟨rfl, k1.below'⟩
/-- A slot told as what it holds. -/
theorem Trel.same {nt d : Nat} {t : PT} {a : Array Value} (r : Trel V N nt d t a) {x : AV} {i : Nat} (hi : i < nt) (h : x.rel V N (a.getD i undef)) : Trel V N nt d (PT.set x t i) a := by
  have hput := r.put h hi
  have e : a.setIfInBounds i (a.getD i undef) = a := by
    apply Array.ext_getElem?
    intro j
    have hia : i < a.size := by rw [r.size]; exact hi
    rw [Array.getElem?_setIfInBounds]
    split
    · rename_i he; subst he
      rw [Array.getElem?_eq_getElem hia]; rfl
    · rfl
  rw [e] at hput; exact hput
theorem rgvr_ok {l : List (Int × Int)} {sel spl : Bool} {prv : Nat} (hl : l.length ≤ 16) {m : List Int} {rs : List Arow} (h : InR l m) (hm : ∀ x ∈ m, (-9223372036854775808 : Int) ≤ x ∧ x ≤ 9223372036854775807)
    (hz : ∀ r ∈ rs, ∀ x ∈ r.z, (-9223372036854775808 : Int) ≤ x ∧ x ≤ 9223372036854775807) : (rgv l sel spl prv).ok (va m rs) := by
  refine ⟨fun n => ?_, rfl⟩
  show (rangeN l n).1 ≤ _ ∧ _ ≤ (rangeN l n).2
  by_cases hn : 16 ≤ n
  · have e3 : (va m rs).v n = ((zOf rs (n % 16))[n / 16 - 1]?).getD 0 := if_pos hn
    rw [e3]
    have : ∀ (l : List (Int × Int)) (n : Nat), l.length ≤ n → rangeN l n = (-9223372036854775808, 9223372036854775807) := by
      intro l
      induction l with
      | nil => intro n _; rfl
      | cons q l ih =>
        intro n hn
        cases n with
        | zero => simp at hn
        | succ n => exact ih n (by simpa using hn)
    rw [this l n (by omega)]
    cases hx : (zOf rs (n % 16))[n / 16 - 1]? with
    | none => decide
    | some x => exact zOf_wf hz _ x (List.mem_of_getElem? hx)
  · rw [va_lo (by omega)]
    exact rangeN_ok l m n h hm
/-- One below a number of numbers: all are so. -/
noncomputable def allN (n : Nat) (f : Nat → Bool) : Bool := Nat.rec (motive := fun _ => Bool) true (fun i ih => ife (f i) ih false) n
theorem allN_ok {f : Nat → Bool} : ∀ {n : Nat}, allN n f = true → ∀ i, i < n → f i = true
  | n + 1, h, i, hi => by
    change ife (f n) (allN n f) false = true at h
    cases hf : f n
    · rw [hf] at h; cases h
    · rw [hf, ife_true] at h
      rcases Nat.lt_or_ge i n with q | q
      · exact allN_ok h i q
      · have : i = n := by omega
        subst this; exact hf
/-- Slots hold what is told. -/
noncomputable def slotsB (tm : PT) (l : List (Nat × AV)) : Bool := List.rec (motive := fun _ => Bool) true (fun q _ ih => ife (AV.eqb 8 (tm.get q.1) q.2) ih false) l
theorem slotsB_ok {tm : PT} : ∀ {l : List (Nat × AV)}, slotsB tm l = true → ∀ q ∈ l, tm.get q.1 = q.2
  | q :: l, h, x, hx => by
    change ife (AV.eqb 8 (tm.get q.1) q.2) (slotsB tm l) false = true at h
    cases hb : AV.eqb 8 (tm.get q.1) q.2
    · rw [hb] at h; cases h
    · rw [hb, ife_true] at h
      rcases List.mem_cons.1 hx with rfl | hx
      · exact AV.eqb_ok 8 _ _ hb
      · exact slotsB_ok h x hx
noncomputable def slotsT (d : Nat) (l : List (Nat × AV)) : PT := List.rec (motive := fun _ => PT) (PT.mk d) (fun q _ ih => PT.set q.2 ih q.1) l
theorem slotsT_ok {nt d : Nat} {a : Array Value} (hs : a.size = nt) (hf : nt ≤ 4 ^ d ∧ d ≤ 20) : ∀ {l : List (Nat × AV)}, (∀ q ∈ l, q.1 < nt ∧ q.2.rel V N (a.getD q.1 undef)) → Trel V N nt d (slotsT d l) a
  | [], _ => ⟨PT.full_mk _, hs, hf, fun i _ => by rw [show (slotsT d []).get i = .top from PT.get_mk _ _]; simp only [AV.rel]⟩
  | q :: l, h => Trel.same (slotsT_ok hs hf fun x hx => h x (List.mem_cons_of_mem _ hx)) (h q (by simp)).1 (h q (by simp)).2
/-- What slots that were checked hold. -/
theorem slotsB_rel {nt d : Nat} {tm : PT} {a : Array Value} (r : Trel V N nt d tm a) {l : List (Nat × AV)} (h : slotsB tm l = true) (hl : ∀ q ∈ l, q.1 < nt) : ∀ q ∈ l, q.2.rel V N (a.getD q.1 undef) := fun q hq => by
  rw [← slotsB_ok h q hq]; exact r.rel q.1 (hl q hq)
noncomputable def bodyOf (P : Program) (f : FuncId) : Code := match P.funcs[f]? with
  | some fn => match fn.body with
    | some c => c
    | none => .skip
  | none => .skip
noncomputable def ntOf (P : Program) (f : FuncId) : Nat := match P.funcs[f]? with
  | some fn => fn.ntmps
  | none => 0
noncomputable def loopOf (P : Program) (f : FuncId) : Code := match loopsOf (bodyOf P f) with
  | x :: _ => x
  | [] => .skip
noncomputable def oneLoop (P : Program) (f : FuncId) : Bool := match loopsOf (bodyOf P f) with
  | [_] => true
  | _ => false
theorem loop_one {f : FuncId} (h : oneLoop P f = true) (fn : Func) (c : Code) (hf : P.funcs[f]? = some fn) (hb : fn.body = some c) : fn.ntmps = ntOf P f ∧ ∀ x ∈ loopsOf c, x = loopOf P f := by
  have e : bodyOf P f = c := by unfold bodyOf; simp only [hf, hb]
  refine ⟨by unfold ntOf; rw [hf], fun x hx => ?_⟩
  unfold loopOf
  unfold oneLoop at h
  rw [e] at h ⊢
  split at h
  · rename_i y hy
    rw [hy] at hx ⊢
    exact List.mem_singleton.1 hx
  · cases h
theorem inR4 {q0 q1 q2 q3 : Int × Int} {a b c d : Int} (h0 : q0.1 ≤ a ∧ a ≤ q0.2) (h1 : q1.1 ≤ b ∧ b ≤ q1.2) (h2 : q2.1 ≤ c ∧ c ≤ q2.2) (h3 : q3.1 ≤ d ∧ d ≤ q3.2) : InR [q0, q1, q2, q3] [a, b, c, d] := ⟨h0, h1, h2, h3, trivial⟩
theorem fs_app {F G : List E} (h : Fs.ok V F) (h' : Fs.ok V G) : Fs.ok V (F ++ G) := fun x hx => by
  rcases List.mem_append.1 hx with hx | hx
  · exact h x hx
  · exact h' x hx
/-! ### Loops whose end is told in other words -/
noncomputable def rwE (T : List (E × E)) (e : E) : E := List.rec (motive := fun _ => E) e (fun q _ ih => ife (eqE e q.1) q.2 ih) T
noncomputable def rwA (T : List (E × E)) (x : AV) : AV := match x with | .int kd e => .int kd (rwE T e) | x => x
noncomputable def rwL (T : List (E × E)) (l : List AV) : List AV := List.rec (motive := fun _ => List AV) [] (fun x _ ih => rwA T x :: ih) l
noncomputable def rwO (T : List (E × E)) (o : Ob) : Ob := match o with | .cells cs e p w => .cells (rwL T cs) e p w | o => o
noncomputable def rwH (T : List (E × E)) (h : List (Nat × Ob)) : List (Nat × Ob) := List.rec (motive := fun _ => List (Nat × Ob)) [] (fun p _ ih => (p.1, rwO T p.2) :: ih) h
def RwOk (V : Va) (T : List (E × E)) : Prop := ∀ q ∈ T, q.1.den V = q.2.den V
theorem rwE_ok {T : List (E × E)} : ∀ (_ : RwOk V T) (e : E), (rwE T e).den V = e.den V := by
  induction T with
  | nil => intro _ e; rfl
  | cons q T ih =>
    intro h e
    show (ife (eqE e q.1) q.2 (rwE T e)).den V = _
    cases hb : eqE e q.1
    · exact ih (fun x hx => h x (List.mem_cons_of_mem _ hx)) e
    · rw [ife_true, eqE_ok hb, h q (by simp)]
theorem rwA_ok {T : List (E × E)} (h : RwOk V T) (x : AV) (v : Value) (hx : x.rel V N v) : (rwA T x).rel V N v := by
  unfold rwA
  split
  · simp only [AV.rel] at hx ⊢
    rw [rwE_ok h]; exact hx
  · exact hx
theorem rwL_ok {T : List (E × E)} (h : RwOk V T) : ∀ (l : List AV) (vs : List Value), AV.rels V N l vs → AV.rels V N (rwL T l) vs
  | [], _, hx => hx
  | x :: l, vs, hx => by
    obtain ⟨v, vs, rfl, h1, h2⟩ := rels_cons.1 hx
    exact rels_cons' (rwA_ok h x v h1) (rwL_ok h l vs h2)
theorem rwL_length (T : List (E × E)) : ∀ l : List AV, (rwL T l).length = l.length
  | [] => rfl
  | x :: l => by show (rwL T l).length + 1 = l.length + 1; rw [rwL_length T l]
theorem rwO_ok {T : List (E × E)} (h : RwOk V T) {id : Nat} {o : Ob} {x : Option Obj} (r : o.rel V N id x) : (rwO T o).rel V N id x := by
  cases o with
  | cells cs e p w =>
    obtain ⟨c, fr, h1, h2, h3, h4, h5, h6⟩ := r
    refine ⟨c, fr, h1, h2, ?_, fun q => ?_, h5, ?_⟩
    · rw [rwL_length]; exact h3
    · rw [rwL_length]; exact h4 q
    · rw [rwL_length]; exact rwL_ok h _ _ h6
  | emap w => exact r
  | row => exact r
theorem hget_rwH (T : List (E × E)) (id : Nat) : ∀ h : List (Nat × Ob), hget (rwH T h) id = (hget h id).map (rwO T)
  | [] => rfl
  | p :: h => by
    show hget ((p.1, rwO T p.2) :: rwH T h) id = _
    rw [hget_cons, hget_cons, hget_rwH T id h]
    split <;> rfl
theorem rwO_own (T : List (E × E)) (o : Ob) : (rwO T o).own = o.own := by cases o <;> rfl
noncomputable def rwG (T : List (E × E)) (b : Bool) (g : G) : G := match g.ro with
  | [] => ife b ⟨rwH T g.heap, g.nx, g.lim, g.fs, g.ro, g.wl⟩ g
  | _ => g
theorem rwG_ok {T : List (E × E)} (h : RwOk V T) (b : Bool) (r : Grel V N W0 g w) : Grel V N W0 (rwG T b g) w ∧ Ext g N (rwG T b g) N := by
  unfold rwG
  split
  · rename_i hro
    cases b
    · exact ⟨r, Ext.refl _ _⟩
    · rw [ife_true]
      have key : ∀ id o, hget (rwH T g.heap) id = some o → ∃ q, hget g.heap id = some q ∧ o = rwO T q := fun id o ho => by
        rw [hget_rwH] at ho
        cases hq : hget g.heap id with
        | none => rw [hq] at ho; cases ho
        | some q => rw [hq] at ho; injection ho with ho; exact ⟨q, rfl, ho.symm⟩
      refine ⟨⟨r.os, r.tape, r.output, r.size, r.below, r.soft, fun id o ho => ?_, fun id o id' o' h1 h2 hne how b hb => ?_, r.fresh, r.facts⟩, Env.le.refl _, fun _ _ => ⟨rfl, rfl⟩, Nat.le_refl _, rfl, rfl, fun id hi => by rw [hro] at hi; cases hi⟩
      · obtain ⟨q, h1, rfl⟩ := key id o ho
        obtain ⟨b, k1, k2, k3⟩ := r.ob id q h1
        exact ⟨b, k1, rwO_ok h k2, fun hw => k3 (by rw [rwO_own] at hw; exact hw)⟩
      · obtain ⟨q, k1, rfl⟩ := key id o h1
        obtain ⟨q', k2, rfl⟩ := key id' o' h2
        exact r.apart id q id' q' k1 k2 hne (by rw [rwO_own] at how; exact how) b hb
  · exact ⟨r, Ext.refl _ _⟩
noncomputable def lpR (P : Program) (R : Rg) (cx : Cx) (n nt : Nat) (T : List (E × E)) (wh : PT → Bool) (x : Code) (β : Type) (kk : Kx β) : Nx β := fun tm ds g =>
  ife (wh tm) (jAt true (fun β kk => aLoop cx.LF (aCode P R (fun β => callN P R cx n β) cx.ext (fun β => cx.draw β (callN P R cx n)) cx.LF nt true x β) kk) β (fun e tm ds g => kk e tm ds (rwG T true g)) tm ds g)
    (aLoop cx.LF (aCode P R (fun β => callN P R cx n β) cx.ext (fun β => cx.draw β (callN P R cx n)) cx.LF nt false x β) kk tm ds g)
theorem lpR_ok {R : Rg} (hR : R.ok V) {cx : Cx} (hx : ∀ V, R.ok V → cx.ok P V) {n nt d : Nat} {T : List (E × E)} {wh : PT → Bool} (hT : RwOk V T) (x : Code) (α : Type) (p : α → Prop) : CodeOk P V W0 p nt d (lpR P R cx n nt T wh x α) (.loop x) := by
  have lp : ∀ (jn : Bool) (β : Type) (p : β → Prop), CodeOk P V W0 p nt d (fun kk => aLoop cx.LF (aCode P R (fun β => callN P R cx n β) cx.ext (fun β => cx.draw β (callN P R cx n)) cx.LF nt jn x β) kk) (.loop x) := fun jn β p kk tm ds g N a w r ra h Q hk =>
    loop_of (aLoop_ok (aCode_ok hR (fun β p => callN_ok hR hx n β W0 p) (fun β p => (hx V hR).ext β W0 p) (fun β p => (hx V hR).draw β W0 p _ fun β W0 p => callN_ok hR hx n β W0 p) cx.LF nt d jn x β p) kk cx.LF tm ds g N a w r ra h Q hk)
  intro kk tm ds g N a w r ra h Q hk
  unfold lpR at h
  cases hw : wh tm
  · rw [hw, ife_false] at h
    exact lp false α p kk tm ds g N a w r ra h Q hk
  · rw [hw, ife_true] at h
    refine jAt_ok (f := fun β kk => aLoop cx.LF (aCode P R (fun β => callN P R cx n β) cx.ext (fun β => cx.draw β (callN P R cx n)) cx.LF nt true x β) kk) (fun β p => lp true β p) true α p _ tm ds g N a w r ra h Q (fun e => ?_)
    intro tm' ds' g' N' a' w' h1 h2 h3 h4
    obtain ⟨k1, k2⟩ := rwG_ok hT true h1
    exact hk e tm' ds' _ N' a' w' k1 (h2.trans k2) h3 h4
/-- Some slots alone are kept. -/
noncomputable def keepS (d : Nat) (tm : PT) (l : List Nat) : PT := List.rec (motive := fun _ => PT) (PT.mk d) (fun i _ ih => PT.set (tm.get i) ih i) l
theorem keepS_ok {nt d : Nat} {tm : PT} {a : Array Value} (r : Trel V N nt d tm a) : ∀ {l : List Nat}, (∀ i ∈ l, i < nt) → Trel V N nt d (keepS d tm l) a
  | [], _ => ⟨PT.full_mk _, r.size, r.fits, fun i _ => by rw [show (keepS d tm []).get i = .top from PT.get_mk _ _]; simp only [AV.rel]⟩
  | i :: l, h => Trel.same (keepS_ok r fun x hx => h x (List.mem_cons_of_mem _ hx)) (h i (by simp)) (r.rel i (h i (by simp)))
/-- As lpR; behind the loop only some slots are kept. -/
noncomputable def lpQ (P : Program) (R : Rg) (cx : Cx) (n nt : Nat) (keep : List Nat) (T : List (E × E)) (wh : PT → Bool) (x : Code) (β : Type) (kk : Kx β) : Nx β := fun tm ds g =>
  ife (wh tm) (jAt true (fun β kk => aLoop cx.LF (aCode P R (fun β => callN P R cx n β) cx.ext (fun β => cx.draw β (callN P R cx n)) cx.LF nt true x β) (fun e tm ds g => kk e (keepS (dep nt) tm keep) ds g)) β (fun e tm ds g => kk e tm ds (rwG T true g)) tm ds g)
    (aLoop cx.LF (aCode P R (fun β => callN P R cx n β) cx.ext (fun β => cx.draw β (callN P R cx n)) cx.LF nt false x β) kk tm ds g)
theorem lpQ_ok {R : Rg} (hR : R.ok V) {cx : Cx} (hx : ∀ V, R.ok V → cx.ok P V) {n nt : Nat} {keep : List Nat} (hk : ∀ i ∈ keep, i < nt) {T : List (E × E)} {wh : PT → Bool} (hT : RwOk V T) (x : Code) (α : Type) (p : α → Prop) :
    CodeOk P V W0 p nt (dep nt) (lpQ P R cx n nt keep T wh x α) (.loop x) := by
  have lp : ∀ (jn : Bool) (β : Type) (p : β → Prop), CodeOk P V W0 p nt (dep nt) (fun kk => aLoop cx.LF (aCode P R (fun β => callN P R cx n β) cx.ext (fun β => cx.draw β (callN P R cx n)) cx.LF nt jn x β) kk) (.loop x) := fun jn β p kk tm ds g N a w r ra h Q hk =>
    loop_of (aLoop_ok (aCode_ok hR (fun β p => callN_ok hR hx n β W0 p) (fun β p => (hx V hR).ext β W0 p) (fun β p => (hx V hR).draw β W0 p _ fun β W0 p => callN_ok hR hx n β W0 p) cx.LF nt (dep nt) jn x β p) kk cx.LF tm ds g N a w r ra h Q hk)
  intro kk tm ds g N a w r ra h Q hq
  unfold lpQ at h
  cases hw : wh tm
  · rw [hw, ife_false] at h
    exact lp false α p kk tm ds g N a w r ra h Q hq
  · rw [hw, ife_true] at h
    refine jAt_ok (f := fun β kk => aLoop cx.LF (aCode P R (fun β => callN P R cx n β) cx.ext (fun β => cx.draw β (callN P R cx n)) cx.LF nt true x β) (fun e tm ds g => kk e (keepS (dep nt) tm keep) ds g)) (fun β p => ?_) true α p _ tm ds g N a w r ra h Q (fun e => ?_)
    · intro kk tm ds g N a w r ra h Q hq
      refine lp true β p _ tm ds g N a w r ra h Q fun e => ?_
      intro tm' ds' g' N' a' w' h1 h2 h3 h4
      exact hq e _ ds' g' N' a' w' h1 h2 ⟨keepS_ok h3.t hk, h3.d⟩ h4
    · intro tm' ds' g' N' a' w' h1 h2 h3 h4
      obtain ⟨k1, k2⟩ := rwG_ok hT true h1
      exact hq e tm' ds' _ N' a' w' k1 (h2.trans k2) h3 h4
end
end Go.RX
