/- Two functions, one answer: the frame. -/
import Derived.Test.YtmfleenmjbbgmaaRxAwake
import Derived.Test.YtmfleenmjbbgmaaRxTw
import Derived.Test.YtmfleenmjbbgmaaLend
namespace Go.Proofs.Ytmfleenmjbbgmaa.tw
open Go.RX Go.RowKit Go.Proofs.Ytmfleenmjbbgmaa
set_option linter.unusedVariables false
noncomputable def R : Rg := rg [1, 2] [] false false 0
noncomputable def cxJ : Cx := cxT R 0 (2 ^ 34) 0 0 (2 ^ 55)
noncomputable def run (f1 f2 : FuncId) (a b c : AV) (fs : List E) : Bool := twin (callN Try.prog R cxJ 25 Lf false f1 [a, b, c, iv 3] (gTop fs) rowK) (callN Try.prog R cxJ 25 Lf false f2 [a, b, c, iv 3] (gTop fs) rowK)
/-- A number is at least n, at most n. -/
noncomputable def geF (v : Nat) (n : Int) : E := E.addK (-n) (.atom (.var v))
noncomputable def leF (v : Nat) (n : Int) : E := E.addK n (E.smulG (-1) (.atom (.var v)))
theorem geF_den {V : Va} {v : Nat} {n : Int} (h : n ≤ V.v v) : 0 ≤ (geF v n).den V := by unfold geF; rw [E.den_addK, E.den_atom]; simp only [E.den]; omega
theorem leF_den {V : Va} {v : Nat} {n : Int} (h : V.v v ≤ n) : 0 ≤ (leF v n).den V := by unfold leF; rw [E.den_addK, E.den_smulG, E.den_atom]; simp only [E.den]; omega
noncomputable abbrev V (m : Int) (nx ny : Nat) (co : Int) (A B : Option Addr) (zx zy : List Int) : Va := va [m, (nx : Int), (ny : Int), co] [⟨1, A, zx⟩, ⟨2, B, zy⟩]
def In64 (x : Int) : Prop := -9223372036854775808 ≤ x ∧ x ≤ 9223372036854775807
def Twin (f1 f2 : FuncId) (m : Int) (nx ny : Nat) (co : Int) (zx zy : List Int) : Prop := ∃ L code, L.length ≤ 1000 ∧ ∀ (w : World) (A B : Option Addr) (cx cy : Nat), RowIs w A nx cx zx → RowIs w B ny cy zy →
  Answers Try.prog f1 #[.int .i64 m, .slice A nx cx, .slice B ny cy, .int .i64 co] w L code ∧ Answers Try.prog f2 #[.int .i64 m, .slice A nx cx, .slice B ny cy, .int .i64 co] w L code
theorem row_at {w : World} {A : Option Addr} {n c : Nat} {z l : List Int} {id : Nat} (h : RowIs w A n c z) (hid : id < 16) (hl : (l[id]?).getD 0 = (n : Int)) : (Arow.mk id A z).ok w l := by
  refine ⟨hid, fun ad ha i hi => ?_⟩
  simp only at ha hi ⊢
  rw [hl] at hi
  rcases h.row with h0 | ⟨b, off, e, hb, hc⟩
  · omega
  · rw [ha] at e; injection e with e; subst e
    refine ⟨hb, ?_⟩
    rw [add_at, hc i (by omega), List.getD_eq_getElem?_getD]
theorem xs_rel {m : Int} {nx ny : Nat} {co : Int} {A B : Option Addr} {zx zy : List Int} {w : World} {cx : Nat} {b : AV} (hb : b = .xsl 1 (.k (nx : Int)) ∨ b = sv 1) (h : RowIs w A nx cx zx) (N : Env) : b.rel (V m nx ny co A B zx zy) N (.slice A nx cx) := by
  have key : ∀ e : E, e.den (V m nx ny co A B zx zy) = (nx : Int) → (AV.xsl 1 e).rel (V m nx ny co A B zx zy) N (.slice A nx cx) := fun e he => by
    simp only [AV.rel]
    refine ⟨A, nx, cx, rfl, he.symm, h.cap, fun _ h0 => ⟨Int.le_refl _, ?_⟩, fun h16 => by omega⟩
    rcases h.row with h1 | ⟨b, off, e, _⟩
    · omega
    · exact ⟨_, e, e⟩
  rcases hb with rfl | rfl
  · exact key _ rfl
  · exact key _ (by rw [E.den_atom]; rfl)
theorem ys_rel {m : Int} {nx ny : Nat} {co : Int} {A B : Option Addr} {zx zy : List Int} {w : World} {cy : Nat} {b : AV} (hb : b = .xsl 2 (.k (ny : Int)) ∨ b = sv 2) (h : RowIs w B ny cy zy) (N : Env) : b.rel (V m nx ny co A B zx zy) N (.slice B ny cy) := by
  have key : ∀ e : E, e.den (V m nx ny co A B zx zy) = (ny : Int) → (AV.xsl 2 e).rel (V m nx ny co A B zx zy) N (.slice B ny cy) := fun e he => by
    simp only [AV.rel]
    refine ⟨B, ny, cy, rfl, he.symm, h.cap, fun _ h0 => ⟨Int.le_refl _, ?_⟩, fun h16 => by omega⟩
    rcases h.row with h1 | ⟨b, off, e, _⟩
    · omega
    · exact ⟨_, e, e⟩
  rcases hb with rfl | rfl
  · exact key _ rfl
  · exact key _ (by rw [E.den_atom]; rfl)
theorem m_rel {m : Int} {nx ny : Nat} {co : Int} {A B : Option Addr} {zx zy : List Int} {a : AV} (ha : a = .int .i64 (.k m) ∨ a = iv 0) (N : Env) : a.rel (V m nx ny co A B zx zy) N (.int .i64 m) := by
  rcases ha with rfl | rfl
  · simp only [AV.rel, E.den]
  · exact iv_rel 0 (by decide) rfl
theorem core {f1 f2 : FuncId} {a b c : AV} {fs : List E} (h : run f1 f2 a b c fs = true) {m : Int} {nx ny : Nat} {co : Int} {zx zy : List Int} (hm : In64 m) (hco : In64 co) (hx : (nx : Int) ≤ 9223372036854775807) (hy : (ny : Int) ≤ 9223372036854775807)
    (bx : ∀ x ∈ zx, In64 x) (by_ : ∀ x ∈ zy, In64 x) (ha : a = .int .i64 (.k m) ∨ a = iv 0) (hb : b = .xsl 1 (.k (nx : Int)) ∨ b = sv 1) (hc : c = .xsl 2 (.k (ny : Int)) ∨ c = sv 2)
    (hf : ∀ A B, Fs.ok (V m nx ny co A B zx zy) fs) : Twin f1 f2 m nx ny co zx zy := by
  obtain ⟨L, code, hL, hall⟩ := twin_ok (R := R) (fun _ h => cxT_ok h _ _ _ _ _) h (V m nx ny co none none zx zy)
  refine ⟨L, code, hL, fun w A B cx cy h1 h2 => ?_⟩
  have hR : R.ok (V m nx ny co A B zx zy) := rg_ok (lens := [1, 2]) (bls := []) (by decide) (by decide) ⟨hm, ⟨Int.natCast_nonneg _, hx⟩, ⟨Int.natCast_nonneg _, hy⟩, hco, trivial⟩ (by
    intro r hr
    simp only [List.mem_cons, List.not_mem_nil, or_false] at hr
    rcases hr with rfl | rfl
    · exact bx
    · exact by_)
  have hA : ArgsOk (V m nx ny co A B zx zy) w := args_ok (by
    intro r hr
    simp only [List.mem_cons, List.not_mem_nil, or_false] at hr
    rcases hr with rfl | rfl
    · exact row_at h1 (by decide) rfl
    · exact row_at h2 (by decide) rfl)
  exact hall (V m nx ny co A B zx zy) rfl rfl hR (hf A B) _ w (fun N => rels_cons' (m_rel ha N) (rels_cons' (xs_rel hb h1 N) (rels_cons' (ys_rel hc h2 N) (rels_cons' (iv_rel 3 (by decide) rfl) (rels_nil.2 rfl))))) hA
theorem fs1 {V : Va} {x : E} (h : 0 ≤ x.den V) : Fs.ok V [x] := fun y hy => by rw [List.mem_singleton.1 hy]; exact h
theorem fs0 {V : Va} : Fs.ok V [] := fun y hy => by cases hy
theorem fsC {V : Va} {x : E} {l : List E} (h : 0 ≤ x.den V) (h' : Fs.ok V l) : Fs.ok V (x :: l) := fun y hy => by
  rcases List.mem_cons.1 hy with rfl | hy
  · exact h
  · exact h' y hy
end Go.Proofs.Ytmfleenmjbbgmaa.tw
