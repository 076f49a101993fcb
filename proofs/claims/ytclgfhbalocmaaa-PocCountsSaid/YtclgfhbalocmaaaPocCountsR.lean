/- PocCounts's loop: its slots at a round's start, what is known there, what is asked at its end. -/
import Derived.Test.YtclgfhbalocmaaaRxAwake
import Derived.Test.YtclgfhbalocmaaaRxL
namespace Go.Proofs.Ytclgfhbalocmaaa.pocCounts
open Go.RX Go.Proofs.Ytclgfhbalocmaaa
open Go.RowKit
set_option linter.unusedVariables false
noncomputable def R0 : Rg := rg [0] [] false false 0
noncomputable def R (m : Int) : Rg := rgv [(0, 9223372036854775807), (-9223372036854775808, 9223372036854775807), (0, 200), (0, m - 1)] false false 0
noncomputable def cx0 (R : Rg) : Cx := cxT R 0 0 0 0 0
noncomputable def qE (m c : Int) : E := E.addK (m * c) (E.smul m (.atom (.var 2)))
noncomputable def atE (m : Int) : E := E.add (E.smul m (.atom (.var 2))) (.atom (.var 3))
noncomputable def slots (k m : Int) (r : Nat) (a b c : E) : List (Nat × AV) := [(0, sv 0), (5, .int .i64 (.k k)), (6, .int .i64 (.k m)), (7, .int .i64 a), (8, .int .i64 b), (9, .int .i64 c), (10, .int .i64 (.k r))]
noncomputable def stE (m : Int) (r : Nat) : E := .atom (.md (.atom (.wr .u64 (.atom (.var (argVar 0 r))))) m)
/-- the count behind a step -/
noncomputable def at1 (m : Int) (r : Nat) : E := E.add (atE m) (stE m r)
noncomputable def nowE (m c : Int) (r : Nat) : E := .atom (.md (E.addK (-(m * c)) (at1 m r)) m)
noncomputable def fs (k : Nat) (m c : Int) (r : Nat) : List E := isE (E.add (E.sub (nowE m c r) (at1 m r)) (E.smul m (.atom (.var 2)))) (-(m * c)) ++ (isE (E.add (E.sub (nowE m 0 r) (at1 m r)) (E.smul m (.atom (.var 2)))) (-(m * c)) ++ (isE (.atom (.shr (E.add (.atom (.var 3)) (stE m r)) k)) c ++ isE (E.smul m (E.sub (.atom (.dv (at1 m r) m)) (.atom (.var 2)))) (m * c)))
theorem den_at1 {V : Va} (m : Int) (r : Nat) : (at1 m r).den V = m * V.v 2 + V.v 3 + (stE m r).den V := by
  unfold at1 atE
  rw [E.den_add, E.den_add, E.den_smul, E.den_atom, E.den_atom]; simp only [E.den]
theorem den_st {V : Va} (m : Int) (r : Nat) : (stE m r).den V = (IntKind.u64.wrap (V.v (argVar 0 r))).tmod m := by
  unfold stE; rw [E.den_atom]; simp only [E.den, E.den_atom]
theorem den_now {V : Va} (m c : Int) (r : Nat) : (nowE m c r).den V = ((at1 m r).den V - m * c).tmod m := by
  unfold nowE; rw [E.den_atom]; simp only [E.den, E.den_addK]
  rw [Int.sub_eq_add_neg]
theorem fs_ok {V : Va} {k : Nat} {m c : Int} {r : Nat} (h : (nowE m c r).den V = (at1 m r).den V - m * V.v 2 - m * c) (h0 : (nowE m 0 r).den V = (at1 m r).den V - m * V.v 2 - m * c) (hc : (V.v 3 + (stE m r).den V) / 2 ^ k = c) (hd : ((at1 m r).den V).tdiv m = V.v 2 + c) : Fs.ok V (fs k m c r) := by
  refine fs_app (isE_ok ?_) (fs_app (isE_ok ?_) (fs_app (isE_ok ?_) (isE_ok ?_)))
  · rw [E.den_add, E.den_sub, E.den_smul, h, E.den_atom]; simp only [E.den]; omega
  · rw [E.den_add, E.den_sub, E.den_smul, h0, E.den_atom]; simp only [E.den]; omega
  · rw [E.den_atom]; simp only [E.den, E.den_add, E.den_atom]; exact hc
  · rw [E.den_smul, E.den_sub, E.den_atom, E.den_atom]; simp only [E.den]; rw [hd]; congr 1; omega
theorem den_qE {V : Va} (m c : Int) : (qE m c).den V = m * V.v 2 + m * c := by
  unfold qE; rw [E.den_addK, E.den_smul, E.den_atom]; simp only [E.den]
theorem den_atE {V : Va} (m : Int) : (atE m).den V = m * V.v 2 + V.v 3 := by
  unfold atE; rw [E.den_add, E.den_smul, E.den_atom, E.den_atom]; simp only [E.den]
noncomputable def tmA (k m : Int) (r : Nat) : PT := slotsT (dep 69) (slots k m r (qE m 0) (.atom (.var 3)) (atE m))
noncomputable def okN (k m c : Int) (r : Nat) (tm : PT) : Bool := slotsB tm (slots k m (r + 1) (qE m c) (nowE m c r) (at1 m r))
noncomputable def one (k : Nat) (m c : Int) (r : Nat) : Bool := (rnd Try.prog (R m) (cx0 (R m)) 25 69 (loopOf Try.prog 5) (tmA k m r) (fs k m c r)).chk (finB 0 (okN k m c r))
noncomputable def last (k m : Int) : Bool := (rnd Try.prog (R m) (cx0 (R m)) 25 69 (loopOf Try.prog 5) (tmA k m 60) []).chk (finB 0 (fun _ => false))
noncomputable def chk0 (k m : Int) (tm : PT) : Bool := slotsB tm (slots k m 0 (.k 0) (.k 0) (.k 0))
theorem hnt : 69 ≤ 4 ^ dep 69 ∧ dep 69 ≤ 20 := of_decide_eq_true (by kernel_rfl)
theorem lone : oneLoop Try.prog 5 = true := by kernel_rfl
theorem nts : ntOf Try.prog 5 = 69 := by kernel_rfl
/-- What holds ahead of each round. -/
def Inv (k m : Int) (a0 : Option Addr) (len : Nat) (z : List Int) (b : Int) (w0 : World) (r : Nat) (a : Act) (w : World) : Prop :=
  r ≤ 60 ∧ WOk w0 w ∧ a.defers = [] ∧ ∃ q l : Int, 0 ≤ l ∧ l < m ∧ 0 ≤ q ∧ m * q + l ≤ r * m ∧ Trel (va [(len : Int), b, q, l] [⟨0, a0, z⟩]) N0 69 (dep 69) (tmA k m r) a.tmps
section
variable {k m : Int} {a0 : Option Addr} {len cap : Nat} {z : List Int} {b : Int} {w0 : World} {N : Env}
theorem sv_same {q l q' l' : Int} {v : Value} (h : (sv 0).rel (va [(len : Int), b, q, l] [⟨0, a0, z⟩]) N v) : (sv 0).rel (va [(len : Int), b, q', l'] [⟨0, a0, z⟩]) N0 v := h
theorem sv_same0 {q' l' : Int} {v : Value} (h : (sv 0).rel (va [(len : Int), b] [⟨0, a0, z⟩]) N v) : (sv 0).rel (va [(len : Int), b, q', l'] [⟨0, a0, z⟩]) N0 v := h
theorem slots_lt {r : Nat} {x y u : E} : ∀ q ∈ slots k m r x y u, q.1 < 69 := by
  intro q hq
  simp only [slots, List.mem_cons, List.not_mem_nil, or_false] at hq
  rcases hq with rfl | rfl | rfl | rfl | rfl | rfl | rfl <;> simp
theorem tm_of {V V' : Va} {d : Nat} {tm : PT} {a : Array Value} {r : Nat} {x y u x' y' u' : E} (ht : Trel V N 69 d tm a) (h : slotsB tm (slots k m r x y u) = true) (hs : ∀ v, (sv 0).rel V N v → (sv 0).rel V' N0 v)
    (hx : x.den V = x'.den V') (hy : y.den V = y'.den V') (hu : u.den V = u'.den V') : Trel V' N0 69 (dep 69) (slotsT (dep 69) (slots k m r x' y' u')) a := by
  have rels := slotsB_rel ht h slots_lt
  refine slotsT_ok ht.size hnt fun q hq => ⟨slots_lt q hq, ?_⟩
  simp only [slots, List.mem_cons, List.not_mem_nil, or_false] at hq
  have r0 := rels (0, sv 0) (by simp [slots])
  have r1 := rels (5, .int .i64 (.k k)) (by simp [slots])
  have r2 := rels (6, .int .i64 (.k m)) (by simp [slots])
  have r3 := rels (7, .int .i64 x) (by simp [slots])
  have r4 := rels (8, .int .i64 y) (by simp [slots])
  have r5 := rels (9, .int .i64 u) (by simp [slots])
  have r6 := rels (10, .int .i64 (.k r)) (by simp [slots])
  simp only [AV.rel] at r1 r2 r3 r4 r5 r6
  rcases hq with rfl | rfl | rfl | rfl | rfl | rfl | rfl
  · exact hs _ r0
  · simp only [AV.rel]; exact r1
  · simp only [AV.rel]; exact r2
  · simp only [AV.rel]; rw [r3, hx]
  · simp only [AV.rel]; rw [r4, hy]
  · simp only [AV.rel]; rw [r5, hu]
  · simp only [AV.rel]; exact r6
theorem inv0 {tm : PT} {a : Act} {w : World} (hm : 0 < m) (hc : chk0 k m tm = true) (ht : Trel (va [(len : Int), b] [⟨0, a0, z⟩]) N 69 (dep 69) tm a.tmps) (hd : a.defers = []) (hw : WOk w0 w) : Inv k m a0 len z b w0 0 a w := by
  refine ⟨by omega, hw, hd, 0, 0, by omega, hm, by simp, by simp, tm_of ht hc (fun v h => sv_same0 h) ?_ ?_ ?_⟩
  · rw [den_qE]; show (0 : Int) = m * 0 + m * 0; omega
  · rfl
  · rw [den_atE]; show (0 : Int) = m * 0 + 0; omega
theorem next {c : Int} {r : Nat} {tm : PT} {a : Act} {w : World} {q l : Int} (hr : r < 60) (h : okN k m c r tm = true) (ht : Trel (va [(len : Int), b, q, l] [⟨0, a0, z⟩]) N 69 (dep 69) tm a.tmps) (hd : a.defers = []) (hw : WOk w0 w)
    (q' l' : Int) (hq : m * q' = m * q + m * c) (hl : (nowE m c r).den (va [(len : Int), b, q, l] [⟨0, a0, z⟩]) = l') (l0 : 0 ≤ l') (l1 : l' < m) (hat : (at1 m r).den (va [(len : Int), b, q, l] [⟨0, a0, z⟩]) = m * q' + l')
    (b0 : 0 ≤ q') (b1 : m * q' + l' ≤ ((r + 1 : Nat) : Int) * m) : Inv k m a0 len z b w0 (r + 1) a w := by
  refine ⟨by omega, hw, hd, q', l', l0, l1, b0, b1, tm_of ht h (fun v h => sv_same h) ?_ ?_ ?_⟩
  · rw [den_qE, den_qE]; show m * q + m * c = m * q' + m * 0; omega
  · rw [hl, E.den_atom]; rfl
  · rw [den_atE, hat]; rfl
end
end Go.Proofs.Ytclgfhbalocmaaa.pocCounts
