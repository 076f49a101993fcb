/- What Modify gives; the program's Modify, in parts. -/
import Derived.Test.YtoheklommpochaaDf
import Derived.Lib.AppendZeros
namespace Go.Proofs.Ytoheklommpochaa.ls
open Go.RowKit Go.Lib Go.Proofs.Ytoheklommpochaa Go.Proofs.Ytoheklommpochaa.pi
open Go.RX (Garb)
set_option linter.unusedVariables false
set_option linter.unusedSimpArgs false
attribute [local go_sem ↓] Go.wp_at_zero Go.wp_at_succ
structure MS where
  out : List Int
  n : Int
def xOf (n now bits : Int) : Int := if now < n then wrap64 (n - wrapN bits) else n
def pLong (v : Int) (r : rf.R6) : Bool := r.m == 2 && r.l == v
def pShort (now bits x : Int) (r : rf.R6) : Bool := r.m == 1 && pic r now bits == x
def nOf (bits : Int) (m : md.R2) (n : Int) : Int := if m.k = 2 then n else turnedN n m (wrapN bits)
def atOf (z : List rf.R6) (now bits : Int) (m : md.R2) (n : Int) : Int := if m.k = 2 then idx (pLong m.v) z else idx (pShort now bits (xOf (nOf bits m n) now bits)) z
def next (i : Nat) (at' : Int) (out : List Int) : List Int := out.take i ++ [at'] ++ (out.drop i).filter (fun y => !(y == at'))
def msteps (z : List rf.R6) (now bits : Int) : List md.R2 → Nat → MS → Option MS
  | [], _, s => some s
  | m :: ms, i, s => if atOf z now bits m s.n < 0 then none else msteps z now bits ms (i + 1) ⟨next i (atOf z now bits m s.n) s.out, nOf bits m s.n⟩
def badP (nr : Nat) (p : Int) : Bool := decide (p < 0) || decide ((nr : Int) ≤ p)
/-- What comes out. -/
def ResI (w w' : World) (v : Value) (L : List Int) : Prop := (L = [] ∧ ∃ A c, v = .slice A 0 c) ∨ NewI w w' v L
def MPost (w : World) (L : List Int) (code : Int) (e : Ending) (w' : World) : Prop := ∃ v, e = .returned (.tuple #[v, .int .i64 code]) ∧ ResI w w' v L ∧ Garb w w'
def many (active : Int) (nm : Nat) : Bool := decide (active < 1) || decide (8 < active) || decide (active < nm)
def ansR (active : Int) : Option MS → List Int × Int
  | none => ([], 1801)
  | some s => if (s.out.length : Int) < active then ([], 1800) else (s.out.take active.toNat, 0)
def ansM (l : List Int) (ms : List md.R2) (z : List rf.R6) (now bits active : Int) : List Int × Int :=
  if many active ms.length = true then ([], 1802)
  else if (l.any (badP z.length) || ms.any badM) = true then ([], 1801)
  else ansR active (msteps z now bits ms 0 ⟨l, now⟩)
theorem step_app {ops : Array Oper} {o : Oper} {a : Act} {w : World} {K : Act → World → Prop} {Q : Exit → Act → World → Prop} {E : Prop} (hgd : o.guard = none) (s x : Operand)
    (ho : o.op = .call { callee := .builtin .append, args := #[s, x], argTypes := #[22, 22] }) (g cap n : Nat) (src : Option Addr) (m c : Nat) (L : List Int) (hs : a.eval s = .slice (some ⟨g, 0, none⟩) n cap) (hx : a.eval x = .slice src m c)
    (hA : AppTo w g cap n src m c L)
    (h : ∀ g' cap' w', OwnI w' g' cap' L → But w w' g → (g' = g ∨ w.heap.size ≤ g') → (∀ c e fr, w'.heap[g]? = some (.cells c e fr) → fr = (0, 0)) → (cap < n + m → Garb w w' ∧ w.heap.size ≤ g') → K (a.put o.dst (.slice (some ⟨g', 0, none⟩) (n + m) cap')) w') :
    if Region.wanted o (yielded ops a.tmps) = true then Oper.wp Try.prog o a w K Q else E := by
  have hw : Region.wanted o (yielded ops a.tmps) = true := by simp [Region.wanted, hgd]
  rw [if_pos hw]
  obtain ⟨g', cap', w', hr, h1, h2, h3, h4, h5⟩ := hA
  exact Lib.wp_append_run w s x 22 22 ho _ _ hs hx _ w' (hr _) (h g' cap' w' h1 h2 h3 h4 h5)
set_option maxHeartbeats 1000000 in
theorem mod_many {a1 : Option Addr} {n1 c1 : Nat} {a2 : Option Addr} {n2 c2 : Nat} {a3 : Option Addr} {n3 c3 : Nat} {now bits active : Int} {w : World} (hm : many active n2 = true) (hb2 : n2 ≤ 9223372036854775807) :
    Calls Try.prog 8 #[.slice a1 n1 c1, .slice a2 n2 c2, .slice a3 n3 c3, .int .i64 now, .int .i64 bits, .int .i64 active] w (MPost w [] 1802) := by
  generalize hQ : MPost w [] 1802 = Q0
  have hend : Aside (∀ w', Garb w w' → Q0 (.returned (.tuple #[.slice none 0 0, .int .i64 1802])) w') := fun w' hg => by subst hQ; exact ⟨_, rfl, .inl ⟨rfl, _, _, rfl⟩, hg⟩
  unfold many at hm
  clear hQ
  have hG : Garb w (((w.alloc (.cells #[.slice a3 n3 c3] 24)).alloc (.cells #[.int .i64 now] 3)).alloc (.cells #[.int .i64 bits] 3)) := garb_alloc (garb_alloc (alloc_garb _ _ _) _ _) _ _
  have hq := hend.out _ hG
  clear hG
  rcases bool2 (decide (active < 1)) with h1 | h1
  · clear hm
    go_enter Try.func8, Try.ntmps8
    go_wp2
    first | exact hq | (go_ret; exact hq)
  · rcases bool2 (decide (8 < active)) with h2 | h2
    · clear hm
      go_enter Try.func8, Try.ntmps8
      go_wp2
      first | exact hq | (go_ret; exact hq)
    · rw [h1, h2, Bool.false_or, Bool.false_or] at hm
      go_enter Try.func8, Try.ntmps8
      go_wp2
      first | exact hq | (go_ret; exact hq)
/-- The world behind the boxes. -/
structure Boxes (w w3 : World) (h0 : Nat) (a3 : Option Addr) (n3 c3 : Nat) (now bits : Int) : Prop where
  g : Garb w w3
  lo : w.heap.size ≤ h0
  x0 : w3.cell? ⟨h0, 0, none⟩ = some (.slice a3 n3 c3)
  x1 : w3.cell? ⟨h0 + 1, 0, none⟩ = some (.int .i64 now)
  x2 : w3.cell? ⟨h0 + 1 + 1, 0, none⟩ = some (.int .i64 bits)
theorem boxes (w : World) (a3 : Option Addr) (n3 c3 : Nat) (now bits : Int) : Boxes w (((w.alloc (.cells #[.slice a3 n3 c3] 24)).alloc (.cells #[.int .i64 now] 3)).alloc (.cells #[.int .i64 bits] 3)) w.heap.size a3 n3 c3 now bits := by
  have g1 := alloc_garb w #[.slice a3 n3 c3] 24
  have k1 : (w.alloc (.cells #[.slice a3 n3 c3] 24)).cell? ⟨w.heap.size, 0, none⟩ = some (.slice a3 n3 c3) := by rw [cell_of (heap_alloc_new w _)]; rfl
  have s1 : (w.alloc (.cells #[.slice a3 n3 c3] 24)).heap.size = w.heap.size + 1 := by show (w.heap.push _).size = _; simp
  generalize w.alloc (.cells #[.slice a3 n3 c3] 24) = W1 at *
  have g2 := alloc_garb W1 #[.int .i64 now] 3
  have k2 : (W1.alloc (.cells #[.int .i64 now] 3)).cell? ⟨w.heap.size + 1, 0, none⟩ = some (.int .i64 now) := by rw [← s1, cell_of (heap_alloc_new W1 _)]; rfl
  have s2 : (W1.alloc (.cells #[.int .i64 now] 3)).heap.size = w.heap.size + 2 := by show (W1.heap.push _).size = _; simp [s1]
  generalize W1.alloc (.cells #[.int .i64 now] 3) = W2 at *
  have g3 := alloc_garb W2 #[.int .i64 bits] 3
  have k3 : (W2.alloc (.cells #[.int .i64 bits] 3)).cell? ⟨w.heap.size + 2, 0, none⟩ = some (.int .i64 bits) := by rw [← s2, cell_of (heap_alloc_new W2 _)]; rfl
  exact ⟨(g1.trans g2).trans g3, Nat.le_refl _, keep1 (g2.trans g3) k1, keep1 g3 k2, k3⟩
theorem many_false {active : Int} {nm : Nat} (h : many active nm = false) : decide (active < 1) = false ∧ decide (8 < active) = false ∧ decide (active < (nm : Int)) = false := by
  unfold many at h
  rcases bool2 (decide (active < 1)) with h1 | h1
  · rw [h1] at h; simp at h
  · rcases bool2 (decide (8 < active)) with h2 | h2
    · rw [h2] at h; simp at h
    · rw [h1, h2, Bool.false_or, Bool.false_or] at h; exact ⟨h1, h2, h⟩
set_option maxHeartbeats 1000000 in
theorem mod_bad {a1 : Option Addr} {n1 c1 : Nat} {a2 : Option Addr} {n2 c2 : Nat} {a3 : Option Addr} {n3 c3 : Nat} {now bits active : Int} {w : World} {l : List Int} {ms : List md.R2} (hm : many active n2 = false) (hbad : (l.any (badP n3) || ms.any badM) = true)
    (h1 : IRow w a1 l) (e1 : n1 = l.length) (b1 : n1 ≤ 9223372036854775807) (h2 : MRow w a2 ms) (e2 : n2 = ms.length) (b2 : n2 ≤ 9223372036854775807) :
    Calls Try.prog 8 #[.slice a1 n1 c1, .slice a2 n2 c2, .slice a3 n3 c3, .int .i64 now, .int .i64 bits, .int .i64 active] w (MPost w [] 1801) := by
  generalize hQ : MPost w [] 1801 = Q0
  have hend : Aside (∀ w', Garb w w' → Q0 (.returned (.tuple #[.slice none 0 0, .int .i64 1801])) w') := fun w' hg => by subst hQ; exact ⟨_, rfl, .inl ⟨rfl, _, _, rfl⟩, hg⟩
  obtain ⟨m1, m2, m3⟩ := many_false hm
  have B := boxes w a3 n3 c3 now bits
  obtain ⟨W3, hW3⟩ : ∃ W3, W3 = ((w.alloc (.cells #[.slice a3 n3 c3] 24)).alloc (.cells #[.int .i64 now] 3)).alloc (.cells #[.int .i64 bits] 3) := ⟨_, rfl⟩
  rw [← hW3] at B
  have cA := hasI_ok (c := c1) e23 (c23 B.x0) (fun _ _ => trivial) e1 b1 (h1.garb B.g)
  rw [show l.any (fun p => decide (p < 0) || decide ((n3 : Int) ≤ p)) = l.any (badP n3) from rfl] at cA
  have cB := fun w' (g : Garb w w') => hasM_ok (c := c2) e25 (c25 w') (fun _ _ => trivial) e2 b2 (h2.garb g)
  have G3 := B.g
  clear hQ hm h1 h2 e1 e2 B
  rcases bool2 (l.any (badP n3)) with q1 | q1
  · rw [q1] at cA
    clear cB hbad
    go_enter Try.func8, Try.ntmps8
    go_upto_region 1 with (fail)
    rw [← hW3]
    clear hW3
    go_wp2_with (go_at_call 22; refine cA.mono ?_; rintro e w' ⟨rfl, g'⟩)
    have hq := hend.out _ (G3.trans g')
    first | exact hq | (go_ret; exact hq)
  · rw [q1, Bool.false_or] at hbad
    rw [q1] at cA
    rw [hbad] at cB
    go_enter Try.func8, Try.ntmps8
    go_upto_region 1 with (fail)
    rw [← hW3]
    clear hW3
    go_wp2_with (first
      | (go_at_call 22; refine cA.mono ?_; rintro e w' ⟨rfl, g'⟩; clear cA; have cB := cB _ (G3.trans g'))
      | (go_at_call 24; refine cB.mono ?_; rintro e w'' ⟨rfl, g''⟩; clear cB))
    have hq := hend.out _ ((G3.trans g').trans g'')
    first | exact hq | (go_ret; exact hq)
end Go.Proofs.Ytoheklommpochaa.ls
