/- Pocs: its walk (the kit's), callees by their contracts. -/
import Derived.Test.YtpaeakmhgobcdaaPo
import Derived.Deep.DeepCutAuto
import Derived.Lib.Hide
namespace Go.Proofs.Ytpaeakmhgobcdaa.pocs
open Go.RowKit Go.Proofs.Ytpaeakmhgobcdaa Go.Proofs.Ytpaeakmhgobcdaa.po
open Go.RX (Garb IntsK)
set_option linter.unusedVariables false
def InPost (w : World) (e : Ending) (w' : World) : Prop := ∃ t, e = .returned (.bool t) ∧ w' = w
theorem InPost.mk (w : World) (t : Bool) : InPost w (.returned (.bool t)) w := ⟨t, rfl, rfl⟩
theorem in_ok (a b c : Int) (w : World) : Calls Try.prog 28 #[.int .i64 a, .int .i64 b, .int .i64 c] w (InPost w) := by
  by_cases h1 : b ≤ a
  · go_enter Try.func28, Try.ntmps28
    go_wp2
    go_ret
    exact InPost.mk _ _
  · go_enter Try.func28, Try.ntmps28
    go_wp2
    go_ret
    exact InPost.mk _ _
theorem alloc_garb (w : World) (c : Array Value) (e : TypeId) : Garb w (w.alloc (.cells c e)) := But.garb (Go.RX.Garb.refl w) ((But.refl w w.heap.size).alloc c e) (Nat.le_refl _) (fun c e fr h => by
  rw [heap_alloc_new] at h
  simp only [Option.some.injEq, Obj.cells.injEq] at h
  exact h.2.2.symm)
/-- Where the bool is false, all that is asked is false. -/
def End (w : World) (Q0 : Ending → World → Prop) : Prop := ∀ cs : Array Value, Q0 (.returned (.bool false)) (w.alloc (.cells cs 24))
set_option maxRecDepth 100000 in
set_option maxHeartbeats 1000000 in
theorem may_ok (s0 s1 s2 s3 s4 s5 s7 s8 : Int) (X : Option Addr) (n c : Nat) (w : World) (h5 : 5 ≤ n) (hn : n ≤ 9223372036854775807) :
    Calls Try.prog 19 #[.agg #[.int .i64 s0, .int .i64 s1, .int .i64 s2, .int .i64 s3, .int .i64 s4, .int .i64 s5, .slice X n c, .int .i64 s7, .int .i64 s8]] w fun e w' => e = .returned (.bool false) ∧ Garb w w' := by
  generalize hQ : (fun (e : Ending) (w' : World) => e = .returned (.bool false) ∧ Garb w w') = Q0
  have hend : End w Q0 := by subst hQ; exact fun cs => ⟨rfl, alloc_garb w cs 24⟩
  clear hQ
  go_enter Try.func19, Try.ntmps19
  go_upto_region 1 with (fail)
  go_cut [3] (fun x wx => x = .bool false ∧ wx = (w.alloc (.cells #[.int .i64 s0, .int .i64 s1, .int .i64 s2, .int .i64 s3, .int .i64 s4, .int .i64 s5, .slice X n c, .int .i64 s7, .int .i64 s8] 24)))
  case first =>
    go_wp2_with (first | (go_at_call 28; refine (in_ok _ _ _ _).mono ?_; rintro e w1 ⟨t, rfl, hw⟩; obtain rfl := hw.symm; cases t))
    all_goals (go_meet; case rel => first | exact ⟨rfl, rfl⟩ | exact ⟨by rw [decide_eq_false (by omega)], rfl⟩)
  case rest =>
    obtain ⟨rfl, hw⟩ := hcut
    have hq := hend #[.int .i64 s0, .int .i64 s1, .int .i64 s2, .int .i64 s3, .int .i64 s4, .int .i64 s5, .slice X n c, .int .i64 s7, .int .i64 s8]
    rw [← hw] at hq
    have hcell : wc.cell? ⟨w.heap.size, 6, none⟩ = some (.slice X n c) := by rw [hw, World.cell?_alloc_at _ _ _ _ rfl]; rfl
    clear hw hend
    go_wp2
    go_loopw [3, 4] (fun x i wr => x = .bool false ∧ (∃ k : Nat, k ≤ n ∧ i = .int .i64 k) ∧ wr = wc) (fun _ i _ => n - (intOf i).toNat)
    case atStart => exact ⟨rfl, ⟨0, Nat.zero_le _, rfl⟩, rfl⟩
    case round =>
      obtain ⟨rfl, ⟨k, hk, rfl⟩, hwr⟩ := hrel
      obtain rfl := hwr.symm
      by_cases hlt : k < n
      · go_wp2
        refine ⟨⟨rfl, ⟨k + 1, by omega, by go_num⟩, trivial⟩, by simp [intOf]; omega⟩
      · go_wp2
        exact hq
set_option maxRecDepth 100000 in
set_option maxHeartbeats 1000000 in
theorem one_doc {a : Nums} (h5 : 5 ≤ a.n) (hn : a.n ≤ 9223372036854775807) (X : Option Addr) (c : Nat) (w : World) :
    Calls Try.prog 8 #[sps a X c, .int .i64 a.now, .bool a.ref] w fun e w' => e = .returned (.tuple #[.int .i64 0, .int .i64 1701]) ∧ Garb w w' := by
  unfold sps
  have hm := fun w => may_ok a.s0 a.s1 a.s2 a.s3 a.s4 a.s5 a.s7 a.s8 X a.n c w h5 hn
  generalize a.s0 = s0 at *
  generalize a.s1 = s1 at *
  generalize a.s2 = s2 at *
  generalize a.s3 = s3 at *
  generalize a.s4 = s4 at *
  generalize a.s5 = s5 at *
  generalize a.s7 = s7 at *
  generalize a.s8 = s8 at *
  generalize a.now = now at *
  generalize a.ref = ref at *
  generalize a.n = n at *
  have g0 := alloc_garb w #[.int .i64 s0, .int .i64 s1, .int .i64 s2, .int .i64 s3, .int .i64 s4, .int .i64 s5, .slice X n c, .int .i64 s7, .int .i64 s8] 24
  go_enter Try.func8, Try.ntmps8
  go_wp2_with (go_at_call 19; refine (hm _).mono ?_; rintro e w1 ⟨rfl, g1⟩; have g2 := g0.trans g1; clear g0 g1 hm)
  go_ret2
  exact ⟨rfl, g2⟩
theorem IntsK.three {v : Value} (h : IntsK 3 v) : ∃ p q r : Int, v = .tuple #[.int .i64 p, .int .i64 q, .int .i64 r] := by
  rcases h with ⟨h, _⟩ | ⟨_, l, hl, rfl⟩
  · omega
  · match l, hl with
    | [p, q, r], _ => exact ⟨p, q, r, rfl⟩
theorem IntsK.one {v : Value} (h : IntsK 0 v) : ∃ t : Int, v = .int .i64 t := by
  rcases h with ⟨_, t, rfl⟩ | ⟨h, _⟩
  · exact ⟨t, rfl⟩
  · omega
theorem IntsK.two {v : Value} (h : IntsK 2 v) : ∃ p q : Int, v = .tuple #[.int .i64 p, .int .i64 q] := by
  rcases h with ⟨h, _⟩ | ⟨_, l, hl, rfl⟩
  · omega
  · match l, hl with
    | [p, q], _ => exact ⟨p, q, rfl⟩
theorem one_all {a : Nums} (ha : a.ok) : ThenS 7 8 a := by
  by_cases h4 : a.n ≤ 4
  · exact one ha h4
  · intro w X c hrow
    have hn : a.n ≤ 9223372036854775807 := by have := ha.hn; omega
    refine (one_big ha (by omega) hrow).mono ?_
    rintro e w' ⟨rfl, g⟩
    exact ⟨_, rfl, .inr ⟨by decide, [0, 1701], rfl, rfl⟩, g, fun w2 A ca _ => one_doc (by omega) hn A ca w2⟩
def Gives (f : Nat) (vs : Array Value) (v : Value) : Prop := ∀ w2, Calls Try.prog f vs w2 fun e w3 => e = .returned v ∧ Garb w2 w3
def GivesS (a : Nums) (v : Value) : Prop := ∀ w2 A ca, RowIs w2 A a.n ca a.z → Calls Try.prog 8 #[sps a A ca, .int .i64 a.now, .bool a.ref] w2 fun e w3 => e = .returned v ∧ Garb w2 w3
/-- What holds all along: the two structs, the two lists. -/
structure St (w0 w : World) (a : Nums) (X : Option Addr) (c gx kx : Nat) : Prop where
  g : Garb w0 w
  f0 : w.heap[w0.heap.size]? = some (.cells #[.int .i64 a.s0, .int .i64 a.s1, .int .i64 a.s2, .int .i64 a.s3, .int .i64 a.s4, .int .i64 a.s5, .slice X a.n c, .int .i64 a.s7, .int .i64 a.s8] 24 (0, 0))
  f1 : w.heap[w0.heap.size + 1]? = some (.cells #[.int .i64 a.s0, .int .i64 a.s1, .int .i64 a.s2, .int .i64 a.s3, .int .i64 a.s4, .int .i64 a.s5, .slice (some ⟨gx, 0, none⟩) a.n kx, .int .i64 a.s7, .int .i64 a.s8] 24 (0, 0))
  r : RowIs w X a.n c a.z
  l : LentNow w gx kx a.n a.z
theorem St.garb {w0 w w' : World} {a : Nums} {X : Option Addr} {c gx kx : Nat} (h : St w0 w a X c gx kx) (hg : Garb w w') : St w0 w' a X c gx kx :=
  ⟨h.g.trans hg, by rw [hg.below.block _ (lt_of_some h.f0)]; exact h.f0, by rw [hg.below.block _ (lt_of_some h.f1)]; exact h.f1, h.r.garb hg, h.l.garb hg⟩
theorem St.c0 {w0 w : World} {a : Nums} {X : Option Addr} {c gx kx : Nat} (h : St w0 w a X c gx kx) : w.cell? ⟨w0.heap.size, 0, none⟩ = some (.int .i64 a.s0) ∧ w.cell? ⟨w0.heap.size, 1, none⟩ = some (.int .i64 a.s1) ∧ w.cell? ⟨w0.heap.size, 2, none⟩ = some (.int .i64 a.s2) ∧ w.cell? ⟨w0.heap.size, 3, none⟩ = some (.int .i64 a.s3) ∧ w.cell? ⟨w0.heap.size, 4, none⟩ = some (.int .i64 a.s4) ∧ w.cell? ⟨w0.heap.size, 5, none⟩ = some (.int .i64 a.s5) ∧ w.cell? ⟨w0.heap.size, 6, none⟩ = some (.slice X a.n c) ∧ w.cell? ⟨w0.heap.size, 7, none⟩ = some (.int .i64 a.s7) ∧ w.cell? ⟨w0.heap.size, 8, none⟩ = some (.int .i64 a.s8) := by
  refine ⟨?_, ?_, ?_, ?_, ?_, ?_, ?_, ?_, ?_⟩ <;> (rw [cell_of h.f0]; rfl)
theorem St.c1 {w0 w : World} {a : Nums} {X : Option Addr} {c gx kx : Nat} (h : St w0 w a X c gx kx) : w.cell? ⟨w0.heap.size + 1, 0, none⟩ = some (.int .i64 a.s0) ∧ w.cell? ⟨w0.heap.size + 1, 1, none⟩ = some (.int .i64 a.s1) ∧ w.cell? ⟨w0.heap.size + 1, 2, none⟩ = some (.int .i64 a.s2) ∧ w.cell? ⟨w0.heap.size + 1, 3, none⟩ = some (.int .i64 a.s3) ∧ w.cell? ⟨w0.heap.size + 1, 4, none⟩ = some (.int .i64 a.s4) ∧ w.cell? ⟨w0.heap.size + 1, 5, none⟩ = some (.int .i64 a.s5) ∧ w.cell? ⟨w0.heap.size + 1, 6, none⟩ = some (.slice (some ⟨gx, 0, none⟩) a.n kx) ∧ w.cell? ⟨w0.heap.size + 1, 7, none⟩ = some (.int .i64 a.s7) ∧ w.cell? ⟨w0.heap.size + 1, 8, none⟩ = some (.int .i64 a.s8) := by
  refine ⟨?_, ?_, ?_, ?_, ?_, ?_, ?_, ?_, ?_⟩ <;> (rw [cell_of h.f1]; rfl)
theorem st_start {w w1 : World} {a : Nums} {X : Option Addr} {c gx kx : Nat} (h : RowIs w X a.n c a.z) (g1 : Garb ((w.alloc (.cells #[.int .i64 a.s0, .int .i64 a.s1, .int .i64 a.s2, .int .i64 a.s3, .int .i64 a.s4, .int .i64 a.s5, .slice X a.n c, .int .i64 a.s7, .int .i64 a.s8] 24)).alloc (.cells #[.int .i64 a.s0, .int .i64 a.s1, .int .i64 a.s2, .int .i64 a.s3, .int .i64 a.s4, .int .i64 a.s5, .slice X a.n c, .int .i64 a.s7, .int .i64 a.s8] 24)) w1) (lx : LentNow w1 gx kx a.n a.z) (bx : ((w.alloc (.cells #[.int .i64 a.s0, .int .i64 a.s1, .int .i64 a.s2, .int .i64 a.s3, .int .i64 a.s4, .int .i64 a.s5, .slice X a.n c, .int .i64 a.s7, .int .i64 a.s8] 24)).alloc (.cells #[.int .i64 a.s0, .int .i64 a.s1, .int .i64 a.s2, .int .i64 a.s3, .int .i64 a.s4, .int .i64 a.s5, .slice X a.n c, .int .i64 a.s7, .int .i64 a.s8] 24)).heap.size ≤ gx) :
    St w (w1.setCell ⟨w.heap.size + 1, 6, none⟩ (.slice (some ⟨gx, 0, none⟩) a.n kx)) a X c gx kx ∧ w1.cell? ⟨w.heap.size + 1, 6, none⟩ = some (.slice X a.n c) ∧ w1.frozen? ⟨w.heap.size + 1, 6, none⟩ = false := by
  have hs : ((w.alloc (.cells #[.int .i64 a.s0, .int .i64 a.s1, .int .i64 a.s2, .int .i64 a.s3, .int .i64 a.s4, .int .i64 a.s5, .slice X a.n c, .int .i64 a.s7, .int .i64 a.s8] 24)).alloc (.cells #[.int .i64 a.s0, .int .i64 a.s1, .int .i64 a.s2, .int .i64 a.s3, .int .i64 a.s4, .int .i64 a.s5, .slice X a.n c, .int .i64 a.s7, .int .i64 a.s8] 24)).heap.size = w.heap.size + 2 := by show ((w.heap.push _).push _).size = _; simp
  have b1 : ((w.alloc (.cells #[.int .i64 a.s0, .int .i64 a.s1, .int .i64 a.s2, .int .i64 a.s3, .int .i64 a.s4, .int .i64 a.s5, .slice X a.n c, .int .i64 a.s7, .int .i64 a.s8] 24)).alloc (.cells #[.int .i64 a.s0, .int .i64 a.s1, .int .i64 a.s2, .int .i64 a.s3, .int .i64 a.s4, .int .i64 a.s5, .slice X a.n c, .int .i64 a.s7, .int .i64 a.s8] 24)).heap[w.heap.size + 1]? = some (.cells #[.int .i64 a.s0, .int .i64 a.s1, .int .i64 a.s2, .int .i64 a.s3, .int .i64 a.s4, .int .i64 a.s5, .slice X a.n c, .int .i64 a.s7, .int .i64 a.s8] 24 (0, 0)) := by
    have := heap_alloc_new (w.alloc (.cells #[.int .i64 a.s0, .int .i64 a.s1, .int .i64 a.s2, .int .i64 a.s3, .int .i64 a.s4, .int .i64 a.s5, .slice X a.n c, .int .i64 a.s7, .int .i64 a.s8] 24)) (.cells #[.int .i64 a.s0, .int .i64 a.s1, .int .i64 a.s2, .int .i64 a.s3, .int .i64 a.s4, .int .i64 a.s5, .slice X a.n c, .int .i64 a.s7, .int .i64 a.s8] 24)
    rwa [show (w.alloc (.cells #[.int .i64 a.s0, .int .i64 a.s1, .int .i64 a.s2, .int .i64 a.s3, .int .i64 a.s4, .int .i64 a.s5, .slice X a.n c, .int .i64 a.s7, .int .i64 a.s8] 24)).heap.size = w.heap.size + 1 from by show (w.heap.push _).size = _; simp] at this
  have b0 : ((w.alloc (.cells #[.int .i64 a.s0, .int .i64 a.s1, .int .i64 a.s2, .int .i64 a.s3, .int .i64 a.s4, .int .i64 a.s5, .slice X a.n c, .int .i64 a.s7, .int .i64 a.s8] 24)).alloc (.cells #[.int .i64 a.s0, .int .i64 a.s1, .int .i64 a.s2, .int .i64 a.s3, .int .i64 a.s4, .int .i64 a.s5, .slice X a.n c, .int .i64 a.s7, .int .i64 a.s8] 24)).heap[w.heap.size]? = some (.cells #[.int .i64 a.s0, .int .i64 a.s1, .int .i64 a.s2, .int .i64 a.s3, .int .i64 a.s4, .int .i64 a.s5, .slice X a.n c, .int .i64 a.s7, .int .i64 a.s8] 24 (0, 0)) := by
    rw [Below.heap_alloc _ _ _ (by show w.heap.size < (w.heap.push _).size; simp)]; exact heap_alloc_new w _
  have g0 : Garb w ((w.alloc (.cells #[.int .i64 a.s0, .int .i64 a.s1, .int .i64 a.s2, .int .i64 a.s3, .int .i64 a.s4, .int .i64 a.s5, .slice X a.n c, .int .i64 a.s7, .int .i64 a.s8] 24)).alloc (.cells #[.int .i64 a.s0, .int .i64 a.s1, .int .i64 a.s2, .int .i64 a.s3, .int .i64 a.s4, .int .i64 a.s5, .slice X a.n c, .int .i64 a.s7, .int .i64 a.s8] 24)) := (alloc_garb w #[.int .i64 a.s0, .int .i64 a.s1, .int .i64 a.s2, .int .i64 a.s3, .int .i64 a.s4, .int .i64 a.s5, .slice X a.n c, .int .i64 a.s7, .int .i64 a.s8] 24).trans (alloc_garb _ #[.int .i64 a.s0, .int .i64 a.s1, .int .i64 a.s2, .int .i64 a.s3, .int .i64 a.s4, .int .i64 a.s5, .slice X a.n c, .int .i64 a.s7, .int .i64 a.s8] 24)
  generalize (w.alloc (.cells #[.int .i64 a.s0, .int .i64 a.s1, .int .i64 a.s2, .int .i64 a.s3, .int .i64 a.s4, .int .i64 a.s5, .slice X a.n c, .int .i64 a.s7, .int .i64 a.s8] 24)).alloc (.cells #[.int .i64 a.s0, .int .i64 a.s1, .int .i64 a.s2, .int .i64 a.s3, .int .i64 a.s4, .int .i64 a.s5, .slice X a.n c, .int .i64 a.s7, .int .i64 a.s8] 24) = W at *
  have f1 : w1.heap[w.heap.size + 1]? = some (.cells #[.int .i64 a.s0, .int .i64 a.s1, .int .i64 a.s2, .int .i64 a.s3, .int .i64 a.s4, .int .i64 a.s5, .slice X a.n c, .int .i64 a.s7, .int .i64 a.s8] 24 (0, 0)) := by rw [g1.below.block _ (by omega)]; exact b1
  have f0 : w1.heap[w.heap.size]? = some (.cells #[.int .i64 a.s0, .int .i64 a.s1, .int .i64 a.s2, .int .i64 a.s3, .int .i64 a.s4, .int .i64 a.s5, .slice X a.n c, .int .i64 a.s7, .int .i64 a.s8] 24 (0, 0)) := by rw [g1.below.block _ (by omega)]; exact b0
  have n1 := heap_setCell_same w1 (w.heap.size + 1) 6 _ 24 (.slice (some ⟨gx, 0, none⟩) a.n kx) f1
  have no : ∀ k, k ≠ w.heap.size + 1 → (w1.setCell ⟨w.heap.size + 1, 6, none⟩ (.slice (some ⟨gx, 0, none⟩) a.n kx)).heap[k]? = w1.heap[k]? := fun k hk => heap_setCell_other w1 ⟨w.heap.size + 1, 6, none⟩ k _ hk
  have hsz : (w1.setCell ⟨w.heap.size + 1, 6, none⟩ (.slice (some ⟨gx, 0, none⟩) a.n kx)).heap.size = w1.heap.size := by simp [World.setCell]
  have hB : But w1 (w1.setCell ⟨w.heap.size + 1, 6, none⟩ (.slice (some ⟨gx, 0, none⟩) a.n kx)) (w.heap.size + 1) := by
    refine ⟨rfl, rfl, rfl, by rw [hsz]; exact Nat.le_refl _, fun k hk hne => no k hne, fun b hb c e fr hx => ?_⟩
    rw [Array.getElem?_eq_none (by rw [hsz]; exact hb)] at hx; cases hx
  have hG := But.garb (g0.trans g1) hB (Nat.le_succ _) (fun c e fr hx => by
    rw [n1] at hx
    simp only [Option.some.injEq, Obj.cells.injEq] at hx
    exact hx.2.2.symm)
  refine ⟨⟨hG, by rw [no _ (by omega)]; exact f0, n1, h.garb hG, ?_⟩, by rw [cell_of f1]; rfl, by unfold World.frozen?; simp only [f1]; simp⟩
  obtain ⟨k1, cur, k2, k3⟩ := lx
  exact ⟨k1, cur, by rw [no _ (by omega)]; exact k2, k3⟩
set_option maxRecDepth 100000 in
set_option maxHeartbeats 2000000 in
theorem main {a : Nums} (ha : a.ok) (X : Option Addr) (c : Nat) (w : World) (hrow : RowIs w X a.n c a.z) :
    Calls Try.prog 3 #[sps a X c, .int .i64 a.msb, .int .i64 a.lsb, .int .i64 a.now, .int .i64 a.bits, .bool a.ref] w fun e w' => e = .returned (.bool true) ∧ Garb w w' := by
  unfold sps
  have hrow2 := hrow.garb ((alloc_garb w #[.int .i64 a.s0, .int .i64 a.s1, .int .i64 a.s2, .int .i64 a.s3, .int .i64 a.s4, .int .i64 a.s5, .slice X a.n c, .int .i64 a.s7, .int .i64 a.s8] 24).trans (alloc_garb _ #[.int .i64 a.s0, .int .i64 a.s1, .int .i64 a.s2, .int .i64 a.s3, .int .i64 a.s4, .int .i64 a.s5, .slice X a.n c, .int .i64 a.s7, .int .i64 a.s8] 24))
  go_enter Try.func3, Try.ntmps3
  go_upto_region 3 with (go_at_call 4; refine (lendL hrow2).mono ?_; rintro e w1 ⟨gx, kx, rfl, ⟨lx, bx⟩, g1⟩; obtain ⟨S3, e1, e2⟩ := st_start hrow g1 lx bx; clear hrow2 g1 lx bx)
  generalize w1.setCell ⟨w.heap.size + 1, 6, none⟩ (.slice (some ⟨gx, 0, none⟩) a.n kx) = w3 at *
  clear e1 e2 hrow
  go_wp2_with (first
    | (go_at_call 5; refine (zero ha _).mono ?_; rintro e w4 ⟨v, rfl, hk, g4, h2⟩; obtain ⟨p1, p2, p3, rfl⟩ := IntsK.three hk; have Z2 : Gives 6 _ _ := h2; have S4 := S3.garb g4; clear S3 g4 h2 hk)
    | (go_at_call 6; refine (Z2 _).mono ?_; rintro e w5 ⟨rfl, g5⟩; have S5 := S4.garb g5; clear S4 g5 Z2; obtain ⟨x0, x1, x2, x3, x4, x5, x6, x7, x8⟩ := S5.c1)
    | (go_at_call 7; refine (one_all ha _ _ _ (S5.l.rowIs S5.r)).mono ?_; rintro e w6 ⟨v, rfl, hk, g6, h2⟩; obtain ⟨o1, o2, rfl⟩ := IntsK.two hk; have O2 : GivesS a _ := h2; have S6 := S5.garb g6; clear S5 g6 h2 hk x0 x1 x2 x3 x4 x5 x6 x7 x8; obtain ⟨y0, y1, y2, y3, y4, y5, y6, y7, y8⟩ := S6.c0)
    | (go_at_call 8; refine (O2 _ _ _ S6.r).mono ?_; rintro e w7 ⟨rfl, g7⟩; have S7 := S6.garb g7; clear S6 g7 O2 y0 y1 y2 y3 y4 y5 y6 y7 y8)
    | (go_at_call 9; refine (count ha _).mono ?_; rintro e w8 ⟨v, rfl, hk, g8, h2⟩; obtain ⟨q1, q2, rfl⟩ := IntsK.two hk; have C2 : Gives 10 _ _ := h2; have S8 := S7.garb g8; clear S7 g8 h2 hk)
    | (go_at_call 10; refine (C2 _).mono ?_; rintro e w9 ⟨rfl, g9⟩; have S9 := S8.garb g9; clear S8 g9 C2)
    | (go_at_call 11; refine (num_ok _ _).mono ?_; rintro e wn ⟨rfl, hw⟩; obtain rfl := hw.symm)
    | (go_at_call 12; refine (two ha _).mono ?_; rintro e w10 ⟨v, rfl, hk, g10, h2⟩; obtain ⟨t, rfl⟩ : ∃ t : Int, v = .int .i64 t := IntsK.one hk; have T2 : Gives 13 _ _ := h2; have S10 := S9.garb g10; clear S9 g10 h2 hk)
    | (go_at_call 13; refine (T2 _).mono ?_; rintro e w11 ⟨rfl, g11⟩; have S11 := S10.garb g11; clear S10 g11 T2; have x6 := S11.c1.2.2.2.2.2.2.1; have y6 := S11.c0.2.2.2.2.2.2.1)
    | (go_at_call 14; refine (keptL S11.r S11.l).mono ?_; rintro e w12 ⟨rfl, k12, e12⟩; have S12 := S11.garb (drewN_garb _ k12); rw [← e12] at S12; clear S11 e12 x6 y6)
    | (go_at_call 15; refine (awake_is _).mono ?_; rintro e w13 ⟨rfl, g13⟩; have S13 := S12.garb g13; clear S12 g13))
  go_ret
  exact ⟨rfl, S13.g⟩
end Go.Proofs.Ytpaeakmhgobcdaa.pocs
