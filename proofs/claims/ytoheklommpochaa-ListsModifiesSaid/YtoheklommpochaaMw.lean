/- The program's Modify: its walk. -/
import Derived.Test.YtoheklommpochaaMo
namespace Go.Proofs.Ytoheklommpochaa.ls
open Go.RowKit Go.Lib Go.Proofs.Ytoheklommpochaa Go.Proofs.Ytoheklommpochaa.pi
open Go.RX (Garb)
set_option linter.unusedVariables false
set_option linter.unusedSimpArgs false
attribute [local go_sem ↓] Go.wp_at_zero Go.wp_at_succ
theorem next_len {i : Nat} {a : Int} {out : List Int} (h : i ≤ out.length) : i + 1 ≤ (next i a out).length ∧ (next i a out).length ≤ out.length + 1 := by
  unfold next
  have := List.length_filter_le (fun y => !(y == a)) (out.drop i)
  simp only [List.length_append, List.length_take, List.length_singleton, List.length_drop] at this ⊢
  omega
structure MInv (W3 wr : World) (z : List rf.R6) (now bits : Int) (ms : List md.R2) (R : Option MS) (n1 k : Nat) (s : MS) (g cap : Nat) : Prop where
  g3 : Garb W3 wr
  own : OwnI wr g cap s.out
  lo : W3.heap.size ≤ g
  run : R = msteps z now bits (ms.drop k) k s
  kle : k ≤ s.out.length
  len : s.out.length ≤ n1 + k
theorem own_take {w : World} {g cap k : Nat} {l : List Int} (h : OwnI w g cap l) (hk : k ≤ l.length) : OwnI w g k (l.take k) := by
  obtain ⟨cur, h1, h2, h3, h4⟩ := h
  refine ⟨cur, h1, by omega, by rw [List.length_take]; omega, fun j hj => ?_⟩
  rw [List.length_take] at hj
  rw [h4 j (by omega)]
  simp only [List.getD_eq_getElem?_getD, List.getElem?_take]
  rw [if_pos (by omega)]
/-- out[k:], cloned. -/
theorem cut_clone {wr : World} {g cap k : Nat} {out : List Int} (h : OwnI wr g cap out) (hk : k ≤ out.length) (hfit : (out.length + 2) * 8 ≤ 140737488355328) :
    ∃ (a' : Addr) (d : List Int), Aside (d = out.drop k ∧ d.length = out.length - k) ∧ (if cap = k then some (⟨g, 0, none⟩ : Addr) else some ⟨g, k, none⟩) = some a' ∧ Aside (∀ w', Garb wr w' → Calls Try.prog 26 #[.slice (some a') (out.length - k) (cap - k)] w' fun e w'' => ∃ v, e = .returned v ∧ NewI w' w'' v d ∧ Garb w' w'') := by
  obtain ⟨a', ha⟩ : ∃ a' : Addr, (if cap = k then some (⟨g, 0, none⟩ : Addr) else some ⟨g, k, none⟩) = some a' := by
    split <;> exact ⟨_, rfl⟩
  refine ⟨a', out.drop k, ⟨rfl, List.length_drop⟩, ha, (show Aside _ from fun w' hg => ?_)⟩
  refine clone_ok ?_ (by rw [List.length_drop]) (by omega)
  have h' := h.garb hg
  obtain ⟨cur, h1, h2, h3, h4⟩ := h'
  by_cases hc : cap = k
  · exact .inl (by omega)
  · rw [if_neg hc] at ha
    injection ha with ha
    subst ha
    refine .inr ⟨g, k, rfl, lt_of_some h1, fun j hj => ?_⟩
    rw [cell_of h1, h4 _ (by omega)]
    simp only [List.getD_eq_getElem?_getD, List.getElem?_drop]
theorem del_ok' {w : World} {g cap h n : Nat} {x : Int} {l : List Int} (hrow : OwnI w g cap l) (hx : w.cell? ⟨h, 0, none⟩ = some (.int .i64 x)) (hne : h ≠ g) (hn : n = l.length) (hbig : n ≤ 9223372036854775807) :
    Calls Try.prog 35 #[.slice (some ⟨g, 0, none⟩) n cap, .func (.func 36) #[] #[.pointer (some ⟨h, 0, none⟩)]] w fun e w' => ∃ f, e = .returned (.slice (some ⟨g, 0, none⟩) f.length cap) ∧ Aside (f = l.filter (fun y => !(y == x))) ∧ OwnI w' g cap f ∧ But w w' g :=
  (del_ok hrow hx hne hn hbig).mono fun e w' ⟨h1, h2, h3⟩ => ⟨_, h1, rfl, h2, h3⟩
theorem wrap64_i64 (x : Int) : wrap64 x = IntKind.i64.wrap x := by unfold wrap64; exact (IntKind.wrap_i64 x).symm
theorem drewG (w : World) : Garb w w.drew := Garb.drew w _
theorem garb_set {a b : World} (h : Garb a b) {k o : Nat} (hk : a.heap.size ≤ k) (v : Value) : Garb a (b.setCell ⟨k, o, none⟩ v) := by
  refine ⟨h.below.setCell (p := ⟨k, o, none⟩) hk v, fun i hi c e fr hx => ?_⟩
  by_cases hik : i = k
  · subst hik
    cases hb : b.heap[i]? with
    | none =>
      have : (b.setCell ⟨i, o, none⟩ v).heap[i]? = none := by
        rw [Array.getElem?_eq_none]
        have := (Array.getElem?_eq_none_iff.1 hb)
        simpa [World.setCell] using this
      rw [this] at hx; cases hx
    | some ob =>
      cases ob with
      | cells c0 e0 fr0 =>
        have hs := h.soft i hi c0 e0 fr0 hb
        subst hs
        rw [heap_setCell_same b i o c0 e0 v hb] at hx
        simp only [Option.some.injEq, Obj.cells.injEq] at hx
        exact hx.2.2.symm
      | _ => simp [World.setCell, Array.getElem?_modify, hb] at hx
  · rw [heap_setCell_other b ⟨k, o, none⟩ i v hik] at hx
    exact h.soft i hi c e fr hx
theorem app_one {w7 wx : World} {g cap k b : Nat} {x : Int} {out : List Int} (h : OwnI w7 g cap out) (hk : k ≤ out.length) (hg : Garb w7 wx) (hb : wx.heap[b]? = some (.cells #[.int .i64 x] 3 (0, 0))) (hfit : (out.length + 3) * 8 ≤ 140737488355328) :
    AppTo wx g k k (some ⟨b, 0, none⟩) 1 1 (out.take k ++ [x]) :=
  appL (own_take (h.garb hg) hk) (.inr ⟨b, 0, rfl, lt_of_some hb, fun j hj => by
    have : j = 0 := by simpa using hj
    subst this
    rw [Nat.zero_add, cell_of hb]; rfl⟩) (by rw [List.length_take]; omega) rfl (by omega)
set_option maxHeartbeats 4000000 in
set_option maxRecDepth 100000 in
theorem mod_main {ga : Addr} {n1 c1 : Nat} {a2 : Option Addr} {n2 c2 : Nat} {a3 : Option Addr} {n3 c3 : Nat} {now bits active : Int} {w : World} {l : List Int} {ms : List md.R2} {z : List rf.R6} (hm : many active n2 = false) (hbad : (l.any (badP n3) || ms.any badM) = false)
    (hn : In64 now) (hb : In64 bits) (hok : ∀ r ∈ z, R6.ok r)
    (h1 : IRow w (some ga) l) (e1 : n1 = l.length) (b1 : (n1 + 100) * 8 ≤ 140737488355328) (h2 : MRow w a2 ms) (e2 : n2 = ms.length) (b2 : n2 ≤ 9223372036854775807) (h3 : RRow w a3 z) (e3 : n3 = z.length) (b3 : n3 ≤ 9223372036854775807) :
    Calls Try.prog 8 #[.slice (some ga) n1 c1, .slice a2 n2 c2, .slice a3 n3 c3, .int .i64 now, .int .i64 bits, .int .i64 active] w (MPost w (ansM l ms z now bits active).1 (ansM l ms z now bits active).2) := by
  obtain ⟨R, hR⟩ : ∃ R, R = msteps z now bits ms 0 ⟨l, now⟩ := ⟨_, rfl⟩
  have hans : ansM l ms z now bits active = ansR active R := by
    unfold ansM
    rw [if_neg (by rw [← e2, hm]; decide), if_neg (by rw [← e3, hbad]; decide), ← hR]
  generalize ansM l ms z now bits active = ans at hans ⊢
  generalize hQ : MPost w ans.1 ans.2 = Q0
  have hE1 : Aside (R = none → ∀ w', Garb w w' → Q0 (.returned (.tuple #[.slice none 0 0, .int .i64 1801])) w') := fun h w' hg => by subst hQ; rw [hans, h]; exact ⟨_, rfl, .inl ⟨rfl, _, _, rfl⟩, hg⟩
  have hE2 : Aside (∀ s, R = some s → (s.out.length : Int) < active → ∀ w', Garb w w' → Q0 (.returned (.tuple #[.slice none 0 0, .int .i64 1800])) w') := fun s h hlt w' hg => by subst hQ; rw [hans, h]; unfold ansR; simp only; rw [if_pos hlt]; exact ⟨_, rfl, .inl ⟨rfl, _, _, rfl⟩, hg⟩
  have hE3 : Aside (∀ s, R = some s → ¬ (s.out.length : Int) < active → ∀ v w' , NewI w w' v (s.out.take active.toNat) → Garb w w' → Q0 (.returned (.tuple #[v, .int .i64 0])) w') := fun s h hlt v w' hv hg => by subst hQ; rw [hans, h]; unfold ansR; simp only; rw [if_neg hlt]; exact ⟨_, rfl, .inr hv, hg⟩
  obtain ⟨m1, m2, m3⟩ := many_false hm
  have B := boxes w a3 n3 c3 now bits
  obtain ⟨W3, hW3⟩ : ∃ W3, W3 = ((w.alloc (.cells #[.slice a3 n3 c3] 24)).alloc (.cells #[.int .i64 now] 3)).alloc (.cells #[.int .i64 bits] 3) := ⟨_, rfl⟩
  rw [← hW3] at B
  obtain ⟨q1, q2⟩ : l.any (badP n3) = false ∧ ms.any badM = false := by
    rcases bool2 (l.any (badP n3)) with q | q
    · rw [q] at hbad; simp at hbad
    · rw [q, Bool.false_or] at hbad; exact ⟨q, hbad⟩
  have cA := hasI_ok (c := c1) e23 (c23 B.x0) (fun _ _ => trivial) e1 (by omega) (h1.garb B.g)
  rw [show l.any (fun p => decide (p < 0) || decide ((n3 : Int) ≤ p)) = l.any (badP n3) from rfl, q1] at cA
  have cB := fun w' (g : Garb w w') => hasM_ok (c := c2) e25 (c25 w') (fun _ _ => trivial) e2 b2 (h2.garb g)
  rw [q2] at cB
  have cC := fun w' (g : Garb w w') => clone_ok (c := c1) (show Row0 w' (some ga) n1 l by rw [e1]; rcases h1.garb g with h | h; exact .inl (by rw [h]; rfl); exact .inr h) e1 (by omega)
  have HB : Aside _ := B
  have HM : Aside (∀ r ∈ ms, 0 ≤ r.k ∧ r.k ≤ 2 ∧ 0 ≤ r.v ∧ r.v ≤ 255) := fun r hr => by
    have := List.any_eq_false.1 q2 r hr
    unfold badM at this
    simp only [Bool.or_eq_true, decide_eq_true_eq, not_or] at this
    omega
  have HH : Aside (IRow w (some ga) l ∧ MRow w a2 ms ∧ RRow w a3 z ∧ In64 now ∧ In64 bits ∧ (∀ r ∈ z, R6.ok r) ∧ n1 = l.length ∧ n3 = z.length ∧ (n1 + 100) * 8 ≤ 140737488355328) := ⟨h1, h2, h3, hn, hb, hok, e1, e3, b1⟩
  have HN2 : Aside (n2 = ms.length) := e2
  have hk8 : n2 ≤ 8 := by
    have a1 : ¬ 8 < active := by simpa using m2
    have a2 : ¬ active < (n2 : Int) := by simpa using m3
    omega
  have hact : 1 ≤ active ∧ active ≤ 8 := by
    have a1 : ¬ 8 < active := by simpa using m2
    have a2 : ¬ active < 1 := by simpa using m1
    omega
  have HR : Aside (R = msteps z now bits ms 0 ⟨l, now⟩) := hR
  have G3 : Garb w W3 := B.g
  clear hQ hm hbad h1 h2 h3 e1 e2 e3 B hR hans hn hb hok b1 q1 q2
  go_enter Try.func8, Try.ntmps8
  go_upto_region 1 with (fail)
  rw [← hW3]
  clear hW3
  go_wp2_with (first
    | (go_at_call 22; refine cA.mono ?_; rintro e w' ⟨rfl, g'⟩; clear cA; have G4 := G3.trans g'; have cB := cB _ G4)
    | (go_at_call 24; refine cB.mono ?_; rintro e w'' ⟨rfl, g''⟩; clear cB; have G5 := G4.trans g''; have cC := cC _ G5)
    | (go_at_call 26; refine cC.mono ?_; rintro e w5 ⟨v5, rfl, ⟨g5, cap5, rfl, lo5, own5⟩, g5'⟩; clear cC; have k1 := keep1 (g'.trans (g''.trans g5')) HB.out.x1))
  go_loopw [15, 16, 49] (fun o nn i wr => ∃ (k : Nat) (out : List Int) (n : Int) (g cap : Nat), k ≤ n2 ∧ o = .slice (some ⟨g, 0, none⟩) out.length cap ∧ nn = .int .i64 n ∧ i = .int .i64 k ∧ Aside (MInv W3 wr z now bits ms R n1 k ⟨out, n⟩ g cap)) (fun _ _ i _ => n2 - (RowKit.intOf i).toNat)
  case atStart => exact ⟨0, l, now, g5, cap5, Nat.zero_le _, rfl, rfl, rfl, ⟨g'.trans (g''.trans g5'), own5, by have := (g'.trans g'').below.size; omega, HR.out, Nat.zero_le _, by have := HH.out.2.2.2.2.2.2.1; show l.length ≤ _; omega⟩⟩
  case round =>
    obtain ⟨k, out, n, g, cap, hkn, rfl, rfl, rfl, I⟩ := hrel
    clear k1 own5 lo5 g5' g'' g' G4 G5
    by_cases hlt : k < n2
    · obtain ⟨m, hm⟩ : ∃ m, ms[k]? = some m := ⟨_, List.getElem?_eq_getElem (by rw [← HN2.out]; exact hlt)⟩
      have hgd : ms.getD k default = m := by rw [List.getD_eq_getElem?_getD, hm]; rfl
      obtain ⟨b, off, rfl, hbw, hc⟩ : ∃ b off, a2 = some ⟨b, off, none⟩ ∧ b < w.heap.size ∧ ∀ j, j < ms.length * 2 → w.cell? ⟨b, off + j, none⟩ = some (md.val ms j) := by
        rcases HH.out.2.1 with h0 | h
        · rw [h0] at hm; simp at hm
        · exact h
      have G := G3.trans I.out.g3
      have hc' : ∀ j, j < ms.length * 2 → wr.cell? ⟨b, off + j, none⟩ = some (md.val ms j) := fun j hj => by
        rw [World.cell?_of_block (w := w) (G.below.block b hbw)]; exact hc j hj
      obtain ⟨y0, y1⟩ := md.six ms k b off wr (by rw [← HN2.out]; exact hlt) hc'
      rw [hgd] at y0 y1
      obtain ⟨hm0, hm1, hm2, hm3⟩ := HM.out m (List.mem_of_getElem? hm)
      have hdrop : ms.drop k = m :: ms.drop (k + 1) := by
        rw [List.drop_eq_getElem_cons (by rw [← HN2.out]; exact hlt)]
        congr 1
        have := List.getElem?_eq_getElem (l := ms) (i := k) (by rw [← HN2.out]; exact hlt)
        rw [hm] at this; injection this with this; exact this.symm
      have hrun := I.out.run
      rw [hdrop] at hrun
      have hstep : Aside (R = if atOf z now bits m n < 0 then none else msteps z now bits (ms.drop (k + 1)) (k + 1) ⟨next k (atOf z now bits m n) out, nOf bits m n⟩) := hrun
      have x0 := keep1 I.out.g3 HB.out.x0
      have x1 := keep1 I.out.g3 HB.out.x1
      have x2 := keep1 I.out.g3 HB.out.x2
      have hlen : out.length ≤ n1 + k := I.out.len
      have hfit : (out.length + 4) * 8 ≤ 140737488355328 := by have := HH.out.2.2.2.2.2.2.2.2; omega
      have hkle : k ≤ out.length := I.out.kle
      have hok := HH.out.2.2.2.2.2.1
      have e3 := HH.out.2.2.2.2.2.2.2.1
      have hr3 := HH.out.2.2.1.garb G
      have hown : OwnI wr g cap out := I.out.own
      have hcapl : out.length ≤ cap := hown.cap
      obtain ⟨a', d, HD, hA, CC⟩ := cut_clone hown hkle (by omega)
      have hki : (k : Int) ≤ (out.length : Int) := by omega
      have hkc : (k : Int) ≤ (cap : Int) := by omega
      have hk0 : (0 : Int) ≤ (k : Int) := by omega
      obtain ⟨mk, mv'⟩ := m
      simp only at y0 y1 hm0 hm1 hm2 hm3
      have hxm := World.block_lt_of_cell? wr _ x0
      obtain ⟨WA, hWA⟩ : ∃ WA, WA = wr.alloc (.cells #[.int .i64 mk, .int .i64 mv'] 48) := ⟨_, rfl⟩
      have gA : Garb wr WA := by rw [hWA]; exact alloc_garb _ _ _
      have newA : WA.heap[wr.heap.size]? = some (.cells #[.int .i64 mk, .int .i64 mv'] 48 (0, 0)) := by rw [hWA]; exact heap_alloc_new wr _
      have z0 : WA.cell? ⟨wr.heap.size, 0, none⟩ = some (.int .i64 mk) := by rw [cell_of newA]; rfl
      have z1 : WA.cell? ⟨wr.heap.size, 1, none⟩ = some (.int .i64 mv') := by rw [cell_of newA]; rfl
      have x0A := keep1 gA x0
      have x1A := keep1 gA x1
      have x2A := keep1 gA x2
      have HMm : Aside (ms[k]? = some (⟨mk, mv'⟩ : md.R2)) := hm
      have HOwn : Aside (OwnI wr g cap out) := hown
      have HA2 : Aside ((if cap = k then some (⟨g, 0, none⟩ : Addr) else some ⟨g, k, none⟩) = some a') := hA
      clear hc hc' hgd hdrop hrun hown newA hm
      by_cases hk2 : mk = 2
      · have cI := idxR_ok (c := c3) e27 (c27 z1) (fun _ _ => trivial) e3 b3 (hr3.garb gA)
        have hat : Aside (atOf z now bits ⟨mk, mv'⟩ n = idx (pLong mv') z ∧ nOf bits ⟨mk, mv'⟩ n = n) := by
          unfold atOf nOf
          rw [if_pos hk2, if_pos hk2]; exact ⟨rfl, rfl⟩
        rw [show idx (fun r => r.m == 2 && r.l == mv') z = idx (pLong mv') z from rfl] at cI
        generalize idx (pLong mv') z = at' at cI hat
        subst hk2
        clear hr3 hok e3 z1
        by_cases hneg : at' < 0
        · have hB : decide (at' < 0) = true := by simp [hneg]
          have hq : Aside (R = none) := by
            have := hstep.out
            rw [hat.out.1, if_pos hneg] at this
            exact this
          clear hA
          go_upto_region 12 with (fail)
          rw [← hWA]
          clear hWA
          go_wp2_with (go_at_call 34; refine cI.mono ?_; rintro e w2 ⟨rfl, gi⟩)
          have hqq := hE1.out hq.out _ (((G.trans gA).trans gi).trans (alloc_garb w2 #[.int .i64 at'] 3))
          first | exact hqq | (go_ret; exact hqq)
        · have hB : decide (at' < 0) = false := by simp [hneg]
          go_upto_region 12 with (fail)
          rw [← hWA]
          clear hWA
          have hog : g < wr.heap.size := HOwn.out.lt
          have CC := CC.out
          go_wp2_with (first
            | (go_at_call 34; refine cI.mono ?_; rintro e w2 ⟨rfl, gi⟩; clear cI; have g5 := (gA.trans gi).trans (alloc_garb w2 #[.int .i64 at'] 3); have nw : (w2.alloc (.cells #[.int .i64 at'] 3)).cell? ⟨w2.heap.size, 0, none⟩ = some (.int .i64 at') := (by rw [cell_of (heap_alloc_new w2 _)]; rfl); have hw2 := (gA.trans gi).below.size)
            | (go_at_call 26; refine (CC _ g5).mono ?_; rintro e w6 ⟨v6, rfl, ⟨g6, cap6, rfl, lo6, own6⟩, g6'⟩; clear CC; have nw6 := keep1 g6' nw)
            | (go_at_call 35; refine (del_ok' own6 nw6 (by have := World.block_lt_of_cell? _ _ nw6; simp at lo6; omega) rfl (by have := HD.out.2; omega)).mono ?_; rintro e w7 ⟨f, rfl, hf, own7, but7⟩; have g57 := But.garb g6' but7 lo6 own7.soft; have nw7 := keep1 g57 nw; have gw7 := g5.trans g57; have ow7 := HOwn.out.garb gw7; clear but7 nw6 nw lo6 own6 g6' g57 g5; have hfl : f.length + k ≤ out.length := (by have h1 := HD.out.2; have h2 := hf.out; have h3 := List.length_filter_le (fun y => !(y == at')) d; rw [← h2] at h3; omega)))
          go_region_held3 (fun w' => Garb w7 w' ∧ w'.cell? ⟨w2.heap.size, 0, none⟩ = some (.int .i64 at'))
            (((try go_split_ands); (try dsimp only); repeat' apply And.intro) <;> first | assumption | (exact Go.RX.Garb.drew _ _) | (exact garb_alloc ‹Garb w7 _› _ _) | (exact (But.garb gg1 but9 lo9 soft9)) | (exact gg1) | (exact keep1 gg1 nw7) | (exact keep1 (But.garb gg1 but9 lo9 soft9) nw7) | (exact keep1 (alloc_garb _ _ _) ‹_›) | go_keep)
            ((first
              | (refine step_app (by rfl) _ _ (by rfl) g k k (some ⟨_, 0, none⟩) 1 1 (out.take k ++ [at']) (by rfl) (by rfl) (app_one ow7 hkle (by first | assumption | (go_split_ands; assumption)) (heap_alloc_new _ _) (by omega)) ?_; intro g8 cap8 w8 own8 but8 ge8 soft8 grow8; have gg1 : Garb w7 w8 := Go.RX.Garb.trans (by first | assumption | (go_split_ands; assumption)) (grow8 (by omega)).1; have lo8 : w7.heap.size ≤ g8 := Nat.le_trans (show Garb w7 _ from by first | assumption | (go_split_ands; assumption)).below.size (grow8 (by omega)).2)
              | (refine step_app (by rfl) _ _ (by rfl) g8 cap8 (k + 1) (some ⟨g6, 0, none⟩) f.length cap6 ((out.take k ++ [at']) ++ f) (by rfl) (by rfl) (appL own8 (own7.garb gg1).row (by rw [List.length_append, List.length_take]; simp; omega) rfl (by omega)) ?_; intro g9 cap9 w9 own9 but9 ge9 soft9 grow9; have lo9 := lo8)))
          have gg2 : Garb w7 w9 := But.garb gg1 but9 lo9 soft9
          have lo10 : w7.heap.size ≤ g9 := by
            rcases ge9 with rfl | h
            · exact lo9
            · exact Nat.le_trans gg1.below.size h
          have hnext : (out.take k ++ [at']) ++ f = next k at' out := by rw [hf.out, HD.out.1]; rfl
          rw [hnext] at own9
          have hnl : k + 1 + f.length = (next k at' out).length := by rw [← hnext, List.length_append, List.length_append, List.length_take]; simp; omega
          have hstep' : Aside (R = msteps z now bits (ms.drop (k + 1)) (k + 1) ⟨next k at' out, n⟩) := by
            have := hstep.out
            rw [hat.out.1, hat.out.2, if_neg (show ¬ at' < 0 by omega)] at this
            exact this
          have hnn := next_len (a := at') hkle
          have GG : Garb W3 w9 := I.out.g3.trans (gw7.trans gg2)
          have HI : Aside (MInv W3 w9 z now bits ms R n1 (k + 1) ⟨next k at' out, n⟩ g9 cap9) := ⟨GG, own9, Nat.le_trans (I.out.g3.trans gw7).below.size lo10, hstep'.out, hnn.1, by show (next k at' out).length ≤ _; omega⟩
          clear hat hstep hstep' GG own9 gg2 gg1 gw7 own8 ow7 own7 hf HD
          rw [hnl]
          go_wp2
          exact ⟨⟨k + 1, next k at' out, n, g9, cap9, by omega, rfl, rfl, by go_num, HI⟩, by simp [RowKit.intOf]; omega⟩
      · have hB2 : (mk == 2) = false := by simp [hk2]
        obtain ⟨n', hn'⟩ : ∃ n', n' = turnedN n ⟨mk, mv'⟩ (wrapN bits) := ⟨_, rfl⟩
        have hat : Aside (atOf z now bits ⟨mk, mv'⟩ n = idx (pShort now bits (xOf n' now bits)) z ∧ nOf bits ⟨mk, mv'⟩ n = n') := by
          unfold atOf nOf
          rw [if_neg hk2, if_neg hk2, hn']; exact ⟨rfl, rfl⟩
        have hbits := HH.out.2.2.2.2.1
        have hnow := HH.out.2.2.2.1
        have cW := fun w' => wrap_ok hbits w'
        have cT := fun w' => turned_ok (n := n) (r := ⟨mk, mv'⟩) (wrapN_bd bits) ⟨hm2, hm3⟩ w'
        rw [← hn'] at cT
        simp only [mv] at cT
        obtain ⟨xv, hxv⟩ : ∃ xv, xv = xOf n' now bits := ⟨_, rfl⟩
        have cI : Aside (∀ wx, Garb WA wx → ∀ hx, wx.cell? ⟨hx, 0, none⟩ = some (.int .i64 xv) → Calls Try.prog 34 #[.slice a3 n3 c3, .func (.func 31) #[] #[.pointer (some ⟨w.heap.size + 1, 0, none⟩), .pointer (some ⟨w.heap.size + 1 + 1, 0, none⟩), .pointer (some ⟨hx, 0, none⟩)]] wx fun e w' => e = .returned (.int .i64 (idx (pShort now bits xv) z)) ∧ Garb wx w') := fun wx gx hx kx =>
          idxR_ok (c := c3) e31 (c31 hnow hbits (keep1 gx x1A) (keep1 gx x2A) kx) hok e3 b3 (hr3.garb (gA.trans gx))
        rw [← hxv] at hat
        generalize idx (pShort now bits xv) z = at' at cI hat
        unfold xOf at hxv
        generalize wrapN bits = W at cW cT hxv
        have HXV : Aside (xv = if now < n' then wrap64 (n' - W) else n') := hxv
        clear hr3 hok e3 hn' hxv hbits hnow
        have hB : decide (at' < 0) = true ∨ decide (at' < 0) = false := bool2 _
        by_cases hnx : now < n'
        · have hB3 : decide (now < n') = true := by simp [hnx]
          go_upto_region 12 with (fail)
          rw [← hWA]
          clear hWA
          go_upto_region 14 with (fail)
          go_region_held3 (fun w' => Garb WA w' ∧ w'.cell? ⟨wr.heap.size, 0, none⟩ = some (.int .i64 mk) ∧ w'.cell? ⟨wr.heap.size, 1, none⟩ = some (.int .i64 mv') ∧ w'.cell? ⟨w.heap.size + 1 + 1, 0, none⟩ = some (.int .i64 bits))
            (((try go_split_ands); (try dsimp only); repeat' apply And.intro) <;> first | assumption | (exact Go.RX.Garb.drew _ _) | (exact Go.RX.Garb.trans ‹Garb WA _› (Go.RX.Garb.drew _ _)) | (exact Go.RX.Garb.trans ‹_› gg) | (exact keep1 gg ‹_›) | go_keep)
            ((first
              | (go_at_call 30; with_reducible refine (cW _).mono ?_; rintro e wT ⟨rfl, gg⟩)
              | (go_at_call 29; with_reducible refine (cT _).mono ?_; rintro e wT ⟨rfl, gg⟩)))
          rename_i hS
          have hgT : Garb WA wT := hS.1
          have newX : (wT.alloc (.cells #[.int .i64 n'] 3)).heap[wT.heap.size]? = some (.cells #[.int .i64 n'] 3 (0, 0)) := heap_alloc_new wT _
          have hgX : Garb WA (wT.alloc (.cells #[.int .i64 n'] 3)) := garb_alloc hgT _ _
          have hxs := hgT.below.size
          have x1X := keep1 hgX x1A
          have x2X := keep1 hgX x2A
          have kX : (wT.alloc (.cells #[.int .i64 n'] 3)).cell? ⟨wT.heap.size, 0, none⟩ = some (.int .i64 n') := by rw [cell_of newX]; rfl
          have HfX : Aside (∀ w', Garb (wT.alloc (.cells #[.int .i64 n'] 3)) w' → w'.cell? ⟨wT.heap.size, 0, none⟩ = some (.int .i64 n') ∧ w'.frozen? ⟨wT.heap.size, 0, none⟩ = false ∧ w'.heap[wT.heap.size]? = some (.cells #[.int .i64 n'] 3 (0, 0))) := fun w' g => by
            have hh := g.below.block _ (lt_of_some newX)
            rw [newX] at hh
            exact ⟨keep1 g kX, by simp [World.frozen?, hh], hh⟩
          clear newX
          go_upto_region 17 with (fail)
          generalize wT.alloc (.cells #[.int .i64 n'] 3) = wX at *
          go_region_with (go_at_call 30; refine (cW _).mono ?_; rintro e w8 ⟨rfl, gg⟩; have g8 : Garb wX w8 := Go.RX.Garb.trans (drewG wX) gg; obtain ⟨k8, f8, h8⟩ := HfX.out w8 g8)
          all_goals
            have hbk : Garb WA (w8.setCell ⟨wT.heap.size, 0, none⟩ (.int .i64 (IntKind.i64.wrap (n' - W)))) := garb_set (hgX.trans g8) hxs _
            have kY0 : (w8.setCell ⟨wT.heap.size, 0, none⟩ (.int .i64 (IntKind.i64.wrap (n' - W)))).cell? ⟨wT.heap.size, 0, none⟩ = some (.int .i64 xv) := by
              rw [cell_of (heap_setCell_same w8 _ 0 _ _ _ h8), HXV.out, if_pos hnx, wrap64_i64]; rfl
            generalize w8.setCell ⟨wT.heap.size, 0, none⟩ (.int .i64 (IntKind.i64.wrap (n' - W))) = wY at *
            clear g8 k8 f8 h8 kX x1X x2X hgX
            have x0Y := keep1 hbk x0A
            by_cases hneg : at' < 0
            · have hB : decide (at' < 0) = true := by simp [hneg]
              have hq : Aside (R = none) := by
                have := hstep.out
                rw [hat.out.1, if_pos hneg] at this
                exact this
              clear hA
              go_wp2_with (go_at_call 34; refine (cI.out _ hbk _ kY0).mono ?_; rintro e w2 ⟨rfl, gi⟩)
              have hqq := hE1.out hq.out _ (((G.trans (gA.trans hbk)).trans gi).trans (alloc_garb w2 #[.int .i64 at'] 3))
              first | exact hqq | (go_ret; exact hqq)
            · have hB : decide (at' < 0) = false := by simp [hneg]
              have hog : g < wr.heap.size := HOwn.out.lt
              have CC := CC.out
              go_wp2_with (first
                | (go_at_call 34; refine (cI.out _ hbk _ kY0).mono ?_; rintro e w2 ⟨rfl, gi⟩; have g5 := ((gA.trans hbk).trans gi).trans (alloc_garb w2 #[.int .i64 at'] 3); have nw : (w2.alloc (.cells #[.int .i64 at'] 3)).cell? ⟨w2.heap.size, 0, none⟩ = some (.int .i64 at') := (by rw [cell_of (heap_alloc_new w2 _)]; rfl); have hw2 := ((gA.trans hbk).trans gi).below.size)
                | (go_at_call 26; refine (CC _ g5).mono ?_; rintro e w6 ⟨v6, rfl, ⟨g6, cap6, rfl, lo6, own6⟩, g6'⟩; clear CC; have nw6 := keep1 g6' nw)
                | (go_at_call 35; refine (del_ok' own6 nw6 (by have := World.block_lt_of_cell? _ _ nw6; simp at lo6; omega) rfl (by have := HD.out.2; omega)).mono ?_; rintro e w7 ⟨f, rfl, hf, own7, but7⟩; have g57 := But.garb g6' but7 lo6 own7.soft; have nw7 := keep1 g57 nw; have gw7 := g5.trans g57; have ow7 := HOwn.out.garb gw7; clear but7 nw6 nw lo6 own6 g6' g57 g5; have hfl : f.length + k ≤ out.length := (by have h1 := HD.out.2; have h2 := hf.out; have h3 := List.length_filter_le (fun y => !(y == at')) d; rw [← h2] at h3; omega)))
              go_region_held3 (fun w' => Garb w7 w' ∧ w'.cell? ⟨w2.heap.size, 0, none⟩ = some (.int .i64 at'))
                (((try go_split_ands); (try dsimp only); repeat' apply And.intro) <;> first | assumption | (exact Go.RX.Garb.drew _ _) | (exact garb_alloc ‹Garb w7 _› _ _) | (exact (But.garb gg1 but9 lo9 soft9)) | (exact gg1) | (exact keep1 gg1 nw7) | (exact keep1 (But.garb gg1 but9 lo9 soft9) nw7) | (exact keep1 (alloc_garb _ _ _) ‹_›) | go_keep)
                ((first
                  | (refine step_app (by rfl) _ _ (by rfl) g k k (some ⟨_, 0, none⟩) 1 1 (out.take k ++ [at']) (by rfl) (by rfl) (app_one ow7 hkle (by first | assumption | (go_split_ands; assumption)) (heap_alloc_new _ _) (by omega)) ?_; intro g8 cap8 w8 own8 but8 ge8 soft8 grow8; have gg1 : Garb w7 w8 := Go.RX.Garb.trans (by first | assumption | (go_split_ands; assumption)) (grow8 (by omega)).1; have lo8 : w7.heap.size ≤ g8 := Nat.le_trans (show Garb w7 _ from by first | assumption | (go_split_ands; assumption)).below.size (grow8 (by omega)).2)
                  | (refine step_app (by rfl) _ _ (by rfl) g8 cap8 (k + 1) (some ⟨g6, 0, none⟩) f.length cap6 ((out.take k ++ [at']) ++ f) (by rfl) (by rfl) (appL own8 (own7.garb gg1).row (by rw [List.length_append, List.length_take]; simp; omega) rfl (by omega)) ?_; intro g9 cap9 w9 own9 but9 ge9 soft9 grow9; have lo9 := lo8)))
              have gg2 : Garb w7 w9 := But.garb gg1 but9 lo9 soft9
              have lo10 : w7.heap.size ≤ g9 := by
                rcases ge9 with rfl | h
                · exact lo9
                · exact Nat.le_trans gg1.below.size h
              have hnext : (out.take k ++ [at']) ++ f = next k at' out := by rw [hf.out, HD.out.1]; rfl
              rw [hnext] at own9
              have hnl : k + 1 + f.length = (next k at' out).length := by rw [← hnext, List.length_append, List.length_append, List.length_take]; simp; omega
              have hstep' : Aside (R = msteps z now bits (ms.drop (k + 1)) (k + 1) ⟨next k at' out, n'⟩) := by
                have := hstep.out
                rw [hat.out.1, hat.out.2, if_neg (show ¬ at' < 0 by omega)] at this
                exact this
              have hnn := next_len (a := at') hkle
              have GG : Garb W3 w9 := I.out.g3.trans (gw7.trans gg2)
              have HI : Aside (MInv W3 w9 z now bits ms R n1 (k + 1) ⟨next k at' out, n'⟩ g9 cap9) := ⟨GG, own9, Nat.le_trans (I.out.g3.trans gw7).below.size lo10, hstep'.out, hnn.1, by show (next k at' out).length ≤ _; omega⟩
              clear hat hstep hstep' GG own9 gg2 gg1 gw7 own8 ow7 own7 hf HD
              rw [hnl]
              go_wp2
              exact ⟨⟨k + 1, next k at' out, n', g9, cap9, by omega, rfl, rfl, by go_num, HI⟩, by simp [RowKit.intOf]; omega⟩
        · have hB3 : decide (now < n') = false := by simp [hnx]
          go_upto_region 12 with (fail)
          rw [← hWA]
          clear hWA
          go_upto_region 14 with (fail)
          go_region_held3 (fun w' => Garb WA w' ∧ w'.cell? ⟨wr.heap.size, 0, none⟩ = some (.int .i64 mk) ∧ w'.cell? ⟨wr.heap.size, 1, none⟩ = some (.int .i64 mv') ∧ w'.cell? ⟨w.heap.size + 1 + 1, 0, none⟩ = some (.int .i64 bits))
            (((try go_split_ands); (try dsimp only); repeat' apply And.intro) <;> first | assumption | (exact Go.RX.Garb.drew _ _) | (exact Go.RX.Garb.trans ‹Garb WA _› (Go.RX.Garb.drew _ _)) | (exact Go.RX.Garb.trans ‹_› gg) | (exact keep1 gg ‹_›) | go_keep)
            ((first
              | (go_at_call 30; with_reducible refine (cW _).mono ?_; rintro e wT ⟨rfl, gg⟩)
              | (go_at_call 29; with_reducible refine (cT _).mono ?_; rintro e wT ⟨rfl, gg⟩)))
          rename_i hS
          have hgT : Garb WA wT := hS.1
          have newX : (wT.alloc (.cells #[.int .i64 n'] 3)).heap[wT.heap.size]? = some (.cells #[.int .i64 n'] 3 (0, 0)) := heap_alloc_new wT _
          have hgX : Garb WA (wT.alloc (.cells #[.int .i64 n'] 3)) := garb_alloc hgT _ _
          have hxs := hgT.below.size
          have x1X := keep1 hgX x1A
          have x2X := keep1 hgX x2A
          have kX : (wT.alloc (.cells #[.int .i64 n'] 3)).cell? ⟨wT.heap.size, 0, none⟩ = some (.int .i64 n') := by rw [cell_of newX]; rfl
          have kY0 : (wT.alloc (.cells #[.int .i64 n'] 3)).cell? ⟨wT.heap.size, 0, none⟩ = some (.int .i64 xv) := by rw [kX, HXV.out, if_neg (show ¬ now < n' by omega)]
          clear newX
          go_upto_region 18 with (fail)
          generalize wT.alloc (.cells #[.int .i64 n'] 3) = wY at *
          have hbk : Garb WA wY := hgX
          have x0Y := keep1 hbk x0A
          by_cases hneg : at' < 0
          · have hB : decide (at' < 0) = true := by simp [hneg]
            have hq : Aside (R = none) := by
              have := hstep.out
              rw [hat.out.1, if_pos hneg] at this
              exact this
            clear hA
            go_wp2_with (go_at_call 34; refine (cI.out _ hbk _ kY0).mono ?_; rintro e w2 ⟨rfl, gi⟩)
            have hqq := hE1.out hq.out _ (((G.trans (gA.trans hbk)).trans gi).trans (alloc_garb w2 #[.int .i64 at'] 3))
            first | exact hqq | (go_ret; exact hqq)
          · have hB : decide (at' < 0) = false := by simp [hneg]
            have hog : g < wr.heap.size := HOwn.out.lt
            have CC := CC.out
            go_wp2_with (first
              | (go_at_call 34; refine (cI.out _ hbk _ kY0).mono ?_; rintro e w2 ⟨rfl, gi⟩; have g5 := ((gA.trans hbk).trans gi).trans (alloc_garb w2 #[.int .i64 at'] 3); have nw : (w2.alloc (.cells #[.int .i64 at'] 3)).cell? ⟨w2.heap.size, 0, none⟩ = some (.int .i64 at') := (by rw [cell_of (heap_alloc_new w2 _)]; rfl); have hw2 := ((gA.trans hbk).trans gi).below.size)
              | (go_at_call 26; refine (CC _ g5).mono ?_; rintro e w6 ⟨v6, rfl, ⟨g6, cap6, rfl, lo6, own6⟩, g6'⟩; clear CC; have nw6 := keep1 g6' nw)
              | (go_at_call 35; refine (del_ok' own6 nw6 (by have := World.block_lt_of_cell? _ _ nw6; simp at lo6; omega) rfl (by have := HD.out.2; omega)).mono ?_; rintro e w7 ⟨f, rfl, hf, own7, but7⟩; have g57 := But.garb g6' but7 lo6 own7.soft; have nw7 := keep1 g57 nw; have gw7 := g5.trans g57; have ow7 := HOwn.out.garb gw7; clear but7 nw6 nw lo6 own6 g6' g57 g5; have hfl : f.length + k ≤ out.length := (by have h1 := HD.out.2; have h2 := hf.out; have h3 := List.length_filter_le (fun y => !(y == at')) d; rw [← h2] at h3; omega)))
            go_region_held3 (fun w' => Garb w7 w' ∧ w'.cell? ⟨w2.heap.size, 0, none⟩ = some (.int .i64 at'))
              (((try go_split_ands); (try dsimp only); repeat' apply And.intro) <;> first | assumption | (exact Go.RX.Garb.drew _ _) | (exact garb_alloc ‹Garb w7 _› _ _) | (exact (But.garb gg1 but9 lo9 soft9)) | (exact gg1) | (exact keep1 gg1 nw7) | (exact keep1 (But.garb gg1 but9 lo9 soft9) nw7) | (exact keep1 (alloc_garb _ _ _) ‹_›) | go_keep)
              ((first
                | (refine step_app (by rfl) _ _ (by rfl) g k k (some ⟨_, 0, none⟩) 1 1 (out.take k ++ [at']) (by rfl) (by rfl) (app_one ow7 hkle (by first | assumption | (go_split_ands; assumption)) (heap_alloc_new _ _) (by omega)) ?_; intro g8 cap8 w8 own8 but8 ge8 soft8 grow8; have gg1 : Garb w7 w8 := Go.RX.Garb.trans (by first | assumption | (go_split_ands; assumption)) (grow8 (by omega)).1; have lo8 : w7.heap.size ≤ g8 := Nat.le_trans (show Garb w7 _ from by first | assumption | (go_split_ands; assumption)).below.size (grow8 (by omega)).2)
                | (refine step_app (by rfl) _ _ (by rfl) g8 cap8 (k + 1) (some ⟨g6, 0, none⟩) f.length cap6 ((out.take k ++ [at']) ++ f) (by rfl) (by rfl) (appL own8 (own7.garb gg1).row (by rw [List.length_append, List.length_take]; simp; omega) rfl (by omega)) ?_; intro g9 cap9 w9 own9 but9 ge9 soft9 grow9; have lo9 := lo8)))
            have gg2 : Garb w7 w9 := But.garb gg1 but9 lo9 soft9
            have lo10 : w7.heap.size ≤ g9 := by
              rcases ge9 with rfl | h
              · exact lo9
              · exact Nat.le_trans gg1.below.size h
            have hnext : (out.take k ++ [at']) ++ f = next k at' out := by rw [hf.out, HD.out.1]; rfl
            rw [hnext] at own9
            have hnl : k + 1 + f.length = (next k at' out).length := by rw [← hnext, List.length_append, List.length_append, List.length_take]; simp; omega
            have hstep' : Aside (R = msteps z now bits (ms.drop (k + 1)) (k + 1) ⟨next k at' out, n'⟩) := by
              have := hstep.out
              rw [hat.out.1, hat.out.2, if_neg (show ¬ at' < 0 by omega)] at this
              exact this
            have hnn := next_len (a := at') hkle
            have GG : Garb W3 w9 := I.out.g3.trans (gw7.trans gg2)
            have HI : Aside (MInv W3 w9 z now bits ms R n1 (k + 1) ⟨next k at' out, n'⟩ g9 cap9) := ⟨GG, own9, Nat.le_trans (I.out.g3.trans gw7).below.size lo10, hstep'.out, hnn.1, by show (next k at' out).length ≤ _; omega⟩
            clear hat hstep hstep' GG own9 gg2 gg1 gw7 own8 ow7 own7 hf HD
            rw [hnl]
            go_wp2
            exact ⟨⟨k + 1, next k at' out, n', g9, cap9, by omega, rfl, rfl, by go_num, HI⟩, by simp [RowKit.intOf]; omega⟩
    · have hkn2 : k = n2 := by omega
      have hrun := I.out.run
      rw [hkn2, HN2.out, List.drop_length] at hrun
      have hr : Aside (R = some ⟨out, n⟩) := hrun
      clear hrun
      obtain ⟨ac, hac⟩ : ∃ ac : Nat, active = (ac : Int) := ⟨active.toNat, by omega⟩
      subst hac
      have hown : OwnI wr g cap out := I.out.own
      have hcapl : out.length ≤ cap := hown.cap
      have G := G3.trans I.out.g3
      have hlen : out.length ≤ n1 + k := I.out.len
      have hfit : (n1 + 100) * 8 ≤ 140737488355328 := HH.out.2.2.2.2.2.2.2.2
      subst hkn2
      by_cases hs : out.length < ac
      · have hB : decide ((out.length : Int) < (ac : Int)) = true := by simp; omega
        have hq := hE2.out _ hr.out (by show (out.length : Int) < _; omega) _ G
        go_wp2
        first | exact hq | (go_ret; exact hq)
      · have hB : decide ((out.length : Int) < (ac : Int)) = false := by simp; omega
        have h0 := own_take hown (show ac ≤ out.length by omega)
        have hrow : Row0 wr (some ⟨g, 0, none⟩) ac (out.take ac) := by
          have := h0.row
          rwa [show (out.take ac).length = ac by rw [List.length_take]; omega] at this
        have hc := clone_ok (c := cap) hrow (by rw [List.length_take]; omega) (by omega)
        have hq := fun v w' h g' => hE3.out _ hr.out (by first | (show ¬ (out.length : Int) < _; omega) | (show (ac : Int) ≤ (out.length : Int); omega)) v w' h (G.trans g')
        have HQ : Aside (∀ v w', NewI wr w' v (out.take ac) → Garb wr w' → Q0 (.returned (.tuple #[v, .int .i64 0])) w') := fun v w' h g' => hq v w' (by obtain ⟨g1, c1, h1, h2, h3⟩ := h; exact ⟨g1, c1, h1, Nat.le_trans G.below.size h2, h3⟩) g'
        have hac1 : (ac : Int) ≤ (cap : Int) := by omega
        have hac0 : (0 : Int) ≤ (ac : Int) := by omega
        clear hq h0 hrow hr
        go_wp2_with (go_at_call 26; refine hc.mono ?_; rintro e w6 ⟨v6, rfl, hv, g6'⟩)
        have hq := HQ.out v6 w6 hv g6'
        first | exact hq | (go_ret; exact hq)
end Go.Proofs.Ytoheklommpochaa.ls
