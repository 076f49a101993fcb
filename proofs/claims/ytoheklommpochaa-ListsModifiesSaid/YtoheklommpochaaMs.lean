/- The document's Modify: the loop. -/
import Derived.Test.YtoheklommpochaaMr
namespace Go.Proofs.Ytoheklommpochaa.ls
open Go.RowKit Go.Lib Go.Proofs.Ytoheklommpochaa Go.Proofs.Ytoheklommpochaa.pi
open Go.RX (Garb)
set_option linter.unusedVariables false
set_option linter.unusedSimpArgs false
attribute [local go_sem ↓] Go.wp_at_zero Go.wp_at_succ
theorem pLong_eq (now bits v : Int) : (fun r : rf.R6 => r.m == 2 && pic r now bits == v) = pLong v := by
  funext r
  unfold pLong pic
  rcases bool2 (r.m == 2) with h | h
  · have : r.m = 2 := by simpa using h
    rw [if_pos this]
  · rw [h, Bool.false_and, Bool.false_and]
structure In4 (wr wr2 : World) (k : Nat) (at' : Int) (out : List Int) (jj gN capN : Nat) (LL : List Int) : Prop where
  g : Garb wr wr2
  own : OwnI wr2 gN capN LL
  lo : wr.heap.size ≤ gN
  eq : LL = out.take k ++ [at'] ++ kept at' (out.drop k) (jj - k)
set_option maxHeartbeats 8000000 in
set_option maxRecDepth 100000 in
theorem ref_main {a1 : Option Addr} {n1 c1 : Nat} {a2 : Option Addr} {n2 c2 : Nat} {a3 : Option Addr} {n3 c3 : Nat} {now bits active : Int} {w : World} {l : List Int} {ms : List md.R2} {z : List rf.R6} (hm : many active n2 = false) (hbad : (l.any (badP n3) || ms.any badM) = false)
    (hn : In64 now) (hb : In64 bits) (hok : ∀ r ∈ z, R6.ok r)
    (h1 : IRow w a1 l) (e1 : n1 = l.length) (b1 : (n1 + 100) * 8 ≤ 140737488355328) (h2 : MRow w a2 ms) (e2 : n2 = ms.length) (b2 : n2 ≤ 9223372036854775807) (h3 : RRow w a3 z) (e3 : n3 = z.length) (b3 : n3 ≤ 9223372036854775807) :
    Calls Try.prog 9 #[.slice a1 n1 c1, .slice a2 n2 c2, .slice a3 n3 c3, .int .i64 now, .int .i64 bits, .int .i64 active] w (MPost w (ansM l ms z now bits active).1 (ansM l ms z now bits active).2) := by
  obtain ⟨R, hR⟩ : ∃ R, R = msteps z now bits ms 0 ⟨l, now⟩ := ⟨_, rfl⟩
  have hans : ansM l ms z now bits active = ansR active R := by
    unfold ansM
    rw [if_neg (by rw [← e2, hm]; decide), if_neg (by rw [← e3, hbad]; decide), ← hR]
  generalize ansM l ms z now bits active = ans at hans ⊢
  generalize hQ : MPost w ans.1 ans.2 = Q0
  have hE1 : Aside (R = none → ∀ w', Garb w w' → Q0 (.returned (.tuple #[.slice none 0 0, .int .i64 1801])) w') := fun h w' hg => by subst hQ; rw [hans, h]; exact ⟨_, rfl, .inl ⟨rfl, _, _, rfl⟩, hg⟩
  have hE2 : Aside (∀ s, R = some s → (s.out.length : Int) < active → ∀ w', Garb w w' → Q0 (.returned (.tuple #[.slice none 0 0, .int .i64 1800])) w') := fun s h hlt w' hg => by subst hQ; rw [hans, h]; unfold ansR; simp only; rw [if_pos hlt]; exact ⟨_, rfl, .inl ⟨rfl, _, _, rfl⟩, hg⟩
  have hE3 : Aside (∀ s, R = some s → ¬ (s.out.length : Int) < active → ∀ v w' , NewI w w' v (s.out.take active.toNat) → Garb w w' → Q0 (.returned (.tuple #[v, .int .i64 0])) w') := fun s h hlt v w' hv hg => by subst hQ; rw [hans, h]; unfold ansR; simp only; rw [if_neg hlt]; exact ⟨_, rfl, .inr hv, hg⟩
  obtain ⟨m1, m2, m3⟩ := many_false hm
  obtain ⟨q1, q2⟩ : l.any (badP n3) = false ∧ ms.any badM = false := by
    rcases bool2 (l.any (badP n3)) with q | q
    · rw [q] at hbad; simp at hbad
    · rw [q, Bool.false_or] at hbad; exact ⟨q, hbad⟩
  have HP : Aside (∀ y ∈ l, decide (y < 0) = false ∧ decide ((n3 : Int) ≤ y) = false) := fun y hy => by
    have := List.any_eq_false.1 q1 y hy
    unfold badP at this
    simp only [Bool.or_eq_true, decide_eq_true_eq, not_or] at this
    exact ⟨decide_eq_false this.1, decide_eq_false this.2⟩
  have HM : Aside (∀ r ∈ ms, 0 ≤ r.k ∧ r.k ≤ 2 ∧ 0 ≤ r.v ∧ r.v ≤ 255) := fun r hr => by
    have := List.any_eq_false.1 q2 r hr
    unfold badM at this
    simp only [Bool.or_eq_true, decide_eq_true_eq, not_or] at this
    omega
  have HH : Aside (IRow w a1 l ∧ MRow w a2 ms ∧ RRow w a3 z ∧ In64 now ∧ In64 bits ∧ (∀ r ∈ z, R6.ok r) ∧ n1 = l.length ∧ n3 = z.length ∧ (n1 + 100) * 8 ≤ 140737488355328) := ⟨h1, h2, h3, hn, hb, hok, e1, e3, b1⟩
  have HN2 : Aside (n2 = ms.length) := e2
  have hb1 : n1 ≤ 9223372036854775807 := by omega
  have hk8 : n2 ≤ 8 := by
    have a1 : ¬ 8 < active := by simpa using m2
    have a2 : ¬ active < (n2 : Int) := by simpa using m3
    omega
  have hact : 1 ≤ active ∧ active ≤ 8 := by
    have a1 : ¬ 8 < active := by simpa using m2
    have a2 : ¬ active < 1 := by simpa using m1
    omega
  have HR : Aside (R = msteps z now bits ms 0 ⟨l, now⟩) := hR
  have hcopy := copy_app (c := c1) (show Row0 w a1 n1 l by rw [e1]; rcases h1 with h | h; exact .inl (by rw [h]; rfl); exact .inr h) e1 (by omega)
  obtain ⟨g5, cap5, W5, ha5, own5, gb5, lo5⟩ := hcopy
  have cWd := fun w' => width_ok hb w'
  have hshl := fun w' => (show (Op.shift BinOp.shl IntKind.i64 1 IntKind.i64 (widN bits)).run Try.prog w' = .ok (.int .i64 (wrapN bits)) w' from shl_ok bits w')
  have hWb := wrapN_bd bits
  obtain ⟨wd, hwd⟩ : ∃ wd, wd = widN bits := ⟨_, rfl⟩
  obtain ⟨Wn, hWn⟩ : ∃ Wn, Wn = wrapN bits := ⟨_, rfl⟩
  rw [← hwd] at cWd hshl
  rw [← hWn] at hshl hWb
  have HWn : Aside (Wn = wrapN bits) := hWn
  have hrem := fun a w' => (show (Op.intDiv BinOp.rem IntKind.i64 a Wn).run Try.prog w' = .ok (.int .i64 (a.tmod Wn)) w' from rem_ok hWb a w')
  have HWb : Aside _ := hWb
  clear hQ hm hbad h1 h2 h3 e1 e2 e3 hR hans hn hb hok b1 q1 q2 hwd hWn hWb
  go_enter Try.func9, Try.ntmps9
  go_wp2
  go_loopw [14] (fun i wr => ∃ k : Nat, k ≤ n1 ∧ i = .int .i64 k ∧ w = wr) (fun i _ => n1 - (RowKit.intOf i).toNat)
  case atStart => exact ⟨0, Nat.zero_le _, rfl, rfl⟩
  case round =>
    obtain ⟨k, hk, rfl, hwr⟩ := hrel
    subst hwr
    by_cases hlt : k < n1
    · obtain ⟨y, hy⟩ : ∃ y, l[k]? = some y := ⟨_, List.getElem?_eq_getElem (by rw [← HH.out.2.2.2.2.2.2.1]; exact hlt)⟩
      obtain ⟨b, off, rfl, hbw, hc⟩ : ∃ b off, a1 = some ⟨b, off, none⟩ ∧ b < w.heap.size ∧ ∀ j, j < l.length → w.cell? ⟨b, off + j, none⟩ = some (.int .i64 (l.getD j 0)) := by
        rcases HH.out.1 with h0 | h
        · rw [h0] at hy; simp at hy
        · exact h
      have y0 := hc k (by rw [← HH.out.2.2.2.2.2.2.1]; exact hlt)
      rw [show l.getD k 0 = y by rw [List.getD_eq_getElem?_getD, hy]; rfl] at y0
      obtain ⟨q1, q2⟩ := HP.out y (List.mem_of_getElem? hy)
      clear hc hy ha5 hrem hshl
      go_wp2
      exact ⟨⟨k + 1, by omega, by go_num, (by first | rfl | trivial)⟩, by simp [RowKit.intOf]; omega⟩
    · have hkn : k = n1 := by omega
      subst hkn
      go_wp2
      go_loopw [15] (fun i wr => ∃ k : Nat, k ≤ n2 ∧ i = .int .i64 k ∧ w = wr) (fun i _ => n2 - (RowKit.intOf i).toNat)
      case atStart => exact ⟨0, Nat.zero_le _, rfl, rfl⟩
      case round =>
        obtain ⟨k2, hk2, rfl, hwr⟩ := hrel
        subst hwr
        by_cases hlt2 : k2 < n2
        · obtain ⟨y, hy⟩ : ∃ y, ms[k2]? = some y := ⟨_, List.getElem?_eq_getElem (by rw [← HN2.out]; exact hlt2)⟩
          have hgd : ms.getD k2 default = y := by rw [List.getD_eq_getElem?_getD, hy]; rfl
          obtain ⟨b, off, rfl, hbw, hc⟩ : ∃ b off, a2 = some ⟨b, off, none⟩ ∧ b < w.heap.size ∧ ∀ j, j < ms.length * 2 → w.cell? ⟨b, off + j, none⟩ = some (md.val ms j) := by
            rcases HH.out.2.1 with h0 | h
            · rw [h0] at hy; simp at hy
            · exact h
          obtain ⟨y0, y1⟩ := md.six ms k2 b off w (by rw [← HN2.out]; exact hlt2) hc
          rw [hgd] at y0 y1
          obtain ⟨p0, p1, p2, p3⟩ := HM.out y (List.mem_of_getElem? hy)
          obtain ⟨yk, yv⟩ := y
          simp only at y0 y1 p0 p1 p2 p3
          have q1 : decide (yk < 0) = false := decide_eq_false (by omega)
          have q2 : decide (2 < yk) = false := decide_eq_false (by omega)
          have q3 : decide (yv < 0) = false := decide_eq_false (by omega)
          have q4 : decide (255 < yv) = false := decide_eq_false (by omega)
          clear hc hy hgd ha5 hrem hshl p0 p1 p2 p3
          go_wp2
          exact ⟨⟨k2 + 1, by omega, by go_num, (by first | rfl | trivial)⟩, by simp [RowKit.intOf]; omega⟩
        · have hkn2 : k2 = n2 := by omega
          subst hkn2
          go_wp2_with (first
            | (at_builtin; refine Lib.wpList_append_run _ rfl _ _ _ _ rfl _ _ rfl rfl _ _ (ha5 _) ?_; clear ha5)
            | (go_at_call 37; refine (cWd _).mono ?_; rintro e w6 ⟨rfl, gb6⟩; clear cWd))
          go_loopw [16, 18, 19] (fun o nn i wr => ∃ (k3 : Nat) (out : List Int) (n : Int) (g cap : Nat), k3 ≤ k2 ∧ o = .slice (some ⟨g, 0, none⟩) out.length cap ∧ nn = .int .i64 n ∧ i = .int .i64 k3 ∧ Aside (MInv w wr z now bits ms R k k3 ⟨out, n⟩ g cap)) (fun _ _ i _ => k2 - (RowKit.intOf i).toNat)
          case atStart => exact ⟨0, l, now, g5, cap5, Nat.zero_le _, by rw [← HH.out.2.2.2.2.2.2.1], rfl, rfl, ⟨gb5.trans gb6, own5.garb gb6, lo5, HR.out, Nat.zero_le _, by have := HH.out.2.2.2.2.2.2.1; show l.length ≤ _; omega⟩⟩
          case round =>
            obtain ⟨k3, out, n, g, cap, hkn, rfl, rfl, rfl, I⟩ := hrel
            clear own5 lo5 gb5 gb6
            by_cases hlt3 : k3 < k2
            · obtain ⟨m, hm⟩ : ∃ m, ms[k3]? = some m := ⟨_, List.getElem?_eq_getElem (by rw [← HN2.out]; exact hlt3)⟩
              have hgd : ms.getD k3 default = m := by rw [List.getD_eq_getElem?_getD, hm]; rfl
              obtain ⟨b, off, rfl, hbw, hc⟩ : ∃ b off, a2 = some ⟨b, off, none⟩ ∧ b < w.heap.size ∧ ∀ j, j < ms.length * 2 → w.cell? ⟨b, off + j, none⟩ = some (md.val ms j) := by
                rcases HH.out.2.1 with h0 | h
                · rw [h0] at hm; simp at hm
                · exact h
              have G := I.out.g3
              have hc' : ∀ j, j < ms.length * 2 → wr.cell? ⟨b, off + j, none⟩ = some (md.val ms j) := fun j hj => by
                rw [World.cell?_of_block (w := w) (G.below.block b hbw)]; exact hc j hj
              obtain ⟨y0, y1⟩ := md.six ms k3 b off wr (by rw [← HN2.out]; exact hlt3) hc'
              rw [hgd] at y0 y1
              obtain ⟨hm0, hm1, hm2, hm3⟩ := HM.out m (List.mem_of_getElem? hm)
              have hdrop : ms.drop k3 = m :: ms.drop (k3 + 1) := by
                rw [List.drop_eq_getElem_cons (by rw [← HN2.out]; exact hlt3)]
                congr 1
                have := List.getElem?_eq_getElem (l := ms) (i := k3) (by rw [← HN2.out]; exact hlt3)
                rw [hm] at this; injection this with this; exact this.symm
              have hrun := I.out.run
              rw [hdrop] at hrun
              have hstep : Aside (R = if atOf z now bits m n < 0 then none else msteps z now bits (ms.drop (k3 + 1)) (k3 + 1) ⟨next k3 (atOf z now bits m n) out, nOf bits m n⟩) := hrun
              have hlen : out.length ≤ k + k3 := I.out.len
              have hfit : (out.length + 8) * 8 ≤ 140737488355328 := by have := HH.out.2.2.2.2.2.2.2.2; omega
              have hkle : k3 ≤ out.length := I.out.kle
              have hok := HH.out.2.2.2.2.2.1
              have e3 := HH.out.2.2.2.2.2.2.2.1
              have hr3 := HH.out.2.2.1.garb G
              have hown : OwnI wr g cap out := I.out.own
              have hcapl : out.length ≤ cap := hown.cap
              have hki : (k3 : Int) ≤ (out.length : Int) := by omega
              have hkc : (k3 : Int) ≤ (cap : Int) := by omega
              have hk0 : (0 : Int) ≤ (k3 : Int) := by omega
              have hmin : min (k3 : Int) (out.length : Int) = (k3 : Int) := by omega
              obtain ⟨mk, mv'⟩ := m
              simp only at y0 y1 hm0 hm1 hm2 hm3
              have hbits := HH.out.2.2.2.2.1
              have hnow := HH.out.2.2.2.1
              have HOwn : Aside (OwnI wr g cap out) := hown
              clear hc hc' hgd hdrop hrun hown hm hshl
              by_cases hk2 : mk = 2
              · have cP := place_ok (c := c3) (mark := 2) (v := mv') hnow hbits hok e3 b3 hr3
                rw [pLong_eq] at cP
                have hat : Aside (atOf z now bits ⟨mk, mv'⟩ n = idx (pLong mv') z ∧ nOf bits ⟨mk, mv'⟩ n = n) := by
                  unfold atOf nOf
                  rw [if_pos hk2, if_pos hk2]; exact ⟨rfl, rfl⟩
                generalize idx (pLong mv') z = at' at cP hat
                subst hk2
                clear hr3 hok e3 hrem hnow hbits
                by_cases hneg : at' < 0
                · have hB : decide (at' < 0) = true := by simp [hneg]
                  have hq : Aside (R = none) := by
                    have := hstep.out
                    rw [hat.out.1, if_pos hneg] at this
                    exact this
                  go_wp2_with (go_at_call 38; refine cP.mono ?_; rintro e w2 ⟨rfl, gi⟩)
                  have hqq := hE1.out hq.out _ (G.trans gi)
                  first | exact hqq | (go_ret; exact hqq)
                · have hB : decide (at' < 0) = false := by simp [hneg]
                  have TA : Aside (∀ w2, Garb wr w2 → _) := fun w2 gi => two_apps (x := at') (HOwn.out.garb gi) hkle (by omega)
                  go_wp2_with (first
                    | (go_at_call 38; refine cP.mono ?_; rintro e w2 ⟨rfl, gi⟩; clear cP; obtain ⟨q1g, q1c, W1, q2g, q2c, W2, ha1, ha2, own2, gw2, lo2⟩ := TA.out w2 gi; clear TA)
                    | (at_builtin; refine Lib.wpList_append_run _ rfl _ _ _ _ rfl _ _ rfl rfl _ _ (ha1 _) ?_; clear ha1)
                    | (at_builtin; refine Lib.wpList_append_run _ rfl _ _ _ _ rfl _ _ rfl rfl _ _ (ha2 _) ?_; clear ha2))
                  obtain ⟨wo, hwo⟩ : ∃ wo, wo = wr := ⟨_, rfl⟩
                  subst hwo
                  go_loopw [23, 24] (fun nx j wr => ∃ (jj : Nat) (LL : List Int) (gN capN : Nat), k3 ≤ jj ∧ jj ≤ out.length ∧ nx = .slice (some ⟨gN, 0, none⟩) LL.length capN ∧ j = .int .i64 jj ∧ Aside (In4 wo wr k3 at' out jj gN capN LL)) (fun _ j _ => out.length - (RowKit.intOf j).toNat)
                  case atStart => exact ⟨k3, out.take k3 ++ [at'], q2g, q2c, Nat.le_refl _, hkle, by rw [List.length_append, List.length_take, Nat.min_eq_left hkle]; rfl, rfl, ⟨gi.trans gw2, own2, Nat.le_trans gi.below.size lo2, by rw [Nat.sub_self]; simp [kept]⟩⟩
                  case round =>
                    obtain ⟨jj, LL, gN, capN, hj1, hj2, rfl, rfl, J⟩ := hrel
                    clear own2 gw2 lo2 gi
                    by_cases hjl : jj < out.length
                    · obtain ⟨y, hy⟩ : ∃ y, out[jj]? = some y := ⟨_, List.getElem?_eq_getElem hjl⟩
                      have y3 : wr.cell? ⟨g, jj, none⟩ = some (.int .i64 y) := by
                        obtain ⟨cur, t1, t2, t3, t4⟩ := HOwn.out.garb J.out.g
                        rw [cell_of t1, t4 jj hjl, List.getD_eq_getElem?_getD, hy]; rfl
                      have hd : (out.drop k3)[jj - k3]? = some y := by rw [List.getElem?_drop, show k3 + (jj - k3) = jj by omega]; exact hy
                      have HD : Aside ((out.drop k3)[jj - k3]? = some y) := hd
                      have hLL : LL.length ≤ out.length + 1 := by
                        have e := J.out.eq
                        have := kept_len at' (out.drop k3) (jj - k3)
                        rw [e, List.length_append, List.length_append, List.length_take]
                        simp only [List.length_singleton]
                        omega
                      have hjc : (jj : Int) < (out.length : Int) := by omega
                      have hj0 : (0 : Int) ≤ (jj : Int) := by omega
                      clear hy hd
                      rcases bool2 (y == at') with hq | hq
                      · have hq2 : (y != at') = false := by simp [bne, hq]
                        go_wp2
                        exact ⟨⟨jj + 1, LL, gN, capN, by omega, by omega, rfl, by go_num, ⟨J.out.g, J.out.own, J.out.lo, by rw [show jj + 1 - k3 = (jj - k3) + 1 by omega, kept_drop HD.out hq]; exact J.out.eq⟩⟩, by simp [RowKit.intOf]; omega⟩
                      · have hq2 : (y != at') = true := by simp [bne, hq]
                        obtain ⟨g4, cap4, W4, ha4, own4, but4, ge4, soft4⟩ := one_app (x := y) J.out.own rfl (by omega)
                        have gW4 : Garb wo W4 := But.garb J.out.g but4 J.out.lo soft4
                        have lo4 : wo.heap.size ≤ g4 := by
                          rcases ge4 with rfl | h
                          · exact J.out.lo
                          · exact Nat.le_trans J.out.g.below.size h
                        clear but4 ge4 soft4
                        go_wp2_with (at_builtin; refine Lib.wpList_append_run _ rfl _ _ _ _ rfl _ _ rfl rfl _ _ (ha4 _) ?_; clear ha4)
                        exact ⟨⟨jj + 1, LL ++ [y], g4, cap4, by omega, by omega, by rw [List.length_append]; rfl, by go_num, ⟨gW4, own4, lo4, by rw [show jj + 1 - k3 = (jj - k3) + 1 by omega, kept_keep HD.out hq, ← List.append_assoc, ← J.out.eq]⟩⟩, by simp [RowKit.intOf]; omega⟩
                    · have hjl2 : jj = out.length := by omega
                      have hnext : LL = next k3 at' out := by
                        rw [J.out.eq, hjl2]
                        unfold next kept
                        rw [show out.length - k3 = (out.drop k3).length by rw [List.length_drop], List.take_length]
                      have hjc : decide ((jj : Int) < (out.length : Int)) = false := by simp; omega
                      have hstep' : Aside (R = msteps z now bits (ms.drop (k3 + 1)) (k3 + 1) ⟨next k3 at' out, n⟩) := by
                        have := hstep.out
                        rw [hat.out.1, hat.out.2, if_neg (show ¬ at' < 0 by omega)] at this
                        exact this
                      have hnn := next_len (a := at') hkle
                      have GG : Garb w wr := G.trans J.out.g
                      have HI : Aside (MInv w wr z now bits ms R k (k3 + 1) ⟨next k3 at' out, n⟩ gN capN) := ⟨GG, by rw [← hnext]; exact J.out.own, Nat.le_trans G.below.size J.out.lo, hstep'.out, hnn.1, by show (next k3 at' out).length ≤ _; omega⟩
                      rw [hnext]
                      clear hat hstep hstep' GG J hnext hnn hneg
                      go_wp2
                      exact ⟨⟨k3 + 1, next k3 at' out, n, gN, capN, by omega, rfl, rfl, by go_num, HI⟩, by simp [RowKit.intOf]; omega⟩
              · have hmk : mk = 0 ∨ mk = 1 := by omega
                have hW0 : Wn ≠ 0 := by have := HWb.out; omega
                obtain ⟨n', hn'⟩ : ∃ n', n' = nOf bits ⟨mk, mv'⟩ n := ⟨_, rfl⟩
                have hnE : n' = (wrap64 ((wrap64 (if mk = 0 then n + -(mv' + 1) else n + (mv' + 1))).tmod Wn + Wn)).tmod Wn := by
                  rw [hn', HWn.out]
                  unfold nOf turnedN
                  simp only
                  rw [if_neg hk2]
                  rcases hmk with h | h
                  · rw [if_pos h, if_pos h, Int.sub_eq_add_neg]
                  · rw [if_neg (by omega), if_neg (by omega)]
                have hat0 : atOf z now bits ⟨mk, mv'⟩ n = idx (pShort now bits (xOf n' now bits)) z := by
                  unfold atOf
                  rw [if_neg hk2, ← hn']
                obtain ⟨xv, hxv⟩ : ∃ xv, xv = xOf n' now bits := ⟨_, rfl⟩
                rw [← hxv] at hat0
                have cP := place_ok (c := c3) (mark := 1) (v := xv) hnow hbits hok e3 b3 hr3
                rw [show (fun r : rf.R6 => r.m == 1 && pic r now bits == xv) = pShort now bits xv from rfl] at cP
                generalize idx (pShort now bits xv) z = at' at cP hat0
                have hat : Aside (atOf z now bits ⟨mk, mv'⟩ n = at' ∧ nOf bits ⟨mk, mv'⟩ n = n') := ⟨hat0, hn'.symm⟩
                unfold xOf at hxv
                rw [← HWn.out] at hxv
                clear hat0 hr3 hok e3 hnow hbits hn'
                rcases hmk with rfl | rfl
                · rw [if_pos rfl] at hnE
                  subst hnE
                  by_cases hnx : now < ((wrap64 ((wrap64 (n + -(mv' + 1))).tmod Wn + Wn)).tmod Wn)
                  · have hB3 : decide (now < ((wrap64 ((wrap64 (n + -(mv' + 1))).tmod Wn + Wn)).tmod Wn)) = true := by simp [hnx]
                    rw [if_pos hnx] at hxv
                    subst hxv
                    by_cases hneg : at' < 0
                    · have hB : decide (at' < 0) = true := by simp [hneg]
                      have hq : Aside (R = none) := by
                        have := hstep.out
                        rw [hat.out.1, if_pos hneg] at this
                        exact this
                      go_wp2_with (go_at_call 38; refine cP.mono ?_; rintro e w2 ⟨rfl, gi⟩)
                      have hqq := hE1.out hq.out _ (G.trans gi)
                      first | exact hqq | (go_ret; exact hqq)
                    · have hB : decide (at' < 0) = false := by simp [hneg]
                      have TA : Aside (∀ w2, Garb wr w2 → _) := fun w2 gi => two_apps (x := at') (HOwn.out.garb gi) hkle (by omega)
                      go_wp2_with (first
                        | (go_at_call 38; refine cP.mono ?_; rintro e w2 ⟨rfl, gi⟩; clear cP; obtain ⟨q1g, q1c, W1, q2g, q2c, W2, ha1, ha2, own2, gw2, lo2⟩ := TA.out w2 gi; clear TA)
                        | (at_builtin; refine Lib.wpList_append_run _ rfl _ _ _ _ rfl _ _ rfl rfl _ _ (ha1 _) ?_; clear ha1)
                        | (at_builtin; refine Lib.wpList_append_run _ rfl _ _ _ _ rfl _ _ rfl rfl _ _ (ha2 _) ?_; clear ha2))
                      obtain ⟨wo, hwo⟩ : ∃ wo, wo = wr := ⟨_, rfl⟩
                      subst hwo
                      go_loopw [23, 24] (fun nx j wr => ∃ (jj : Nat) (LL : List Int) (gN capN : Nat), k3 ≤ jj ∧ jj ≤ out.length ∧ nx = .slice (some ⟨gN, 0, none⟩) LL.length capN ∧ j = .int .i64 jj ∧ Aside (In4 wo wr k3 at' out jj gN capN LL)) (fun _ j _ => out.length - (RowKit.intOf j).toNat)
                      case atStart => exact ⟨k3, out.take k3 ++ [at'], q2g, q2c, Nat.le_refl _, hkle, by rw [List.length_append, List.length_take, Nat.min_eq_left hkle]; rfl, rfl, ⟨gi.trans gw2, own2, Nat.le_trans gi.below.size lo2, by rw [Nat.sub_self]; simp [kept]⟩⟩
                      case round =>
                        obtain ⟨jj, LL, gN, capN, hj1, hj2, rfl, rfl, J⟩ := hrel
                        clear own2 gw2 lo2 gi
                        by_cases hjl : jj < out.length
                        · obtain ⟨y, hy⟩ : ∃ y, out[jj]? = some y := ⟨_, List.getElem?_eq_getElem hjl⟩
                          have y3 : wr.cell? ⟨g, jj, none⟩ = some (.int .i64 y) := by
                            obtain ⟨cur, t1, t2, t3, t4⟩ := HOwn.out.garb J.out.g
                            rw [cell_of t1, t4 jj hjl, List.getD_eq_getElem?_getD, hy]; rfl
                          have hd : (out.drop k3)[jj - k3]? = some y := by rw [List.getElem?_drop, show k3 + (jj - k3) = jj by omega]; exact hy
                          have HD : Aside ((out.drop k3)[jj - k3]? = some y) := hd
                          have hLL : LL.length ≤ out.length + 1 := by
                            have e := J.out.eq
                            have := kept_len at' (out.drop k3) (jj - k3)
                            rw [e, List.length_append, List.length_append, List.length_take]
                            simp only [List.length_singleton]
                            omega
                          have hjc : (jj : Int) < (out.length : Int) := by omega
                          have hj0 : (0 : Int) ≤ (jj : Int) := by omega
                          clear hy hd
                          rcases bool2 (y == at') with hq | hq
                          · have hq2 : (y != at') = false := by simp [bne, hq]
                            go_wp2
                            exact ⟨⟨jj + 1, LL, gN, capN, by omega, by omega, rfl, by go_num, ⟨J.out.g, J.out.own, J.out.lo, by rw [show jj + 1 - k3 = (jj - k3) + 1 by omega, kept_drop HD.out hq]; exact J.out.eq⟩⟩, by simp [RowKit.intOf]; omega⟩
                          · have hq2 : (y != at') = true := by simp [bne, hq]
                            obtain ⟨g4, cap4, W4, ha4, own4, but4, ge4, soft4⟩ := one_app (x := y) J.out.own rfl (by omega)
                            have gW4 : Garb wo W4 := But.garb J.out.g but4 J.out.lo soft4
                            have lo4 : wo.heap.size ≤ g4 := by
                              rcases ge4 with rfl | h
                              · exact J.out.lo
                              · exact Nat.le_trans J.out.g.below.size h
                            clear but4 ge4 soft4
                            go_wp2_with (at_builtin; refine Lib.wpList_append_run _ rfl _ _ _ _ rfl _ _ rfl rfl _ _ (ha4 _) ?_; clear ha4)
                            exact ⟨⟨jj + 1, LL ++ [y], g4, cap4, by omega, by omega, by rw [List.length_append]; rfl, by go_num, ⟨gW4, own4, lo4, by rw [show jj + 1 - k3 = (jj - k3) + 1 by omega, kept_keep HD.out hq, ← List.append_assoc, ← J.out.eq]⟩⟩, by simp [RowKit.intOf]; omega⟩
                        · have hjl2 : jj = out.length := by omega
                          have hnext : LL = next k3 at' out := by
                            rw [J.out.eq, hjl2]
                            unfold next kept
                            rw [show out.length - k3 = (out.drop k3).length by rw [List.length_drop], List.take_length]
                          have hjc : decide ((jj : Int) < (out.length : Int)) = false := by simp; omega
                          have hstep' : Aside (R = msteps z now bits (ms.drop (k3 + 1)) (k3 + 1) ⟨next k3 at' out, ((wrap64 ((wrap64 (n + -(mv' + 1))).tmod Wn + Wn)).tmod Wn)⟩) := by
                            have := hstep.out
                            rw [hat.out.1, hat.out.2, if_neg (show ¬ at' < 0 by omega)] at this
                            exact this
                          have hnn := next_len (a := at') hkle
                          have GG : Garb w wr := G.trans J.out.g
                          have HI : Aside (MInv w wr z now bits ms R k (k3 + 1) ⟨next k3 at' out, ((wrap64 ((wrap64 (n + -(mv' + 1))).tmod Wn + Wn)).tmod Wn)⟩ gN capN) := ⟨GG, by rw [← hnext]; exact J.out.own, Nat.le_trans G.below.size J.out.lo, hstep'.out, hnn.1, by show (next k3 at' out).length ≤ _; omega⟩
                          rw [hnext]
                          clear hat hstep hstep' GG J hnext hnn hneg
                          go_wp2
                          exact ⟨⟨k3 + 1, next k3 at' out, ((wrap64 ((wrap64 (n + -(mv' + 1))).tmod Wn + Wn)).tmod Wn), gN, capN, by omega, rfl, rfl, by go_num, HI⟩, by simp [RowKit.intOf]; omega⟩
                  · have hB3 : decide (now < ((wrap64 ((wrap64 (n + -(mv' + 1))).tmod Wn + Wn)).tmod Wn)) = false := by simp [hnx]
                    rw [if_neg hnx] at hxv
                    subst hxv
                    clear hnx
                    by_cases hneg : at' < 0
                    · have hB : decide (at' < 0) = true := by simp [hneg]
                      have hq : Aside (R = none) := by
                        have := hstep.out
                        rw [hat.out.1, if_pos hneg] at this
                        exact this
                      go_wp2_with (go_at_call 38; refine cP.mono ?_; rintro e w2 ⟨rfl, gi⟩)
                      have hqq := hE1.out hq.out _ (G.trans gi)
                      first | exact hqq | (go_ret; exact hqq)
                    · have hB : decide (at' < 0) = false := by simp [hneg]
                      have TA : Aside (∀ w2, Garb wr w2 → _) := fun w2 gi => two_apps (x := at') (HOwn.out.garb gi) hkle (by omega)
                      go_wp2_with (first
                        | (go_at_call 38; refine cP.mono ?_; rintro e w2 ⟨rfl, gi⟩; clear cP; obtain ⟨q1g, q1c, W1, q2g, q2c, W2, ha1, ha2, own2, gw2, lo2⟩ := TA.out w2 gi; clear TA)
                        | (at_builtin; refine Lib.wpList_append_run _ rfl _ _ _ _ rfl _ _ rfl rfl _ _ (ha1 _) ?_; clear ha1)
                        | (at_builtin; refine Lib.wpList_append_run _ rfl _ _ _ _ rfl _ _ rfl rfl _ _ (ha2 _) ?_; clear ha2))
                      obtain ⟨wo, hwo⟩ : ∃ wo, wo = wr := ⟨_, rfl⟩
                      subst hwo
                      go_loopw [23, 24] (fun nx j wr => ∃ (jj : Nat) (LL : List Int) (gN capN : Nat), k3 ≤ jj ∧ jj ≤ out.length ∧ nx = .slice (some ⟨gN, 0, none⟩) LL.length capN ∧ j = .int .i64 jj ∧ Aside (In4 wo wr k3 at' out jj gN capN LL)) (fun _ j _ => out.length - (RowKit.intOf j).toNat)
                      case atStart => exact ⟨k3, out.take k3 ++ [at'], q2g, q2c, Nat.le_refl _, hkle, by rw [List.length_append, List.length_take, Nat.min_eq_left hkle]; rfl, rfl, ⟨gi.trans gw2, own2, Nat.le_trans gi.below.size lo2, by rw [Nat.sub_self]; simp [kept]⟩⟩
                      case round =>
                        obtain ⟨jj, LL, gN, capN, hj1, hj2, rfl, rfl, J⟩ := hrel
                        clear own2 gw2 lo2 gi
                        by_cases hjl : jj < out.length
                        · obtain ⟨y, hy⟩ : ∃ y, out[jj]? = some y := ⟨_, List.getElem?_eq_getElem hjl⟩
                          have y3 : wr.cell? ⟨g, jj, none⟩ = some (.int .i64 y) := by
                            obtain ⟨cur, t1, t2, t3, t4⟩ := HOwn.out.garb J.out.g
                            rw [cell_of t1, t4 jj hjl, List.getD_eq_getElem?_getD, hy]; rfl
                          have hd : (out.drop k3)[jj - k3]? = some y := by rw [List.getElem?_drop, show k3 + (jj - k3) = jj by omega]; exact hy
                          have HD : Aside ((out.drop k3)[jj - k3]? = some y) := hd
                          have hLL : LL.length ≤ out.length + 1 := by
                            have e := J.out.eq
                            have := kept_len at' (out.drop k3) (jj - k3)
                            rw [e, List.length_append, List.length_append, List.length_take]
                            simp only [List.length_singleton]
                            omega
                          have hjc : (jj : Int) < (out.length : Int) := by omega
                          have hj0 : (0 : Int) ≤ (jj : Int) := by omega
                          clear hy hd
                          rcases bool2 (y == at') with hq | hq
                          · have hq2 : (y != at') = false := by simp [bne, hq]
                            go_wp2
                            exact ⟨⟨jj + 1, LL, gN, capN, by omega, by omega, rfl, by go_num, ⟨J.out.g, J.out.own, J.out.lo, by rw [show jj + 1 - k3 = (jj - k3) + 1 by omega, kept_drop HD.out hq]; exact J.out.eq⟩⟩, by simp [RowKit.intOf]; omega⟩
                          · have hq2 : (y != at') = true := by simp [bne, hq]
                            obtain ⟨g4, cap4, W4, ha4, own4, but4, ge4, soft4⟩ := one_app (x := y) J.out.own rfl (by omega)
                            have gW4 : Garb wo W4 := But.garb J.out.g but4 J.out.lo soft4
                            have lo4 : wo.heap.size ≤ g4 := by
                              rcases ge4 with rfl | h
                              · exact J.out.lo
                              · exact Nat.le_trans J.out.g.below.size h
                            clear but4 ge4 soft4
                            go_wp2_with (at_builtin; refine Lib.wpList_append_run _ rfl _ _ _ _ rfl _ _ rfl rfl _ _ (ha4 _) ?_; clear ha4)
                            exact ⟨⟨jj + 1, LL ++ [y], g4, cap4, by omega, by omega, by rw [List.length_append]; rfl, by go_num, ⟨gW4, own4, lo4, by rw [show jj + 1 - k3 = (jj - k3) + 1 by omega, kept_keep HD.out hq, ← List.append_assoc, ← J.out.eq]⟩⟩, by simp [RowKit.intOf]; omega⟩
                        · have hjl2 : jj = out.length := by omega
                          have hnext : LL = next k3 at' out := by
                            rw [J.out.eq, hjl2]
                            unfold next kept
                            rw [show out.length - k3 = (out.drop k3).length by rw [List.length_drop], List.take_length]
                          have hjc : decide ((jj : Int) < (out.length : Int)) = false := by simp; omega
                          have hstep' : Aside (R = msteps z now bits (ms.drop (k3 + 1)) (k3 + 1) ⟨next k3 at' out, ((wrap64 ((wrap64 (n + -(mv' + 1))).tmod Wn + Wn)).tmod Wn)⟩) := by
                            have := hstep.out
                            rw [hat.out.1, hat.out.2, if_neg (show ¬ at' < 0 by omega)] at this
                            exact this
                          have hnn := next_len (a := at') hkle
                          have GG : Garb w wr := G.trans J.out.g
                          have HI : Aside (MInv w wr z now bits ms R k (k3 + 1) ⟨next k3 at' out, ((wrap64 ((wrap64 (n + -(mv' + 1))).tmod Wn + Wn)).tmod Wn)⟩ gN capN) := ⟨GG, by rw [← hnext]; exact J.out.own, Nat.le_trans G.below.size J.out.lo, hstep'.out, hnn.1, by show (next k3 at' out).length ≤ _; omega⟩
                          rw [hnext]
                          clear hat hstep hstep' GG J hnext hnn hneg
                          go_wp2
                          exact ⟨⟨k3 + 1, next k3 at' out, ((wrap64 ((wrap64 (n + -(mv' + 1))).tmod Wn + Wn)).tmod Wn), gN, capN, by omega, rfl, rfl, by go_num, HI⟩, by simp [RowKit.intOf]; omega⟩
                · rw [if_neg (by decide)] at hnE
                  subst hnE
                  by_cases hnx : now < ((wrap64 ((wrap64 (n + (mv' + 1))).tmod Wn + Wn)).tmod Wn)
                  · have hB3 : decide (now < ((wrap64 ((wrap64 (n + (mv' + 1))).tmod Wn + Wn)).tmod Wn)) = true := by simp [hnx]
                    rw [if_pos hnx] at hxv
                    subst hxv
                    by_cases hneg : at' < 0
                    · have hB : decide (at' < 0) = true := by simp [hneg]
                      have hq : Aside (R = none) := by
                        have := hstep.out
                        rw [hat.out.1, if_pos hneg] at this
                        exact this
                      go_wp2_with (go_at_call 38; refine cP.mono ?_; rintro e w2 ⟨rfl, gi⟩)
                      have hqq := hE1.out hq.out _ (G.trans gi)
                      first | exact hqq | (go_ret; exact hqq)
                    · have hB : decide (at' < 0) = false := by simp [hneg]
                      have TA : Aside (∀ w2, Garb wr w2 → _) := fun w2 gi => two_apps (x := at') (HOwn.out.garb gi) hkle (by omega)
                      go_wp2_with (first
                        | (go_at_call 38; refine cP.mono ?_; rintro e w2 ⟨rfl, gi⟩; clear cP; obtain ⟨q1g, q1c, W1, q2g, q2c, W2, ha1, ha2, own2, gw2, lo2⟩ := TA.out w2 gi; clear TA)
                        | (at_builtin; refine Lib.wpList_append_run _ rfl _ _ _ _ rfl _ _ rfl rfl _ _ (ha1 _) ?_; clear ha1)
                        | (at_builtin; refine Lib.wpList_append_run _ rfl _ _ _ _ rfl _ _ rfl rfl _ _ (ha2 _) ?_; clear ha2))
                      obtain ⟨wo, hwo⟩ : ∃ wo, wo = wr := ⟨_, rfl⟩
                      subst hwo
                      go_loopw [23, 24] (fun nx j wr => ∃ (jj : Nat) (LL : List Int) (gN capN : Nat), k3 ≤ jj ∧ jj ≤ out.length ∧ nx = .slice (some ⟨gN, 0, none⟩) LL.length capN ∧ j = .int .i64 jj ∧ Aside (In4 wo wr k3 at' out jj gN capN LL)) (fun _ j _ => out.length - (RowKit.intOf j).toNat)
                      case atStart => exact ⟨k3, out.take k3 ++ [at'], q2g, q2c, Nat.le_refl _, hkle, by rw [List.length_append, List.length_take, Nat.min_eq_left hkle]; rfl, rfl, ⟨gi.trans gw2, own2, Nat.le_trans gi.below.size lo2, by rw [Nat.sub_self]; simp [kept]⟩⟩
                      case round =>
                        obtain ⟨jj, LL, gN, capN, hj1, hj2, rfl, rfl, J⟩ := hrel
                        clear own2 gw2 lo2 gi
                        by_cases hjl : jj < out.length
                        · obtain ⟨y, hy⟩ : ∃ y, out[jj]? = some y := ⟨_, List.getElem?_eq_getElem hjl⟩
                          have y3 : wr.cell? ⟨g, jj, none⟩ = some (.int .i64 y) := by
                            obtain ⟨cur, t1, t2, t3, t4⟩ := HOwn.out.garb J.out.g
                            rw [cell_of t1, t4 jj hjl, List.getD_eq_getElem?_getD, hy]; rfl
                          have hd : (out.drop k3)[jj - k3]? = some y := by rw [List.getElem?_drop, show k3 + (jj - k3) = jj by omega]; exact hy
                          have HD : Aside ((out.drop k3)[jj - k3]? = some y) := hd
                          have hLL : LL.length ≤ out.length + 1 := by
                            have e := J.out.eq
                            have := kept_len at' (out.drop k3) (jj - k3)
                            rw [e, List.length_append, List.length_append, List.length_take]
                            simp only [List.length_singleton]
                            omega
                          have hjc : (jj : Int) < (out.length : Int) := by omega
                          have hj0 : (0 : Int) ≤ (jj : Int) := by omega
                          clear hy hd
                          rcases bool2 (y == at') with hq | hq
                          · have hq2 : (y != at') = false := by simp [bne, hq]
                            go_wp2
                            exact ⟨⟨jj + 1, LL, gN, capN, by omega, by omega, rfl, by go_num, ⟨J.out.g, J.out.own, J.out.lo, by rw [show jj + 1 - k3 = (jj - k3) + 1 by omega, kept_drop HD.out hq]; exact J.out.eq⟩⟩, by simp [RowKit.intOf]; omega⟩
                          · have hq2 : (y != at') = true := by simp [bne, hq]
                            obtain ⟨g4, cap4, W4, ha4, own4, but4, ge4, soft4⟩ := one_app (x := y) J.out.own rfl (by omega)
                            have gW4 : Garb wo W4 := But.garb J.out.g but4 J.out.lo soft4
                            have lo4 : wo.heap.size ≤ g4 := by
                              rcases ge4 with rfl | h
                              · exact J.out.lo
                              · exact Nat.le_trans J.out.g.below.size h
                            clear but4 ge4 soft4
                            go_wp2_with (at_builtin; refine Lib.wpList_append_run _ rfl _ _ _ _ rfl _ _ rfl rfl _ _ (ha4 _) ?_; clear ha4)
                            exact ⟨⟨jj + 1, LL ++ [y], g4, cap4, by omega, by omega, by rw [List.length_append]; rfl, by go_num, ⟨gW4, own4, lo4, by rw [show jj + 1 - k3 = (jj - k3) + 1 by omega, kept_keep HD.out hq, ← List.append_assoc, ← J.out.eq]⟩⟩, by simp [RowKit.intOf]; omega⟩
                        · have hjl2 : jj = out.length := by omega
                          have hnext : LL = next k3 at' out := by
                            rw [J.out.eq, hjl2]
                            unfold next kept
                            rw [show out.length - k3 = (out.drop k3).length by rw [List.length_drop], List.take_length]
                          have hjc : decide ((jj : Int) < (out.length : Int)) = false := by simp; omega
                          have hstep' : Aside (R = msteps z now bits (ms.drop (k3 + 1)) (k3 + 1) ⟨next k3 at' out, ((wrap64 ((wrap64 (n + (mv' + 1))).tmod Wn + Wn)).tmod Wn)⟩) := by
                            have := hstep.out
                            rw [hat.out.1, hat.out.2, if_neg (show ¬ at' < 0 by omega)] at this
                            exact this
                          have hnn := next_len (a := at') hkle
                          have GG : Garb w wr := G.trans J.out.g
                          have HI : Aside (MInv w wr z now bits ms R k (k3 + 1) ⟨next k3 at' out, ((wrap64 ((wrap64 (n + (mv' + 1))).tmod Wn + Wn)).tmod Wn)⟩ gN capN) := ⟨GG, by rw [← hnext]; exact J.out.own, Nat.le_trans G.below.size J.out.lo, hstep'.out, hnn.1, by show (next k3 at' out).length ≤ _; omega⟩
                          rw [hnext]
                          clear hat hstep hstep' GG J hnext hnn hneg
                          go_wp2
                          exact ⟨⟨k3 + 1, next k3 at' out, ((wrap64 ((wrap64 (n + (mv' + 1))).tmod Wn + Wn)).tmod Wn), gN, capN, by omega, rfl, rfl, by go_num, HI⟩, by simp [RowKit.intOf]; omega⟩
                  · have hB3 : decide (now < ((wrap64 ((wrap64 (n + (mv' + 1))).tmod Wn + Wn)).tmod Wn)) = false := by simp [hnx]
                    rw [if_neg hnx] at hxv
                    subst hxv
                    clear hnx
                    by_cases hneg : at' < 0
                    · have hB : decide (at' < 0) = true := by simp [hneg]
                      have hq : Aside (R = none) := by
                        have := hstep.out
                        rw [hat.out.1, if_pos hneg] at this
                        exact this
                      go_wp2_with (go_at_call 38; refine cP.mono ?_; rintro e w2 ⟨rfl, gi⟩)
                      have hqq := hE1.out hq.out _ (G.trans gi)
                      first | exact hqq | (go_ret; exact hqq)
                    · have hB : decide (at' < 0) = false := by simp [hneg]
                      have TA : Aside (∀ w2, Garb wr w2 → _) := fun w2 gi => two_apps (x := at') (HOwn.out.garb gi) hkle (by omega)
                      go_wp2_with (first
                        | (go_at_call 38; refine cP.mono ?_; rintro e w2 ⟨rfl, gi⟩; clear cP; obtain ⟨q1g, q1c, W1, q2g, q2c, W2, ha1, ha2, own2, gw2, lo2⟩ := TA.out w2 gi; clear TA)
                        | (at_builtin; refine Lib.wpList_append_run _ rfl _ _ _ _ rfl _ _ rfl rfl _ _ (ha1 _) ?_; clear ha1)
                        | (at_builtin; refine Lib.wpList_append_run _ rfl _ _ _ _ rfl _ _ rfl rfl _ _ (ha2 _) ?_; clear ha2))
                      obtain ⟨wo, hwo⟩ : ∃ wo, wo = wr := ⟨_, rfl⟩
                      subst hwo
                      go_loopw [23, 24] (fun nx j wr => ∃ (jj : Nat) (LL : List Int) (gN capN : Nat), k3 ≤ jj ∧ jj ≤ out.length ∧ nx = .slice (some ⟨gN, 0, none⟩) LL.length capN ∧ j = .int .i64 jj ∧ Aside (In4 wo wr k3 at' out jj gN capN LL)) (fun _ j _ => out.length - (RowKit.intOf j).toNat)
                      case atStart => exact ⟨k3, out.take k3 ++ [at'], q2g, q2c, Nat.le_refl _, hkle, by rw [List.length_append, List.length_take, Nat.min_eq_left hkle]; rfl, rfl, ⟨gi.trans gw2, own2, Nat.le_trans gi.below.size lo2, by rw [Nat.sub_self]; simp [kept]⟩⟩
                      case round =>
                        obtain ⟨jj, LL, gN, capN, hj1, hj2, rfl, rfl, J⟩ := hrel
                        clear own2 gw2 lo2 gi
                        by_cases hjl : jj < out.length
                        · obtain ⟨y, hy⟩ : ∃ y, out[jj]? = some y := ⟨_, List.getElem?_eq_getElem hjl⟩
                          have y3 : wr.cell? ⟨g, jj, none⟩ = some (.int .i64 y) := by
                            obtain ⟨cur, t1, t2, t3, t4⟩ := HOwn.out.garb J.out.g
                            rw [cell_of t1, t4 jj hjl, List.getD_eq_getElem?_getD, hy]; rfl
                          have hd : (out.drop k3)[jj - k3]? = some y := by rw [List.getElem?_drop, show k3 + (jj - k3) = jj by omega]; exact hy
                          have HD : Aside ((out.drop k3)[jj - k3]? = some y) := hd
                          have hLL : LL.length ≤ out.length + 1 := by
                            have e := J.out.eq
                            have := kept_len at' (out.drop k3) (jj - k3)
                            rw [e, List.length_append, List.length_append, List.length_take]
                            simp only [List.length_singleton]
                            omega
                          have hjc : (jj : Int) < (out.length : Int) := by omega
                          have hj0 : (0 : Int) ≤ (jj : Int) := by omega
                          clear hy hd
                          rcases bool2 (y == at') with hq | hq
                          · have hq2 : (y != at') = false := by simp [bne, hq]
                            go_wp2
                            exact ⟨⟨jj + 1, LL, gN, capN, by omega, by omega, rfl, by go_num, ⟨J.out.g, J.out.own, J.out.lo, by rw [show jj + 1 - k3 = (jj - k3) + 1 by omega, kept_drop HD.out hq]; exact J.out.eq⟩⟩, by simp [RowKit.intOf]; omega⟩
                          · have hq2 : (y != at') = true := by simp [bne, hq]
                            obtain ⟨g4, cap4, W4, ha4, own4, but4, ge4, soft4⟩ := one_app (x := y) J.out.own rfl (by omega)
                            have gW4 : Garb wo W4 := But.garb J.out.g but4 J.out.lo soft4
                            have lo4 : wo.heap.size ≤ g4 := by
                              rcases ge4 with rfl | h
                              · exact J.out.lo
                              · exact Nat.le_trans J.out.g.below.size h
                            clear but4 ge4 soft4
                            go_wp2_with (at_builtin; refine Lib.wpList_append_run _ rfl _ _ _ _ rfl _ _ rfl rfl _ _ (ha4 _) ?_; clear ha4)
                            exact ⟨⟨jj + 1, LL ++ [y], g4, cap4, by omega, by omega, by rw [List.length_append]; rfl, by go_num, ⟨gW4, own4, lo4, by rw [show jj + 1 - k3 = (jj - k3) + 1 by omega, kept_keep HD.out hq, ← List.append_assoc, ← J.out.eq]⟩⟩, by simp [RowKit.intOf]; omega⟩
                        · have hjl2 : jj = out.length := by omega
                          have hnext : LL = next k3 at' out := by
                            rw [J.out.eq, hjl2]
                            unfold next kept
                            rw [show out.length - k3 = (out.drop k3).length by rw [List.length_drop], List.take_length]
                          have hjc : decide ((jj : Int) < (out.length : Int)) = false := by simp; omega
                          have hstep' : Aside (R = msteps z now bits (ms.drop (k3 + 1)) (k3 + 1) ⟨next k3 at' out, ((wrap64 ((wrap64 (n + (mv' + 1))).tmod Wn + Wn)).tmod Wn)⟩) := by
                            have := hstep.out
                            rw [hat.out.1, hat.out.2, if_neg (show ¬ at' < 0 by omega)] at this
                            exact this
                          have hnn := next_len (a := at') hkle
                          have GG : Garb w wr := G.trans J.out.g
                          have HI : Aside (MInv w wr z now bits ms R k (k3 + 1) ⟨next k3 at' out, ((wrap64 ((wrap64 (n + (mv' + 1))).tmod Wn + Wn)).tmod Wn)⟩ gN capN) := ⟨GG, by rw [← hnext]; exact J.out.own, Nat.le_trans G.below.size J.out.lo, hstep'.out, hnn.1, by show (next k3 at' out).length ≤ _; omega⟩
                          rw [hnext]
                          clear hat hstep hstep' GG J hnext hnn hneg
                          go_wp2
                          exact ⟨⟨k3 + 1, next k3 at' out, ((wrap64 ((wrap64 (n + (mv' + 1))).tmod Wn + Wn)).tmod Wn), gN, capN, by omega, rfl, rfl, by go_num, HI⟩, by simp [RowKit.intOf]; omega⟩
            · have hkn3 : k3 = k2 := by omega
              have hrun := I.out.run
              rw [hkn3, HN2.out, List.drop_length] at hrun
              have hr : Aside (R = some ⟨out, n⟩) := hrun
              clear hrun hrem hshl
              obtain ⟨ac, hac⟩ : ∃ ac : Nat, active = (ac : Int) := ⟨active.toNat, by omega⟩
              subst hac
              have hown : OwnI wr g cap out := I.out.own
              have hcapl : out.length ≤ cap := hown.cap
              have G := I.out.g3
              have hgw : w.heap.size ≤ g := I.out.lo
              have hlen : out.length ≤ k + k3 := I.out.len
              have hfit : (k + 100) * 8 ≤ 140737488355328 := HH.out.2.2.2.2.2.2.2.2
              subst hkn3
              by_cases hs : out.length < ac
              · have hB : decide ((out.length : Int) < (ac : Int)) = true := by simp; omega
                have hq := hE2.out _ hr.out (by show (out.length : Int) < _; omega) _ G
                go_wp2
                first | exact hq | (go_ret; exact hq)
              · have hB : decide ((out.length : Int) < (ac : Int)) = false := by simp; omega
                have h0 := own_take hown (show ac ≤ out.length by omega)
                have hl : (out.take ac).length = ac := by rw [List.length_take]; omega
                have hq : Q0 (.returned (.tuple #[.slice (some ⟨g, 0, none⟩) ac cap, .int .i64 0])) wr := by
                  refine hE3.out _ hr.out (by first | (show ¬ (out.length : Int) < _; omega) | (show (ac : Int) ≤ (out.length : Int); omega)) _ wr ?_ G
                  refine ⟨g, cap, by show _ = Value.slice _ (out.take ac).length cap; rw [hl], hgw, ?_⟩
                  obtain ⟨cur, t1, t2, t3, t4⟩ := hown
                  refine ⟨cur, t1, t2, by show (out.take ac).length ≤ cap; omega, fun j hj => ?_⟩
                  have hj : j < (out.take ac).length := hj
                  obtain ⟨cur', u1, u2, u3, u4⟩ := h0
                  rw [t1] at u1
                  simp only [Option.some.injEq, Obj.cells.injEq] at u1
                  rw [u1.1]
                  exact u4 j hj
                have hac1 : (ac : Int) ≤ (cap : Int) := by omega
                have hac0 : (0 : Int) ≤ (ac : Int) := by omega
                clear h0 hl hown hr
                go_wp2
                first | exact hq | (go_ret; exact hq)
end Go.Proofs.Ytoheklommpochaa.ls
