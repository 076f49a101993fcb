/- Concat of three, Equal; Both. -/
import Derived.Test.YtoheklommpochaaKg
namespace Go.Proofs.Ytoheklommpochaa.ls
open Go.RowKit Go.Lib Go.Proofs.Ytoheklommpochaa Go.Proofs.Ytoheklommpochaa.pi
open Go.RX (Garb)
set_option linter.unusedVariables false
set_option linter.unusedSimpArgs false
attribute [local go_sem ↓] Go.wp_at_zero Go.wp_at_succ
theorem Row0.garb' {w w' : World} {A : Option Addr} {L : List Int} (h : Row0 w A L.length L) (g : Garb w w') : Row0 w' A L.length L := Row0.garb h g
set_option maxHeartbeats 4000000 in
set_option maxRecDepth 100000 in
/-- slices.Concat of three. -/
theorem concat_ok {w : World} {g : Nat} {A1 A2 A3 : Option Addr} {c1 c2 c3 : Nat} {L1 L2 L3 : List Int} (x0 : w.cell? ⟨g, 0, none⟩ = some (.slice A1 L1.length c1)) (x1 : w.cell? ⟨g, 1, none⟩ = some (.slice A2 L2.length c2)) (x2 : w.cell? ⟨g, 2, none⟩ = some (.slice A3 L3.length c3))
    (r1 : Row0 w A1 L1.length L1) (r2 : Row0 w A2 L2.length L2) (r3 : Row0 w A3 L3.length L3) (hfit : (L1.length + L2.length + L3.length + 4) * 8 ≤ 140737488355328) :
    Calls Try.prog 48 #[.slice (some ⟨g, 0, none⟩) 3 3] w fun e w' => ∃ v, e = .returned v ∧ Lst w.heap.size w' v (L1 ++ L2 ++ L3) ∧ Garb w w' := by
  generalize hQ : (fun (e : Ending) (w' : World) => ∃ v, e = .returned v ∧ Lst w.heap.size w' v (L1 ++ L2 ++ L3) ∧ Garb w w') = Q0
  have hend : Aside (∀ v w', Lst w.heap.size w' v (L1 ++ L2 ++ L3) → Garb w w' → Q0 (.returned v) w') := fun v w' h1 h2 => by subst hQ; exact ⟨v, rfl, h1, h2⟩
  obtain ⟨l1, hl1⟩ : ∃ q, q = L1.length := ⟨_, rfl⟩
  obtain ⟨l2, hl2⟩ : ∃ q, q = L2.length := ⟨_, rfl⟩
  obtain ⟨l3, hl3⟩ : ∃ q, q = L3.length := ⟨_, rfl⟩
  obtain ⟨s2, hs2⟩ : ∃ q, q = l1 + l2 := ⟨_, rfl⟩
  obtain ⟨s3, hs3⟩ : ∃ q, q = s2 + l3 := ⟨_, rfl⟩
  have es2 : (l1 : Int) + (l2 : Int) = (s2 : Int) := by omega
  have es3 : (s2 : Int) + (l3 : Int) = (s3 : Int) := by omega
  have hb : (s3 + 4) * 8 ≤ 140737488355328 := by omega
  have hb2 : s2 ≤ s3 := by omega
  have hb3 : l1 ≤ s2 := by omega
  have hG := asd (grow_ok s3 (by omega) w)
  have X : Aside (∀ w', Garb w w' → w'.cell? ⟨g, 0, none⟩ = some (.slice A1 l1 c1) ∧ w'.cell? ⟨g, 1, none⟩ = some (.slice A2 l2 c2) ∧ w'.cell? ⟨g, 2, none⟩ = some (.slice A3 l3 c3)) := fun w' h => by
    rw [hl1, hl2, hl3]; exact ⟨keep1 h x0, keep1 h x1, keep1 h x2⟩
  have N : Aside (l1 = L1.length ∧ l2 = L2.length ∧ l3 = L3.length ∧ s2 = l1 + l2 ∧ s3 = s2 + l3) := ⟨hl1, hl2, hl3, hs2, hs3⟩
  have A1' : Aside (∀ w' v, Garb w w' → Lst w.heap.size w' v [] → LApp w w' v 0 A1 l1 c1 L1) := fun w' v h hl => by
    have := lapp (c := c1) h hl (Row0.garb r1 h) rfl (by have := N.out; simp only [List.length_nil]; omega)
    rw [List.nil_append, List.length_nil] at this
    rw [hl1]; exact this
  have A2' : Aside (∀ w' v, Garb w w' → Lst w.heap.size w' v L1 → LApp w w' v l1 A2 l2 c2 (L1 ++ L2)) := fun w' v h hl => by
    rw [hl1, hl2]; exact lapp (c := c2) h hl (Row0.garb r2 h) rfl (by have := N.out; omega)
  have A3' : Aside (∀ w' v, Garb w w' → Lst w.heap.size w' v (L1 ++ L2) → LApp w w' v s2 A3 l3 c3 (L1 ++ L2 ++ L3)) := fun w' v h hl => by
    have := lapp (c := c3) h hl (Row0.garb r3 h) rfl (by have := N.out; rw [List.length_append]; omega)
    rw [List.length_append] at this
    rw [hs2, hl1, hl2, hl3]; exact this
  clear x0 x1 x2
  obtain ⟨x0, x1, x2⟩ := X.out w (Garb.refl w)
  clear hQ r1 r2 r3 hl1 hl2 hl3 hs2 hs3 hfit
  go_enter Try.func48, Try.ntmps48
  go_wp2
  go_loopw [3, 11] (fun s i wr => w = wr ∧ ((i = .int .i64 0 ∧ s = .int .i64 0) ∨ (i = .int .i64 1 ∧ s = .int .i64 l1) ∨ (i = .int .i64 2 ∧ s = .int .i64 s2) ∨ (i = .int .i64 3 ∧ s = .int .i64 s3))) (fun _ i _ => 3 - (RowKit.intOf i).toNat)
  case atStart => exact ⟨rfl, .inl ⟨rfl, rfl⟩⟩
  case round =>
    obtain ⟨hw, hrel⟩ := hrel
    subst hw
    rcases hrel with ⟨rfl, rfl⟩ | ⟨rfl, rfl⟩ | ⟨rfl, rfl⟩ | ⟨rfl, rfl⟩
    · go_wp2
      exact ⟨⟨(by first | rfl | trivial), .inr (.inl ⟨rfl, rfl⟩)⟩, by decide⟩
    · go_wp2
      exact ⟨⟨(by first | rfl | trivial), .inr (.inr (.inl ⟨rfl, rfl⟩))⟩, by decide⟩
    · go_wp2
      exact ⟨⟨(by first | rfl | trivial), .inr (.inr (.inr ⟨rfl, rfl⟩))⟩, by decide⟩
    · go_wp2_with (go_at_call 58; refine hG.out.mono ?_; rintro e w2 ⟨v, rfl, hl, hg⟩; have HL := asd hl; clear hl)
      go_loopw [6, 27] (fun o i wr => ∃ (v' : Value), o = v' ∧ Aside (Garb w wr) ∧ ((i = .int .i64 0 ∧ Aside (Lst w.heap.size wr v' [])) ∨ (i = .int .i64 1 ∧ Aside (Lst w.heap.size wr v' L1)) ∨ (i = .int .i64 2 ∧ Aside (Lst w.heap.size wr v' (L1 ++ L2))) ∨ (i = .int .i64 3 ∧ Aside (Lst w.heap.size wr v' (L1 ++ L2 ++ L3))))) (fun _ i _ => 3 - (RowKit.intOf i).toNat)
      case atStart => exact ⟨v, rfl, hg, .inl ⟨rfl, HL⟩⟩
      case round =>
        obtain ⟨v', hv, G, hrel⟩ := hrel
        have hv' := hv.symm
        clear hv
        subst hv'
        clear x0 x1 x2
        obtain ⟨x0, x1, x2⟩ := X.out wr G.out
        rcases hrel with ⟨rfl, H⟩ | ⟨rfl, H⟩ | ⟨rfl, H⟩ | ⟨rfl, H⟩
        · obtain ⟨v3, W3, ha, h3, g3⟩ := A1'.out wr v' G.out H.out
          go_wp2_with (at_builtin; refine Lib.wpList_append_run _ rfl _ _ _ _ rfl _ _ rfl rfl _ _ (ha _) ?_; clear ha)
          exact ⟨⟨v3, rfl, g3, .inr (.inl ⟨rfl, h3⟩)⟩, by decide⟩
        · obtain ⟨v3, W3, ha, h3, g3⟩ := A2'.out wr v' G.out H.out
          go_wp2_with (at_builtin; refine Lib.wpList_append_run _ rfl _ _ _ _ rfl _ _ rfl rfl _ _ (ha _) ?_; clear ha)
          exact ⟨⟨v3, rfl, g3, .inr (.inr (.inl ⟨rfl, h3⟩))⟩, by decide⟩
        · obtain ⟨v3, W3, ha, h3, g3⟩ := A3'.out wr v' G.out H.out
          go_wp2_with (at_builtin; refine Lib.wpList_append_run _ rfl _ _ _ _ rfl _ _ rfl rfl _ _ (ha _) ?_; clear ha)
          exact ⟨⟨v3, rfl, g3, .inr (.inr (.inr ⟨rfl, h3⟩))⟩, by decide⟩
        · have hq := hend.out v' wr H.out G.out
          go_wp2
          first | exact hq | (go_ret; exact hq)
set_option maxHeartbeats 2000000 in
set_option maxRecDepth 100000 in
/-- slices.Equal: some answer. -/
theorem equal_ok {w : World} {A1 A2 : Option Addr} {n1 n2 c1 c2 : Nat} {L1 L2 : List Int} (r1 : Row0 w A1 n1 L1) (r2 : Row0 w A2 n2 L2) (hb : n1 ≤ 9223372036854775807) (hb2 : n2 ≤ 9223372036854775807) :
    Calls Try.prog 49 #[.slice A1 n1 c1, .slice A2 n2 c2] w fun e w' => ∃ b, e = .returned (.bool b) ∧ Garb w w' := by
  generalize hQ : (fun (e : Ending) (w' : World) => ∃ b, e = .returned (.bool b) ∧ Garb w w') = Q0
  have hend : Aside (∀ b w', Garb w w' → Q0 (.returned (.bool b)) w') := fun b w' h => by subst hQ; exact ⟨b, rfl, h⟩
  clear hQ
  by_cases hne : n1 = n2
  · subst hne
    have hB : ((n1 : Int) != (n1 : Int)) = false := by simp
    have R1 := asd r1
    have R2 := asd r2
    clear r1 r2
    go_enter Try.func49, Try.ntmps49
    go_wp2
    go_loopw [13] (fun i wr => ∃ k : Nat, k ≤ n1 ∧ i = .int .i64 k ∧ Aside (Garb w wr)) (fun i _ => n1 - (RowKit.intOf i).toNat)
    case atStart => exact ⟨0, Nat.zero_le _, rfl, Garb.refl w⟩
    case round =>
      obtain ⟨k, hk, rfl, G⟩ := hrel
      by_cases hlt : k < n1
      · have hltz : (k : Int) < (n1 : Int) := by omega
        obtain ⟨b, off, rfl, hbl, hc⟩ : ∃ b off, A1 = some ⟨b, off, none⟩ ∧ b < w.heap.size ∧ ∀ j, j < n1 → w.cell? ⟨b, off + j, none⟩ = some (.int .i64 (L1.getD j 0)) := by
          rcases R1.out with h | h
          · omega
          · exact h
        obtain ⟨b', off', rfl, hbl', hc'⟩ : ∃ b off, A2 = some ⟨b, off, none⟩ ∧ b < w.heap.size ∧ ∀ j, j < n1 → w.cell? ⟨b, off + j, none⟩ = some (.int .i64 (L2.getD j 0)) := by
          rcases R2.out with h | h
          · omega
          · exact h
        have y0 := keep1 G.out (hc k hlt)
        have y1 := keep1 G.out (hc' k hlt)
        have hk0 : (0 : Int) ≤ (k : Int) := by omega
        clear hc hc'
        generalize L1.getD k 0 = a1 at y0
        generalize L2.getD k 0 = a2 at y1
        rcases bool2 (a1 != a2) with hq | hq
        · go_wp2
          go_quiet (fail)
          go_wp2
          have h2 := hend.out false (wr.drewN nq) (G.out.trans (drewN_garb wr nq))
          first | exact h2 | (go_ret; exact h2)
        · go_wp2
          go_quiet (fail)
          go_wp2
          exact ⟨⟨k + 1, by omega, by go_num, G.out.trans (drewN_garb wr nq)⟩, by simp [RowKit.intOf]; omega⟩
      · have hltz : ¬ (k : Int) < (n1 : Int) := by omega
        have h2 := hend.out true wr G.out
        go_wp2
        first | exact h2 | (go_ret; exact h2)
  · have hB : ((n1 : Int) != (n2 : Int)) = true := by simp [bne]; omega
    have h2 := hend.out false w (Garb.refl w)
    clear r1 r2
    go_enter Try.func49, Try.ntmps49
    go_wp2
    first | exact h2 | (go_ret; exact h2)
end Go.Proofs.Ytoheklommpochaa.ls
