/- PocCounts: the rounds, where the counter has 6 bits. -/
import Derived.Test.YtclgfhbalocmaaaPocCountsR
import Derived.KernelRfl
import Derived.Test.YtclgfhbalocmaaaRxAwake
import Derived.Test.YtclgfhbalocmaaaRxL
namespace Go.Proofs.Ytclgfhbalocmaaa.pocCounts
open Go.RX Go.Proofs.Ytclgfhbalocmaaa
open Go.RowKit
set_option linter.unusedVariables false
theorem rounds6_0 : allN 60 (one 6 64 0) = true := by kernel_rfl
theorem rounds6_1 : allN 60 (one 6 64 1) = true := by kernel_rfl
theorem last6 : last 6 64 = true := by kernel_rfl
theorem run6 : (lawRunL Try.prog R0 (cx0 R0) 25 (lpE 69 (chk0 6 64) 0) 5 [sv 0, iv 1] (isE (umdE 1 5) 2)).good = true := by kernel_rfl
theorem step6 {a0 : Option Addr} {len cap : Nat} {z : List Int} {b : Int} {w0 : World} (w1 : IsRow w0 a0 len cap z) (wb : -9223372036854775808 ≤ b ∧ b ≤ 9223372036854775807) (r : Nat) (a : Act) (w : World) (hr : r < 61) (h : Inv 6 64 a0 len z b w0 r a w) :
    (loopOf Try.prog 5).wp Try.prog (Exit.then (Inv 6 64 a0 len z b w0 (r + 1)) (Qend w0 69 0)) a w := by
  obtain ⟨h60, hw, hd, q, l, l0, l1, b0, b1, ht⟩ := h
  have hlen := w1.len_bd
  have hR : (R 64).ok (va [(len : Int), b, q, l] [⟨0, a0, z⟩]) := rgvr_ok (by decide) (inR4 hlen wb ⟨by show (0 : Int) ≤ q; omega, by show q ≤ (200 : Int); omega⟩ ⟨l0, by show l ≤ (64 : Int) - 1; omega⟩)
    (by
      intro x hx
      simp only [List.mem_cons, List.not_mem_nil, or_false] at hx
      rcases hx with rfl | rfl | rfl | rfl
      · exact ⟨by omega, hlen.2⟩
      · exact wb
      · omega
      · omega)
    (fun r hr => by
      simp only [List.mem_cons, List.not_mem_nil, or_false] at hr
      subst hr
      exact w1.bd)
  have hA : ArgsOk (va [(len : Int), b, q, l] [⟨0, a0, z⟩]) w0 := args_ok (fun r hr => by
    simp only [List.mem_cons, List.not_mem_nil, or_false] at hr
    subst hr
    exact w1.ok (by decide) rfl)
  by_cases e : r = 60
  · subst e
    exact rnd_ok hR (fun _ h => cxT_ok h _ _ _ _ _) last6 hA (fun _ h => by cases h) hw ht hd (fun _ _ _ _ _ _ _ h => by cases h)
  · have d1 := den_at1 (V := (va [(len : Int), b, q, l] [⟨0, a0, z⟩])) 64 r
    have v2 : ((va [(len : Int), b, q, l] [⟨0, a0, z⟩])).v 2 = q := rfl
    have v3 : ((va [(len : Int), b, q, l] [⟨0, a0, z⟩])).v 3 = l := rfl
    rw [v2, v3] at d1
    have u0 : 0 ≤ IntKind.u64.wrap (((va [(len : Int), b, q, l] [⟨0, a0, z⟩])).v (argVar 0 r)) := (wrap_bd .u64 _).1
    have s0 := Int.tmod_lt_of_pos (IntKind.u64.wrap (((va [(len : Int), b, q, l] [⟨0, a0, z⟩])).v (argVar 0 r))) (show (0 : Int) < 64 by decide)
    have s1 := Int.tmod_nonneg 64 u0
    rw [← den_st (V := (va [(len : Int), b, q, l] [⟨0, a0, z⟩])) 64 r] at s0 s1
    have hn : ∀ c, 64 * c ≤ (at1 64 r).den (va [(len : Int), b, q, l] [⟨0, a0, z⟩]) → (nowE 64 c r).den (va [(len : Int), b, q, l] [⟨0, a0, z⟩]) = ((at1 64 r).den (va [(len : Int), b, q, l] [⟨0, a0, z⟩]) - 64 * c) % 64 := fun c h => by
      rw [den_now, Int.tmod_eq_emod_of_nonneg (by omega)]
    have g0 := hn 0
    have g1 := hn 1
    generalize hS : (stE 64 r).den (va [(len : Int), b, q, l] [⟨0, a0, z⟩]) = s at *
    generalize hA1 : (at1 64 r).den (va [(len : Int), b, q, l] [⟨0, a0, z⟩]) = A at *
    have g0 := g0 (by omega)
    have hc : (l + s) / 64 = 0 ∨ (l + s) / 64 = 1 := by omega
    rcases hc with hc | hc
    · exact rnd_ok hR (fun _ h => cxT_ok h _ _ _ _ _) (allN_ok rounds6_0 r (by omega)) hA (fs_ok (by rw [v2, hA1]; omega) (by rw [v2, hA1]; omega) (by rw [v3, hS]; exact hc) (by rw [v2, hA1, Int.tdiv_eq_ediv_of_nonneg (by omega)]; omega)) hw ht hd (fun N' tm' a' w' k1 k2 k3 k4 => next (by omega) k4 k2 k3 k1 (q + 0) _ (by omega) rfl (by omega) (by omega) (by omega) (by omega) (by omega))
    · have g1 := g1 (by omega)
      exact rnd_ok hR (fun _ h => cxT_ok h _ _ _ _ _) (allN_ok rounds6_1 r (by omega)) hA (fs_ok (by rw [v2, hA1]; omega) (by rw [v2, hA1]; omega) (by rw [v3, hS]; exact hc) (by rw [v2, hA1, Int.tdiv_eq_ediv_of_nonneg (by omega)]; omega)) hw ht hd (fun N' tm' a' w' k1 k2 k3 k4 => next (by omega) k4 k2 k3 k1 (q + 1) _ (by omega) rfl (by omega) (by omega) (by omega) (by omega) (by omega))
end Go.Proofs.Ytclgfhbalocmaaa.pocCounts
