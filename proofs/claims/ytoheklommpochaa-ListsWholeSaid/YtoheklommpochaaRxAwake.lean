/- What every law asks first, 'awake', gives true, and leaves all as it is. -/
import Derived.Test.YtoheklommpochaaRxBase
namespace Go.Proofs.Ytoheklommpochaa
open Go.RX Go.RowKit
theorem awake_run : (lawRun Try.prog (rg [] [] false false) (cx (rg [] [] false false) (0) 0 0 (0)) 25 16 [] []).good = true := by kernel_rfl
theorem awake_is (w : World) : Calls Try.prog 16 #[] w fun e w' => e = .returned (.bool true) ∧ Garb w w' := by
  have hR : (rg [] [] false false).ok (va [] []) := rg_ok (by decide) (by decide) trivial (fun r hr => by cases hr)
  exact (law_okB hR (fun _ h => cx_ok h _ _ _ _) (vs := #[]) (fun N => rels_nil.2 rfl) (fun _ h => by cases h) awake_run w (args_ok (fun r hr => by cases hr))).mono fun _ _ h => ⟨h.1, h.2.2.2⟩
noncomputable def cxT (R : Rg) (iso jn cs : Nat) (isoh : Nat := 0) (gen : Nat := 0) (rof : Nat := 0) : Cx := cxE Try.prog R tab 1000 iso jn cs (2 ^ 16) effM isoh gen rof
theorem cxT_ok {R : Rg} {V : Va} (hR : R.ok V) (iso jn cs : Nat) (isoh : Nat := 0) (gen : Nat := 0) (rof : Nat := 0) : (cxT R iso jn cs isoh gen rof).ok Try.prog V := cxE_ok Try.checked.mixed hR tab_ok _ _ _ _ _ _ _ _ _ (fun f h w => by
  rw [Nat.testBit_two_pow] at h
  have : f = 16 := by simpa using (of_decide_eq_true h).symm
  subst this
  exact awake_is w)
end Go.Proofs.Ytoheklommpochaa
