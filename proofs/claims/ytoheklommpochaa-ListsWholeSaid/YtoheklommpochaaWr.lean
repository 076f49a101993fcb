/- How far a counter goes: the program's wrap, the document's width. -/
import Derived.Test.YtoheklommpochaaPi
namespace Go.Proofs.Ytoheklommpochaa.pi
open Go.RX Go.RowKit Go.Proofs.Ytoheklommpochaa Go.Proofs.Ytoheklommpochaa.rf
set_option linter.unusedVariables false
noncomputable def R1 : Rg := rg [] [] false false 0
noncomputable def cx1 : Cx := cx R1 0 0 0
noncomputable def run1 (f : FuncId) (fs : List E) (y : Int) : Bool := (litRun Try.prog R1 cx1 25 f [iv 0] fs (.int .i64 (.k y))).good
def widN (bits : Int) : Int := if bits ≤ 4 then 4 else if bits = 5 then 5 else if bits = 6 then 6 else if bits = 7 then 7 else 8
theorem core1 {f : FuncId} {fs : List E} {y : Int} (h : run1 f fs y = true) {bits : Int} (hb : In64 bits) (hf : Fs.ok (va [bits] []) fs) (w : World) :
    Calls Try.prog f #[.int .i64 bits] w fun e w' => e = .returned (.int .i64 y) ∧ Garb w w' := by
  have hR : R1.ok (va [bits] []) := rg_ok (lens := []) (bls := []) (by decide) (by decide) ⟨hb, trivial⟩ (fun r hr => by cases hr)
  refine lit_ok hR (fun _ h => cx_ok h _ _ _ _) h (fun N => by simp only [AV.rel, E.den]) (fun N => ?_) hf (args_ok (fun r hr => by cases hr))
  exact rels_cons' (iv_rel 0 (by decide) rfl) (rels_nil.2 rfl)
theorem w30a : run1 30 [leF 0 4] 16 = true := by kernel_rfl
theorem w30b : run1 30 [geF 0 5, leF 0 5] 32 = true := by kernel_rfl
theorem w30c : run1 30 [geF 0 6, leF 0 6] 64 = true := by kernel_rfl
theorem w30d : run1 30 [geF 0 7, leF 0 7] 128 = true := by kernel_rfl
theorem w30e : run1 30 [geF 0 8] 256 = true := by kernel_rfl
theorem w37a : run1 37 [leF 0 4] 4 = true := by kernel_rfl
theorem w37b : run1 37 [geF 0 5, leF 0 5] 5 = true := by kernel_rfl
theorem w37c : run1 37 [geF 0 6, leF 0 6] 6 = true := by kernel_rfl
theorem w37d : run1 37 [geF 0 7, leF 0 7] 7 = true := by kernel_rfl
theorem w37e : run1 37 [geF 0 8] 8 = true := by kernel_rfl
theorem five {bits : Int} {P : Prop} (a : bits ≤ 4 → P) (b : bits = 5 → P) (c : bits = 6 → P) (d : bits = 7 → P) (e : 8 ≤ bits → P) : P := by
  rcases (show bits ≤ 4 ∨ bits = 5 ∨ bits = 6 ∨ bits = 7 ∨ 8 ≤ bits by omega) with h | h | h | h | h
  · exact a h
  · exact b h
  · exact c h
  · exact d h
  · exact e h
theorem wrap_ok {bits : Int} (hb : In64 bits) (w : World) : Calls Try.prog 30 #[.int .i64 bits] w fun e w' => e = .returned (.int .i64 (wrapN bits)) ∧ Garb w w' := by
  unfold wrapN
  refine five (bits := bits) (fun h => ?_) (fun h => ?_) (fun h => ?_) (fun h => ?_) (fun h => ?_)
  · rw [if_pos h]; exact core1 w30a hb (fs1 (leF_den (by show bits ≤ (4 : Int); omega)) fs0) w
  · rw [if_neg (by omega), if_pos h]; exact core1 w30b hb (fs1 (geF_den (by show (5 : Int) ≤ bits; omega)) (fs1 (leF_den (by show bits ≤ (5 : Int); omega)) fs0)) w
  · rw [if_neg (by omega), if_neg (by omega), if_pos h]; exact core1 w30c hb (fs1 (geF_den (by show (6 : Int) ≤ bits; omega)) (fs1 (leF_den (by show bits ≤ (6 : Int); omega)) fs0)) w
  · rw [if_neg (by omega), if_neg (by omega), if_neg (by omega), if_pos h]; exact core1 w30d hb (fs1 (geF_den (by show (7 : Int) ≤ bits; omega)) (fs1 (leF_den (by show bits ≤ (7 : Int); omega)) fs0)) w
  · rw [if_neg (by omega), if_neg (by omega), if_neg (by omega), if_neg (by omega)]; exact core1 w30e hb (fs1 (geF_den (by show (8 : Int) ≤ bits; omega)) fs0) w
theorem width_ok {bits : Int} (hb : In64 bits) (w : World) : Calls Try.prog 37 #[.int .i64 bits] w fun e w' => e = .returned (.int .i64 (widN bits)) ∧ Garb w w' := by
  unfold widN
  refine five (bits := bits) (fun h => ?_) (fun h => ?_) (fun h => ?_) (fun h => ?_) (fun h => ?_)
  · rw [if_pos h]; exact core1 w37a hb (fs1 (leF_den (by show bits ≤ (4 : Int); omega)) fs0) w
  · rw [if_neg (by omega), if_pos h]; exact core1 w37b hb (fs1 (geF_den (by show (5 : Int) ≤ bits; omega)) (fs1 (leF_den (by show bits ≤ (5 : Int); omega)) fs0)) w
  · rw [if_neg (by omega), if_neg (by omega), if_pos h]; exact core1 w37c hb (fs1 (geF_den (by show (6 : Int) ≤ bits; omega)) (fs1 (leF_den (by show bits ≤ (6 : Int); omega)) fs0)) w
  · rw [if_neg (by omega), if_neg (by omega), if_neg (by omega), if_pos h]; exact core1 w37d hb (fs1 (geF_den (by show (7 : Int) ≤ bits; omega)) (fs1 (leF_den (by show bits ≤ (7 : Int); omega)) fs0)) w
  · rw [if_neg (by omega), if_neg (by omega), if_neg (by omega), if_neg (by omega)]; exact core1 w37e hb (fs1 (geF_den (by show (8 : Int) ≤ bits; omega)) fs0) w
theorem wrapN_bd (bits : Int) : wrapN bits = 16 ∨ wrapN bits = 32 ∨ wrapN bits = 64 ∨ wrapN bits = 128 ∨ wrapN bits = 256 := by
  unfold wrapN
  refine five (bits := bits) (fun h => ?_) (fun h => ?_) (fun h => ?_) (fun h => ?_) (fun h => ?_)
  · rw [if_pos h]; exact .inl rfl
  · rw [if_neg (by omega), if_pos h]; exact .inr (.inl rfl)
  · rw [if_neg (by omega), if_neg (by omega), if_pos h]; exact .inr (.inr (.inl rfl))
  · rw [if_neg (by omega), if_neg (by omega), if_neg (by omega), if_pos h]; exact .inr (.inr (.inr (.inl rfl)))
  · rw [if_neg (by omega), if_neg (by omega), if_neg (by omega), if_neg (by omega)]; exact .inr (.inr (.inr (.inr rfl)))
/-- 1 << width. -/
theorem shl_ok (bits : Int) (w : World) : (binOp .shl 3 (.int .i64 1) (.int .i64 (widN bits))).run Try.prog w = .ok (.int .i64 (wrapN bits)) w := by
  have key : ∀ a b : Int, (a = 4 ∧ b = 16 ∨ a = 5 ∧ b = 32 ∨ a = 6 ∧ b = 64 ∨ a = 7 ∧ b = 128 ∨ a = 8 ∧ b = 256) → (binOp .shl 3 (.int .i64 1) (.int .i64 a)).run Try.prog w = .ok (.int .i64 b) w := fun a b h => by
    rcases h with ⟨rfl, rfl⟩ | ⟨rfl, rfl⟩ | ⟨rfl, rfl⟩ | ⟨rfl, rfl⟩ | ⟨rfl, rfl⟩ <;> rfl
  refine key _ _ ?_
  unfold widN wrapN
  refine five (bits := bits) (fun h => ?_) (fun h => ?_) (fun h => ?_) (fun h => ?_) (fun h => ?_)
  · rw [if_pos h, if_pos h]; exact .inl ⟨rfl, rfl⟩
  · rw [if_neg (by omega), if_pos h, if_neg (by omega), if_pos h]; exact .inr (.inl ⟨rfl, rfl⟩)
  · rw [if_neg (by omega), if_neg (by omega), if_pos h, if_neg (by omega), if_neg (by omega), if_pos h]; exact .inr (.inr (.inl ⟨rfl, rfl⟩))
  · rw [if_neg (by omega), if_neg (by omega), if_neg (by omega), if_pos h, if_neg (by omega), if_neg (by omega), if_neg (by omega), if_pos h]; exact .inr (.inr (.inr (.inl ⟨rfl, rfl⟩)))
  · rw [if_neg (by omega), if_neg (by omega), if_neg (by omega), if_neg (by omega), if_neg (by omega), if_neg (by omega), if_neg (by omega), if_neg (by omega)]; exact .inr (.inr (.inr (.inr ⟨rfl, rfl⟩)))
end Go.Proofs.Ytoheklommpochaa.pi
