/- The ranges of BumpAtOnce's numbers, its bits. -/
import Derived.Test.YtmaggffcjemagaaRxAwake
namespace Go.Proofs.Ytmaggffcjemagaa.bumpAtOnce
open Go.RX Go.Proofs.Ytmaggffcjemagaa
noncomputable def R : Rg := rg [] [] false false 0
/-- (marked >> i) & 1 -/
noncomputable def bt (i : Nat) : E := mkBit .and .i64 (mkShr R (.atom (.var 1)) i) (.k 1)
theorem bt_01 {V : Va} (i : Nat) : (bt i).den V = 0 ∨ (bt i).den V = 1 := by
  unfold bt
  rw [den_mkBit]
  have := bitI_and (kd := .i64) (x := (mkShr R (.atom (.var 1)) i).den V) (m := 1) (by decide) (by decide)
  have e : (E.k 1).den V = 1 := rfl
  rw [e]; omega
theorem fs_app {V : Va} {F G : List E} (h : Fs.ok V F) (h' : Fs.ok V G) : Fs.ok V (F ++ G) := fun x hx => by
  rcases List.mem_append.1 hx with hx | hx
  · exact h x hx
  · exact h' x hx
theorem fs_nil {V : Va} : Fs.ok V [] := fun _ h => by cases h
end Go.Proofs.Ytmaggffcjemagaa.bumpAtOnce
