/- The ranges of BumpSizes's numbers. -/
import Derived.Test.YtmaggffcjemagaaRxAwake
namespace Go.Proofs.Ytmaggffcjemagaa.bumpSizes
open Go.RX Go.Proofs.Ytmaggffcjemagaa
noncomputable def R : Rg := rg [] [] false false 0
noncomputable def S : E := mdE 0 12
noncomputable def D : E := mdE 1 12
theorem le_ok {V : Va} {e : E} {c : Int} (h : e.den V ≤ c) : Fs.ok V [E.sub (.k c) e] := fun x hx => by
  rw [List.mem_singleton.1 hx, E.den_sub]; simp only [E.den]; omega
theorem ge_ok {V : Va} {e : E} {c : Int} (h : c ≤ e.den V) : Fs.ok V [E.sub e (.k c)] := fun x hx => by
  rw [List.mem_singleton.1 hx, E.den_sub]; simp only [E.den]; omega
theorem fs_app {V : Va} {F G : List E} (h : Fs.ok V F) (h' : Fs.ok V G) : Fs.ok V (F ++ G) := fun x hx => by
  rcases List.mem_append.1 hx with hx | hx
  · exact h x hx
  · exact h' x hx
end Go.Proofs.Ytmaggffcjemagaa.bumpSizes
