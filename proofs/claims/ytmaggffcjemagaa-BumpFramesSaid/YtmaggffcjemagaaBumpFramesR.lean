/- The ranges of BumpFrames's numbers. -/
import Derived.Test.YtmaggffcjemagaaRxAwake
namespace Go.Proofs.Ytmaggffcjemagaa.bumpFrames
open Go.RX Go.Proofs.Ytmaggffcjemagaa
noncomputable def R : Rg := rg [] [] false false 0
end Go.Proofs.Ytmaggffcjemagaa.bumpFrames
