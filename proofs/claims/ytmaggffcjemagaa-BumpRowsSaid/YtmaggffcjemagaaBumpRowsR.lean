/- The ranges of BumpRows's numbers. -/
import Derived.Test.YtmaggffcjemagaaRxAwake
namespace Go.Proofs.Ytmaggffcjemagaa.bumpRows
open Go.RX Go.Proofs.Ytmaggffcjemagaa
noncomputable def R : Rg := rg [] [] false false 0
end Go.Proofs.Ytmaggffcjemagaa.bumpRows
