/- The ranges of QuantDouble's numbers. -/
import Derived.Test.YtcmkifhafcgjbaaRxAwake
namespace Go.Proofs.Ytcmkifhafcgjbaa.quantDouble
open Go.RX Go.Proofs.Ytcmkifhafcgjbaa
noncomputable def R : Rg := rg [0] [] false false 80
end Go.Proofs.Ytcmkifhafcgjbaa.quantDouble
