/- The ranges of QuantRanges's numbers. -/
import Derived.Test.YtcmkifhafcgjbaaRxAwake
namespace Go.Proofs.Ytcmkifhafcgjbaa.quantRanges
open Go.RX Go.Proofs.Ytcmkifhafcgjbaa
noncomputable def R : Rg := rg [] [] false false
noncomputable def asL (v : Int) : List AV := [.int .i64 (.k v), iv 1]
end Go.Proofs.Ytcmkifhafcgjbaa.quantRanges
