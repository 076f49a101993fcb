/- The ranges of MarksWindow's numbers. -/
import Derived.Test.YtbhnibhoceepoaaRxAwake
namespace Go.Proofs.Ytbhnibhoceepoaa.marksWindow
open Go.RX Go.Proofs.Ytbhnibhoceepoaa
noncomputable def R : Rg := rg [] [] false false
end Go.Proofs.Ytbhnibhoceepoaa.marksWindow
