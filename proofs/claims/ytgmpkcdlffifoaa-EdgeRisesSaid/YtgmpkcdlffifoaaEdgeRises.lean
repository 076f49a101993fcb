/- EdgeRises returns true for every input: it neither panics nor runs on, and what came in reads as before. Without a condition. The walk is one evaluation, in Lean's kernel, of a symbolic run that the texts Rx.. prove sound. -/
import Derived.Test.YtgmpkcdlffifoaaRows
import Derived.Test.YtgmpkcdlffifoaaRxAwake
import Derived.Test.YtgmpkcdlffifoaaEdgeRisesR
import Derived.Test.YtgmpkcdlffifoaaEdgeRisesP0
import Derived.Test.YtgmpkcdlffifoaaEdgeRisesP1
import Derived.Test.YtgmpkcdlffifoaaEdgeRisesP2
import Derived.Test.YtgmpkcdlffifoaaEdgeRisesP3
import Derived.Test.YtgmpkcdlffifoaaEdgeRisesP4
import Derived.Test.YtgmpkcdlffifoaaEdgeRisesP5
import Derived.Test.YtgmpkcdlffifoaaEdgeRisesP6
import Derived.Test.YtgmpkcdlffifoaaEdgeRisesP7
import Derived.Test.YtgmpkcdlffifoaaEdgeRisesP8
import Derived.Test.YtgmpkcdlffifoaaEdgeRisesP9
import Derived.WalkKit
import Derived.ProofKit
import Derived.OpenShut
import Derived.ShutString
import Derived.ChangeOld
import Derived.Below
namespace Go.Proofs.Ytgmpkcdlffifoaa.edgeRises
open Go.ChangeShapes Go.WideShapes Go.ChangeAt Go.RowKit Go.RX Go.Proofs.Ytgmpkcdlffifoaa
set_option linter.unusedVariables false
theorem own : ownKnob Try.prog.godebug = none := by kernel_rfl
theorem laidOut : laidOutB Try.prog = true := by kernel_rfl
theorem runs0 : ∀ j : Nat, j < 3 → (lawRunF Try.prog R (cxT R (2 ^ 47 + 2 ^ 24) (0) (0) (0)) 25 7 [iv 0, iv 1] (isE (umdE 0 60) ((0) + ((0 : Nat) : Int)) ++ isE (umdE 1 3) ((0) + (j : Int))) []).good = true
  | 0, _ => run0_0
  | 1, _ => run0_1
  | 2, _ => run0_2
  | _ + 3, h => absurd h (by omega)
theorem runs1 : ∀ j : Nat, j < 3 → (lawRunF Try.prog R (cxT R (2 ^ 47 + 2 ^ 24) (0) (0) (0)) 25 7 [iv 0, iv 1] (isE (umdE 0 60) ((0) + ((1 : Nat) : Int)) ++ isE (umdE 1 3) ((0) + (j : Int))) []).good = true
  | 0, _ => run1_0
  | 1, _ => run1_1
  | 2, _ => run1_2
  | _ + 3, h => absurd h (by omega)
theorem runs2 : ∀ j : Nat, j < 3 → (lawRunF Try.prog R (cxT R (2 ^ 47 + 2 ^ 24) (0) (0) (0)) 25 7 [iv 0, iv 1] (isE (umdE 0 60) ((0) + ((2 : Nat) : Int)) ++ isE (umdE 1 3) ((0) + (j : Int))) []).good = true
  | 0, _ => run2_0
  | 1, _ => run2_1
  | 2, _ => run2_2
  | _ + 3, h => absurd h (by omega)
theorem runs3 : ∀ j : Nat, j < 3 → (lawRunF Try.prog R (cxT R (2 ^ 47 + 2 ^ 24) (0) (0) (0)) 25 7 [iv 0, iv 1] (isE (umdE 0 60) ((0) + ((3 : Nat) : Int)) ++ isE (umdE 1 3) ((0) + (j : Int))) []).good = true
  | 0, _ => run3_0
  | 1, _ => run3_1
  | 2, _ => run3_2
  | _ + 3, h => absurd h (by omega)
theorem runs4 : ∀ j : Nat, j < 3 → (lawRunF Try.prog R (cxT R (2 ^ 47 + 2 ^ 24) (0) (0) (0)) 25 7 [iv 0, iv 1] (isE (umdE 0 60) ((0) + ((4 : Nat) : Int)) ++ isE (umdE 1 3) ((0) + (j : Int))) []).good = true
  | 0, _ => run4_0
  | 1, _ => run4_1
  | 2, _ => run4_2
  | _ + 3, h => absurd h (by omega)
theorem runs5 : ∀ j : Nat, j < 3 → (lawRunF Try.prog R (cxT R (2 ^ 47 + 2 ^ 24) (0) (0) (0)) 25 7 [iv 0, iv 1] (isE (umdE 0 60) ((0) + ((5 : Nat) : Int)) ++ isE (umdE 1 3) ((0) + (j : Int))) []).good = true
  | 0, _ => run5_0
  | 1, _ => run5_1
  | 2, _ => run5_2
  | _ + 3, h => absurd h (by omega)
theorem runs6 : ∀ j : Nat, j < 3 → (lawRunF Try.prog R (cxT R (2 ^ 47 + 2 ^ 24) (0) (0) (0)) 25 7 [iv 0, iv 1] (isE (umdE 0 60) ((0) + ((6 : Nat) : Int)) ++ isE (umdE 1 3) ((0) + (j : Int))) []).good = true
  | 0, _ => run6_0
  | 1, _ => run6_1
  | 2, _ => run6_2
  | _ + 3, h => absurd h (by omega)
theorem runs7 : ∀ j : Nat, j < 3 → (lawRunF Try.prog R (cxT R (2 ^ 47 + 2 ^ 24) (0) (0) (0)) 25 7 [iv 0, iv 1] (isE (umdE 0 60) ((0) + ((7 : Nat) : Int)) ++ isE (umdE 1 3) ((0) + (j : Int))) []).good = true
  | 0, _ => run7_0
  | 1, _ => run7_1
  | 2, _ => run7_2
  | _ + 3, h => absurd h (by omega)
theorem runs8 : ∀ j : Nat, j < 3 → (lawRunF Try.prog R (cxT R (2 ^ 47 + 2 ^ 24) (0) (0) (0)) 25 7 [iv 0, iv 1] (isE (umdE 0 60) ((0) + ((8 : Nat) : Int)) ++ isE (umdE 1 3) ((0) + (j : Int))) []).good = true
  | 0, _ => run8_0
  | 1, _ => run8_1
  | 2, _ => run8_2
  | _ + 3, h => absurd h (by omega)
theorem runs9 : ∀ j : Nat, j < 3 → (lawRunF Try.prog R (cxT R (2 ^ 47 + 2 ^ 24) (0) (0) (0)) 25 7 [iv 0, iv 1] (isE (umdE 0 60) ((0) + ((9 : Nat) : Int)) ++ isE (umdE 1 3) ((0) + (j : Int))) []).good = true
  | 0, _ => run9_0
  | 1, _ => run9_1
  | 2, _ => run9_2
  | _ + 3, h => absurd h (by omega)
theorem runs10 : ∀ j : Nat, j < 3 → (lawRunF Try.prog R (cxT R (2 ^ 47 + 2 ^ 24) (0) (0) (0)) 25 7 [iv 0, iv 1] (isE (umdE 0 60) ((0) + ((10 : Nat) : Int)) ++ isE (umdE 1 3) ((0) + (j : Int))) []).good = true
  | 0, _ => run10_0
  | 1, _ => run10_1
  | 2, _ => run10_2
  | _ + 3, h => absurd h (by omega)
theorem runs11 : ∀ j : Nat, j < 3 → (lawRunF Try.prog R (cxT R (2 ^ 47 + 2 ^ 24) (0) (0) (0)) 25 7 [iv 0, iv 1] (isE (umdE 0 60) ((0) + ((11 : Nat) : Int)) ++ isE (umdE 1 3) ((0) + (j : Int))) []).good = true
  | 0, _ => run11_0
  | 1, _ => run11_1
  | 2, _ => run11_2
  | _ + 3, h => absurd h (by omega)
theorem runs12 : ∀ j : Nat, j < 3 → (lawRunF Try.prog R (cxT R (2 ^ 47 + 2 ^ 24) (0) (0) (0)) 25 7 [iv 0, iv 1] (isE (umdE 0 60) ((0) + ((12 : Nat) : Int)) ++ isE (umdE 1 3) ((0) + (j : Int))) []).good = true
  | 0, _ => run12_0
  | 1, _ => run12_1
  | 2, _ => run12_2
  | _ + 3, h => absurd h (by omega)
theorem runs13 : ∀ j : Nat, j < 3 → (lawRunF Try.prog R (cxT R (2 ^ 47 + 2 ^ 24) (0) (0) (0)) 25 7 [iv 0, iv 1] (isE (umdE 0 60) ((0) + ((13 : Nat) : Int)) ++ isE (umdE 1 3) ((0) + (j : Int))) []).good = true
  | 0, _ => run13_0
  | 1, _ => run13_1
  | 2, _ => run13_2
  | _ + 3, h => absurd h (by omega)
theorem runs14 : ∀ j : Nat, j < 3 → (lawRunF Try.prog R (cxT R (2 ^ 47 + 2 ^ 24) (0) (0) (0)) 25 7 [iv 0, iv 1] (isE (umdE 0 60) ((0) + ((14 : Nat) : Int)) ++ isE (umdE 1 3) ((0) + (j : Int))) []).good = true
  | 0, _ => run14_0
  | 1, _ => run14_1
  | 2, _ => run14_2
  | _ + 3, h => absurd h (by omega)
theorem runs15 : ∀ j : Nat, j < 3 → (lawRunF Try.prog R (cxT R (2 ^ 47 + 2 ^ 24) (0) (0) (0)) 25 7 [iv 0, iv 1] (isE (umdE 0 60) ((0) + ((15 : Nat) : Int)) ++ isE (umdE 1 3) ((0) + (j : Int))) []).good = true
  | 0, _ => run15_0
  | 1, _ => run15_1
  | 2, _ => run15_2
  | _ + 3, h => absurd h (by omega)
theorem runs16 : ∀ j : Nat, j < 3 → (lawRunF Try.prog R (cxT R (2 ^ 47 + 2 ^ 24) (0) (0) (0)) 25 7 [iv 0, iv 1] (isE (umdE 0 60) ((0) + ((16 : Nat) : Int)) ++ isE (umdE 1 3) ((0) + (j : Int))) []).good = true
  | 0, _ => run16_0
  | 1, _ => run16_1
  | 2, _ => run16_2
  | _ + 3, h => absurd h (by omega)
theorem runs17 : ∀ j : Nat, j < 3 → (lawRunF Try.prog R (cxT R (2 ^ 47 + 2 ^ 24) (0) (0) (0)) 25 7 [iv 0, iv 1] (isE (umdE 0 60) ((0) + ((17 : Nat) : Int)) ++ isE (umdE 1 3) ((0) + (j : Int))) []).good = true
  | 0, _ => run17_0
  | 1, _ => run17_1
  | 2, _ => run17_2
  | _ + 3, h => absurd h (by omega)
theorem runs18 : ∀ j : Nat, j < 3 → (lawRunF Try.prog R (cxT R (2 ^ 47 + 2 ^ 24) (0) (0) (0)) 25 7 [iv 0, iv 1] (isE (umdE 0 60) ((0) + ((18 : Nat) : Int)) ++ isE (umdE 1 3) ((0) + (j : Int))) []).good = true
  | 0, _ => run18_0
  | 1, _ => run18_1
  | 2, _ => run18_2
  | _ + 3, h => absurd h (by omega)
theorem runs19 : ∀ j : Nat, j < 3 → (lawRunF Try.prog R (cxT R (2 ^ 47 + 2 ^ 24) (0) (0) (0)) 25 7 [iv 0, iv 1] (isE (umdE 0 60) ((0) + ((19 : Nat) : Int)) ++ isE (umdE 1 3) ((0) + (j : Int))) []).good = true
  | 0, _ => run19_0
  | 1, _ => run19_1
  | 2, _ => run19_2
  | _ + 3, h => absurd h (by omega)
theorem runs20 : ∀ j : Nat, j < 3 → (lawRunF Try.prog R (cxT R (2 ^ 47 + 2 ^ 24) (0) (0) (0)) 25 7 [iv 0, iv 1] (isE (umdE 0 60) ((0) + ((20 : Nat) : Int)) ++ isE (umdE 1 3) ((0) + (j : Int))) []).good = true
  | 0, _ => run20_0
  | 1, _ => run20_1
  | 2, _ => run20_2
  | _ + 3, h => absurd h (by omega)
theorem runs21 : ∀ j : Nat, j < 3 → (lawRunF Try.prog R (cxT R (2 ^ 47 + 2 ^ 24) (0) (0) (0)) 25 7 [iv 0, iv 1] (isE (umdE 0 60) ((0) + ((21 : Nat) : Int)) ++ isE (umdE 1 3) ((0) + (j : Int))) []).good = true
  | 0, _ => run21_0
  | 1, _ => run21_1
  | 2, _ => run21_2
  | _ + 3, h => absurd h (by omega)
theorem runs22 : ∀ j : Nat, j < 3 → (lawRunF Try.prog R (cxT R (2 ^ 47 + 2 ^ 24) (0) (0) (0)) 25 7 [iv 0, iv 1] (isE (umdE 0 60) ((0) + ((22 : Nat) : Int)) ++ isE (umdE 1 3) ((0) + (j : Int))) []).good = true
  | 0, _ => run22_0
  | 1, _ => run22_1
  | 2, _ => run22_2
  | _ + 3, h => absurd h (by omega)
theorem runs23 : ∀ j : Nat, j < 3 → (lawRunF Try.prog R (cxT R (2 ^ 47 + 2 ^ 24) (0) (0) (0)) 25 7 [iv 0, iv 1] (isE (umdE 0 60) ((0) + ((23 : Nat) : Int)) ++ isE (umdE 1 3) ((0) + (j : Int))) []).good = true
  | 0, _ => run23_0
  | 1, _ => run23_1
  | 2, _ => run23_2
  | _ + 3, h => absurd h (by omega)
theorem runs24 : ∀ j : Nat, j < 3 → (lawRunF Try.prog R (cxT R (2 ^ 47 + 2 ^ 24) (0) (0) (0)) 25 7 [iv 0, iv 1] (isE (umdE 0 60) ((0) + ((24 : Nat) : Int)) ++ isE (umdE 1 3) ((0) + (j : Int))) []).good = true
  | 0, _ => run24_0
  | 1, _ => run24_1
  | 2, _ => run24_2
  | _ + 3, h => absurd h (by omega)
theorem runs25 : ∀ j : Nat, j < 3 → (lawRunF Try.prog R (cxT R (2 ^ 47 + 2 ^ 24) (0) (0) (0)) 25 7 [iv 0, iv 1] (isE (umdE 0 60) ((0) + ((25 : Nat) : Int)) ++ isE (umdE 1 3) ((0) + (j : Int))) []).good = true
  | 0, _ => run25_0
  | 1, _ => run25_1
  | 2, _ => run25_2
  | _ + 3, h => absurd h (by omega)
theorem runs26 : ∀ j : Nat, j < 3 → (lawRunF Try.prog R (cxT R (2 ^ 47 + 2 ^ 24) (0) (0) (0)) 25 7 [iv 0, iv 1] (isE (umdE 0 60) ((0) + ((26 : Nat) : Int)) ++ isE (umdE 1 3) ((0) + (j : Int))) []).good = true
  | 0, _ => run26_0
  | 1, _ => run26_1
  | 2, _ => run26_2
  | _ + 3, h => absurd h (by omega)
theorem runs27 : ∀ j : Nat, j < 3 → (lawRunF Try.prog R (cxT R (2 ^ 47 + 2 ^ 24) (0) (0) (0)) 25 7 [iv 0, iv 1] (isE (umdE 0 60) ((0) + ((27 : Nat) : Int)) ++ isE (umdE 1 3) ((0) + (j : Int))) []).good = true
  | 0, _ => run27_0
  | 1, _ => run27_1
  | 2, _ => run27_2
  | _ + 3, h => absurd h (by omega)
theorem runs28 : ∀ j : Nat, j < 3 → (lawRunF Try.prog R (cxT R (2 ^ 47 + 2 ^ 24) (0) (0) (0)) 25 7 [iv 0, iv 1] (isE (umdE 0 60) ((0) + ((28 : Nat) : Int)) ++ isE (umdE 1 3) ((0) + (j : Int))) []).good = true
  | 0, _ => run28_0
  | 1, _ => run28_1
  | 2, _ => run28_2
  | _ + 3, h => absurd h (by omega)
theorem runs29 : ∀ j : Nat, j < 3 → (lawRunF Try.prog R (cxT R (2 ^ 47 + 2 ^ 24) (0) (0) (0)) 25 7 [iv 0, iv 1] (isE (umdE 0 60) ((0) + ((29 : Nat) : Int)) ++ isE (umdE 1 3) ((0) + (j : Int))) []).good = true
  | 0, _ => run29_0
  | 1, _ => run29_1
  | 2, _ => run29_2
  | _ + 3, h => absurd h (by omega)
theorem runs30 : ∀ j : Nat, j < 3 → (lawRunF Try.prog R (cxT R (2 ^ 47 + 2 ^ 24) (0) (0) (0)) 25 7 [iv 0, iv 1] (isE (umdE 0 60) ((0) + ((30 : Nat) : Int)) ++ isE (umdE 1 3) ((0) + (j : Int))) []).good = true
  | 0, _ => run30_0
  | 1, _ => run30_1
  | 2, _ => run30_2
  | _ + 3, h => absurd h (by omega)
theorem runs31 : ∀ j : Nat, j < 3 → (lawRunF Try.prog R (cxT R (2 ^ 47 + 2 ^ 24) (0) (0) (0)) 25 7 [iv 0, iv 1] (isE (umdE 0 60) ((0) + ((31 : Nat) : Int)) ++ isE (umdE 1 3) ((0) + (j : Int))) []).good = true
  | 0, _ => run31_0
  | 1, _ => run31_1
  | 2, _ => run31_2
  | _ + 3, h => absurd h (by omega)
theorem runs32 : ∀ j : Nat, j < 3 → (lawRunF Try.prog R (cxT R (2 ^ 47 + 2 ^ 24) (0) (0) (0)) 25 7 [iv 0, iv 1] (isE (umdE 0 60) ((0) + ((32 : Nat) : Int)) ++ isE (umdE 1 3) ((0) + (j : Int))) []).good = true
  | 0, _ => run32_0
  | 1, _ => run32_1
  | 2, _ => run32_2
  | _ + 3, h => absurd h (by omega)
theorem runs33 : ∀ j : Nat, j < 3 → (lawRunF Try.prog R (cxT R (2 ^ 47 + 2 ^ 24) (0) (0) (0)) 25 7 [iv 0, iv 1] (isE (umdE 0 60) ((0) + ((33 : Nat) : Int)) ++ isE (umdE 1 3) ((0) + (j : Int))) []).good = true
  | 0, _ => run33_0
  | 1, _ => run33_1
  | 2, _ => run33_2
  | _ + 3, h => absurd h (by omega)
theorem runs34 : ∀ j : Nat, j < 3 → (lawRunF Try.prog R (cxT R (2 ^ 47 + 2 ^ 24) (0) (0) (0)) 25 7 [iv 0, iv 1] (isE (umdE 0 60) ((0) + ((34 : Nat) : Int)) ++ isE (umdE 1 3) ((0) + (j : Int))) []).good = true
  | 0, _ => run34_0
  | 1, _ => run34_1
  | 2, _ => run34_2
  | _ + 3, h => absurd h (by omega)
theorem runs35 : ∀ j : Nat, j < 3 → (lawRunF Try.prog R (cxT R (2 ^ 47 + 2 ^ 24) (0) (0) (0)) 25 7 [iv 0, iv 1] (isE (umdE 0 60) ((0) + ((35 : Nat) : Int)) ++ isE (umdE 1 3) ((0) + (j : Int))) []).good = true
  | 0, _ => run35_0
  | 1, _ => run35_1
  | 2, _ => run35_2
  | _ + 3, h => absurd h (by omega)
theorem runs36 : ∀ j : Nat, j < 3 → (lawRunF Try.prog R (cxT R (2 ^ 47 + 2 ^ 24) (0) (0) (0)) 25 7 [iv 0, iv 1] (isE (umdE 0 60) ((0) + ((36 : Nat) : Int)) ++ isE (umdE 1 3) ((0) + (j : Int))) []).good = true
  | 0, _ => run36_0
  | 1, _ => run36_1
  | 2, _ => run36_2
  | _ + 3, h => absurd h (by omega)
theorem runs37 : ∀ j : Nat, j < 3 → (lawRunF Try.prog R (cxT R (2 ^ 47 + 2 ^ 24) (0) (0) (0)) 25 7 [iv 0, iv 1] (isE (umdE 0 60) ((0) + ((37 : Nat) : Int)) ++ isE (umdE 1 3) ((0) + (j : Int))) []).good = true
  | 0, _ => run37_0
  | 1, _ => run37_1
  | 2, _ => run37_2
  | _ + 3, h => absurd h (by omega)
theorem runs38 : ∀ j : Nat, j < 3 → (lawRunF Try.prog R (cxT R (2 ^ 47 + 2 ^ 24) (0) (0) (0)) 25 7 [iv 0, iv 1] (isE (umdE 0 60) ((0) + ((38 : Nat) : Int)) ++ isE (umdE 1 3) ((0) + (j : Int))) []).good = true
  | 0, _ => run38_0
  | 1, _ => run38_1
  | 2, _ => run38_2
  | _ + 3, h => absurd h (by omega)
theorem runs39 : ∀ j : Nat, j < 3 → (lawRunF Try.prog R (cxT R (2 ^ 47 + 2 ^ 24) (0) (0) (0)) 25 7 [iv 0, iv 1] (isE (umdE 0 60) ((0) + ((39 : Nat) : Int)) ++ isE (umdE 1 3) ((0) + (j : Int))) []).good = true
  | 0, _ => run39_0
  | 1, _ => run39_1
  | 2, _ => run39_2
  | _ + 3, h => absurd h (by omega)
theorem runs40 : ∀ j : Nat, j < 3 → (lawRunF Try.prog R (cxT R (2 ^ 47 + 2 ^ 24) (0) (0) (0)) 25 7 [iv 0, iv 1] (isE (umdE 0 60) ((0) + ((40 : Nat) : Int)) ++ isE (umdE 1 3) ((0) + (j : Int))) []).good = true
  | 0, _ => run40_0
  | 1, _ => run40_1
  | 2, _ => run40_2
  | _ + 3, h => absurd h (by omega)
theorem runs41 : ∀ j : Nat, j < 3 → (lawRunF Try.prog R (cxT R (2 ^ 47 + 2 ^ 24) (0) (0) (0)) 25 7 [iv 0, iv 1] (isE (umdE 0 60) ((0) + ((41 : Nat) : Int)) ++ isE (umdE 1 3) ((0) + (j : Int))) []).good = true
  | 0, _ => run41_0
  | 1, _ => run41_1
  | 2, _ => run41_2
  | _ + 3, h => absurd h (by omega)
theorem runs42 : ∀ j : Nat, j < 3 → (lawRunF Try.prog R (cxT R (2 ^ 47 + 2 ^ 24) (0) (0) (0)) 25 7 [iv 0, iv 1] (isE (umdE 0 60) ((0) + ((42 : Nat) : Int)) ++ isE (umdE 1 3) ((0) + (j : Int))) []).good = true
  | 0, _ => run42_0
  | 1, _ => run42_1
  | 2, _ => run42_2
  | _ + 3, h => absurd h (by omega)
theorem runs43 : ∀ j : Nat, j < 3 → (lawRunF Try.prog R (cxT R (2 ^ 47 + 2 ^ 24) (0) (0) (0)) 25 7 [iv 0, iv 1] (isE (umdE 0 60) ((0) + ((43 : Nat) : Int)) ++ isE (umdE 1 3) ((0) + (j : Int))) []).good = true
  | 0, _ => run43_0
  | 1, _ => run43_1
  | 2, _ => run43_2
  | _ + 3, h => absurd h (by omega)
theorem runs44 : ∀ j : Nat, j < 3 → (lawRunF Try.prog R (cxT R (2 ^ 47 + 2 ^ 24) (0) (0) (0)) 25 7 [iv 0, iv 1] (isE (umdE 0 60) ((0) + ((44 : Nat) : Int)) ++ isE (umdE 1 3) ((0) + (j : Int))) []).good = true
  | 0, _ => run44_0
  | 1, _ => run44_1
  | 2, _ => run44_2
  | _ + 3, h => absurd h (by omega)
theorem runs45 : ∀ j : Nat, j < 3 → (lawRunF Try.prog R (cxT R (2 ^ 47 + 2 ^ 24) (0) (0) (0)) 25 7 [iv 0, iv 1] (isE (umdE 0 60) ((0) + ((45 : Nat) : Int)) ++ isE (umdE 1 3) ((0) + (j : Int))) []).good = true
  | 0, _ => run45_0
  | 1, _ => run45_1
  | 2, _ => run45_2
  | _ + 3, h => absurd h (by omega)
theorem runs46 : ∀ j : Nat, j < 3 → (lawRunF Try.prog R (cxT R (2 ^ 47 + 2 ^ 24) (0) (0) (0)) 25 7 [iv 0, iv 1] (isE (umdE 0 60) ((0) + ((46 : Nat) : Int)) ++ isE (umdE 1 3) ((0) + (j : Int))) []).good = true
  | 0, _ => run46_0
  | 1, _ => run46_1
  | 2, _ => run46_2
  | _ + 3, h => absurd h (by omega)
theorem runs47 : ∀ j : Nat, j < 3 → (lawRunF Try.prog R (cxT R (2 ^ 47 + 2 ^ 24) (0) (0) (0)) 25 7 [iv 0, iv 1] (isE (umdE 0 60) ((0) + ((47 : Nat) : Int)) ++ isE (umdE 1 3) ((0) + (j : Int))) []).good = true
  | 0, _ => run47_0
  | 1, _ => run47_1
  | 2, _ => run47_2
  | _ + 3, h => absurd h (by omega)
theorem runs48 : ∀ j : Nat, j < 3 → (lawRunF Try.prog R (cxT R (2 ^ 47 + 2 ^ 24) (0) (0) (0)) 25 7 [iv 0, iv 1] (isE (umdE 0 60) ((0) + ((48 : Nat) : Int)) ++ isE (umdE 1 3) ((0) + (j : Int))) []).good = true
  | 0, _ => run48_0
  | 1, _ => run48_1
  | 2, _ => run48_2
  | _ + 3, h => absurd h (by omega)
theorem runs49 : ∀ j : Nat, j < 3 → (lawRunF Try.prog R (cxT R (2 ^ 47 + 2 ^ 24) (0) (0) (0)) 25 7 [iv 0, iv 1] (isE (umdE 0 60) ((0) + ((49 : Nat) : Int)) ++ isE (umdE 1 3) ((0) + (j : Int))) []).good = true
  | 0, _ => run49_0
  | 1, _ => run49_1
  | 2, _ => run49_2
  | _ + 3, h => absurd h (by omega)
theorem runs50 : ∀ j : Nat, j < 3 → (lawRunF Try.prog R (cxT R (2 ^ 47 + 2 ^ 24) (0) (0) (0)) 25 7 [iv 0, iv 1] (isE (umdE 0 60) ((0) + ((50 : Nat) : Int)) ++ isE (umdE 1 3) ((0) + (j : Int))) []).good = true
  | 0, _ => run50_0
  | 1, _ => run50_1
  | 2, _ => run50_2
  | _ + 3, h => absurd h (by omega)
theorem runs51 : ∀ j : Nat, j < 3 → (lawRunF Try.prog R (cxT R (2 ^ 47 + 2 ^ 24) (0) (0) (0)) 25 7 [iv 0, iv 1] (isE (umdE 0 60) ((0) + ((51 : Nat) : Int)) ++ isE (umdE 1 3) ((0) + (j : Int))) []).good = true
  | 0, _ => run51_0
  | 1, _ => run51_1
  | 2, _ => run51_2
  | _ + 3, h => absurd h (by omega)
theorem runs52 : ∀ j : Nat, j < 3 → (lawRunF Try.prog R (cxT R (2 ^ 47 + 2 ^ 24) (0) (0) (0)) 25 7 [iv 0, iv 1] (isE (umdE 0 60) ((0) + ((52 : Nat) : Int)) ++ isE (umdE 1 3) ((0) + (j : Int))) []).good = true
  | 0, _ => run52_0
  | 1, _ => run52_1
  | 2, _ => run52_2
  | _ + 3, h => absurd h (by omega)
theorem runs53 : ∀ j : Nat, j < 3 → (lawRunF Try.prog R (cxT R (2 ^ 47 + 2 ^ 24) (0) (0) (0)) 25 7 [iv 0, iv 1] (isE (umdE 0 60) ((0) + ((53 : Nat) : Int)) ++ isE (umdE 1 3) ((0) + (j : Int))) []).good = true
  | 0, _ => run53_0
  | 1, _ => run53_1
  | 2, _ => run53_2
  | _ + 3, h => absurd h (by omega)
theorem runs54 : ∀ j : Nat, j < 3 → (lawRunF Try.prog R (cxT R (2 ^ 47 + 2 ^ 24) (0) (0) (0)) 25 7 [iv 0, iv 1] (isE (umdE 0 60) ((0) + ((54 : Nat) : Int)) ++ isE (umdE 1 3) ((0) + (j : Int))) []).good = true
  | 0, _ => run54_0
  | 1, _ => run54_1
  | 2, _ => run54_2
  | _ + 3, h => absurd h (by omega)
theorem runs55 : ∀ j : Nat, j < 3 → (lawRunF Try.prog R (cxT R (2 ^ 47 + 2 ^ 24) (0) (0) (0)) 25 7 [iv 0, iv 1] (isE (umdE 0 60) ((0) + ((55 : Nat) : Int)) ++ isE (umdE 1 3) ((0) + (j : Int))) []).good = true
  | 0, _ => run55_0
  | 1, _ => run55_1
  | 2, _ => run55_2
  | _ + 3, h => absurd h (by omega)
theorem runs56 : ∀ j : Nat, j < 3 → (lawRunF Try.prog R (cxT R (2 ^ 47 + 2 ^ 24) (0) (0) (0)) 25 7 [iv 0, iv 1] (isE (umdE 0 60) ((0) + ((56 : Nat) : Int)) ++ isE (umdE 1 3) ((0) + (j : Int))) []).good = true
  | 0, _ => run56_0
  | 1, _ => run56_1
  | 2, _ => run56_2
  | _ + 3, h => absurd h (by omega)
theorem runs57 : ∀ j : Nat, j < 3 → (lawRunF Try.prog R (cxT R (2 ^ 47 + 2 ^ 24) (0) (0) (0)) 25 7 [iv 0, iv 1] (isE (umdE 0 60) ((0) + ((57 : Nat) : Int)) ++ isE (umdE 1 3) ((0) + (j : Int))) []).good = true
  | 0, _ => run57_0
  | 1, _ => run57_1
  | 2, _ => run57_2
  | _ + 3, h => absurd h (by omega)
theorem runs58 : ∀ j : Nat, j < 3 → (lawRunF Try.prog R (cxT R (2 ^ 47 + 2 ^ 24) (0) (0) (0)) 25 7 [iv 0, iv 1] (isE (umdE 0 60) ((0) + ((58 : Nat) : Int)) ++ isE (umdE 1 3) ((0) + (j : Int))) []).good = true
  | 0, _ => run58_0
  | 1, _ => run58_1
  | 2, _ => run58_2
  | _ + 3, h => absurd h (by omega)
theorem runs59 : ∀ j : Nat, j < 3 → (lawRunF Try.prog R (cxT R (2 ^ 47 + 2 ^ 24) (0) (0) (0)) 25 7 [iv 0, iv 1] (isE (umdE 0 60) ((0) + ((59 : Nat) : Int)) ++ isE (umdE 1 3) ((0) + (j : Int))) []).good = true
  | 0, _ => run59_0
  | 1, _ => run59_1
  | 2, _ => run59_2
  | _ + 3, h => absurd h (by omega)
theorem runs : ∀ i : Nat, i < 60 → ∀ j : Nat, j < 3 → (lawRunF Try.prog R (cxT R (2 ^ 47 + 2 ^ 24) (0) (0) (0)) 25 7 [iv 0, iv 1] (isE (umdE 0 60) ((0) + (i : Int)) ++ isE (umdE 1 3) ((0) + (j : Int))) []).good = true
  | 0, _ => runs0
  | 1, _ => runs1
  | 2, _ => runs2
  | 3, _ => runs3
  | 4, _ => runs4
  | 5, _ => runs5
  | 6, _ => runs6
  | 7, _ => runs7
  | 8, _ => runs8
  | 9, _ => runs9
  | 10, _ => runs10
  | 11, _ => runs11
  | 12, _ => runs12
  | 13, _ => runs13
  | 14, _ => runs14
  | 15, _ => runs15
  | 16, _ => runs16
  | 17, _ => runs17
  | 18, _ => runs18
  | 19, _ => runs19
  | 20, _ => runs20
  | 21, _ => runs21
  | 22, _ => runs22
  | 23, _ => runs23
  | 24, _ => runs24
  | 25, _ => runs25
  | 26, _ => runs26
  | 27, _ => runs27
  | 28, _ => runs28
  | 29, _ => runs29
  | 30, _ => runs30
  | 31, _ => runs31
  | 32, _ => runs32
  | 33, _ => runs33
  | 34, _ => runs34
  | 35, _ => runs35
  | 36, _ => runs36
  | 37, _ => runs37
  | 38, _ => runs38
  | 39, _ => runs39
  | 40, _ => runs40
  | 41, _ => runs41
  | 42, _ => runs42
  | 43, _ => runs43
  | 44, _ => runs44
  | 45, _ => runs45
  | 46, _ => runs46
  | 47, _ => runs47
  | 48, _ => runs48
  | 49, _ => runs49
  | 50, _ => runs50
  | 51, _ => runs51
  | 52, _ => runs52
  | 53, _ => runs53
  | 54, _ => runs54
  | 55, _ => runs55
  | 56, _ => runs56
  | 57, _ => runs57
  | 58, _ => runs58
  | 59, _ => runs59
  | _ + 60, h => absurd h (by omega)
theorem walk (a0 : Int) (a1 : Int) (w : World) (w0 : (Lit.int .i64 a0).wf = true) (w1 : (Lit.int .i64 a1).wf = true) :
    Calls Try.prog 7 #[.int .i64 a0, .int .i64 a1] w fun e w' => e = .returned (.bool true) ∧ Below w.heap.size w w' := by
  have hR : R.ok (va [a0, a1] []) := rg_ok (lens := []) (bls := []) (sel := true) (spl := false) (by decide) (by decide) ⟨wf_bd w0, ⟨wf_bd w1, trivial⟩⟩ (fun r hr => by cases hr)
  have hA : ArgsOk (va [a0, a1] []) w := args_ok (fun r hr => by cases hr)
  exact law_atP2 hR (cxT_ok hR _ _ _ _) (e := umdE 0 60) (lo := 0) (m := 60) (e' := umdE 1 3) (lo' := 0) (m' := 3) (vs := #[.int .i64 a0, .int .i64 a1]) (fun N => rels_cons' (iv_rel 0 (by decide) rfl) (rels_cons' (iv_rel 1 (by decide) rfl) (rels_nil.2 rfl))) (of_decide_eq_true (by kernel_rfl)) (of_decide_eq_true (by kernel_rfl)) (of_decide_eq_true (by kernel_rfl)) (of_decide_eq_true (by kernel_rfl)) runs w hA

set_option maxRecDepth 100000 in
theorem lifted (os : Os) (started : os.Started) (H : Type) (enc : TypeId × Value → H) :
    ReturnsInHanded {} Try.checked os 7 .any (Rows.edgeRisesSpec.pre6 enc Try.prog Try.f7 Rows.edgeRisesRow.domain false) (Rows.edgeRisesSpec.post enc Try.prog Try.f7 false true false false) := by
  refine returnsInHanded_of_change (C := Try.checked) own started (by kernel_rfl) Try.func7
    (ChangeSpec.witness6 (enc := enc) (C := Try.checked) false ⟨#[], #[.int .i64 0, .int .i64 0], []⟩ 8 (by kernel_rfl) (by kernel_rfl) (by kernel_rfl) (by kernel_rfl)) ?_
  intro W base args ds gs before hval0 hW hcnd _
  have hval : ∀ (j : Nat) t v, Try.f7.params[j]? = some t → args[j]? = some v → Value.okWide Try.prog W .any base t v := hval0
  have hW' := hW
  obtain ⟨p, q, hA0, hV, rfl, hfz, hnd⟩ := hW
  have hA : DataW.TrodAll enc Try.prog W 0 (fun _ => true) true Try.f7.params.toList args.toList ds p := hA0
  rw [Try.params7] at hA hval
  obtain ⟨v0, vs0, d0, ds0, p0, q0, hargs, rfl, rfl, h0, r0⟩ := trodAll_cons hA
  obtain ⟨v1, vs1, d1, ds1, p1, q1, rfl, rfl, rfl, h1, r1⟩ := trodAll_cons r0
  obtain ⟨rfl, rfl, rfl⟩ := trodAll_nil r1
  obtain rfl : args = #[v0, v1] := by cases args; simp_all
  obtain ⟨rfl, rfl⟩ := trodVars_none hV
  obtain ⟨a0, rfl, rfl, rfl, w0⟩ := open_int Try.underlying3 (hval 0 3 v0 rfl rfl) h0
  obtain ⟨a1, rfl, rfl, rfl, w1⟩ := open_int Try.underlying3 (hval 1 3 v1 rfl rfl) h1
  clear hA0 hval0
  refine (walk a0 a1 W w0 w1).mono fun e W' ⟨he, bel⟩ => ?_
  subst he
  exact ⟨_, rfl, _, _, _, [], _, [], hW', trodAll_mk1 (shut_bool Try.underlying4 _), (trodAll_cons_mk (shut_int Try.underlying3 w0) (trodAll_cons_mk (shut_int Try.underlying3 w1) trodAll_mk0)), rfl, bel.frame _, fun h => by cases h⟩

theorem over : Rows.edgeRisesRow.holds Try.pinned (OpenSpec.ofChange Rows.edgeRisesSpec) :=
  OpenClaim.holds_of_wide 7 Try.f7 rfl rfl rfl rfl rfl rfl rfl ⟨rfl, rfl, rfl, rfl, rfl⟩ rfl rfl rfl rfl rfl (by kernel_rfl) Try.func7 (by kernel_rfl)
    (of_decide_eq_true (by kernel_rfl)) (by unfold Func.isWrapper; first | (rw [if_pos (by decide +kernel)]; kernel_rfl) | (rw [if_neg (by decide +kernel)]; exact ⟨rfl, rfl⟩))
    (fun os started H enc _ => lifted os started H enc)

/-- The statement. -/
theorem proved : Rows.EdgeRisesSaid := over
#print axioms proved
end Go.Proofs.Ytgmpkcdlffifoaa.edgeRises
