/- BumpSizes returns true for every input: it neither panics nor runs on, and what came in reads as before. Without a condition. The walk is one evaluation, in Lean's kernel, of a symbolic run that the texts Rx.. prove sound. -/
import Derived.Test.YtmaggffcjemagaaRows
import Derived.Test.YtmaggffcjemagaaRxAwake
import Derived.Test.YtmaggffcjemagaaBumpSizesR
import Derived.Test.YtmaggffcjemagaaBumpSizesP0
import Derived.Test.YtmaggffcjemagaaBumpSizesP1
import Derived.Test.YtmaggffcjemagaaBumpSizesP2
import Derived.Test.YtmaggffcjemagaaBumpSizesP3
import Derived.Test.YtmaggffcjemagaaBumpSizesP4
import Derived.Test.YtmaggffcjemagaaBumpSizesP5
import Derived.Test.YtmaggffcjemagaaBumpSizesP6
import Derived.Test.YtmaggffcjemagaaBumpSizesP7
import Derived.Test.YtmaggffcjemagaaBumpSizesP8
import Derived.Test.YtmaggffcjemagaaBumpSizesP9
import Derived.Test.YtmaggffcjemagaaBumpSizesP10
import Derived.Test.YtmaggffcjemagaaBumpSizesP11
import Derived.Test.YtmaggffcjemagaaBumpSizesP12
import Derived.Test.YtmaggffcjemagaaBumpSizesP13
import Derived.Test.YtmaggffcjemagaaBumpSizesP14
import Derived.Test.YtmaggffcjemagaaBumpSizesP15
import Derived.Test.YtmaggffcjemagaaBumpSizesP16
import Derived.Test.YtmaggffcjemagaaBumpSizesP17
import Derived.Test.YtmaggffcjemagaaBumpSizesP18
import Derived.WalkKit
import Derived.ProofKit
import Derived.OpenShut
import Derived.ShutString
import Derived.ChangeOld
import Derived.Below
namespace Go.Proofs.Ytmaggffcjemagaa.bumpSizes
open Go.ChangeShapes Go.WideShapes Go.ChangeAt Go.RowKit Go.RX Go.Proofs.Ytmaggffcjemagaa
set_option linter.unusedVariables false
theorem own : ownKnob Try.prog.godebug = none := by kernel_rfl
theorem laidOut : laidOutB Try.prog = true := by kernel_rfl
theorem walk1 (a0 a1 : Int) (w : World) (w0 : (Lit.int .i64 a0).wf = true) (w1 : (Lit.int .i64 a1).wf = true) (hk : S.den (va [a0, a1] []) = 1) :
    Calls Try.prog 3 #[.int .i64 a0, .int .i64 a1] w fun e w' => e = .returned (.bool true) ∧ Below w.heap.size w w' := by
  have hR : R.ok (va [a0, a1] []) := rg_ok (lens := []) (bls := []) (sel := false) (spl := false) (by decide) (by decide) ⟨wf_bd w0, ⟨wf_bd w1, trivial⟩⟩ (fun r hr => by cases hr)
  have hA : ArgsOk (va [a0, a1] []) w := args_ok (fun r hr => by cases hr)
  have rels : ∀ N, AV.rels (va [a0, a1] []) N [iv 0, iv 1] (#[.int .i64 a0, .int .i64 a1] : Array Value).toList := fun N => rels_cons' (iv_rel 0 (by decide) rfl) (rels_cons' (iv_rel 1 (by decide) rfl) (rels_nil.2 rfl))
  rcases Int.lt_or_le (D.den (va [a0, a1] [])) 0 with h | h
  · exact law_atF hR (fun _ h => cxT_ok h _ _ _ _ _) rels (fs_app (isE_ok hk) (le_ok (by omega))) run1lo w hA
  rcases Int.lt_or_le 1 (D.den (va [a0, a1] [])) with h' | h'
  · exact law_atF hR (fun _ h => cxT_ok h _ _ _ _ _) rels (fs_app (isE_ok hk) (ge_ok (by omega))) run1hi w hA
  have hc : D.den (va [a0, a1] []) = 0 ∨ D.den (va [a0, a1] []) = 1 := by omega
  rcases hc with hd | hd
  · exact law_atF hR (fun _ h => cxT_ok h _ _ _ _ _) rels (fs_app (isE_ok hk) (isE_ok hd)) run1_0 w hA
  · exact law_atF hR (fun _ h => cxT_ok h _ _ _ _ _) rels (fs_app (isE_ok hk) (isE_ok hd)) run1_1 w hA
theorem walk2 (a0 a1 : Int) (w : World) (w0 : (Lit.int .i64 a0).wf = true) (w1 : (Lit.int .i64 a1).wf = true) (hk : S.den (va [a0, a1] []) = 2) :
    Calls Try.prog 3 #[.int .i64 a0, .int .i64 a1] w fun e w' => e = .returned (.bool true) ∧ Below w.heap.size w w' := by
  have hR : R.ok (va [a0, a1] []) := rg_ok (lens := []) (bls := []) (sel := false) (spl := false) (by decide) (by decide) ⟨wf_bd w0, ⟨wf_bd w1, trivial⟩⟩ (fun r hr => by cases hr)
  have hA : ArgsOk (va [a0, a1] []) w := args_ok (fun r hr => by cases hr)
  have rels : ∀ N, AV.rels (va [a0, a1] []) N [iv 0, iv 1] (#[.int .i64 a0, .int .i64 a1] : Array Value).toList := fun N => rels_cons' (iv_rel 0 (by decide) rfl) (rels_cons' (iv_rel 1 (by decide) rfl) (rels_nil.2 rfl))
  rcases Int.lt_or_le (D.den (va [a0, a1] [])) 0 with h | h
  · exact law_atF hR (fun _ h => cxT_ok h _ _ _ _ _) rels (fs_app (isE_ok hk) (le_ok (by omega))) run2lo w hA
  rcases Int.lt_or_le 2 (D.den (va [a0, a1] [])) with h' | h'
  · exact law_atF hR (fun _ h => cxT_ok h _ _ _ _ _) rels (fs_app (isE_ok hk) (ge_ok (by omega))) run2hi w hA
  have hc : D.den (va [a0, a1] []) = 0 ∨ D.den (va [a0, a1] []) = 1 ∨ D.den (va [a0, a1] []) = 2 := by omega
  rcases hc with hd | hd | hd
  · exact law_atF hR (fun _ h => cxT_ok h _ _ _ _ _) rels (fs_app (isE_ok hk) (isE_ok hd)) run2_0 w hA
  · exact law_atF hR (fun _ h => cxT_ok h _ _ _ _ _) rels (fs_app (isE_ok hk) (isE_ok hd)) run2_1 w hA
  · exact law_atF hR (fun _ h => cxT_ok h _ _ _ _ _) rels (fs_app (isE_ok hk) (isE_ok hd)) run2_2 w hA
theorem walk3 (a0 a1 : Int) (w : World) (w0 : (Lit.int .i64 a0).wf = true) (w1 : (Lit.int .i64 a1).wf = true) (hk : S.den (va [a0, a1] []) = 3) :
    Calls Try.prog 3 #[.int .i64 a0, .int .i64 a1] w fun e w' => e = .returned (.bool true) ∧ Below w.heap.size w w' := by
  have hR : R.ok (va [a0, a1] []) := rg_ok (lens := []) (bls := []) (sel := false) (spl := false) (by decide) (by decide) ⟨wf_bd w0, ⟨wf_bd w1, trivial⟩⟩ (fun r hr => by cases hr)
  have hA : ArgsOk (va [a0, a1] []) w := args_ok (fun r hr => by cases hr)
  have rels : ∀ N, AV.rels (va [a0, a1] []) N [iv 0, iv 1] (#[.int .i64 a0, .int .i64 a1] : Array Value).toList := fun N => rels_cons' (iv_rel 0 (by decide) rfl) (rels_cons' (iv_rel 1 (by decide) rfl) (rels_nil.2 rfl))
  rcases Int.lt_or_le (D.den (va [a0, a1] [])) 0 with h | h
  · exact law_atF hR (fun _ h => cxT_ok h _ _ _ _ _) rels (fs_app (isE_ok hk) (le_ok (by omega))) run3lo w hA
  rcases Int.lt_or_le 3 (D.den (va [a0, a1] [])) with h' | h'
  · exact law_atF hR (fun _ h => cxT_ok h _ _ _ _ _) rels (fs_app (isE_ok hk) (ge_ok (by omega))) run3hi w hA
  have hc : D.den (va [a0, a1] []) = 0 ∨ D.den (va [a0, a1] []) = 1 ∨ D.den (va [a0, a1] []) = 2 ∨ D.den (va [a0, a1] []) = 3 := by omega
  rcases hc with hd | hd | hd | hd
  · exact law_atF hR (fun _ h => cxT_ok h _ _ _ _ _) rels (fs_app (isE_ok hk) (isE_ok hd)) run3_0 w hA
  · exact law_atF hR (fun _ h => cxT_ok h _ _ _ _ _) rels (fs_app (isE_ok hk) (isE_ok hd)) run3_1 w hA
  · exact law_atF hR (fun _ h => cxT_ok h _ _ _ _ _) rels (fs_app (isE_ok hk) (isE_ok hd)) run3_2 w hA
  · exact law_atF hR (fun _ h => cxT_ok h _ _ _ _ _) rels (fs_app (isE_ok hk) (isE_ok hd)) run3_3 w hA
theorem walk4 (a0 a1 : Int) (w : World) (w0 : (Lit.int .i64 a0).wf = true) (w1 : (Lit.int .i64 a1).wf = true) (hk : S.den (va [a0, a1] []) = 4) :
    Calls Try.prog 3 #[.int .i64 a0, .int .i64 a1] w fun e w' => e = .returned (.bool true) ∧ Below w.heap.size w w' := by
  have hR : R.ok (va [a0, a1] []) := rg_ok (lens := []) (bls := []) (sel := false) (spl := false) (by decide) (by decide) ⟨wf_bd w0, ⟨wf_bd w1, trivial⟩⟩ (fun r hr => by cases hr)
  have hA : ArgsOk (va [a0, a1] []) w := args_ok (fun r hr => by cases hr)
  have rels : ∀ N, AV.rels (va [a0, a1] []) N [iv 0, iv 1] (#[.int .i64 a0, .int .i64 a1] : Array Value).toList := fun N => rels_cons' (iv_rel 0 (by decide) rfl) (rels_cons' (iv_rel 1 (by decide) rfl) (rels_nil.2 rfl))
  rcases Int.lt_or_le (D.den (va [a0, a1] [])) 0 with h | h
  · exact law_atF hR (fun _ h => cxT_ok h _ _ _ _ _) rels (fs_app (isE_ok hk) (le_ok (by omega))) run4lo w hA
  rcases Int.lt_or_le 4 (D.den (va [a0, a1] [])) with h' | h'
  · exact law_atF hR (fun _ h => cxT_ok h _ _ _ _ _) rels (fs_app (isE_ok hk) (ge_ok (by omega))) run4hi w hA
  have hc : D.den (va [a0, a1] []) = 0 ∨ D.den (va [a0, a1] []) = 1 ∨ D.den (va [a0, a1] []) = 2 ∨ D.den (va [a0, a1] []) = 3 ∨ D.den (va [a0, a1] []) = 4 := by omega
  rcases hc with hd | hd | hd | hd | hd
  · exact law_atF hR (fun _ h => cxT_ok h _ _ _ _ _) rels (fs_app (isE_ok hk) (isE_ok hd)) run4_0 w hA
  · exact law_atF hR (fun _ h => cxT_ok h _ _ _ _ _) rels (fs_app (isE_ok hk) (isE_ok hd)) run4_1 w hA
  · exact law_atF hR (fun _ h => cxT_ok h _ _ _ _ _) rels (fs_app (isE_ok hk) (isE_ok hd)) run4_2 w hA
  · exact law_atF hR (fun _ h => cxT_ok h _ _ _ _ _) rels (fs_app (isE_ok hk) (isE_ok hd)) run4_3 w hA
  · exact law_atF hR (fun _ h => cxT_ok h _ _ _ _ _) rels (fs_app (isE_ok hk) (isE_ok hd)) run4_4 w hA
theorem walk5 (a0 a1 : Int) (w : World) (w0 : (Lit.int .i64 a0).wf = true) (w1 : (Lit.int .i64 a1).wf = true) (hk : S.den (va [a0, a1] []) = 5) :
    Calls Try.prog 3 #[.int .i64 a0, .int .i64 a1] w fun e w' => e = .returned (.bool true) ∧ Below w.heap.size w w' := by
  have hR : R.ok (va [a0, a1] []) := rg_ok (lens := []) (bls := []) (sel := false) (spl := false) (by decide) (by decide) ⟨wf_bd w0, ⟨wf_bd w1, trivial⟩⟩ (fun r hr => by cases hr)
  have hA : ArgsOk (va [a0, a1] []) w := args_ok (fun r hr => by cases hr)
  have rels : ∀ N, AV.rels (va [a0, a1] []) N [iv 0, iv 1] (#[.int .i64 a0, .int .i64 a1] : Array Value).toList := fun N => rels_cons' (iv_rel 0 (by decide) rfl) (rels_cons' (iv_rel 1 (by decide) rfl) (rels_nil.2 rfl))
  rcases Int.lt_or_le (D.den (va [a0, a1] [])) 0 with h | h
  · exact law_atF hR (fun _ h => cxT_ok h _ _ _ _ _) rels (fs_app (isE_ok hk) (le_ok (by omega))) run5lo w hA
  rcases Int.lt_or_le 5 (D.den (va [a0, a1] [])) with h' | h'
  · exact law_atF hR (fun _ h => cxT_ok h _ _ _ _ _) rels (fs_app (isE_ok hk) (ge_ok (by omega))) run5hi w hA
  have hc : D.den (va [a0, a1] []) = 0 ∨ D.den (va [a0, a1] []) = 1 ∨ D.den (va [a0, a1] []) = 2 ∨ D.den (va [a0, a1] []) = 3 ∨ D.den (va [a0, a1] []) = 4 ∨ D.den (va [a0, a1] []) = 5 := by omega
  rcases hc with hd | hd | hd | hd | hd | hd
  · exact law_atF hR (fun _ h => cxT_ok h _ _ _ _ _) rels (fs_app (isE_ok hk) (isE_ok hd)) run5_0 w hA
  · exact law_atF hR (fun _ h => cxT_ok h _ _ _ _ _) rels (fs_app (isE_ok hk) (isE_ok hd)) run5_1 w hA
  · exact law_atF hR (fun _ h => cxT_ok h _ _ _ _ _) rels (fs_app (isE_ok hk) (isE_ok hd)) run5_2 w hA
  · exact law_atF hR (fun _ h => cxT_ok h _ _ _ _ _) rels (fs_app (isE_ok hk) (isE_ok hd)) run5_3 w hA
  · exact law_atF hR (fun _ h => cxT_ok h _ _ _ _ _) rels (fs_app (isE_ok hk) (isE_ok hd)) run5_4 w hA
  · exact law_atF hR (fun _ h => cxT_ok h _ _ _ _ _) rels (fs_app (isE_ok hk) (isE_ok hd)) run5_5 w hA
theorem walk6 (a0 a1 : Int) (w : World) (w0 : (Lit.int .i64 a0).wf = true) (w1 : (Lit.int .i64 a1).wf = true) (hk : S.den (va [a0, a1] []) = 6) :
    Calls Try.prog 3 #[.int .i64 a0, .int .i64 a1] w fun e w' => e = .returned (.bool true) ∧ Below w.heap.size w w' := by
  have hR : R.ok (va [a0, a1] []) := rg_ok (lens := []) (bls := []) (sel := false) (spl := false) (by decide) (by decide) ⟨wf_bd w0, ⟨wf_bd w1, trivial⟩⟩ (fun r hr => by cases hr)
  have hA : ArgsOk (va [a0, a1] []) w := args_ok (fun r hr => by cases hr)
  have rels : ∀ N, AV.rels (va [a0, a1] []) N [iv 0, iv 1] (#[.int .i64 a0, .int .i64 a1] : Array Value).toList := fun N => rels_cons' (iv_rel 0 (by decide) rfl) (rels_cons' (iv_rel 1 (by decide) rfl) (rels_nil.2 rfl))
  rcases Int.lt_or_le (D.den (va [a0, a1] [])) 0 with h | h
  · exact law_atF hR (fun _ h => cxT_ok h _ _ _ _ _) rels (fs_app (isE_ok hk) (le_ok (by omega))) run6lo w hA
  rcases Int.lt_or_le 6 (D.den (va [a0, a1] [])) with h' | h'
  · exact law_atF hR (fun _ h => cxT_ok h _ _ _ _ _) rels (fs_app (isE_ok hk) (ge_ok (by omega))) run6hi w hA
  have hc : D.den (va [a0, a1] []) = 0 ∨ D.den (va [a0, a1] []) = 1 ∨ D.den (va [a0, a1] []) = 2 ∨ D.den (va [a0, a1] []) = 3 ∨ D.den (va [a0, a1] []) = 4 ∨ D.den (va [a0, a1] []) = 5 ∨ D.den (va [a0, a1] []) = 6 := by omega
  rcases hc with hd | hd | hd | hd | hd | hd | hd
  · exact law_atF hR (fun _ h => cxT_ok h _ _ _ _ _) rels (fs_app (isE_ok hk) (isE_ok hd)) run6_0 w hA
  · exact law_atF hR (fun _ h => cxT_ok h _ _ _ _ _) rels (fs_app (isE_ok hk) (isE_ok hd)) run6_1 w hA
  · exact law_atF hR (fun _ h => cxT_ok h _ _ _ _ _) rels (fs_app (isE_ok hk) (isE_ok hd)) run6_2 w hA
  · exact law_atF hR (fun _ h => cxT_ok h _ _ _ _ _) rels (fs_app (isE_ok hk) (isE_ok hd)) run6_3 w hA
  · exact law_atF hR (fun _ h => cxT_ok h _ _ _ _ _) rels (fs_app (isE_ok hk) (isE_ok hd)) run6_4 w hA
  · exact law_atF hR (fun _ h => cxT_ok h _ _ _ _ _) rels (fs_app (isE_ok hk) (isE_ok hd)) run6_5 w hA
  · exact law_atF hR (fun _ h => cxT_ok h _ _ _ _ _) rels (fs_app (isE_ok hk) (isE_ok hd)) run6_6 w hA
theorem walk7 (a0 a1 : Int) (w : World) (w0 : (Lit.int .i64 a0).wf = true) (w1 : (Lit.int .i64 a1).wf = true) (hk : S.den (va [a0, a1] []) = 7) :
    Calls Try.prog 3 #[.int .i64 a0, .int .i64 a1] w fun e w' => e = .returned (.bool true) ∧ Below w.heap.size w w' := by
  have hR : R.ok (va [a0, a1] []) := rg_ok (lens := []) (bls := []) (sel := false) (spl := false) (by decide) (by decide) ⟨wf_bd w0, ⟨wf_bd w1, trivial⟩⟩ (fun r hr => by cases hr)
  have hA : ArgsOk (va [a0, a1] []) w := args_ok (fun r hr => by cases hr)
  have rels : ∀ N, AV.rels (va [a0, a1] []) N [iv 0, iv 1] (#[.int .i64 a0, .int .i64 a1] : Array Value).toList := fun N => rels_cons' (iv_rel 0 (by decide) rfl) (rels_cons' (iv_rel 1 (by decide) rfl) (rels_nil.2 rfl))
  rcases Int.lt_or_le (D.den (va [a0, a1] [])) 0 with h | h
  · exact law_atF hR (fun _ h => cxT_ok h _ _ _ _ _) rels (fs_app (isE_ok hk) (le_ok (by omega))) run7lo w hA
  rcases Int.lt_or_le 7 (D.den (va [a0, a1] [])) with h' | h'
  · exact law_atF hR (fun _ h => cxT_ok h _ _ _ _ _) rels (fs_app (isE_ok hk) (ge_ok (by omega))) run7hi w hA
  have hc : D.den (va [a0, a1] []) = 0 ∨ D.den (va [a0, a1] []) = 1 ∨ D.den (va [a0, a1] []) = 2 ∨ D.den (va [a0, a1] []) = 3 ∨ D.den (va [a0, a1] []) = 4 ∨ D.den (va [a0, a1] []) = 5 ∨ D.den (va [a0, a1] []) = 6 ∨ D.den (va [a0, a1] []) = 7 := by omega
  rcases hc with hd | hd | hd | hd | hd | hd | hd | hd
  · exact law_atF hR (fun _ h => cxT_ok h _ _ _ _ _) rels (fs_app (isE_ok hk) (isE_ok hd)) run7_0 w hA
  · exact law_atF hR (fun _ h => cxT_ok h _ _ _ _ _) rels (fs_app (isE_ok hk) (isE_ok hd)) run7_1 w hA
  · exact law_atF hR (fun _ h => cxT_ok h _ _ _ _ _) rels (fs_app (isE_ok hk) (isE_ok hd)) run7_2 w hA
  · exact law_atF hR (fun _ h => cxT_ok h _ _ _ _ _) rels (fs_app (isE_ok hk) (isE_ok hd)) run7_3 w hA
  · exact law_atF hR (fun _ h => cxT_ok h _ _ _ _ _) rels (fs_app (isE_ok hk) (isE_ok hd)) run7_4 w hA
  · exact law_atF hR (fun _ h => cxT_ok h _ _ _ _ _) rels (fs_app (isE_ok hk) (isE_ok hd)) run7_5 w hA
  · exact law_atF hR (fun _ h => cxT_ok h _ _ _ _ _) rels (fs_app (isE_ok hk) (isE_ok hd)) run7_6 w hA
  · exact law_atF hR (fun _ h => cxT_ok h _ _ _ _ _) rels (fs_app (isE_ok hk) (isE_ok hd)) run7_7 w hA
theorem walk8 (a0 a1 : Int) (w : World) (w0 : (Lit.int .i64 a0).wf = true) (w1 : (Lit.int .i64 a1).wf = true) (hk : S.den (va [a0, a1] []) = 8) :
    Calls Try.prog 3 #[.int .i64 a0, .int .i64 a1] w fun e w' => e = .returned (.bool true) ∧ Below w.heap.size w w' := by
  have hR : R.ok (va [a0, a1] []) := rg_ok (lens := []) (bls := []) (sel := false) (spl := false) (by decide) (by decide) ⟨wf_bd w0, ⟨wf_bd w1, trivial⟩⟩ (fun r hr => by cases hr)
  have hA : ArgsOk (va [a0, a1] []) w := args_ok (fun r hr => by cases hr)
  have rels : ∀ N, AV.rels (va [a0, a1] []) N [iv 0, iv 1] (#[.int .i64 a0, .int .i64 a1] : Array Value).toList := fun N => rels_cons' (iv_rel 0 (by decide) rfl) (rels_cons' (iv_rel 1 (by decide) rfl) (rels_nil.2 rfl))
  rcases Int.lt_or_le (D.den (va [a0, a1] [])) 0 with h | h
  · exact law_atF hR (fun _ h => cxT_ok h _ _ _ _ _) rels (fs_app (isE_ok hk) (le_ok (by omega))) run8lo w hA
  rcases Int.lt_or_le 8 (D.den (va [a0, a1] [])) with h' | h'
  · exact law_atF hR (fun _ h => cxT_ok h _ _ _ _ _) rels (fs_app (isE_ok hk) (ge_ok (by omega))) run8hi w hA
  have hc : D.den (va [a0, a1] []) = 0 ∨ D.den (va [a0, a1] []) = 1 ∨ D.den (va [a0, a1] []) = 2 ∨ D.den (va [a0, a1] []) = 3 ∨ D.den (va [a0, a1] []) = 4 ∨ D.den (va [a0, a1] []) = 5 ∨ D.den (va [a0, a1] []) = 6 ∨ D.den (va [a0, a1] []) = 7 ∨ D.den (va [a0, a1] []) = 8 := by omega
  rcases hc with hd | hd | hd | hd | hd | hd | hd | hd | hd
  · exact law_atF hR (fun _ h => cxT_ok h _ _ _ _ _) rels (fs_app (isE_ok hk) (isE_ok hd)) run8_0 w hA
  · exact law_atF hR (fun _ h => cxT_ok h _ _ _ _ _) rels (fs_app (isE_ok hk) (isE_ok hd)) run8_1 w hA
  · exact law_atF hR (fun _ h => cxT_ok h _ _ _ _ _) rels (fs_app (isE_ok hk) (isE_ok hd)) run8_2 w hA
  · exact law_atF hR (fun _ h => cxT_ok h _ _ _ _ _) rels (fs_app (isE_ok hk) (isE_ok hd)) run8_3 w hA
  · exact law_atF hR (fun _ h => cxT_ok h _ _ _ _ _) rels (fs_app (isE_ok hk) (isE_ok hd)) run8_4 w hA
  · exact law_atF hR (fun _ h => cxT_ok h _ _ _ _ _) rels (fs_app (isE_ok hk) (isE_ok hd)) run8_5 w hA
  · exact law_atF hR (fun _ h => cxT_ok h _ _ _ _ _) rels (fs_app (isE_ok hk) (isE_ok hd)) run8_6 w hA
  · exact law_atF hR (fun _ h => cxT_ok h _ _ _ _ _) rels (fs_app (isE_ok hk) (isE_ok hd)) run8_7 w hA
  · exact law_atF hR (fun _ h => cxT_ok h _ _ _ _ _) rels (fs_app (isE_ok hk) (isE_ok hd)) run8_8 w hA
theorem walk9 (a0 a1 : Int) (w : World) (w0 : (Lit.int .i64 a0).wf = true) (w1 : (Lit.int .i64 a1).wf = true) (hk : S.den (va [a0, a1] []) = 9) :
    Calls Try.prog 3 #[.int .i64 a0, .int .i64 a1] w fun e w' => e = .returned (.bool true) ∧ Below w.heap.size w w' := by
  have hR : R.ok (va [a0, a1] []) := rg_ok (lens := []) (bls := []) (sel := false) (spl := false) (by decide) (by decide) ⟨wf_bd w0, ⟨wf_bd w1, trivial⟩⟩ (fun r hr => by cases hr)
  have hA : ArgsOk (va [a0, a1] []) w := args_ok (fun r hr => by cases hr)
  have rels : ∀ N, AV.rels (va [a0, a1] []) N [iv 0, iv 1] (#[.int .i64 a0, .int .i64 a1] : Array Value).toList := fun N => rels_cons' (iv_rel 0 (by decide) rfl) (rels_cons' (iv_rel 1 (by decide) rfl) (rels_nil.2 rfl))
  rcases Int.lt_or_le (D.den (va [a0, a1] [])) 0 with h | h
  · exact law_atF hR (fun _ h => cxT_ok h _ _ _ _ _) rels (fs_app (isE_ok hk) (le_ok (by omega))) run9lo w hA
  rcases Int.lt_or_le 9 (D.den (va [a0, a1] [])) with h' | h'
  · exact law_atF hR (fun _ h => cxT_ok h _ _ _ _ _) rels (fs_app (isE_ok hk) (ge_ok (by omega))) run9hi w hA
  have hc : D.den (va [a0, a1] []) = 0 ∨ D.den (va [a0, a1] []) = 1 ∨ D.den (va [a0, a1] []) = 2 ∨ D.den (va [a0, a1] []) = 3 ∨ D.den (va [a0, a1] []) = 4 ∨ D.den (va [a0, a1] []) = 5 ∨ D.den (va [a0, a1] []) = 6 ∨ D.den (va [a0, a1] []) = 7 ∨ D.den (va [a0, a1] []) = 8 ∨ D.den (va [a0, a1] []) = 9 := by omega
  rcases hc with hd | hd | hd | hd | hd | hd | hd | hd | hd | hd
  · exact law_atF hR (fun _ h => cxT_ok h _ _ _ _ _) rels (fs_app (isE_ok hk) (isE_ok hd)) run9_0 w hA
  · exact law_atF hR (fun _ h => cxT_ok h _ _ _ _ _) rels (fs_app (isE_ok hk) (isE_ok hd)) run9_1 w hA
  · exact law_atF hR (fun _ h => cxT_ok h _ _ _ _ _) rels (fs_app (isE_ok hk) (isE_ok hd)) run9_2 w hA
  · exact law_atF hR (fun _ h => cxT_ok h _ _ _ _ _) rels (fs_app (isE_ok hk) (isE_ok hd)) run9_3 w hA
  · exact law_atF hR (fun _ h => cxT_ok h _ _ _ _ _) rels (fs_app (isE_ok hk) (isE_ok hd)) run9_4 w hA
  · exact law_atF hR (fun _ h => cxT_ok h _ _ _ _ _) rels (fs_app (isE_ok hk) (isE_ok hd)) run9_5 w hA
  · exact law_atF hR (fun _ h => cxT_ok h _ _ _ _ _) rels (fs_app (isE_ok hk) (isE_ok hd)) run9_6 w hA
  · exact law_atF hR (fun _ h => cxT_ok h _ _ _ _ _) rels (fs_app (isE_ok hk) (isE_ok hd)) run9_7 w hA
  · exact law_atF hR (fun _ h => cxT_ok h _ _ _ _ _) rels (fs_app (isE_ok hk) (isE_ok hd)) run9_8 w hA
  · exact law_atF hR (fun _ h => cxT_ok h _ _ _ _ _) rels (fs_app (isE_ok hk) (isE_ok hd)) run9_9 w hA
theorem walk (a0 : Int) (a1 : Int) (w : World) (w0 : (Lit.int .i64 a0).wf = true) (w1 : (Lit.int .i64 a1).wf = true) :
    Calls Try.prog 3 #[.int .i64 a0, .int .i64 a1] w fun e w' => e = .returned (.bool true) ∧ Below w.heap.size w w' := by
  have hR : R.ok (va [a0, a1] []) := rg_ok (lens := []) (bls := []) (sel := false) (spl := false) (by decide) (by decide) ⟨wf_bd w0, ⟨wf_bd w1, trivial⟩⟩ (fun r hr => by cases hr)
  have hA : ArgsOk (va [a0, a1] []) w := args_ok (fun r hr => by cases hr)
  have rels : ∀ N, AV.rels (va [a0, a1] []) N [iv 0, iv 1] (#[.int .i64 a0, .int .i64 a1] : Array Value).toList := fun N => rels_cons' (iv_rel 0 (by decide) rfl) (rels_cons' (iv_rel 1 (by decide) rfl) (rels_nil.2 rfl))
  rcases Int.lt_or_le (S.den (va [a0, a1] [])) 1 with h | h
  · exact law_atF hR (fun _ h => cxT_ok h _ _ _ _ _) rels (le_ok (by omega)) runlo w hA
  rcases Int.lt_or_le 9 (S.den (va [a0, a1] [])) with h' | h'
  · exact law_atF hR (fun _ h => cxT_ok h _ _ _ _ _) rels (ge_ok (by omega)) runhi w hA
  have hc : S.den (va [a0, a1] []) = 1 ∨ S.den (va [a0, a1] []) = 2 ∨ S.den (va [a0, a1] []) = 3 ∨ S.den (va [a0, a1] []) = 4 ∨ S.den (va [a0, a1] []) = 5 ∨ S.den (va [a0, a1] []) = 6 ∨ S.den (va [a0, a1] []) = 7 ∨ S.den (va [a0, a1] []) = 8 ∨ S.den (va [a0, a1] []) = 9 := by omega
  rcases hc with hk | hk | hk | hk | hk | hk | hk | hk | hk
  · exact walk1 a0 a1 w w0 w1 hk
  · exact walk2 a0 a1 w w0 w1 hk
  · exact walk3 a0 a1 w w0 w1 hk
  · exact walk4 a0 a1 w w0 w1 hk
  · exact walk5 a0 a1 w w0 w1 hk
  · exact walk6 a0 a1 w w0 w1 hk
  · exact walk7 a0 a1 w w0 w1 hk
  · exact walk8 a0 a1 w w0 w1 hk
  · exact walk9 a0 a1 w w0 w1 hk

set_option maxRecDepth 100000 in
theorem lifted (os : Os) (started : os.Started) (H : Type) (enc : TypeId × Value → H) :
    ReturnsInHanded {} Try.checked os 3 .any (Rows.bumpSizesSpec.pre6 enc Try.prog Try.f3 Rows.bumpSizesRow.domain false) (Rows.bumpSizesSpec.post enc Try.prog Try.f3 false true false false) := by
  refine returnsInHanded_of_change (C := Try.checked) own started (by kernel_rfl) Try.func3
    (ChangeSpec.witness6 (enc := enc) (C := Try.checked) false ⟨#[], #[.int .i64 0, .int .i64 0], []⟩ 8 (by kernel_rfl) (by kernel_rfl) (by kernel_rfl) (by kernel_rfl)) ?_
  intro W base args ds gs before hval0 hW hcnd _
  have hval : ∀ (j : Nat) t v, Try.f3.params[j]? = some t → args[j]? = some v → Value.okWide Try.prog W .any base t v := hval0
  have hW' := hW
  obtain ⟨p, q, hA0, hV, rfl, hfz, hnd⟩ := hW
  have hA : DataW.TrodAll enc Try.prog W 0 (fun _ => true) true Try.f3.params.toList args.toList ds p := hA0
  rw [Try.params3] at hA hval
  obtain ⟨v0, vs0, d0, ds0, p0, q0, hargs, rfl, rfl, h0, r0⟩ := trodAll_cons hA
  obtain ⟨v1, vs1, d1, ds1, p1, q1, rfl, rfl, rfl, h1, r1⟩ := trodAll_cons r0
  obtain ⟨rfl, rfl, rfl⟩ := trodAll_nil r1
  obtain rfl : args = #[v0, v1] := by cases args; simp_all
  obtain ⟨rfl, rfl⟩ := trodVars_none hV
  obtain ⟨a0, rfl, rfl, rfl, w0⟩ := open_int Try.underlying3 (hval 0 3 v0 rfl rfl) h0
  obtain ⟨a1, rfl, rfl, rfl, w1⟩ := open_int Try.underlying3 (hval 1 3 v1 rfl rfl) h1
  clear hA0 hval0
  refine (walk a0 a1 W w0 w1).mono fun e W' ⟨he, bel⟩ => ?_
  subst he
  exact ⟨_, rfl, _, _, _, [], _, [], hW', trodAll_mk1 (shut_bool Try.underlying4 _), (trodAll_cons_mk (shut_int Try.underlying3 w0) (trodAll_cons_mk (shut_int Try.underlying3 w1) trodAll_mk0)), rfl, bel.frame _, fun h => by cases h⟩

theorem over : Rows.bumpSizesRow.holds Try.pinned (OpenSpec.ofChange Rows.bumpSizesSpec) :=
  OpenClaim.holds_of_wide 3 Try.f3 rfl rfl rfl rfl rfl rfl rfl ⟨rfl, rfl, rfl, rfl, rfl⟩ rfl rfl rfl rfl rfl (by kernel_rfl) Try.func3 (by kernel_rfl)
    (of_decide_eq_true (by kernel_rfl)) (by unfold Func.isWrapper; first | (rw [if_pos (by decide +kernel)]; kernel_rfl) | (rw [if_neg (by decide +kernel)]; exact ⟨rfl, rfl⟩))
    (fun os started H enc _ => lifted os started H enc)

/-- The statement. -/
theorem proved : Rows.BumpSizesSaid := over
#print axioms proved
end Go.Proofs.Ytmaggffcjemagaa.bumpSizes
