/- BumpAtOnce returns true for every input: it neither panics nor runs on, and what came in reads as before. Without a condition. The walk is one evaluation, in Lean's kernel, of a symbolic run that the texts Rx.. prove sound. -/
import Derived.Test.YtmaggffcjemagaaRows
import Derived.Test.YtmaggffcjemagaaRxAwake
import Derived.Test.YtmaggffcjemagaaBumpAtOnceR
import Derived.Test.YtmaggffcjemagaaBumpAtOnceP0
import Derived.Test.YtmaggffcjemagaaBumpAtOnceP1
import Derived.Test.YtmaggffcjemagaaBumpAtOnceP2
import Derived.Test.YtmaggffcjemagaaBumpAtOnceP3
import Derived.Test.YtmaggffcjemagaaBumpAtOnceP4
import Derived.Test.YtmaggffcjemagaaBumpAtOnceP5
import Derived.Test.YtmaggffcjemagaaBumpAtOnceP6
import Derived.Test.YtmaggffcjemagaaBumpAtOnceP7
import Derived.Test.YtmaggffcjemagaaBumpAtOnceP8
import Derived.Test.YtmaggffcjemagaaBumpAtOnceP9
import Derived.Test.YtmaggffcjemagaaBumpAtOnceP10
import Derived.Test.YtmaggffcjemagaaBumpAtOnceP11
import Derived.Test.YtmaggffcjemagaaBumpAtOnceP12
import Derived.Test.YtmaggffcjemagaaBumpAtOnceP13
import Derived.Test.YtmaggffcjemagaaBumpAtOnceP14
import Derived.Test.YtmaggffcjemagaaBumpAtOnceP15
import Derived.Test.YtmaggffcjemagaaBumpAtOnceP16
import Derived.Test.YtmaggffcjemagaaBumpAtOnceP17
import Derived.Test.YtmaggffcjemagaaBumpAtOnceP18
import Derived.Test.YtmaggffcjemagaaBumpAtOnceP19
import Derived.Test.YtmaggffcjemagaaBumpAtOnceP20
import Derived.Test.YtmaggffcjemagaaBumpAtOnceP21
import Derived.Test.YtmaggffcjemagaaBumpAtOnceP22
import Derived.WalkKit
import Derived.ProofKit
import Derived.OpenShut
import Derived.ShutString
import Derived.ChangeOld
import Derived.Below
namespace Go.Proofs.Ytmaggffcjemagaa.bumpAtOnce
open Go.ChangeShapes Go.WideShapes Go.ChangeAt Go.RowKit Go.RX Go.Proofs.Ytmaggffcjemagaa
set_option linter.unusedVariables false
theorem own : ownKnob Try.prog.godebug = none := by kernel_rfl
theorem laidOut : laidOutB Try.prog = true := by kernel_rfl
theorem andE_bd {V : Va} (v : Nat) (m : Nat) (hm : (m : Int) ≤ 9223372036854775807 := by decide) : 0 ≤ (andE v m).den V ∧ (andE v m).den V ≤ m := by
  unfold andE
  rw [den_mkBit]
  exact bitI_and (kd := .i64) (show (0 : Int) ≤ (m : Int) by omega) hm
theorem walk0 (a0 a1 : Int) (w : World) (w0 : (Lit.int .i64 a0).wf = true) (w1 : (Lit.int .i64 a1).wf = true) (hk : (andE 0 7).den (va [a0, a1] []) = 0) :
    Calls Try.prog 6 #[.int .i64 a0, .int .i64 a1] w fun e w' => e = .returned (.bool true) ∧ Below w.heap.size w w' := by
  have hR : R.ok (va [a0, a1] []) := rg_ok (lens := []) (bls := []) (sel := false) (spl := false) (by decide) (by decide) ⟨wf_bd w0, ⟨wf_bd w1, trivial⟩⟩ (fun r hr => by cases hr)
  have hA : ArgsOk (va [a0, a1] []) w := args_ok (fun r hr => by cases hr)
  have rels : ∀ N, AV.rels (va [a0, a1] []) N [iv 0, iv 1] (#[.int .i64 a0, .int .i64 a1] : Array Value).toList := fun N => rels_cons' (iv_rel 0 (by decide) rfl) (rels_cons' (iv_rel 1 (by decide) rfl) (rels_nil.2 rfl))
  exact law_atF hR (fun _ h => cxT_ok h _ _ _ _ _) rels (fs_app (isE_ok hk) (fs_nil)) run0_x w hA
theorem walk1 (a0 a1 : Int) (w : World) (w0 : (Lit.int .i64 a0).wf = true) (w1 : (Lit.int .i64 a1).wf = true) (hk : (andE 0 7).den (va [a0, a1] []) = 1) :
    Calls Try.prog 6 #[.int .i64 a0, .int .i64 a1] w fun e w' => e = .returned (.bool true) ∧ Below w.heap.size w w' := by
  have hR : R.ok (va [a0, a1] []) := rg_ok (lens := []) (bls := []) (sel := false) (spl := false) (by decide) (by decide) ⟨wf_bd w0, ⟨wf_bd w1, trivial⟩⟩ (fun r hr => by cases hr)
  have hA : ArgsOk (va [a0, a1] []) w := args_ok (fun r hr => by cases hr)
  have rels : ∀ N, AV.rels (va [a0, a1] []) N [iv 0, iv 1] (#[.int .i64 a0, .int .i64 a1] : Array Value).toList := fun N => rels_cons' (iv_rel 0 (by decide) rfl) (rels_cons' (iv_rel 1 (by decide) rfl) (rels_nil.2 rfl))
  exact law_atF hR (fun _ h => cxT_ok h _ _ _ _ _) rels (fs_app (isE_ok hk) (fs_nil)) run1_x w hA
theorem walk2 (a0 a1 : Int) (w : World) (w0 : (Lit.int .i64 a0).wf = true) (w1 : (Lit.int .i64 a1).wf = true) (hk : (andE 0 7).den (va [a0, a1] []) = 2) :
    Calls Try.prog 6 #[.int .i64 a0, .int .i64 a1] w fun e w' => e = .returned (.bool true) ∧ Below w.heap.size w w' := by
  have hR : R.ok (va [a0, a1] []) := rg_ok (lens := []) (bls := []) (sel := false) (spl := false) (by decide) (by decide) ⟨wf_bd w0, ⟨wf_bd w1, trivial⟩⟩ (fun r hr => by cases hr)
  have hA : ArgsOk (va [a0, a1] []) w := args_ok (fun r hr => by cases hr)
  have rels : ∀ N, AV.rels (va [a0, a1] []) N [iv 0, iv 1] (#[.int .i64 a0, .int .i64 a1] : Array Value).toList := fun N => rels_cons' (iv_rel 0 (by decide) rfl) (rels_cons' (iv_rel 1 (by decide) rfl) (rels_nil.2 rfl))
  exact law_atF hR (fun _ h => cxT_ok h _ _ _ _ _) rels (fs_app (isE_ok hk) (fs_nil)) run2_x w hA
theorem walk3 (a0 a1 : Int) (w : World) (w0 : (Lit.int .i64 a0).wf = true) (w1 : (Lit.int .i64 a1).wf = true) (hk : (andE 0 7).den (va [a0, a1] []) = 3) :
    Calls Try.prog 6 #[.int .i64 a0, .int .i64 a1] w fun e w' => e = .returned (.bool true) ∧ Below w.heap.size w w' := by
  have hR : R.ok (va [a0, a1] []) := rg_ok (lens := []) (bls := []) (sel := false) (spl := false) (by decide) (by decide) ⟨wf_bd w0, ⟨wf_bd w1, trivial⟩⟩ (fun r hr => by cases hr)
  have hA : ArgsOk (va [a0, a1] []) w := args_ok (fun r hr => by cases hr)
  have rels : ∀ N, AV.rels (va [a0, a1] []) N [iv 0, iv 1] (#[.int .i64 a0, .int .i64 a1] : Array Value).toList := fun N => rels_cons' (iv_rel 0 (by decide) rfl) (rels_cons' (iv_rel 1 (by decide) rfl) (rels_nil.2 rfl))
  rcases bt_01 (V := va [a0, a1] []) 0 with hb0 | hb0
  ·
    exact law_atF hR (fun _ h => cxT_ok h _ _ _ _ _) rels (fs_app (isE_ok hk) (fs_app (isE_ok hb0) (fs_nil))) run3_0 w hA
  ·
    exact law_atF hR (fun _ h => cxT_ok h _ _ _ _ _) rels (fs_app (isE_ok hk) (fs_app (isE_ok hb0) (fs_nil))) run3_1 w hA
theorem walk4 (a0 a1 : Int) (w : World) (w0 : (Lit.int .i64 a0).wf = true) (w1 : (Lit.int .i64 a1).wf = true) (hk : (andE 0 7).den (va [a0, a1] []) = 4) :
    Calls Try.prog 6 #[.int .i64 a0, .int .i64 a1] w fun e w' => e = .returned (.bool true) ∧ Below w.heap.size w w' := by
  have hR : R.ok (va [a0, a1] []) := rg_ok (lens := []) (bls := []) (sel := false) (spl := false) (by decide) (by decide) ⟨wf_bd w0, ⟨wf_bd w1, trivial⟩⟩ (fun r hr => by cases hr)
  have hA : ArgsOk (va [a0, a1] []) w := args_ok (fun r hr => by cases hr)
  have rels : ∀ N, AV.rels (va [a0, a1] []) N [iv 0, iv 1] (#[.int .i64 a0, .int .i64 a1] : Array Value).toList := fun N => rels_cons' (iv_rel 0 (by decide) rfl) (rels_cons' (iv_rel 1 (by decide) rfl) (rels_nil.2 rfl))
  rcases bt_01 (V := va [a0, a1] []) 0 with hb0 | hb0
  ·
    rcases bt_01 (V := va [a0, a1] []) 1 with hb1 | hb1
    ·
      exact law_atF hR (fun _ h => cxT_ok h _ _ _ _ _) rels (fs_app (isE_ok hk) (fs_app (isE_ok hb0) (fs_app (isE_ok hb1) (fs_nil)))) run4_00 w hA
    ·
      exact law_atF hR (fun _ h => cxT_ok h _ _ _ _ _) rels (fs_app (isE_ok hk) (fs_app (isE_ok hb0) (fs_app (isE_ok hb1) (fs_nil)))) run4_01 w hA
  ·
    rcases bt_01 (V := va [a0, a1] []) 1 with hb1 | hb1
    ·
      exact law_atF hR (fun _ h => cxT_ok h _ _ _ _ _) rels (fs_app (isE_ok hk) (fs_app (isE_ok hb0) (fs_app (isE_ok hb1) (fs_nil)))) run4_10 w hA
    ·
      exact law_atF hR (fun _ h => cxT_ok h _ _ _ _ _) rels (fs_app (isE_ok hk) (fs_app (isE_ok hb0) (fs_app (isE_ok hb1) (fs_nil)))) run4_11 w hA
theorem walk5 (a0 a1 : Int) (w : World) (w0 : (Lit.int .i64 a0).wf = true) (w1 : (Lit.int .i64 a1).wf = true) (hk : (andE 0 7).den (va [a0, a1] []) = 5) :
    Calls Try.prog 6 #[.int .i64 a0, .int .i64 a1] w fun e w' => e = .returned (.bool true) ∧ Below w.heap.size w w' := by
  have hR : R.ok (va [a0, a1] []) := rg_ok (lens := []) (bls := []) (sel := false) (spl := false) (by decide) (by decide) ⟨wf_bd w0, ⟨wf_bd w1, trivial⟩⟩ (fun r hr => by cases hr)
  have hA : ArgsOk (va [a0, a1] []) w := args_ok (fun r hr => by cases hr)
  have rels : ∀ N, AV.rels (va [a0, a1] []) N [iv 0, iv 1] (#[.int .i64 a0, .int .i64 a1] : Array Value).toList := fun N => rels_cons' (iv_rel 0 (by decide) rfl) (rels_cons' (iv_rel 1 (by decide) rfl) (rels_nil.2 rfl))
  rcases bt_01 (V := va [a0, a1] []) 0 with hb0 | hb0
  ·
    rcases bt_01 (V := va [a0, a1] []) 1 with hb1 | hb1
    ·
      rcases bt_01 (V := va [a0, a1] []) 2 with hb2 | hb2
      ·
        exact law_atF hR (fun _ h => cxT_ok h _ _ _ _ _) rels (fs_app (isE_ok hk) (fs_app (isE_ok hb0) (fs_app (isE_ok hb1) (fs_app (isE_ok hb2) (fs_nil))))) run5_000 w hA
      ·
        exact law_atF hR (fun _ h => cxT_ok h _ _ _ _ _) rels (fs_app (isE_ok hk) (fs_app (isE_ok hb0) (fs_app (isE_ok hb1) (fs_app (isE_ok hb2) (fs_nil))))) run5_001 w hA
    ·
      rcases bt_01 (V := va [a0, a1] []) 2 with hb2 | hb2
      ·
        exact law_atF hR (fun _ h => cxT_ok h _ _ _ _ _) rels (fs_app (isE_ok hk) (fs_app (isE_ok hb0) (fs_app (isE_ok hb1) (fs_app (isE_ok hb2) (fs_nil))))) run5_010 w hA
      ·
        exact law_atF hR (fun _ h => cxT_ok h _ _ _ _ _) rels (fs_app (isE_ok hk) (fs_app (isE_ok hb0) (fs_app (isE_ok hb1) (fs_app (isE_ok hb2) (fs_nil))))) run5_011 w hA
  ·
    rcases bt_01 (V := va [a0, a1] []) 1 with hb1 | hb1
    ·
      rcases bt_01 (V := va [a0, a1] []) 2 with hb2 | hb2
      ·
        exact law_atF hR (fun _ h => cxT_ok h _ _ _ _ _) rels (fs_app (isE_ok hk) (fs_app (isE_ok hb0) (fs_app (isE_ok hb1) (fs_app (isE_ok hb2) (fs_nil))))) run5_100 w hA
      ·
        exact law_atF hR (fun _ h => cxT_ok h _ _ _ _ _) rels (fs_app (isE_ok hk) (fs_app (isE_ok hb0) (fs_app (isE_ok hb1) (fs_app (isE_ok hb2) (fs_nil))))) run5_101 w hA
    ·
      rcases bt_01 (V := va [a0, a1] []) 2 with hb2 | hb2
      ·
        exact law_atF hR (fun _ h => cxT_ok h _ _ _ _ _) rels (fs_app (isE_ok hk) (fs_app (isE_ok hb0) (fs_app (isE_ok hb1) (fs_app (isE_ok hb2) (fs_nil))))) run5_110 w hA
      ·
        exact law_atF hR (fun _ h => cxT_ok h _ _ _ _ _) rels (fs_app (isE_ok hk) (fs_app (isE_ok hb0) (fs_app (isE_ok hb1) (fs_app (isE_ok hb2) (fs_nil))))) run5_111 w hA
theorem walk6 (a0 a1 : Int) (w : World) (w0 : (Lit.int .i64 a0).wf = true) (w1 : (Lit.int .i64 a1).wf = true) (hk : (andE 0 7).den (va [a0, a1] []) = 6) :
    Calls Try.prog 6 #[.int .i64 a0, .int .i64 a1] w fun e w' => e = .returned (.bool true) ∧ Below w.heap.size w w' := by
  have hR : R.ok (va [a0, a1] []) := rg_ok (lens := []) (bls := []) (sel := false) (spl := false) (by decide) (by decide) ⟨wf_bd w0, ⟨wf_bd w1, trivial⟩⟩ (fun r hr => by cases hr)
  have hA : ArgsOk (va [a0, a1] []) w := args_ok (fun r hr => by cases hr)
  have rels : ∀ N, AV.rels (va [a0, a1] []) N [iv 0, iv 1] (#[.int .i64 a0, .int .i64 a1] : Array Value).toList := fun N => rels_cons' (iv_rel 0 (by decide) rfl) (rels_cons' (iv_rel 1 (by decide) rfl) (rels_nil.2 rfl))
  rcases bt_01 (V := va [a0, a1] []) 0 with hb0 | hb0
  ·
    rcases bt_01 (V := va [a0, a1] []) 1 with hb1 | hb1
    ·
      rcases bt_01 (V := va [a0, a1] []) 2 with hb2 | hb2
      ·
        rcases bt_01 (V := va [a0, a1] []) 3 with hb3 | hb3
        ·
          rcases bt_01 (V := va [a0, a1] []) 4 with hb4 | hb4
          ·
            exact law_atF hR (fun _ h => cxT_ok h _ _ _ _ _) rels (fs_app (isE_ok hk) (fs_app (isE_ok hb0) (fs_app (isE_ok hb1) (fs_app (isE_ok hb2) (fs_app (isE_ok hb3) (fs_app (isE_ok hb4) (fs_nil))))))) run6_00000 w hA
          ·
            exact law_atF hR (fun _ h => cxT_ok h _ _ _ _ _) rels (fs_app (isE_ok hk) (fs_app (isE_ok hb0) (fs_app (isE_ok hb1) (fs_app (isE_ok hb2) (fs_app (isE_ok hb3) (fs_app (isE_ok hb4) (fs_nil))))))) run6_00001 w hA
        ·
          rcases bt_01 (V := va [a0, a1] []) 4 with hb4 | hb4
          ·
            exact law_atF hR (fun _ h => cxT_ok h _ _ _ _ _) rels (fs_app (isE_ok hk) (fs_app (isE_ok hb0) (fs_app (isE_ok hb1) (fs_app (isE_ok hb2) (fs_app (isE_ok hb3) (fs_app (isE_ok hb4) (fs_nil))))))) run6_00010 w hA
          ·
            exact law_atF hR (fun _ h => cxT_ok h _ _ _ _ _) rels (fs_app (isE_ok hk) (fs_app (isE_ok hb0) (fs_app (isE_ok hb1) (fs_app (isE_ok hb2) (fs_app (isE_ok hb3) (fs_app (isE_ok hb4) (fs_nil))))))) run6_00011 w hA
      ·
        rcases bt_01 (V := va [a0, a1] []) 3 with hb3 | hb3
        ·
          rcases bt_01 (V := va [a0, a1] []) 4 with hb4 | hb4
          ·
            exact law_atF hR (fun _ h => cxT_ok h _ _ _ _ _) rels (fs_app (isE_ok hk) (fs_app (isE_ok hb0) (fs_app (isE_ok hb1) (fs_app (isE_ok hb2) (fs_app (isE_ok hb3) (fs_app (isE_ok hb4) (fs_nil))))))) run6_00100 w hA
          ·
            exact law_atF hR (fun _ h => cxT_ok h _ _ _ _ _) rels (fs_app (isE_ok hk) (fs_app (isE_ok hb0) (fs_app (isE_ok hb1) (fs_app (isE_ok hb2) (fs_app (isE_ok hb3) (fs_app (isE_ok hb4) (fs_nil))))))) run6_00101 w hA
        ·
          rcases bt_01 (V := va [a0, a1] []) 4 with hb4 | hb4
          ·
            exact law_atF hR (fun _ h => cxT_ok h _ _ _ _ _) rels (fs_app (isE_ok hk) (fs_app (isE_ok hb0) (fs_app (isE_ok hb1) (fs_app (isE_ok hb2) (fs_app (isE_ok hb3) (fs_app (isE_ok hb4) (fs_nil))))))) run6_00110 w hA
          ·
            exact law_atF hR (fun _ h => cxT_ok h _ _ _ _ _) rels (fs_app (isE_ok hk) (fs_app (isE_ok hb0) (fs_app (isE_ok hb1) (fs_app (isE_ok hb2) (fs_app (isE_ok hb3) (fs_app (isE_ok hb4) (fs_nil))))))) run6_00111 w hA
    ·
      rcases bt_01 (V := va [a0, a1] []) 2 with hb2 | hb2
      ·
        rcases bt_01 (V := va [a0, a1] []) 3 with hb3 | hb3
        ·
          rcases bt_01 (V := va [a0, a1] []) 4 with hb4 | hb4
          ·
            exact law_atF hR (fun _ h => cxT_ok h _ _ _ _ _) rels (fs_app (isE_ok hk) (fs_app (isE_ok hb0) (fs_app (isE_ok hb1) (fs_app (isE_ok hb2) (fs_app (isE_ok hb3) (fs_app (isE_ok hb4) (fs_nil))))))) run6_01000 w hA
          ·
            exact law_atF hR (fun _ h => cxT_ok h _ _ _ _ _) rels (fs_app (isE_ok hk) (fs_app (isE_ok hb0) (fs_app (isE_ok hb1) (fs_app (isE_ok hb2) (fs_app (isE_ok hb3) (fs_app (isE_ok hb4) (fs_nil))))))) run6_01001 w hA
        ·
          rcases bt_01 (V := va [a0, a1] []) 4 with hb4 | hb4
          ·
            exact law_atF hR (fun _ h => cxT_ok h _ _ _ _ _) rels (fs_app (isE_ok hk) (fs_app (isE_ok hb0) (fs_app (isE_ok hb1) (fs_app (isE_ok hb2) (fs_app (isE_ok hb3) (fs_app (isE_ok hb4) (fs_nil))))))) run6_01010 w hA
          ·
            exact law_atF hR (fun _ h => cxT_ok h _ _ _ _ _) rels (fs_app (isE_ok hk) (fs_app (isE_ok hb0) (fs_app (isE_ok hb1) (fs_app (isE_ok hb2) (fs_app (isE_ok hb3) (fs_app (isE_ok hb4) (fs_nil))))))) run6_01011 w hA
      ·
        rcases bt_01 (V := va [a0, a1] []) 3 with hb3 | hb3
        ·
          rcases bt_01 (V := va [a0, a1] []) 4 with hb4 | hb4
          ·
            exact law_atF hR (fun _ h => cxT_ok h _ _ _ _ _) rels (fs_app (isE_ok hk) (fs_app (isE_ok hb0) (fs_app (isE_ok hb1) (fs_app (isE_ok hb2) (fs_app (isE_ok hb3) (fs_app (isE_ok hb4) (fs_nil))))))) run6_01100 w hA
          ·
            exact law_atF hR (fun _ h => cxT_ok h _ _ _ _ _) rels (fs_app (isE_ok hk) (fs_app (isE_ok hb0) (fs_app (isE_ok hb1) (fs_app (isE_ok hb2) (fs_app (isE_ok hb3) (fs_app (isE_ok hb4) (fs_nil))))))) run6_01101 w hA
        ·
          rcases bt_01 (V := va [a0, a1] []) 4 with hb4 | hb4
          ·
            exact law_atF hR (fun _ h => cxT_ok h _ _ _ _ _) rels (fs_app (isE_ok hk) (fs_app (isE_ok hb0) (fs_app (isE_ok hb1) (fs_app (isE_ok hb2) (fs_app (isE_ok hb3) (fs_app (isE_ok hb4) (fs_nil))))))) run6_01110 w hA
          ·
            exact law_atF hR (fun _ h => cxT_ok h _ _ _ _ _) rels (fs_app (isE_ok hk) (fs_app (isE_ok hb0) (fs_app (isE_ok hb1) (fs_app (isE_ok hb2) (fs_app (isE_ok hb3) (fs_app (isE_ok hb4) (fs_nil))))))) run6_01111 w hA
  ·
    rcases bt_01 (V := va [a0, a1] []) 1 with hb1 | hb1
    ·
      rcases bt_01 (V := va [a0, a1] []) 2 with hb2 | hb2
      ·
        rcases bt_01 (V := va [a0, a1] []) 3 with hb3 | hb3
        ·
          rcases bt_01 (V := va [a0, a1] []) 4 with hb4 | hb4
          ·
            exact law_atF hR (fun _ h => cxT_ok h _ _ _ _ _) rels (fs_app (isE_ok hk) (fs_app (isE_ok hb0) (fs_app (isE_ok hb1) (fs_app (isE_ok hb2) (fs_app (isE_ok hb3) (fs_app (isE_ok hb4) (fs_nil))))))) run6_10000 w hA
          ·
            exact law_atF hR (fun _ h => cxT_ok h _ _ _ _ _) rels (fs_app (isE_ok hk) (fs_app (isE_ok hb0) (fs_app (isE_ok hb1) (fs_app (isE_ok hb2) (fs_app (isE_ok hb3) (fs_app (isE_ok hb4) (fs_nil))))))) run6_10001 w hA
        ·
          rcases bt_01 (V := va [a0, a1] []) 4 with hb4 | hb4
          ·
            exact law_atF hR (fun _ h => cxT_ok h _ _ _ _ _) rels (fs_app (isE_ok hk) (fs_app (isE_ok hb0) (fs_app (isE_ok hb1) (fs_app (isE_ok hb2) (fs_app (isE_ok hb3) (fs_app (isE_ok hb4) (fs_nil))))))) run6_10010 w hA
          ·
            exact law_atF hR (fun _ h => cxT_ok h _ _ _ _ _) rels (fs_app (isE_ok hk) (fs_app (isE_ok hb0) (fs_app (isE_ok hb1) (fs_app (isE_ok hb2) (fs_app (isE_ok hb3) (fs_app (isE_ok hb4) (fs_nil))))))) run6_10011 w hA
      ·
        rcases bt_01 (V := va [a0, a1] []) 3 with hb3 | hb3
        ·
          rcases bt_01 (V := va [a0, a1] []) 4 with hb4 | hb4
          ·
            exact law_atF hR (fun _ h => cxT_ok h _ _ _ _ _) rels (fs_app (isE_ok hk) (fs_app (isE_ok hb0) (fs_app (isE_ok hb1) (fs_app (isE_ok hb2) (fs_app (isE_ok hb3) (fs_app (isE_ok hb4) (fs_nil))))))) run6_10100 w hA
          ·
            exact law_atF hR (fun _ h => cxT_ok h _ _ _ _ _) rels (fs_app (isE_ok hk) (fs_app (isE_ok hb0) (fs_app (isE_ok hb1) (fs_app (isE_ok hb2) (fs_app (isE_ok hb3) (fs_app (isE_ok hb4) (fs_nil))))))) run6_10101 w hA
        ·
          rcases bt_01 (V := va [a0, a1] []) 4 with hb4 | hb4
          ·
            exact law_atF hR (fun _ h => cxT_ok h _ _ _ _ _) rels (fs_app (isE_ok hk) (fs_app (isE_ok hb0) (fs_app (isE_ok hb1) (fs_app (isE_ok hb2) (fs_app (isE_ok hb3) (fs_app (isE_ok hb4) (fs_nil))))))) run6_10110 w hA
          ·
            exact law_atF hR (fun _ h => cxT_ok h _ _ _ _ _) rels (fs_app (isE_ok hk) (fs_app (isE_ok hb0) (fs_app (isE_ok hb1) (fs_app (isE_ok hb2) (fs_app (isE_ok hb3) (fs_app (isE_ok hb4) (fs_nil))))))) run6_10111 w hA
    ·
      rcases bt_01 (V := va [a0, a1] []) 2 with hb2 | hb2
      ·
        rcases bt_01 (V := va [a0, a1] []) 3 with hb3 | hb3
        ·
          rcases bt_01 (V := va [a0, a1] []) 4 with hb4 | hb4
          ·
            exact law_atF hR (fun _ h => cxT_ok h _ _ _ _ _) rels (fs_app (isE_ok hk) (fs_app (isE_ok hb0) (fs_app (isE_ok hb1) (fs_app (isE_ok hb2) (fs_app (isE_ok hb3) (fs_app (isE_ok hb4) (fs_nil))))))) run6_11000 w hA
          ·
            exact law_atF hR (fun _ h => cxT_ok h _ _ _ _ _) rels (fs_app (isE_ok hk) (fs_app (isE_ok hb0) (fs_app (isE_ok hb1) (fs_app (isE_ok hb2) (fs_app (isE_ok hb3) (fs_app (isE_ok hb4) (fs_nil))))))) run6_11001 w hA
        ·
          rcases bt_01 (V := va [a0, a1] []) 4 with hb4 | hb4
          ·
            exact law_atF hR (fun _ h => cxT_ok h _ _ _ _ _) rels (fs_app (isE_ok hk) (fs_app (isE_ok hb0) (fs_app (isE_ok hb1) (fs_app (isE_ok hb2) (fs_app (isE_ok hb3) (fs_app (isE_ok hb4) (fs_nil))))))) run6_11010 w hA
          ·
            exact law_atF hR (fun _ h => cxT_ok h _ _ _ _ _) rels (fs_app (isE_ok hk) (fs_app (isE_ok hb0) (fs_app (isE_ok hb1) (fs_app (isE_ok hb2) (fs_app (isE_ok hb3) (fs_app (isE_ok hb4) (fs_nil))))))) run6_11011 w hA
      ·
        rcases bt_01 (V := va [a0, a1] []) 3 with hb3 | hb3
        ·
          rcases bt_01 (V := va [a0, a1] []) 4 with hb4 | hb4
          ·
            exact law_atF hR (fun _ h => cxT_ok h _ _ _ _ _) rels (fs_app (isE_ok hk) (fs_app (isE_ok hb0) (fs_app (isE_ok hb1) (fs_app (isE_ok hb2) (fs_app (isE_ok hb3) (fs_app (isE_ok hb4) (fs_nil))))))) run6_11100 w hA
          ·
            exact law_atF hR (fun _ h => cxT_ok h _ _ _ _ _) rels (fs_app (isE_ok hk) (fs_app (isE_ok hb0) (fs_app (isE_ok hb1) (fs_app (isE_ok hb2) (fs_app (isE_ok hb3) (fs_app (isE_ok hb4) (fs_nil))))))) run6_11101 w hA
        ·
          rcases bt_01 (V := va [a0, a1] []) 4 with hb4 | hb4
          ·
            exact law_atF hR (fun _ h => cxT_ok h _ _ _ _ _) rels (fs_app (isE_ok hk) (fs_app (isE_ok hb0) (fs_app (isE_ok hb1) (fs_app (isE_ok hb2) (fs_app (isE_ok hb3) (fs_app (isE_ok hb4) (fs_nil))))))) run6_11110 w hA
          ·
            exact law_atF hR (fun _ h => cxT_ok h _ _ _ _ _) rels (fs_app (isE_ok hk) (fs_app (isE_ok hb0) (fs_app (isE_ok hb1) (fs_app (isE_ok hb2) (fs_app (isE_ok hb3) (fs_app (isE_ok hb4) (fs_nil))))))) run6_11111 w hA
theorem walk7 (a0 a1 : Int) (w : World) (w0 : (Lit.int .i64 a0).wf = true) (w1 : (Lit.int .i64 a1).wf = true) (hk : (andE 0 7).den (va [a0, a1] []) = 7) :
    Calls Try.prog 6 #[.int .i64 a0, .int .i64 a1] w fun e w' => e = .returned (.bool true) ∧ Below w.heap.size w w' := by
  have hR : R.ok (va [a0, a1] []) := rg_ok (lens := []) (bls := []) (sel := false) (spl := false) (by decide) (by decide) ⟨wf_bd w0, ⟨wf_bd w1, trivial⟩⟩ (fun r hr => by cases hr)
  have hA : ArgsOk (va [a0, a1] []) w := args_ok (fun r hr => by cases hr)
  have rels : ∀ N, AV.rels (va [a0, a1] []) N [iv 0, iv 1] (#[.int .i64 a0, .int .i64 a1] : Array Value).toList := fun N => rels_cons' (iv_rel 0 (by decide) rfl) (rels_cons' (iv_rel 1 (by decide) rfl) (rels_nil.2 rfl))
  rcases bt_01 (V := va [a0, a1] []) 0 with hb0 | hb0
  ·
    rcases bt_01 (V := va [a0, a1] []) 1 with hb1 | hb1
    ·
      rcases bt_01 (V := va [a0, a1] []) 2 with hb2 | hb2
      ·
        rcases bt_01 (V := va [a0, a1] []) 3 with hb3 | hb3
        ·
          rcases bt_01 (V := va [a0, a1] []) 4 with hb4 | hb4
          ·
            rcases bt_01 (V := va [a0, a1] []) 5 with hb5 | hb5
            ·
              exact law_atF hR (fun _ h => cxT_ok h _ _ _ _ _) rels (fs_app (isE_ok hk) (fs_app (isE_ok hb0) (fs_app (isE_ok hb1) (fs_app (isE_ok hb2) (fs_app (isE_ok hb3) (fs_app (isE_ok hb4) (fs_app (isE_ok hb5) (fs_nil)))))))) run7_000000 w hA
            ·
              exact law_atF hR (fun _ h => cxT_ok h _ _ _ _ _) rels (fs_app (isE_ok hk) (fs_app (isE_ok hb0) (fs_app (isE_ok hb1) (fs_app (isE_ok hb2) (fs_app (isE_ok hb3) (fs_app (isE_ok hb4) (fs_app (isE_ok hb5) (fs_nil)))))))) run7_000001 w hA
          ·
            rcases bt_01 (V := va [a0, a1] []) 5 with hb5 | hb5
            ·
              exact law_atF hR (fun _ h => cxT_ok h _ _ _ _ _) rels (fs_app (isE_ok hk) (fs_app (isE_ok hb0) (fs_app (isE_ok hb1) (fs_app (isE_ok hb2) (fs_app (isE_ok hb3) (fs_app (isE_ok hb4) (fs_app (isE_ok hb5) (fs_nil)))))))) run7_000010 w hA
            ·
              exact law_atF hR (fun _ h => cxT_ok h _ _ _ _ _) rels (fs_app (isE_ok hk) (fs_app (isE_ok hb0) (fs_app (isE_ok hb1) (fs_app (isE_ok hb2) (fs_app (isE_ok hb3) (fs_app (isE_ok hb4) (fs_app (isE_ok hb5) (fs_nil)))))))) run7_000011 w hA
        ·
          rcases bt_01 (V := va [a0, a1] []) 4 with hb4 | hb4
          ·
            rcases bt_01 (V := va [a0, a1] []) 5 with hb5 | hb5
            ·
              exact law_atF hR (fun _ h => cxT_ok h _ _ _ _ _) rels (fs_app (isE_ok hk) (fs_app (isE_ok hb0) (fs_app (isE_ok hb1) (fs_app (isE_ok hb2) (fs_app (isE_ok hb3) (fs_app (isE_ok hb4) (fs_app (isE_ok hb5) (fs_nil)))))))) run7_000100 w hA
            ·
              exact law_atF hR (fun _ h => cxT_ok h _ _ _ _ _) rels (fs_app (isE_ok hk) (fs_app (isE_ok hb0) (fs_app (isE_ok hb1) (fs_app (isE_ok hb2) (fs_app (isE_ok hb3) (fs_app (isE_ok hb4) (fs_app (isE_ok hb5) (fs_nil)))))))) run7_000101 w hA
          ·
            rcases bt_01 (V := va [a0, a1] []) 5 with hb5 | hb5
            ·
              exact law_atF hR (fun _ h => cxT_ok h _ _ _ _ _) rels (fs_app (isE_ok hk) (fs_app (isE_ok hb0) (fs_app (isE_ok hb1) (fs_app (isE_ok hb2) (fs_app (isE_ok hb3) (fs_app (isE_ok hb4) (fs_app (isE_ok hb5) (fs_nil)))))))) run7_000110 w hA
            ·
              exact law_atF hR (fun _ h => cxT_ok h _ _ _ _ _) rels (fs_app (isE_ok hk) (fs_app (isE_ok hb0) (fs_app (isE_ok hb1) (fs_app (isE_ok hb2) (fs_app (isE_ok hb3) (fs_app (isE_ok hb4) (fs_app (isE_ok hb5) (fs_nil)))))))) run7_000111 w hA
      ·
        rcases bt_01 (V := va [a0, a1] []) 3 with hb3 | hb3
        ·
          rcases bt_01 (V := va [a0, a1] []) 4 with hb4 | hb4
          ·
            rcases bt_01 (V := va [a0, a1] []) 5 with hb5 | hb5
            ·
              exact law_atF hR (fun _ h => cxT_ok h _ _ _ _ _) rels (fs_app (isE_ok hk) (fs_app (isE_ok hb0) (fs_app (isE_ok hb1) (fs_app (isE_ok hb2) (fs_app (isE_ok hb3) (fs_app (isE_ok hb4) (fs_app (isE_ok hb5) (fs_nil)))))))) run7_001000 w hA
            ·
              exact law_atF hR (fun _ h => cxT_ok h _ _ _ _ _) rels (fs_app (isE_ok hk) (fs_app (isE_ok hb0) (fs_app (isE_ok hb1) (fs_app (isE_ok hb2) (fs_app (isE_ok hb3) (fs_app (isE_ok hb4) (fs_app (isE_ok hb5) (fs_nil)))))))) run7_001001 w hA
          ·
            rcases bt_01 (V := va [a0, a1] []) 5 with hb5 | hb5
            ·
              exact law_atF hR (fun _ h => cxT_ok h _ _ _ _ _) rels (fs_app (isE_ok hk) (fs_app (isE_ok hb0) (fs_app (isE_ok hb1) (fs_app (isE_ok hb2) (fs_app (isE_ok hb3) (fs_app (isE_ok hb4) (fs_app (isE_ok hb5) (fs_nil)))))))) run7_001010 w hA
            ·
              exact law_atF hR (fun _ h => cxT_ok h _ _ _ _ _) rels (fs_app (isE_ok hk) (fs_app (isE_ok hb0) (fs_app (isE_ok hb1) (fs_app (isE_ok hb2) (fs_app (isE_ok hb3) (fs_app (isE_ok hb4) (fs_app (isE_ok hb5) (fs_nil)))))))) run7_001011 w hA
        ·
          rcases bt_01 (V := va [a0, a1] []) 4 with hb4 | hb4
          ·
            rcases bt_01 (V := va [a0, a1] []) 5 with hb5 | hb5
            ·
              exact law_atF hR (fun _ h => cxT_ok h _ _ _ _ _) rels (fs_app (isE_ok hk) (fs_app (isE_ok hb0) (fs_app (isE_ok hb1) (fs_app (isE_ok hb2) (fs_app (isE_ok hb3) (fs_app (isE_ok hb4) (fs_app (isE_ok hb5) (fs_nil)))))))) run7_001100 w hA
            ·
              exact law_atF hR (fun _ h => cxT_ok h _ _ _ _ _) rels (fs_app (isE_ok hk) (fs_app (isE_ok hb0) (fs_app (isE_ok hb1) (fs_app (isE_ok hb2) (fs_app (isE_ok hb3) (fs_app (isE_ok hb4) (fs_app (isE_ok hb5) (fs_nil)))))))) run7_001101 w hA
          ·
            rcases bt_01 (V := va [a0, a1] []) 5 with hb5 | hb5
            ·
              exact law_atF hR (fun _ h => cxT_ok h _ _ _ _ _) rels (fs_app (isE_ok hk) (fs_app (isE_ok hb0) (fs_app (isE_ok hb1) (fs_app (isE_ok hb2) (fs_app (isE_ok hb3) (fs_app (isE_ok hb4) (fs_app (isE_ok hb5) (fs_nil)))))))) run7_001110 w hA
            ·
              exact law_atF hR (fun _ h => cxT_ok h _ _ _ _ _) rels (fs_app (isE_ok hk) (fs_app (isE_ok hb0) (fs_app (isE_ok hb1) (fs_app (isE_ok hb2) (fs_app (isE_ok hb3) (fs_app (isE_ok hb4) (fs_app (isE_ok hb5) (fs_nil)))))))) run7_001111 w hA
    ·
      rcases bt_01 (V := va [a0, a1] []) 2 with hb2 | hb2
      ·
        rcases bt_01 (V := va [a0, a1] []) 3 with hb3 | hb3
        ·
          rcases bt_01 (V := va [a0, a1] []) 4 with hb4 | hb4
          ·
            rcases bt_01 (V := va [a0, a1] []) 5 with hb5 | hb5
            ·
              exact law_atF hR (fun _ h => cxT_ok h _ _ _ _ _) rels (fs_app (isE_ok hk) (fs_app (isE_ok hb0) (fs_app (isE_ok hb1) (fs_app (isE_ok hb2) (fs_app (isE_ok hb3) (fs_app (isE_ok hb4) (fs_app (isE_ok hb5) (fs_nil)))))))) run7_010000 w hA
            ·
              exact law_atF hR (fun _ h => cxT_ok h _ _ _ _ _) rels (fs_app (isE_ok hk) (fs_app (isE_ok hb0) (fs_app (isE_ok hb1) (fs_app (isE_ok hb2) (fs_app (isE_ok hb3) (fs_app (isE_ok hb4) (fs_app (isE_ok hb5) (fs_nil)))))))) run7_010001 w hA
          ·
            rcases bt_01 (V := va [a0, a1] []) 5 with hb5 | hb5
            ·
              exact law_atF hR (fun _ h => cxT_ok h _ _ _ _ _) rels (fs_app (isE_ok hk) (fs_app (isE_ok hb0) (fs_app (isE_ok hb1) (fs_app (isE_ok hb2) (fs_app (isE_ok hb3) (fs_app (isE_ok hb4) (fs_app (isE_ok hb5) (fs_nil)))))))) run7_010010 w hA
            ·
              exact law_atF hR (fun _ h => cxT_ok h _ _ _ _ _) rels (fs_app (isE_ok hk) (fs_app (isE_ok hb0) (fs_app (isE_ok hb1) (fs_app (isE_ok hb2) (fs_app (isE_ok hb3) (fs_app (isE_ok hb4) (fs_app (isE_ok hb5) (fs_nil)))))))) run7_010011 w hA
        ·
          rcases bt_01 (V := va [a0, a1] []) 4 with hb4 | hb4
          ·
            rcases bt_01 (V := va [a0, a1] []) 5 with hb5 | hb5
            ·
              exact law_atF hR (fun _ h => cxT_ok h _ _ _ _ _) rels (fs_app (isE_ok hk) (fs_app (isE_ok hb0) (fs_app (isE_ok hb1) (fs_app (isE_ok hb2) (fs_app (isE_ok hb3) (fs_app (isE_ok hb4) (fs_app (isE_ok hb5) (fs_nil)))))))) run7_010100 w hA
            ·
              exact law_atF hR (fun _ h => cxT_ok h _ _ _ _ _) rels (fs_app (isE_ok hk) (fs_app (isE_ok hb0) (fs_app (isE_ok hb1) (fs_app (isE_ok hb2) (fs_app (isE_ok hb3) (fs_app (isE_ok hb4) (fs_app (isE_ok hb5) (fs_nil)))))))) run7_010101 w hA
          ·
            rcases bt_01 (V := va [a0, a1] []) 5 with hb5 | hb5
            ·
              exact law_atF hR (fun _ h => cxT_ok h _ _ _ _ _) rels (fs_app (isE_ok hk) (fs_app (isE_ok hb0) (fs_app (isE_ok hb1) (fs_app (isE_ok hb2) (fs_app (isE_ok hb3) (fs_app (isE_ok hb4) (fs_app (isE_ok hb5) (fs_nil)))))))) run7_010110 w hA
            ·
              exact law_atF hR (fun _ h => cxT_ok h _ _ _ _ _) rels (fs_app (isE_ok hk) (fs_app (isE_ok hb0) (fs_app (isE_ok hb1) (fs_app (isE_ok hb2) (fs_app (isE_ok hb3) (fs_app (isE_ok hb4) (fs_app (isE_ok hb5) (fs_nil)))))))) run7_010111 w hA
      ·
        rcases bt_01 (V := va [a0, a1] []) 3 with hb3 | hb3
        ·
          rcases bt_01 (V := va [a0, a1] []) 4 with hb4 | hb4
          ·
            rcases bt_01 (V := va [a0, a1] []) 5 with hb5 | hb5
            ·
              exact law_atF hR (fun _ h => cxT_ok h _ _ _ _ _) rels (fs_app (isE_ok hk) (fs_app (isE_ok hb0) (fs_app (isE_ok hb1) (fs_app (isE_ok hb2) (fs_app (isE_ok hb3) (fs_app (isE_ok hb4) (fs_app (isE_ok hb5) (fs_nil)))))))) run7_011000 w hA
            ·
              exact law_atF hR (fun _ h => cxT_ok h _ _ _ _ _) rels (fs_app (isE_ok hk) (fs_app (isE_ok hb0) (fs_app (isE_ok hb1) (fs_app (isE_ok hb2) (fs_app (isE_ok hb3) (fs_app (isE_ok hb4) (fs_app (isE_ok hb5) (fs_nil)))))))) run7_011001 w hA
          ·
            rcases bt_01 (V := va [a0, a1] []) 5 with hb5 | hb5
            ·
              exact law_atF hR (fun _ h => cxT_ok h _ _ _ _ _) rels (fs_app (isE_ok hk) (fs_app (isE_ok hb0) (fs_app (isE_ok hb1) (fs_app (isE_ok hb2) (fs_app (isE_ok hb3) (fs_app (isE_ok hb4) (fs_app (isE_ok hb5) (fs_nil)))))))) run7_011010 w hA
            ·
              exact law_atF hR (fun _ h => cxT_ok h _ _ _ _ _) rels (fs_app (isE_ok hk) (fs_app (isE_ok hb0) (fs_app (isE_ok hb1) (fs_app (isE_ok hb2) (fs_app (isE_ok hb3) (fs_app (isE_ok hb4) (fs_app (isE_ok hb5) (fs_nil)))))))) run7_011011 w hA
        ·
          rcases bt_01 (V := va [a0, a1] []) 4 with hb4 | hb4
          ·
            rcases bt_01 (V := va [a0, a1] []) 5 with hb5 | hb5
            ·
              exact law_atF hR (fun _ h => cxT_ok h _ _ _ _ _) rels (fs_app (isE_ok hk) (fs_app (isE_ok hb0) (fs_app (isE_ok hb1) (fs_app (isE_ok hb2) (fs_app (isE_ok hb3) (fs_app (isE_ok hb4) (fs_app (isE_ok hb5) (fs_nil)))))))) run7_011100 w hA
            ·
              exact law_atF hR (fun _ h => cxT_ok h _ _ _ _ _) rels (fs_app (isE_ok hk) (fs_app (isE_ok hb0) (fs_app (isE_ok hb1) (fs_app (isE_ok hb2) (fs_app (isE_ok hb3) (fs_app (isE_ok hb4) (fs_app (isE_ok hb5) (fs_nil)))))))) run7_011101 w hA
          ·
            rcases bt_01 (V := va [a0, a1] []) 5 with hb5 | hb5
            ·
              exact law_atF hR (fun _ h => cxT_ok h _ _ _ _ _) rels (fs_app (isE_ok hk) (fs_app (isE_ok hb0) (fs_app (isE_ok hb1) (fs_app (isE_ok hb2) (fs_app (isE_ok hb3) (fs_app (isE_ok hb4) (fs_app (isE_ok hb5) (fs_nil)))))))) run7_011110 w hA
            ·
              exact law_atF hR (fun _ h => cxT_ok h _ _ _ _ _) rels (fs_app (isE_ok hk) (fs_app (isE_ok hb0) (fs_app (isE_ok hb1) (fs_app (isE_ok hb2) (fs_app (isE_ok hb3) (fs_app (isE_ok hb4) (fs_app (isE_ok hb5) (fs_nil)))))))) run7_011111 w hA
  ·
    rcases bt_01 (V := va [a0, a1] []) 1 with hb1 | hb1
    ·
      rcases bt_01 (V := va [a0, a1] []) 2 with hb2 | hb2
      ·
        rcases bt_01 (V := va [a0, a1] []) 3 with hb3 | hb3
        ·
          rcases bt_01 (V := va [a0, a1] []) 4 with hb4 | hb4
          ·
            rcases bt_01 (V := va [a0, a1] []) 5 with hb5 | hb5
            ·
              exact law_atF hR (fun _ h => cxT_ok h _ _ _ _ _) rels (fs_app (isE_ok hk) (fs_app (isE_ok hb0) (fs_app (isE_ok hb1) (fs_app (isE_ok hb2) (fs_app (isE_ok hb3) (fs_app (isE_ok hb4) (fs_app (isE_ok hb5) (fs_nil)))))))) run7_100000 w hA
            ·
              exact law_atF hR (fun _ h => cxT_ok h _ _ _ _ _) rels (fs_app (isE_ok hk) (fs_app (isE_ok hb0) (fs_app (isE_ok hb1) (fs_app (isE_ok hb2) (fs_app (isE_ok hb3) (fs_app (isE_ok hb4) (fs_app (isE_ok hb5) (fs_nil)))))))) run7_100001 w hA
          ·
            rcases bt_01 (V := va [a0, a1] []) 5 with hb5 | hb5
            ·
              exact law_atF hR (fun _ h => cxT_ok h _ _ _ _ _) rels (fs_app (isE_ok hk) (fs_app (isE_ok hb0) (fs_app (isE_ok hb1) (fs_app (isE_ok hb2) (fs_app (isE_ok hb3) (fs_app (isE_ok hb4) (fs_app (isE_ok hb5) (fs_nil)))))))) run7_100010 w hA
            ·
              exact law_atF hR (fun _ h => cxT_ok h _ _ _ _ _) rels (fs_app (isE_ok hk) (fs_app (isE_ok hb0) (fs_app (isE_ok hb1) (fs_app (isE_ok hb2) (fs_app (isE_ok hb3) (fs_app (isE_ok hb4) (fs_app (isE_ok hb5) (fs_nil)))))))) run7_100011 w hA
        ·
          rcases bt_01 (V := va [a0, a1] []) 4 with hb4 | hb4
          ·
            rcases bt_01 (V := va [a0, a1] []) 5 with hb5 | hb5
            ·
              exact law_atF hR (fun _ h => cxT_ok h _ _ _ _ _) rels (fs_app (isE_ok hk) (fs_app (isE_ok hb0) (fs_app (isE_ok hb1) (fs_app (isE_ok hb2) (fs_app (isE_ok hb3) (fs_app (isE_ok hb4) (fs_app (isE_ok hb5) (fs_nil)))))))) run7_100100 w hA
            ·
              exact law_atF hR (fun _ h => cxT_ok h _ _ _ _ _) rels (fs_app (isE_ok hk) (fs_app (isE_ok hb0) (fs_app (isE_ok hb1) (fs_app (isE_ok hb2) (fs_app (isE_ok hb3) (fs_app (isE_ok hb4) (fs_app (isE_ok hb5) (fs_nil)))))))) run7_100101 w hA
          ·
            rcases bt_01 (V := va [a0, a1] []) 5 with hb5 | hb5
            ·
              exact law_atF hR (fun _ h => cxT_ok h _ _ _ _ _) rels (fs_app (isE_ok hk) (fs_app (isE_ok hb0) (fs_app (isE_ok hb1) (fs_app (isE_ok hb2) (fs_app (isE_ok hb3) (fs_app (isE_ok hb4) (fs_app (isE_ok hb5) (fs_nil)))))))) run7_100110 w hA
            ·
              exact law_atF hR (fun _ h => cxT_ok h _ _ _ _ _) rels (fs_app (isE_ok hk) (fs_app (isE_ok hb0) (fs_app (isE_ok hb1) (fs_app (isE_ok hb2) (fs_app (isE_ok hb3) (fs_app (isE_ok hb4) (fs_app (isE_ok hb5) (fs_nil)))))))) run7_100111 w hA
      ·
        rcases bt_01 (V := va [a0, a1] []) 3 with hb3 | hb3
        ·
          rcases bt_01 (V := va [a0, a1] []) 4 with hb4 | hb4
          ·
            rcases bt_01 (V := va [a0, a1] []) 5 with hb5 | hb5
            ·
              exact law_atF hR (fun _ h => cxT_ok h _ _ _ _ _) rels (fs_app (isE_ok hk) (fs_app (isE_ok hb0) (fs_app (isE_ok hb1) (fs_app (isE_ok hb2) (fs_app (isE_ok hb3) (fs_app (isE_ok hb4) (fs_app (isE_ok hb5) (fs_nil)))))))) run7_101000 w hA
            ·
              exact law_atF hR (fun _ h => cxT_ok h _ _ _ _ _) rels (fs_app (isE_ok hk) (fs_app (isE_ok hb0) (fs_app (isE_ok hb1) (fs_app (isE_ok hb2) (fs_app (isE_ok hb3) (fs_app (isE_ok hb4) (fs_app (isE_ok hb5) (fs_nil)))))))) run7_101001 w hA
          ·
            rcases bt_01 (V := va [a0, a1] []) 5 with hb5 | hb5
            ·
              exact law_atF hR (fun _ h => cxT_ok h _ _ _ _ _) rels (fs_app (isE_ok hk) (fs_app (isE_ok hb0) (fs_app (isE_ok hb1) (fs_app (isE_ok hb2) (fs_app (isE_ok hb3) (fs_app (isE_ok hb4) (fs_app (isE_ok hb5) (fs_nil)))))))) run7_101010 w hA
            ·
              exact law_atF hR (fun _ h => cxT_ok h _ _ _ _ _) rels (fs_app (isE_ok hk) (fs_app (isE_ok hb0) (fs_app (isE_ok hb1) (fs_app (isE_ok hb2) (fs_app (isE_ok hb3) (fs_app (isE_ok hb4) (fs_app (isE_ok hb5) (fs_nil)))))))) run7_101011 w hA
        ·
          rcases bt_01 (V := va [a0, a1] []) 4 with hb4 | hb4
          ·
            rcases bt_01 (V := va [a0, a1] []) 5 with hb5 | hb5
            ·
              exact law_atF hR (fun _ h => cxT_ok h _ _ _ _ _) rels (fs_app (isE_ok hk) (fs_app (isE_ok hb0) (fs_app (isE_ok hb1) (fs_app (isE_ok hb2) (fs_app (isE_ok hb3) (fs_app (isE_ok hb4) (fs_app (isE_ok hb5) (fs_nil)))))))) run7_101100 w hA
            ·
              exact law_atF hR (fun _ h => cxT_ok h _ _ _ _ _) rels (fs_app (isE_ok hk) (fs_app (isE_ok hb0) (fs_app (isE_ok hb1) (fs_app (isE_ok hb2) (fs_app (isE_ok hb3) (fs_app (isE_ok hb4) (fs_app (isE_ok hb5) (fs_nil)))))))) run7_101101 w hA
          ·
            rcases bt_01 (V := va [a0, a1] []) 5 with hb5 | hb5
            ·
              exact law_atF hR (fun _ h => cxT_ok h _ _ _ _ _) rels (fs_app (isE_ok hk) (fs_app (isE_ok hb0) (fs_app (isE_ok hb1) (fs_app (isE_ok hb2) (fs_app (isE_ok hb3) (fs_app (isE_ok hb4) (fs_app (isE_ok hb5) (fs_nil)))))))) run7_101110 w hA
            ·
              exact law_atF hR (fun _ h => cxT_ok h _ _ _ _ _) rels (fs_app (isE_ok hk) (fs_app (isE_ok hb0) (fs_app (isE_ok hb1) (fs_app (isE_ok hb2) (fs_app (isE_ok hb3) (fs_app (isE_ok hb4) (fs_app (isE_ok hb5) (fs_nil)))))))) run7_101111 w hA
    ·
      rcases bt_01 (V := va [a0, a1] []) 2 with hb2 | hb2
      ·
        rcases bt_01 (V := va [a0, a1] []) 3 with hb3 | hb3
        ·
          rcases bt_01 (V := va [a0, a1] []) 4 with hb4 | hb4
          ·
            rcases bt_01 (V := va [a0, a1] []) 5 with hb5 | hb5
            ·
              exact law_atF hR (fun _ h => cxT_ok h _ _ _ _ _) rels (fs_app (isE_ok hk) (fs_app (isE_ok hb0) (fs_app (isE_ok hb1) (fs_app (isE_ok hb2) (fs_app (isE_ok hb3) (fs_app (isE_ok hb4) (fs_app (isE_ok hb5) (fs_nil)))))))) run7_110000 w hA
            ·
              exact law_atF hR (fun _ h => cxT_ok h _ _ _ _ _) rels (fs_app (isE_ok hk) (fs_app (isE_ok hb0) (fs_app (isE_ok hb1) (fs_app (isE_ok hb2) (fs_app (isE_ok hb3) (fs_app (isE_ok hb4) (fs_app (isE_ok hb5) (fs_nil)))))))) run7_110001 w hA
          ·
            rcases bt_01 (V := va [a0, a1] []) 5 with hb5 | hb5
            ·
              exact law_atF hR (fun _ h => cxT_ok h _ _ _ _ _) rels (fs_app (isE_ok hk) (fs_app (isE_ok hb0) (fs_app (isE_ok hb1) (fs_app (isE_ok hb2) (fs_app (isE_ok hb3) (fs_app (isE_ok hb4) (fs_app (isE_ok hb5) (fs_nil)))))))) run7_110010 w hA
            ·
              exact law_atF hR (fun _ h => cxT_ok h _ _ _ _ _) rels (fs_app (isE_ok hk) (fs_app (isE_ok hb0) (fs_app (isE_ok hb1) (fs_app (isE_ok hb2) (fs_app (isE_ok hb3) (fs_app (isE_ok hb4) (fs_app (isE_ok hb5) (fs_nil)))))))) run7_110011 w hA
        ·
          rcases bt_01 (V := va [a0, a1] []) 4 with hb4 | hb4
          ·
            rcases bt_01 (V := va [a0, a1] []) 5 with hb5 | hb5
            ·
              exact law_atF hR (fun _ h => cxT_ok h _ _ _ _ _) rels (fs_app (isE_ok hk) (fs_app (isE_ok hb0) (fs_app (isE_ok hb1) (fs_app (isE_ok hb2) (fs_app (isE_ok hb3) (fs_app (isE_ok hb4) (fs_app (isE_ok hb5) (fs_nil)))))))) run7_110100 w hA
            ·
              exact law_atF hR (fun _ h => cxT_ok h _ _ _ _ _) rels (fs_app (isE_ok hk) (fs_app (isE_ok hb0) (fs_app (isE_ok hb1) (fs_app (isE_ok hb2) (fs_app (isE_ok hb3) (fs_app (isE_ok hb4) (fs_app (isE_ok hb5) (fs_nil)))))))) run7_110101 w hA
          ·
            rcases bt_01 (V := va [a0, a1] []) 5 with hb5 | hb5
            ·
              exact law_atF hR (fun _ h => cxT_ok h _ _ _ _ _) rels (fs_app (isE_ok hk) (fs_app (isE_ok hb0) (fs_app (isE_ok hb1) (fs_app (isE_ok hb2) (fs_app (isE_ok hb3) (fs_app (isE_ok hb4) (fs_app (isE_ok hb5) (fs_nil)))))))) run7_110110 w hA
            ·
              exact law_atF hR (fun _ h => cxT_ok h _ _ _ _ _) rels (fs_app (isE_ok hk) (fs_app (isE_ok hb0) (fs_app (isE_ok hb1) (fs_app (isE_ok hb2) (fs_app (isE_ok hb3) (fs_app (isE_ok hb4) (fs_app (isE_ok hb5) (fs_nil)))))))) run7_110111 w hA
      ·
        rcases bt_01 (V := va [a0, a1] []) 3 with hb3 | hb3
        ·
          rcases bt_01 (V := va [a0, a1] []) 4 with hb4 | hb4
          ·
            rcases bt_01 (V := va [a0, a1] []) 5 with hb5 | hb5
            ·
              exact law_atF hR (fun _ h => cxT_ok h _ _ _ _ _) rels (fs_app (isE_ok hk) (fs_app (isE_ok hb0) (fs_app (isE_ok hb1) (fs_app (isE_ok hb2) (fs_app (isE_ok hb3) (fs_app (isE_ok hb4) (fs_app (isE_ok hb5) (fs_nil)))))))) run7_111000 w hA
            ·
              exact law_atF hR (fun _ h => cxT_ok h _ _ _ _ _) rels (fs_app (isE_ok hk) (fs_app (isE_ok hb0) (fs_app (isE_ok hb1) (fs_app (isE_ok hb2) (fs_app (isE_ok hb3) (fs_app (isE_ok hb4) (fs_app (isE_ok hb5) (fs_nil)))))))) run7_111001 w hA
          ·
            rcases bt_01 (V := va [a0, a1] []) 5 with hb5 | hb5
            ·
              exact law_atF hR (fun _ h => cxT_ok h _ _ _ _ _) rels (fs_app (isE_ok hk) (fs_app (isE_ok hb0) (fs_app (isE_ok hb1) (fs_app (isE_ok hb2) (fs_app (isE_ok hb3) (fs_app (isE_ok hb4) (fs_app (isE_ok hb5) (fs_nil)))))))) run7_111010 w hA
            ·
              exact law_atF hR (fun _ h => cxT_ok h _ _ _ _ _) rels (fs_app (isE_ok hk) (fs_app (isE_ok hb0) (fs_app (isE_ok hb1) (fs_app (isE_ok hb2) (fs_app (isE_ok hb3) (fs_app (isE_ok hb4) (fs_app (isE_ok hb5) (fs_nil)))))))) run7_111011 w hA
        ·
          rcases bt_01 (V := va [a0, a1] []) 4 with hb4 | hb4
          ·
            rcases bt_01 (V := va [a0, a1] []) 5 with hb5 | hb5
            ·
              exact law_atF hR (fun _ h => cxT_ok h _ _ _ _ _) rels (fs_app (isE_ok hk) (fs_app (isE_ok hb0) (fs_app (isE_ok hb1) (fs_app (isE_ok hb2) (fs_app (isE_ok hb3) (fs_app (isE_ok hb4) (fs_app (isE_ok hb5) (fs_nil)))))))) run7_111100 w hA
            ·
              exact law_atF hR (fun _ h => cxT_ok h _ _ _ _ _) rels (fs_app (isE_ok hk) (fs_app (isE_ok hb0) (fs_app (isE_ok hb1) (fs_app (isE_ok hb2) (fs_app (isE_ok hb3) (fs_app (isE_ok hb4) (fs_app (isE_ok hb5) (fs_nil)))))))) run7_111101 w hA
          ·
            rcases bt_01 (V := va [a0, a1] []) 5 with hb5 | hb5
            ·
              exact law_atF hR (fun _ h => cxT_ok h _ _ _ _ _) rels (fs_app (isE_ok hk) (fs_app (isE_ok hb0) (fs_app (isE_ok hb1) (fs_app (isE_ok hb2) (fs_app (isE_ok hb3) (fs_app (isE_ok hb4) (fs_app (isE_ok hb5) (fs_nil)))))))) run7_111110 w hA
            ·
              exact law_atF hR (fun _ h => cxT_ok h _ _ _ _ _) rels (fs_app (isE_ok hk) (fs_app (isE_ok hb0) (fs_app (isE_ok hb1) (fs_app (isE_ok hb2) (fs_app (isE_ok hb3) (fs_app (isE_ok hb4) (fs_app (isE_ok hb5) (fs_nil)))))))) run7_111111 w hA
theorem walk (a0 : Int) (a1 : Int) (w : World) (w0 : (Lit.int .i64 a0).wf = true) (w1 : (Lit.int .i64 a1).wf = true) :
    Calls Try.prog 6 #[.int .i64 a0, .int .i64 a1] w fun e w' => e = .returned (.bool true) ∧ Below w.heap.size w w' := by
  have h0 := andE_bd (V := va [a0, a1] []) 0 7
  have hc : (andE 0 7).den (va [a0, a1] []) = 0 ∨ (andE 0 7).den (va [a0, a1] []) = 1 ∨ (andE 0 7).den (va [a0, a1] []) = 2 ∨ (andE 0 7).den (va [a0, a1] []) = 3 ∨ (andE 0 7).den (va [a0, a1] []) = 4 ∨ (andE 0 7).den (va [a0, a1] []) = 5 ∨ (andE 0 7).den (va [a0, a1] []) = 6 ∨ (andE 0 7).den (va [a0, a1] []) = 7 := by omega
  rcases hc with h | h | h | h | h | h | h | h
  · exact walk0 a0 a1 w w0 w1 h
  · exact walk1 a0 a1 w w0 w1 h
  · exact walk2 a0 a1 w w0 w1 h
  · exact walk3 a0 a1 w w0 w1 h
  · exact walk4 a0 a1 w w0 w1 h
  · exact walk5 a0 a1 w w0 w1 h
  · exact walk6 a0 a1 w w0 w1 h
  · exact walk7 a0 a1 w w0 w1 h

set_option maxRecDepth 100000 in
theorem lifted (os : Os) (started : os.Started) (H : Type) (enc : TypeId × Value → H) :
    ReturnsInHanded {} Try.checked os 6 .any (Rows.bumpAtOnceSpec.pre6 enc Try.prog Try.f6 Rows.bumpAtOnceRow.domain false) (Rows.bumpAtOnceSpec.post enc Try.prog Try.f6 false true false false) := by
  refine returnsInHanded_of_change (C := Try.checked) own started (by kernel_rfl) Try.func6
    (ChangeSpec.witness6 (enc := enc) (C := Try.checked) false ⟨#[], #[.int .i64 0, .int .i64 0], []⟩ 8 (by kernel_rfl) (by kernel_rfl) (by kernel_rfl) (by kernel_rfl)) ?_
  intro W base args ds gs before hval0 hW hcnd _
  have hval : ∀ (j : Nat) t v, Try.f6.params[j]? = some t → args[j]? = some v → Value.okWide Try.prog W .any base t v := hval0
  have hW' := hW
  obtain ⟨p, q, hA0, hV, rfl, hfz, hnd⟩ := hW
  have hA : DataW.TrodAll enc Try.prog W 0 (fun _ => true) true Try.f6.params.toList args.toList ds p := hA0
  rw [Try.params6] at hA hval
  obtain ⟨v0, vs0, d0, ds0, p0, q0, hargs, rfl, rfl, h0, r0⟩ := trodAll_cons hA
  obtain ⟨v1, vs1, d1, ds1, p1, q1, rfl, rfl, rfl, h1, r1⟩ := trodAll_cons r0
  obtain ⟨rfl, rfl, rfl⟩ := trodAll_nil r1
  obtain rfl : args = #[v0, v1] := by cases args; simp_all
  obtain ⟨rfl, rfl⟩ := trodVars_none hV
  obtain ⟨a0, rfl, rfl, rfl, w0⟩ := open_int Try.underlying3 (hval 0 3 v0 rfl rfl) h0
  obtain ⟨a1, rfl, rfl, rfl, w1⟩ := open_int Try.underlying3 (hval 1 3 v1 rfl rfl) h1
  clear hA0 hval0
  refine (walk a0 a1 W w0 w1).mono fun e W' ⟨he, bel⟩ => ?_
  subst he
  exact ⟨_, rfl, _, _, _, [], _, [], hW', trodAll_mk1 (shut_bool Try.underlying4 _), (trodAll_cons_mk (shut_int Try.underlying3 w0) (trodAll_cons_mk (shut_int Try.underlying3 w1) trodAll_mk0)), rfl, bel.frame _, fun h => by cases h⟩

theorem over : Rows.bumpAtOnceRow.holds Try.pinned (OpenSpec.ofChange Rows.bumpAtOnceSpec) :=
  OpenClaim.holds_of_wide 6 Try.f6 rfl rfl rfl rfl rfl rfl rfl ⟨rfl, rfl, rfl, rfl, rfl⟩ rfl rfl rfl rfl rfl (by kernel_rfl) Try.func6 (by kernel_rfl)
    (of_decide_eq_true (by kernel_rfl)) (by unfold Func.isWrapper; first | (rw [if_pos (by decide +kernel)]; kernel_rfl) | (rw [if_neg (by decide +kernel)]; exact ⟨rfl, rfl⟩))
    (fun os started H enc _ => lifted os started H enc)

/-- The statement. -/
theorem proved : Rows.BumpAtOnceSaid := over
#print axioms proved
end Go.Proofs.Ytmaggffcjemagaa.bumpAtOnce
