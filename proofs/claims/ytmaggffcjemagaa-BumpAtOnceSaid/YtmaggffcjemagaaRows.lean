/-
  No cell of these rows narrows 'for every input' (looked for: loops, veiled, ifaces, maps, wideKeys, modest, calm, conditions, laid).
  DERIVED. THE GIVEN ROWS OF THIS SEAT. 4 by the template 'for every input the law returns true; each argument reads behind the call as it read before'; 0 by the template 'total and deterministic' (their statements: YtmaggffcjemagaaTotals.lean).
  GIVEN WITH THE SEED: the statements are not yours to turn. If you find one false, say at which input.
  Laid BY PROGRAM, IN A SANDBOX (cutbox-rows.mjs): the forced cells as the released guide's own fill.sh prints them over the translation 3653b180da44cc64… (all of the seat's roots in one cut). By AI agents, Wed Nov 11 2026. No macro, syntax, notation, axiom, sorry.
-/
import Derived.Test.YtmaggffcjemagaaChecked
import GoSem.Claim
import GoSem.ClaimJoined
import GoSem.ClaimMapViews
import Derived.JoinedTies
import Derived.KernelRfl
namespace Go.Proofs.Ytmaggffcjemagaa
/- THE CELL 'sum', in the pinned program and in every row, IS THE sha256 OF THE DUMP (.gsa) THAT YtmaggffcjemagaaProg.lean LOADS. Nothing in Lean hashes anything: it is a label: what it is worth is what the hold of that sum in a sandbox is worth. -/
noncomputable def Try.pinned : Pinned := { name := "ytmaggffcjemagaa", sum := "3653b180da44cc64b3fc0ef809e2897f3bb4faad58d489e500f060fb798c0f0f", checked := Try.checked }
namespace Rows
def none {H : Type} : Left H := { results := [], args := [] }

/-- 'zoetropelaw20.BumpSizes': WHATEVER THE INPUT: true; the input reads as it did. -/
def bumpSizesSpec : ChangeSpec := { name := "bumpSizes", fn := fun _ => fun
  | [d1, d2] => { results := [.lit (.bool true)], args := [d1, d2] }
  | _ => none }
def bumpSizesRow : OpenClaim := { program := "ytmaggffcjemagaa", sum := "3653b180da44cc64b3fc0ef809e2897f3bb4faad58d489e500f060fb798c0f0f", func := "zoetrope/zoetropelaw20.BumpSizes", spec := "bumpSizes", unfollowed := true, recurses := true, apart := false }
def BumpSizesSaid : Prop := bumpSizesRow.holds Try.pinned (OpenSpec.ofChange bumpSizesSpec)

/-- ITS FALSE NEIGHBOUR: 'it returns false'. Refute it at one input. -/
def bumpSizesWrong : ChangeSpec := { name := "bumpSizes", fn := fun _ => fun
  | [d1, d2] => { results := [.lit (.bool false)], args := [d1, d2] }
  | _ => none }
def BumpSizesWrongFalsely : Prop := bumpSizesRow.holds Try.pinned (OpenSpec.ofChange bumpSizesWrong)

/-- 'zoetropelaw20.BumpRows': WHATEVER THE INPUT: true; the input reads as it did. -/
def bumpRowsSpec : ChangeSpec := { name := "bumpRows", fn := fun _ => fun
  | [d1, d2] => { results := [.lit (.bool true)], args := [d1, d2] }
  | _ => none }
def bumpRowsRow : OpenClaim := { program := "ytmaggffcjemagaa", sum := "3653b180da44cc64b3fc0ef809e2897f3bb4faad58d489e500f060fb798c0f0f", func := "zoetrope/zoetropelaw20.BumpRows", spec := "bumpRows", unfollowed := true, recurses := true, apart := false }
def BumpRowsSaid : Prop := bumpRowsRow.holds Try.pinned (OpenSpec.ofChange bumpRowsSpec)

/-- ITS FALSE NEIGHBOUR: 'it returns false'. Refute it at one input. -/
def bumpRowsWrong : ChangeSpec := { name := "bumpRows", fn := fun _ => fun
  | [d1, d2] => { results := [.lit (.bool false)], args := [d1, d2] }
  | _ => none }
def BumpRowsWrongFalsely : Prop := bumpRowsRow.holds Try.pinned (OpenSpec.ofChange bumpRowsWrong)

/-- 'zoetropelaw20.BumpFrames': WHATEVER THE INPUT: true; the input reads as it did. -/
def bumpFramesSpec : ChangeSpec := { name := "bumpFrames", fn := fun _ => fun
  | [d] => { results := [.lit (.bool true)], args := [d] }
  | _ => none }
def bumpFramesRow : OpenClaim := { program := "ytmaggffcjemagaa", sum := "3653b180da44cc64b3fc0ef809e2897f3bb4faad58d489e500f060fb798c0f0f", func := "zoetrope/zoetropelaw20.BumpFrames", spec := "bumpFrames", unfollowed := true, recurses := true, apart := false }
def BumpFramesSaid : Prop := bumpFramesRow.holds Try.pinned (OpenSpec.ofChange bumpFramesSpec)

/-- ITS FALSE NEIGHBOUR: 'it returns false'. Refute it at one input. -/
def bumpFramesWrong : ChangeSpec := { name := "bumpFrames", fn := fun _ => fun
  | [d] => { results := [.lit (.bool false)], args := [d] }
  | _ => none }
def BumpFramesWrongFalsely : Prop := bumpFramesRow.holds Try.pinned (OpenSpec.ofChange bumpFramesWrong)

/-- 'zoetropelaw20.BumpAtOnce': WHATEVER THE INPUT: true; the input reads as it did. -/
def bumpAtOnceSpec : ChangeSpec := { name := "bumpAtOnce", fn := fun _ => fun
  | [d1, d2] => { results := [.lit (.bool true)], args := [d1, d2] }
  | _ => none }
def bumpAtOnceRow : OpenClaim := { program := "ytmaggffcjemagaa", sum := "3653b180da44cc64b3fc0ef809e2897f3bb4faad58d489e500f060fb798c0f0f", func := "zoetrope/zoetropelaw20.BumpAtOnce", spec := "bumpAtOnce", unfollowed := true, recurses := true, apart := false }
def BumpAtOnceSaid : Prop := bumpAtOnceRow.holds Try.pinned (OpenSpec.ofChange bumpAtOnceSpec)

/-- ITS FALSE NEIGHBOUR: 'it returns false'. Refute it at one input. -/
def bumpAtOnceWrong : ChangeSpec := { name := "bumpAtOnce", fn := fun _ => fun
  | [d1, d2] => { results := [.lit (.bool false)], args := [d1, d2] }
  | _ => none }
def BumpAtOnceWrongFalsely : Prop := bumpAtOnceRow.holds Try.pinned (OpenSpec.ofChange bumpAtOnceWrong)

/- THE SECOND FORM. 'bulk': how many values and letters a reading holds, each counted each time it is reached (what is shared counts as often as it is met; a slice's spare places count too). A statement '..UptoSaid' is the law's where the arguments, and the package variables that the reading takes, are together of bulk at most 1048576: NARROWER than '..Said'. Prove '..Said' where nothing that the law and all that it calls make is longer than what came in: it says more and counts as full. Else prove '..UptoSaid'. A law counts once. -/
mutual
def uptoBulk {H : Type} : DataW H → Nat
  | .lit (.string bytes) => bytes.length + 1
  | .lit _ => 1
  | .nil => 1
  | .ptr d => uptoBulk d + 1
  | .slice elems spare => uptoBulkAll elems + uptoBulkAll spare + 1
  | .agg parts => uptoBulkAll parts + 1
  | .iface _ d => uptoBulk d + 1
  | .map entries => uptoBulkEntries entries + 1
  | .held _ => 1
def uptoBulkAll {H : Type} : List (DataW H) → Nat
  | [] => 0
  | d :: r => uptoBulk d + uptoBulkAll r
def uptoBulkEntries {H : Type} : List (Lit × DataW H) → Nat
  | [] => 0
  | x :: r => uptoBulkEntry x + uptoBulkEntries r
def uptoBulkEntry {H : Type} : Lit × DataW H → Nat
  | (.string bytes, d) => bytes.length + uptoBulk d + 1
  | (_, d) => uptoBulk d + 1
 end
def uptoSmall : (H : Type) → List (DataW H) → Bool := fun _ ds => decide (uptoBulkAll ds ≤ 1048576)
def OpenSpec.upto (s : _root_.Go.ChangeSpec) : _root_.Go.OpenSpec := { _root_.Go.OpenSpec.ofChange s with cond := some uptoSmall }

/-- 'zoetropelaw20.BumpSizes', WHERE WHAT IT READS IS OF BULK AT MOST 1048576: true; the input reads as it did. -/
def bumpSizesUptoRow : OpenClaim := { program := "ytmaggffcjemagaa", sum := "3653b180da44cc64b3fc0ef809e2897f3bb4faad58d489e500f060fb798c0f0f", func := "zoetrope/zoetropelaw20.BumpSizes", spec := "bumpSizes", unfollowed := true, recurses := true, apart := false, narrowed := true }
def BumpSizesUptoSaid : Prop := bumpSizesUptoRow.holds Try.pinned (OpenSpec.upto bumpSizesSpec)

/-- 'zoetropelaw20.BumpRows', WHERE WHAT IT READS IS OF BULK AT MOST 1048576: true; the input reads as it did. -/
def bumpRowsUptoRow : OpenClaim := { program := "ytmaggffcjemagaa", sum := "3653b180da44cc64b3fc0ef809e2897f3bb4faad58d489e500f060fb798c0f0f", func := "zoetrope/zoetropelaw20.BumpRows", spec := "bumpRows", unfollowed := true, recurses := true, apart := false, narrowed := true }
def BumpRowsUptoSaid : Prop := bumpRowsUptoRow.holds Try.pinned (OpenSpec.upto bumpRowsSpec)

/-- 'zoetropelaw20.BumpFrames', WHERE WHAT IT READS IS OF BULK AT MOST 1048576: true; the input reads as it did. -/
def bumpFramesUptoRow : OpenClaim := { program := "ytmaggffcjemagaa", sum := "3653b180da44cc64b3fc0ef809e2897f3bb4faad58d489e500f060fb798c0f0f", func := "zoetrope/zoetropelaw20.BumpFrames", spec := "bumpFrames", unfollowed := true, recurses := true, apart := false, narrowed := true }
def BumpFramesUptoSaid : Prop := bumpFramesUptoRow.holds Try.pinned (OpenSpec.upto bumpFramesSpec)

/-- 'zoetropelaw20.BumpAtOnce', WHERE WHAT IT READS IS OF BULK AT MOST 1048576: true; the input reads as it did. -/
def bumpAtOnceUptoRow : OpenClaim := { program := "ytmaggffcjemagaa", sum := "3653b180da44cc64b3fc0ef809e2897f3bb4faad58d489e500f060fb798c0f0f", func := "zoetrope/zoetropelaw20.BumpAtOnce", spec := "bumpAtOnce", unfollowed := true, recurses := true, apart := false, narrowed := true }
def BumpAtOnceUptoSaid : Prop := bumpAtOnceUptoRow.holds Try.pinned (OpenSpec.upto bumpAtOnceSpec)

end Rows
end Go.Proofs.Ytmaggffcjemagaa
