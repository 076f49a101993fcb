/-
  No cell of these rows narrows 'for every input' (looked for: loops, veiled, ifaces, maps, wideKeys, modest, calm, conditions, laid).
  DERIVED. THE GIVEN ROWS OF THIS SEAT. 5 by the template 'for every input the law returns true; each argument reads behind the call as it read before'; 0 by the template 'total and deterministic' (their statements: YtbhnibhoceepoaaTotals.lean).
  GIVEN WITH THE SEED: the statements are not yours to turn. If you find one false, say at which input.
  Laid BY PROGRAM, IN A SANDBOX (cutbox-rows.mjs): the forced cells as the released guide's own fill.sh prints them over the translation 06318f7f81b58a7c… (all of the seat's roots in one cut). By AI agents, Wed Nov 11 2026. No macro, syntax, notation, axiom, sorry.
-/
import Derived.Test.YtbhnibhoceepoaaChecked
import GoSem.Claim
import GoSem.ClaimJoined
import GoSem.ClaimMapViews
import Derived.JoinedTies
import Derived.KernelRfl
namespace Go.Proofs.Ytbhnibhoceepoaa
/- THE CELL 'sum', in the pinned program and in every row, IS THE sha256 OF THE DUMP (.gsa) THAT YtbhnibhoceepoaaProg.lean LOADS. Nothing in Lean hashes anything: it is a label: what it is worth is what the hold of that sum in a sandbox is worth. -/
noncomputable def Try.pinned : Pinned := { name := "ytbhnibhoceepoaa", sum := "06318f7f81b58a7c13c290cd2f7ffcf4554753198a9346b3d3ea6ca83d0a8e42", checked := Try.checked }
namespace Rows
def none {H : Type} : Left H := { results := [], args := [] }

/-- 'zoetropelaw19.MarksOut': WHATEVER THE INPUT: true; the input reads as it did. -/
def marksOutSpec : ChangeSpec := { name := "marksOut", fn := fun _ => fun
  | [d1, d2] => { results := [.lit (.bool true)], args := [d1, d2] }
  | _ => none }
def marksOutRow : OpenClaim := { program := "ytbhnibhoceepoaa", sum := "06318f7f81b58a7c13c290cd2f7ffcf4554753198a9346b3d3ea6ca83d0a8e42", func := "zoetrope/zoetropelaw19.MarksOut", spec := "marksOut", unfollowed := true, recurses := true, apart := false }
def MarksOutSaid : Prop := marksOutRow.holds Try.pinned (OpenSpec.ofChange marksOutSpec)

/-- ITS FALSE NEIGHBOUR: 'it returns false'. Refute it at one input. -/
def marksOutWrong : ChangeSpec := { name := "marksOut", fn := fun _ => fun
  | [d1, d2] => { results := [.lit (.bool false)], args := [d1, d2] }
  | _ => none }
def MarksOutWrongFalsely : Prop := marksOutRow.holds Try.pinned (OpenSpec.ofChange marksOutWrong)

/-- 'zoetropelaw19.MarksToLong': WHATEVER THE INPUT: true; the input reads as it did. -/
def marksToLongSpec : ChangeSpec := { name := "marksToLong", fn := fun _ => fun
  | [d1, d2] => { results := [.lit (.bool true)], args := [d1, d2] }
  | _ => none }
def marksToLongRow : OpenClaim := { program := "ytbhnibhoceepoaa", sum := "06318f7f81b58a7c13c290cd2f7ffcf4554753198a9346b3d3ea6ca83d0a8e42", func := "zoetrope/zoetropelaw19.MarksToLong", spec := "marksToLong", unfollowed := true, recurses := true, apart := false }
def MarksToLongSaid : Prop := marksToLongRow.holds Try.pinned (OpenSpec.ofChange marksToLongSpec)

/-- ITS FALSE NEIGHBOUR: 'it returns false'. Refute it at one input. -/
def marksToLongWrong : ChangeSpec := { name := "marksToLong", fn := fun _ => fun
  | [d1, d2] => { results := [.lit (.bool false)], args := [d1, d2] }
  | _ => none }
def MarksToLongWrongFalsely : Prop := marksToLongRow.holds Try.pinned (OpenSpec.ofChange marksToLongWrong)

/-- 'zoetropelaw19.MarksAll': WHATEVER THE INPUT: true; the input reads as it did. -/
def marksAllSpec : ChangeSpec := { name := "marksAll", fn := fun _ => fun
  | [d1, d2] => { results := [.lit (.bool true)], args := [d1, d2] }
  | _ => none }
def marksAllRow : OpenClaim := { program := "ytbhnibhoceepoaa", sum := "06318f7f81b58a7c13c290cd2f7ffcf4554753198a9346b3d3ea6ca83d0a8e42", func := "zoetrope/zoetropelaw19.MarksAll", spec := "marksAll", unfollowed := true, recurses := true, apart := false }
def MarksAllSaid : Prop := marksAllRow.holds Try.pinned (OpenSpec.ofChange marksAllSpec)

/-- ITS FALSE NEIGHBOUR: 'it returns false'. Refute it at one input. -/
def marksAllWrong : ChangeSpec := { name := "marksAll", fn := fun _ => fun
  | [d1, d2] => { results := [.lit (.bool false)], args := [d1, d2] }
  | _ => none }
def MarksAllWrongFalsely : Prop := marksAllRow.holds Try.pinned (OpenSpec.ofChange marksAllWrong)

/-- 'zoetropelaw19.MarksThis': WHATEVER THE INPUT: true; the input reads as it did. -/
def marksThisSpec : ChangeSpec := { name := "marksThis", fn := fun _ => fun
  | [d1, d2] => { results := [.lit (.bool true)], args := [d1, d2] }
  | _ => none }
def marksThisRow : OpenClaim := { program := "ytbhnibhoceepoaa", sum := "06318f7f81b58a7c13c290cd2f7ffcf4554753198a9346b3d3ea6ca83d0a8e42", func := "zoetrope/zoetropelaw19.MarksThis", spec := "marksThis", unfollowed := true, recurses := true, apart := false }
def MarksThisSaid : Prop := marksThisRow.holds Try.pinned (OpenSpec.ofChange marksThisSpec)

/-- ITS FALSE NEIGHBOUR: 'it returns false'. Refute it at one input. -/
def marksThisWrong : ChangeSpec := { name := "marksThis", fn := fun _ => fun
  | [d1, d2] => { results := [.lit (.bool false)], args := [d1, d2] }
  | _ => none }
def MarksThisWrongFalsely : Prop := marksThisRow.holds Try.pinned (OpenSpec.ofChange marksThisWrong)

/-- 'zoetropelaw19.MarksWindow': WHATEVER THE INPUT: true; the input reads as it did. -/
def marksWindowSpec : ChangeSpec := { name := "marksWindow", fn := fun _ => fun
  | [d1, d2, d3] => { results := [.lit (.bool true)], args := [d1, d2, d3] }
  | _ => none }
def marksWindowRow : OpenClaim := { program := "ytbhnibhoceepoaa", sum := "06318f7f81b58a7c13c290cd2f7ffcf4554753198a9346b3d3ea6ca83d0a8e42", func := "zoetrope/zoetropelaw19.MarksWindow", spec := "marksWindow", unfollowed := true, recurses := true, apart := false }
def MarksWindowSaid : Prop := marksWindowRow.holds Try.pinned (OpenSpec.ofChange marksWindowSpec)

/-- ITS FALSE NEIGHBOUR: 'it returns false'. Refute it at one input. -/
def marksWindowWrong : ChangeSpec := { name := "marksWindow", fn := fun _ => fun
  | [d1, d2, d3] => { results := [.lit (.bool false)], args := [d1, d2, d3] }
  | _ => none }
def MarksWindowWrongFalsely : Prop := marksWindowRow.holds Try.pinned (OpenSpec.ofChange marksWindowWrong)

/- THE SECOND FORM. 'bulk': how many values and letters a reading holds, each counted each time it is reached (what is shared counts as often as it is met; a slice's spare places count too). A statement '..UptoSaid' is the law's where the arguments, and the package variables that the reading takes, are together of bulk at most 1048576: NARROWER than '..Said'. Prove '..Said' where nothing that the law and all that it calls make is longer than what came in: it says more and counts as full. Else prove '..UptoSaid'. A law counts once. -/
mutual
def uptoBulk {H : Type} : DataW H → Nat
  | .lit (.string bytes) => bytes.length + 1
  | .lit _ => 1
  | .nil => 1
  | .ptr d => uptoBulk d + 1
  | .slice elems spare => uptoBulkAll elems + uptoBulkAll spare + 1
  | .agg parts => uptoBulkAll parts + 1
  | .iface _ d => uptoBulk d + 1
  | .map entries => uptoBulkEntries entries + 1
  | .held _ => 1
def uptoBulkAll {H : Type} : List (DataW H) → Nat
  | [] => 0
  | d :: r => uptoBulk d + uptoBulkAll r
def uptoBulkEntries {H : Type} : List (Lit × DataW H) → Nat
  | [] => 0
  | x :: r => uptoBulkEntry x + uptoBulkEntries r
def uptoBulkEntry {H : Type} : Lit × DataW H → Nat
  | (.string bytes, d) => bytes.length + uptoBulk d + 1
  | (_, d) => uptoBulk d + 1
 end
def uptoSmall : (H : Type) → List (DataW H) → Bool := fun _ ds => decide (uptoBulkAll ds ≤ 1048576)
def OpenSpec.upto (s : _root_.Go.ChangeSpec) : _root_.Go.OpenSpec := { _root_.Go.OpenSpec.ofChange s with cond := some uptoSmall }

/-- 'zoetropelaw19.MarksOut', WHERE WHAT IT READS IS OF BULK AT MOST 1048576: true; the input reads as it did. -/
def marksOutUptoRow : OpenClaim := { program := "ytbhnibhoceepoaa", sum := "06318f7f81b58a7c13c290cd2f7ffcf4554753198a9346b3d3ea6ca83d0a8e42", func := "zoetrope/zoetropelaw19.MarksOut", spec := "marksOut", unfollowed := true, recurses := true, apart := false, narrowed := true }
def MarksOutUptoSaid : Prop := marksOutUptoRow.holds Try.pinned (OpenSpec.upto marksOutSpec)

/-- 'zoetropelaw19.MarksToLong', WHERE WHAT IT READS IS OF BULK AT MOST 1048576: true; the input reads as it did. -/
def marksToLongUptoRow : OpenClaim := { program := "ytbhnibhoceepoaa", sum := "06318f7f81b58a7c13c290cd2f7ffcf4554753198a9346b3d3ea6ca83d0a8e42", func := "zoetrope/zoetropelaw19.MarksToLong", spec := "marksToLong", unfollowed := true, recurses := true, apart := false, narrowed := true }
def MarksToLongUptoSaid : Prop := marksToLongUptoRow.holds Try.pinned (OpenSpec.upto marksToLongSpec)

/-- 'zoetropelaw19.MarksAll', WHERE WHAT IT READS IS OF BULK AT MOST 1048576: true; the input reads as it did. -/
def marksAllUptoRow : OpenClaim := { program := "ytbhnibhoceepoaa", sum := "06318f7f81b58a7c13c290cd2f7ffcf4554753198a9346b3d3ea6ca83d0a8e42", func := "zoetrope/zoetropelaw19.MarksAll", spec := "marksAll", unfollowed := true, recurses := true, apart := false, narrowed := true }
def MarksAllUptoSaid : Prop := marksAllUptoRow.holds Try.pinned (OpenSpec.upto marksAllSpec)

/-- 'zoetropelaw19.MarksThis', WHERE WHAT IT READS IS OF BULK AT MOST 1048576: true; the input reads as it did. -/
def marksThisUptoRow : OpenClaim := { program := "ytbhnibhoceepoaa", sum := "06318f7f81b58a7c13c290cd2f7ffcf4554753198a9346b3d3ea6ca83d0a8e42", func := "zoetrope/zoetropelaw19.MarksThis", spec := "marksThis", unfollowed := true, recurses := true, apart := false, narrowed := true }
def MarksThisUptoSaid : Prop := marksThisUptoRow.holds Try.pinned (OpenSpec.upto marksThisSpec)

/-- 'zoetropelaw19.MarksWindow', WHERE WHAT IT READS IS OF BULK AT MOST 1048576: true; the input reads as it did. -/
def marksWindowUptoRow : OpenClaim := { program := "ytbhnibhoceepoaa", sum := "06318f7f81b58a7c13c290cd2f7ffcf4554753198a9346b3d3ea6ca83d0a8e42", func := "zoetrope/zoetropelaw19.MarksWindow", spec := "marksWindow", unfollowed := true, recurses := true, apart := false, narrowed := true }
def MarksWindowUptoSaid : Prop := marksWindowUptoRow.holds Try.pinned (OpenSpec.upto marksWindowSpec)

end Rows
end Go.Proofs.Ytbhnibhoceepoaa
