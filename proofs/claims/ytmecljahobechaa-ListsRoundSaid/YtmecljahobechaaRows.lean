/-
  No cell of these rows narrows 'for every input' (looked for: loops, veiled, ifaces, maps, wideKeys, modest, calm, conditions, laid).
  DERIVED. THE GIVEN ROWS OF THIS SEAT. 3 by the template 'for every input the law returns true; each argument reads behind the call as it read before'; 0 by the template 'total and deterministic' (their statements: YtmecljahobechaaTotals.lean).
  GIVEN WITH THE SEED: the statements are not yours to turn. If you find one false, say at which input.
  Laid BY PROGRAM, IN A SANDBOX (cutbox-rows.mjs): the forced cells as the released guide's own fill.sh prints them over the translation 4bb0005bac62baf1… (all of the seat's roots in one cut). By AI agents, Wed Nov 11 2026. No macro, syntax, notation, axiom, sorry.
-/
import Derived.Test.YtmecljahobechaaChecked
import GoSem.Claim
import GoSem.ClaimJoined
import GoSem.ClaimMapViews
import Derived.JoinedTies
import Derived.KernelRfl
namespace Go.Proofs.Ytmecljahobechaa
/- THE CELL 'sum', in the pinned program and in every row, IS THE sha256 OF THE DUMP (.gsa) THAT YtmecljahobechaaProg.lean LOADS. Nothing in Lean hashes anything: it is a label: what it is worth is what the hold of that sum in a sandbox is worth. -/
noncomputable def Try.pinned : Pinned := { name := "ytmecljahobechaa", sum := "4bb0005bac62baf19bdf2278429e01f8781e50399e6a109f805ad0a4a49e01de", checked := Try.checked }
namespace Rows
def none {H : Type} : Left H := { results := [], args := [] }

/-- 'zoetropelaw18.ListsRows': WHATEVER THE INPUT: true; the input reads as it did. -/
def listsRowsSpec : ChangeSpec := { name := "listsRows", fn := fun _ => fun
  | [d1, d2] => { results := [.lit (.bool true)], args := [d1, d2] }
  | _ => none }
def listsRowsRow : OpenClaim := { program := "ytmecljahobechaa", sum := "4bb0005bac62baf19bdf2278429e01f8781e50399e6a109f805ad0a4a49e01de", func := "zoetrope/zoetropelaw18.ListsRows", spec := "listsRows", unfollowed := true, recurses := true, apart := false }
def ListsRowsSaid : Prop := listsRowsRow.holds Try.pinned (OpenSpec.ofChange listsRowsSpec)

/-- ITS FALSE NEIGHBOUR: 'it returns false'. Refute it at one input. -/
def listsRowsWrong : ChangeSpec := { name := "listsRows", fn := fun _ => fun
  | [d1, d2] => { results := [.lit (.bool false)], args := [d1, d2] }
  | _ => none }
def ListsRowsWrongFalsely : Prop := listsRowsRow.holds Try.pinned (OpenSpec.ofChange listsRowsWrong)

/-- 'zoetropelaw18.ListsRound': WHATEVER THE INPUT: true; the input reads as it did. -/
def listsRoundSpec : ChangeSpec := { name := "listsRound", fn := fun _ => fun
  | [d1, d2] => { results := [.lit (.bool true)], args := [d1, d2] }
  | _ => none }
def listsRoundRow : OpenClaim := { program := "ytmecljahobechaa", sum := "4bb0005bac62baf19bdf2278429e01f8781e50399e6a109f805ad0a4a49e01de", func := "zoetrope/zoetropelaw18.ListsRound", spec := "listsRound", unfollowed := true, recurses := true, apart := false }
def ListsRoundSaid : Prop := listsRoundRow.holds Try.pinned (OpenSpec.ofChange listsRoundSpec)

/-- ITS FALSE NEIGHBOUR: 'it returns false'. Refute it at one input. -/
def listsRoundWrong : ChangeSpec := { name := "listsRound", fn := fun _ => fun
  | [d1, d2] => { results := [.lit (.bool false)], args := [d1, d2] }
  | _ => none }
def ListsRoundWrongFalsely : Prop := listsRoundRow.holds Try.pinned (OpenSpec.ofChange listsRoundWrong)

/-- 'zoetropelaw18.ListsTops': WHATEVER THE INPUT: true; the input reads as it did. -/
def listsTopsSpec : ChangeSpec := { name := "listsTops", fn := fun _ => fun
  | [d1, d2] => { results := [.lit (.bool true)], args := [d1, d2] }
  | _ => none }
def listsTopsRow : OpenClaim := { program := "ytmecljahobechaa", sum := "4bb0005bac62baf19bdf2278429e01f8781e50399e6a109f805ad0a4a49e01de", func := "zoetrope/zoetropelaw18.ListsTops", spec := "listsTops", unfollowed := true, recurses := true, apart := false }
def ListsTopsSaid : Prop := listsTopsRow.holds Try.pinned (OpenSpec.ofChange listsTopsSpec)

/-- ITS FALSE NEIGHBOUR: 'it returns false'. Refute it at one input. -/
def listsTopsWrong : ChangeSpec := { name := "listsTops", fn := fun _ => fun
  | [d1, d2] => { results := [.lit (.bool false)], args := [d1, d2] }
  | _ => none }
def ListsTopsWrongFalsely : Prop := listsTopsRow.holds Try.pinned (OpenSpec.ofChange listsTopsWrong)

/- THE SECOND FORM. 'bulk': how many values and letters a reading holds, each counted each time it is reached (what is shared counts as often as it is met; a slice's spare places count too). A statement '..UptoSaid' is the law's where the arguments, and the package variables that the reading takes, are together of bulk at most 1048576: NARROWER than '..Said'. Prove '..Said' where nothing that the law and all that it calls make is longer than what came in: it says more and counts as full. Else prove '..UptoSaid'. A law counts once. -/
mutual
def uptoBulk {H : Type} : DataW H → Nat
  | .lit (.string bytes) => bytes.length + 1
  | .lit _ => 1
  | .nil => 1
  | .ptr d => uptoBulk d + 1
  | .slice elems spare => uptoBulkAll elems + uptoBulkAll spare + 1
  | .agg parts => uptoBulkAll parts + 1
  | .iface _ d => uptoBulk d + 1
  | .map entries => uptoBulkEntries entries + 1
  | .held _ => 1
def uptoBulkAll {H : Type} : List (DataW H) → Nat
  | [] => 0
  | d :: r => uptoBulk d + uptoBulkAll r
def uptoBulkEntries {H : Type} : List (Lit × DataW H) → Nat
  | [] => 0
  | x :: r => uptoBulkEntry x + uptoBulkEntries r
def uptoBulkEntry {H : Type} : Lit × DataW H → Nat
  | (.string bytes, d) => bytes.length + uptoBulk d + 1
  | (_, d) => uptoBulk d + 1
 end
def uptoSmall : (H : Type) → List (DataW H) → Bool := fun _ ds => decide (uptoBulkAll ds ≤ 1048576)
def OpenSpec.upto (s : _root_.Go.ChangeSpec) : _root_.Go.OpenSpec := { _root_.Go.OpenSpec.ofChange s with cond := some uptoSmall }

/-- 'zoetropelaw18.ListsRows', WHERE WHAT IT READS IS OF BULK AT MOST 1048576: true; the input reads as it did. -/
def listsRowsUptoRow : OpenClaim := { program := "ytmecljahobechaa", sum := "4bb0005bac62baf19bdf2278429e01f8781e50399e6a109f805ad0a4a49e01de", func := "zoetrope/zoetropelaw18.ListsRows", spec := "listsRows", unfollowed := true, recurses := true, apart := false, narrowed := true }
def ListsRowsUptoSaid : Prop := listsRowsUptoRow.holds Try.pinned (OpenSpec.upto listsRowsSpec)

/-- 'zoetropelaw18.ListsRound', WHERE WHAT IT READS IS OF BULK AT MOST 1048576: true; the input reads as it did. -/
def listsRoundUptoRow : OpenClaim := { program := "ytmecljahobechaa", sum := "4bb0005bac62baf19bdf2278429e01f8781e50399e6a109f805ad0a4a49e01de", func := "zoetrope/zoetropelaw18.ListsRound", spec := "listsRound", unfollowed := true, recurses := true, apart := false, narrowed := true }
def ListsRoundUptoSaid : Prop := listsRoundUptoRow.holds Try.pinned (OpenSpec.upto listsRoundSpec)

/-- 'zoetropelaw18.ListsTops', WHERE WHAT IT READS IS OF BULK AT MOST 1048576: true; the input reads as it did. -/
def listsTopsUptoRow : OpenClaim := { program := "ytmecljahobechaa", sum := "4bb0005bac62baf19bdf2278429e01f8781e50399e6a109f805ad0a4a49e01de", func := "zoetrope/zoetropelaw18.ListsTops", spec := "listsTops", unfollowed := true, recurses := true, apart := false, narrowed := true }
def ListsTopsUptoSaid : Prop := listsTopsUptoRow.holds Try.pinned (OpenSpec.upto listsTopsSpec)

end Rows
end Go.Proofs.Ytmecljahobechaa
