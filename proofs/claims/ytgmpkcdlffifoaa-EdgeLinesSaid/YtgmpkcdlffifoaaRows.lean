/-
  No cell of these rows narrows 'for every input' (looked for: loops, veiled, ifaces, maps, wideKeys, modest, calm, conditions, laid).
  DERIVED. THE GIVEN ROWS OF THIS SEAT. 8 by the template 'for every input the law returns true; each argument reads behind the call as it read before'; 0 by the template 'total and deterministic' (their statements: YtgmpkcdlffifoaaTotals.lean).
  GIVEN WITH THE SEED: the statements are not yours to turn. If you find one false, say at which input.
  Laid BY PROGRAM, IN A SANDBOX (cutbox-rows.mjs): the forced cells as the released guide's own fill.sh prints them over the translation 9d52b6125d65e60e… (all of the seat's roots in one cut). By AI agents, Wed Nov 11 2026. No macro, syntax, notation, axiom, sorry.
-/
import Derived.Test.YtgmpkcdlffifoaaChecked
import GoSem.Claim
import GoSem.ClaimJoined
import GoSem.ClaimMapViews
import Derived.JoinedTies
import Derived.KernelRfl
namespace Go.Proofs.Ytgmpkcdlffifoaa
/- THE CELL 'sum', in the pinned program and in every row, IS THE sha256 OF THE DUMP (.gsa) THAT YtgmpkcdlffifoaaProg.lean LOADS. Nothing in Lean hashes anything: it is a label: what it is worth is what the hold of that sum in a sandbox is worth. -/
noncomputable def Try.pinned : Pinned := { name := "ytgmpkcdlffifoaa", sum := "9d52b6125d65e60e0f257d42709d3e41fa72295a105cdf15043467ac905d9f5f", checked := Try.checked }
namespace Rows
def none {H : Type} : Left H := { results := [], args := [] }

/-- 'zoetropelaw16.EdgeTables': WHATEVER THE INPUT: true; the input reads as it did. -/
def edgeTablesSpec : ChangeSpec := { name := "edgeTables", fn := fun _ => fun
  | [d1, d2, d3] => { results := [.lit (.bool true)], args := [d1, d2, d3] }
  | _ => none }
def edgeTablesRow : OpenClaim := { program := "ytgmpkcdlffifoaa", sum := "9d52b6125d65e60e0f257d42709d3e41fa72295a105cdf15043467ac905d9f5f", func := "zoetrope/zoetropelaw16.EdgeTables", spec := "edgeTables", inPlace := ["sync/atomic.LoadUint32", "(*internal/sync.Mutex).Lock", "internal/race.Disable", "sync/atomic.CompareAndSwapInt32", "internal/race.Enable", "internal/race.Acquire", "(*internal/sync.Mutex).lockSlow", "internal/sync.runtime_canSpin", "internal/sync.runtime_doSpin", "internal/sync.throw", "internal/sync.runtime_nanotime", "internal/sync.runtime_SemacquireMutex", "sync/atomic.AddInt32", "(*internal/sync.Mutex).Unlock", "internal/race.ReleaseMerge", "(*internal/sync.Mutex).unlockSlow", "internal/sync.fatal", "internal/sync.runtime_Semrelease", "sync/atomic.StoreUint32"], unfollowed := true, recurses := true, apart := false }
def EdgeTablesSaid : Prop := edgeTablesRow.holds Try.pinned (OpenSpec.ofChange edgeTablesSpec)

/-- ITS FALSE NEIGHBOUR: 'it returns false'. Refute it at one input. -/
def edgeTablesWrong : ChangeSpec := { name := "edgeTables", fn := fun _ => fun
  | [d1, d2, d3] => { results := [.lit (.bool false)], args := [d1, d2, d3] }
  | _ => none }
def EdgeTablesWrongFalsely : Prop := edgeTablesRow.holds Try.pinned (OpenSpec.ofChange edgeTablesWrong)

/-- 'zoetropelaw16.EdgeLines': WHATEVER THE INPUT: true; the input reads as it did. -/
def edgeLinesSpec : ChangeSpec := { name := "edgeLines", fn := fun _ => fun
  | [d1, d2, d3, d4, d5, d6, d7] => { results := [.lit (.bool true)], args := [d1, d2, d3, d4, d5, d6, d7] }
  | _ => none }
def edgeLinesRow : OpenClaim := { program := "ytgmpkcdlffifoaa", sum := "9d52b6125d65e60e0f257d42709d3e41fa72295a105cdf15043467ac905d9f5f", func := "zoetrope/zoetropelaw16.EdgeLines", spec := "edgeLines", inPlace := ["sync/atomic.LoadUint32", "(*internal/sync.Mutex).Lock", "internal/race.Disable", "sync/atomic.CompareAndSwapInt32", "internal/race.Enable", "internal/race.Acquire", "(*internal/sync.Mutex).lockSlow", "internal/sync.runtime_canSpin", "internal/sync.runtime_doSpin", "internal/sync.throw", "internal/sync.runtime_nanotime", "internal/sync.runtime_SemacquireMutex", "sync/atomic.AddInt32", "(*internal/sync.Mutex).Unlock", "internal/race.ReleaseMerge", "(*internal/sync.Mutex).unlockSlow", "internal/sync.fatal", "internal/sync.runtime_Semrelease", "sync/atomic.StoreUint32"], unfollowed := true, recurses := true, apart := false }
def EdgeLinesSaid : Prop := edgeLinesRow.holds Try.pinned (OpenSpec.ofChange edgeLinesSpec)

/-- ITS FALSE NEIGHBOUR: 'it returns false'. Refute it at one input. -/
def edgeLinesWrong : ChangeSpec := { name := "edgeLines", fn := fun _ => fun
  | [d1, d2, d3, d4, d5, d6, d7] => { results := [.lit (.bool false)], args := [d1, d2, d3, d4, d5, d6, d7] }
  | _ => none }
def EdgeLinesWrongFalsely : Prop := edgeLinesRow.holds Try.pinned (OpenSpec.ofChange edgeLinesWrong)

/-- 'zoetropelaw16.EdgeTurned': WHATEVER THE INPUT: true; the input reads as it did. -/
def edgeTurnedSpec : ChangeSpec := { name := "edgeTurned", fn := fun _ => fun
  | [d1, d2, d3, d4, d5] => { results := [.lit (.bool true)], args := [d1, d2, d3, d4, d5] }
  | _ => none }
def edgeTurnedRow : OpenClaim := { program := "ytgmpkcdlffifoaa", sum := "9d52b6125d65e60e0f257d42709d3e41fa72295a105cdf15043467ac905d9f5f", func := "zoetrope/zoetropelaw16.EdgeTurned", spec := "edgeTurned", inPlace := ["sync/atomic.LoadUint32", "(*internal/sync.Mutex).Lock", "internal/race.Disable", "sync/atomic.CompareAndSwapInt32", "internal/race.Enable", "internal/race.Acquire", "(*internal/sync.Mutex).lockSlow", "internal/sync.runtime_canSpin", "internal/sync.runtime_doSpin", "internal/sync.throw", "internal/sync.runtime_nanotime", "internal/sync.runtime_SemacquireMutex", "sync/atomic.AddInt32", "(*internal/sync.Mutex).Unlock", "internal/race.ReleaseMerge", "(*internal/sync.Mutex).unlockSlow", "internal/sync.fatal", "internal/sync.runtime_Semrelease", "sync/atomic.StoreUint32"], unfollowed := true, recurses := true, apart := false }
def EdgeTurnedSaid : Prop := edgeTurnedRow.holds Try.pinned (OpenSpec.ofChange edgeTurnedSpec)

/-- ITS FALSE NEIGHBOUR: 'it returns false'. Refute it at one input. -/
def edgeTurnedWrong : ChangeSpec := { name := "edgeTurned", fn := fun _ => fun
  | [d1, d2, d3, d4, d5] => { results := [.lit (.bool false)], args := [d1, d2, d3, d4, d5] }
  | _ => none }
def EdgeTurnedWrongFalsely : Prop := edgeTurnedRow.holds Try.pinned (OpenSpec.ofChange edgeTurnedWrong)

/-- 'zoetropelaw16.EdgeQuiet': WHATEVER THE INPUT: true; the input reads as it did. -/
def edgeQuietSpec : ChangeSpec := { name := "edgeQuiet", fn := fun _ => fun
  | [d1, d2, d3, d4] => { results := [.lit (.bool true)], args := [d1, d2, d3, d4] }
  | _ => none }
def edgeQuietRow : OpenClaim := { program := "ytgmpkcdlffifoaa", sum := "9d52b6125d65e60e0f257d42709d3e41fa72295a105cdf15043467ac905d9f5f", func := "zoetrope/zoetropelaw16.EdgeQuiet", spec := "edgeQuiet", inPlace := ["sync/atomic.LoadUint32", "(*internal/sync.Mutex).Lock", "internal/race.Disable", "sync/atomic.CompareAndSwapInt32", "internal/race.Enable", "internal/race.Acquire", "(*internal/sync.Mutex).lockSlow", "internal/sync.runtime_canSpin", "internal/sync.runtime_doSpin", "internal/sync.throw", "internal/sync.runtime_nanotime", "internal/sync.runtime_SemacquireMutex", "sync/atomic.AddInt32", "(*internal/sync.Mutex).Unlock", "internal/race.ReleaseMerge", "(*internal/sync.Mutex).unlockSlow", "internal/sync.fatal", "internal/sync.runtime_Semrelease", "sync/atomic.StoreUint32"], unfollowed := true, recurses := true, apart := false }
def EdgeQuietSaid : Prop := edgeQuietRow.holds Try.pinned (OpenSpec.ofChange edgeQuietSpec)

/-- ITS FALSE NEIGHBOUR: 'it returns false'. Refute it at one input. -/
def edgeQuietWrong : ChangeSpec := { name := "edgeQuiet", fn := fun _ => fun
  | [d1, d2, d3, d4] => { results := [.lit (.bool false)], args := [d1, d2, d3, d4] }
  | _ => none }
def EdgeQuietWrongFalsely : Prop := edgeQuietRow.holds Try.pinned (OpenSpec.ofChange edgeQuietWrong)

/-- 'zoetropelaw16.EdgeRises': WHATEVER THE INPUT: true; the input reads as it did. -/
def edgeRisesSpec : ChangeSpec := { name := "edgeRises", fn := fun _ => fun
  | [d1, d2] => { results := [.lit (.bool true)], args := [d1, d2] }
  | _ => none }
def edgeRisesRow : OpenClaim := { program := "ytgmpkcdlffifoaa", sum := "9d52b6125d65e60e0f257d42709d3e41fa72295a105cdf15043467ac905d9f5f", func := "zoetrope/zoetropelaw16.EdgeRises", spec := "edgeRises", inPlace := ["sync/atomic.LoadUint32", "(*internal/sync.Mutex).Lock", "internal/race.Disable", "sync/atomic.CompareAndSwapInt32", "internal/race.Enable", "internal/race.Acquire", "(*internal/sync.Mutex).lockSlow", "internal/sync.runtime_canSpin", "internal/sync.runtime_doSpin", "internal/sync.throw", "internal/sync.runtime_nanotime", "internal/sync.runtime_SemacquireMutex", "sync/atomic.AddInt32", "(*internal/sync.Mutex).Unlock", "internal/race.ReleaseMerge", "(*internal/sync.Mutex).unlockSlow", "internal/sync.fatal", "internal/sync.runtime_Semrelease", "sync/atomic.StoreUint32"], unfollowed := true, recurses := true, apart := false }
def EdgeRisesSaid : Prop := edgeRisesRow.holds Try.pinned (OpenSpec.ofChange edgeRisesSpec)

/-- ITS FALSE NEIGHBOUR: 'it returns false'. Refute it at one input. -/
def edgeRisesWrong : ChangeSpec := { name := "edgeRises", fn := fun _ => fun
  | [d1, d2] => { results := [.lit (.bool false)], args := [d1, d2] }
  | _ => none }
def EdgeRisesWrongFalsely : Prop := edgeRisesRow.holds Try.pinned (OpenSpec.ofChange edgeRisesWrong)

/-- 'zoetropelaw16.EdgeStrengths': WHATEVER THE INPUT: true; the input reads as it did. -/
def edgeStrengthsSpec : ChangeSpec := { name := "edgeStrengths", fn := fun _ => fun
  | [d] => { results := [.lit (.bool true)], args := [d] }
  | _ => none }
def edgeStrengthsRow : OpenClaim := { program := "ytgmpkcdlffifoaa", sum := "9d52b6125d65e60e0f257d42709d3e41fa72295a105cdf15043467ac905d9f5f", func := "zoetrope/zoetropelaw16.EdgeStrengths", spec := "edgeStrengths", inPlace := ["sync/atomic.LoadUint32", "(*internal/sync.Mutex).Lock", "internal/race.Disable", "sync/atomic.CompareAndSwapInt32", "internal/race.Enable", "internal/race.Acquire", "(*internal/sync.Mutex).lockSlow", "internal/sync.runtime_canSpin", "internal/sync.runtime_doSpin", "internal/sync.throw", "internal/sync.runtime_nanotime", "internal/sync.runtime_SemacquireMutex", "sync/atomic.AddInt32", "(*internal/sync.Mutex).Unlock", "internal/race.ReleaseMerge", "(*internal/sync.Mutex).unlockSlow", "internal/sync.fatal", "internal/sync.runtime_Semrelease", "sync/atomic.StoreUint32"], unfollowed := true, recurses := true, apart := false }
def EdgeStrengthsSaid : Prop := edgeStrengthsRow.holds Try.pinned (OpenSpec.ofChange edgeStrengthsSpec)

/-- ITS FALSE NEIGHBOUR: 'it returns false'. Refute it at one input. -/
def edgeStrengthsWrong : ChangeSpec := { name := "edgeStrengths", fn := fun _ => fun
  | [d] => { results := [.lit (.bool false)], args := [d] }
  | _ => none }
def EdgeStrengthsWrongFalsely : Prop := edgeStrengthsRow.holds Try.pinned (OpenSpec.ofChange edgeStrengthsWrong)

/-- 'zoetropelaw16.EdgeKeeps': WHATEVER THE INPUT: true; the input reads as it did. -/
def edgeKeepsSpec : ChangeSpec := { name := "edgeKeeps", fn := fun _ => fun
  | [d1, d2, d3, d4] => { results := [.lit (.bool true)], args := [d1, d2, d3, d4] }
  | _ => none }
def edgeKeepsRow : OpenClaim := { program := "ytgmpkcdlffifoaa", sum := "9d52b6125d65e60e0f257d42709d3e41fa72295a105cdf15043467ac905d9f5f", func := "zoetrope/zoetropelaw16.EdgeKeeps", spec := "edgeKeeps", inPlace := ["sync/atomic.LoadUint32", "(*internal/sync.Mutex).Lock", "internal/race.Disable", "sync/atomic.CompareAndSwapInt32", "internal/race.Enable", "internal/race.Acquire", "(*internal/sync.Mutex).lockSlow", "internal/sync.runtime_canSpin", "internal/sync.runtime_doSpin", "internal/sync.throw", "internal/sync.runtime_nanotime", "internal/sync.runtime_SemacquireMutex", "sync/atomic.AddInt32", "(*internal/sync.Mutex).Unlock", "internal/race.ReleaseMerge", "(*internal/sync.Mutex).unlockSlow", "internal/sync.fatal", "internal/sync.runtime_Semrelease", "sync/atomic.StoreUint32"], unfollowed := true, recurses := true, apart := false }
def EdgeKeepsSaid : Prop := edgeKeepsRow.holds Try.pinned (OpenSpec.ofChange edgeKeepsSpec)

/-- ITS FALSE NEIGHBOUR: 'it returns false'. Refute it at one input. -/
def edgeKeepsWrong : ChangeSpec := { name := "edgeKeeps", fn := fun _ => fun
  | [d1, d2, d3, d4] => { results := [.lit (.bool false)], args := [d1, d2, d3, d4] }
  | _ => none }
def EdgeKeepsWrongFalsely : Prop := edgeKeepsRow.holds Try.pinned (OpenSpec.ofChange edgeKeepsWrong)

/-- 'zoetropelaw16.EdgeNear': WHATEVER THE INPUT: true; the input reads as it did. -/
def edgeNearSpec : ChangeSpec := { name := "edgeNear", fn := fun _ => fun
  | [d1, d2, d3, d4, d5] => { results := [.lit (.bool true)], args := [d1, d2, d3, d4, d5] }
  | _ => none }
def edgeNearRow : OpenClaim := { program := "ytgmpkcdlffifoaa", sum := "9d52b6125d65e60e0f257d42709d3e41fa72295a105cdf15043467ac905d9f5f", func := "zoetrope/zoetropelaw16.EdgeNear", spec := "edgeNear", inPlace := ["sync/atomic.LoadUint32", "(*internal/sync.Mutex).Lock", "internal/race.Disable", "sync/atomic.CompareAndSwapInt32", "internal/race.Enable", "internal/race.Acquire", "(*internal/sync.Mutex).lockSlow", "internal/sync.runtime_canSpin", "internal/sync.runtime_doSpin", "internal/sync.throw", "internal/sync.runtime_nanotime", "internal/sync.runtime_SemacquireMutex", "sync/atomic.AddInt32", "(*internal/sync.Mutex).Unlock", "internal/race.ReleaseMerge", "(*internal/sync.Mutex).unlockSlow", "internal/sync.fatal", "internal/sync.runtime_Semrelease", "sync/atomic.StoreUint32"], unfollowed := true, recurses := true, apart := false }
def EdgeNearSaid : Prop := edgeNearRow.holds Try.pinned (OpenSpec.ofChange edgeNearSpec)

/-- ITS FALSE NEIGHBOUR: 'it returns false'. Refute it at one input. -/
def edgeNearWrong : ChangeSpec := { name := "edgeNear", fn := fun _ => fun
  | [d1, d2, d3, d4, d5] => { results := [.lit (.bool false)], args := [d1, d2, d3, d4, d5] }
  | _ => none }
def EdgeNearWrongFalsely : Prop := edgeNearRow.holds Try.pinned (OpenSpec.ofChange edgeNearWrong)

/- THE SECOND FORM. 'bulk': how many values and letters a reading holds, each counted each time it is reached (what is shared counts as often as it is met; a slice's spare places count too). A statement '..UptoSaid' is the law's where the arguments, and the package variables that the reading takes, are together of bulk at most 1048576: NARROWER than '..Said'. Prove '..Said' where nothing that the law and all that it calls make is longer than what came in: it says more and counts as full. Else prove '..UptoSaid'. A law counts once. -/
mutual
def uptoBulk {H : Type} : DataW H → Nat
  | .lit (.string bytes) => bytes.length + 1
  | .lit _ => 1
  | .nil => 1
  | .ptr d => uptoBulk d + 1
  | .slice elems spare => uptoBulkAll elems + uptoBulkAll spare + 1
  | .agg parts => uptoBulkAll parts + 1
  | .iface _ d => uptoBulk d + 1
  | .map entries => uptoBulkEntries entries + 1
  | .held _ => 1
def uptoBulkAll {H : Type} : List (DataW H) → Nat
  | [] => 0
  | d :: r => uptoBulk d + uptoBulkAll r
def uptoBulkEntries {H : Type} : List (Lit × DataW H) → Nat
  | [] => 0
  | x :: r => uptoBulkEntry x + uptoBulkEntries r
def uptoBulkEntry {H : Type} : Lit × DataW H → Nat
  | (.string bytes, d) => bytes.length + uptoBulk d + 1
  | (_, d) => uptoBulk d + 1
 end
def uptoSmall : (H : Type) → List (DataW H) → Bool := fun _ ds => decide (uptoBulkAll ds ≤ 1048576)
def OpenSpec.upto (s : _root_.Go.ChangeSpec) : _root_.Go.OpenSpec := { _root_.Go.OpenSpec.ofChange s with cond := some uptoSmall }

/-- 'zoetropelaw16.EdgeTables', WHERE WHAT IT READS IS OF BULK AT MOST 1048576: true; the input reads as it did. -/
def edgeTablesUptoRow : OpenClaim := { program := "ytgmpkcdlffifoaa", sum := "9d52b6125d65e60e0f257d42709d3e41fa72295a105cdf15043467ac905d9f5f", func := "zoetrope/zoetropelaw16.EdgeTables", spec := "edgeTables", inPlace := ["sync/atomic.LoadUint32", "(*internal/sync.Mutex).Lock", "internal/race.Disable", "sync/atomic.CompareAndSwapInt32", "internal/race.Enable", "internal/race.Acquire", "(*internal/sync.Mutex).lockSlow", "internal/sync.runtime_canSpin", "internal/sync.runtime_doSpin", "internal/sync.throw", "internal/sync.runtime_nanotime", "internal/sync.runtime_SemacquireMutex", "sync/atomic.AddInt32", "(*internal/sync.Mutex).Unlock", "internal/race.ReleaseMerge", "(*internal/sync.Mutex).unlockSlow", "internal/sync.fatal", "internal/sync.runtime_Semrelease", "sync/atomic.StoreUint32"], unfollowed := true, recurses := true, apart := false, narrowed := true }
def EdgeTablesUptoSaid : Prop := edgeTablesUptoRow.holds Try.pinned (OpenSpec.upto edgeTablesSpec)

/-- 'zoetropelaw16.EdgeLines', WHERE WHAT IT READS IS OF BULK AT MOST 1048576: true; the input reads as it did. -/
def edgeLinesUptoRow : OpenClaim := { program := "ytgmpkcdlffifoaa", sum := "9d52b6125d65e60e0f257d42709d3e41fa72295a105cdf15043467ac905d9f5f", func := "zoetrope/zoetropelaw16.EdgeLines", spec := "edgeLines", inPlace := ["sync/atomic.LoadUint32", "(*internal/sync.Mutex).Lock", "internal/race.Disable", "sync/atomic.CompareAndSwapInt32", "internal/race.Enable", "internal/race.Acquire", "(*internal/sync.Mutex).lockSlow", "internal/sync.runtime_canSpin", "internal/sync.runtime_doSpin", "internal/sync.throw", "internal/sync.runtime_nanotime", "internal/sync.runtime_SemacquireMutex", "sync/atomic.AddInt32", "(*internal/sync.Mutex).Unlock", "internal/race.ReleaseMerge", "(*internal/sync.Mutex).unlockSlow", "internal/sync.fatal", "internal/sync.runtime_Semrelease", "sync/atomic.StoreUint32"], unfollowed := true, recurses := true, apart := false, narrowed := true }
def EdgeLinesUptoSaid : Prop := edgeLinesUptoRow.holds Try.pinned (OpenSpec.upto edgeLinesSpec)

/-- 'zoetropelaw16.EdgeTurned', WHERE WHAT IT READS IS OF BULK AT MOST 1048576: true; the input reads as it did. -/
def edgeTurnedUptoRow : OpenClaim := { program := "ytgmpkcdlffifoaa", sum := "9d52b6125d65e60e0f257d42709d3e41fa72295a105cdf15043467ac905d9f5f", func := "zoetrope/zoetropelaw16.EdgeTurned", spec := "edgeTurned", inPlace := ["sync/atomic.LoadUint32", "(*internal/sync.Mutex).Lock", "internal/race.Disable", "sync/atomic.CompareAndSwapInt32", "internal/race.Enable", "internal/race.Acquire", "(*internal/sync.Mutex).lockSlow", "internal/sync.runtime_canSpin", "internal/sync.runtime_doSpin", "internal/sync.throw", "internal/sync.runtime_nanotime", "internal/sync.runtime_SemacquireMutex", "sync/atomic.AddInt32", "(*internal/sync.Mutex).Unlock", "internal/race.ReleaseMerge", "(*internal/sync.Mutex).unlockSlow", "internal/sync.fatal", "internal/sync.runtime_Semrelease", "sync/atomic.StoreUint32"], unfollowed := true, recurses := true, apart := false, narrowed := true }
def EdgeTurnedUptoSaid : Prop := edgeTurnedUptoRow.holds Try.pinned (OpenSpec.upto edgeTurnedSpec)

/-- 'zoetropelaw16.EdgeQuiet', WHERE WHAT IT READS IS OF BULK AT MOST 1048576: true; the input reads as it did. -/
def edgeQuietUptoRow : OpenClaim := { program := "ytgmpkcdlffifoaa", sum := "9d52b6125d65e60e0f257d42709d3e41fa72295a105cdf15043467ac905d9f5f", func := "zoetrope/zoetropelaw16.EdgeQuiet", spec := "edgeQuiet", inPlace := ["sync/atomic.LoadUint32", "(*internal/sync.Mutex).Lock", "internal/race.Disable", "sync/atomic.CompareAndSwapInt32", "internal/race.Enable", "internal/race.Acquire", "(*internal/sync.Mutex).lockSlow", "internal/sync.runtime_canSpin", "internal/sync.runtime_doSpin", "internal/sync.throw", "internal/sync.runtime_nanotime", "internal/sync.runtime_SemacquireMutex", "sync/atomic.AddInt32", "(*internal/sync.Mutex).Unlock", "internal/race.ReleaseMerge", "(*internal/sync.Mutex).unlockSlow", "internal/sync.fatal", "internal/sync.runtime_Semrelease", "sync/atomic.StoreUint32"], unfollowed := true, recurses := true, apart := false, narrowed := true }
def EdgeQuietUptoSaid : Prop := edgeQuietUptoRow.holds Try.pinned (OpenSpec.upto edgeQuietSpec)

/-- 'zoetropelaw16.EdgeRises', WHERE WHAT IT READS IS OF BULK AT MOST 1048576: true; the input reads as it did. -/
def edgeRisesUptoRow : OpenClaim := { program := "ytgmpkcdlffifoaa", sum := "9d52b6125d65e60e0f257d42709d3e41fa72295a105cdf15043467ac905d9f5f", func := "zoetrope/zoetropelaw16.EdgeRises", spec := "edgeRises", inPlace := ["sync/atomic.LoadUint32", "(*internal/sync.Mutex).Lock", "internal/race.Disable", "sync/atomic.CompareAndSwapInt32", "internal/race.Enable", "internal/race.Acquire", "(*internal/sync.Mutex).lockSlow", "internal/sync.runtime_canSpin", "internal/sync.runtime_doSpin", "internal/sync.throw", "internal/sync.runtime_nanotime", "internal/sync.runtime_SemacquireMutex", "sync/atomic.AddInt32", "(*internal/sync.Mutex).Unlock", "internal/race.ReleaseMerge", "(*internal/sync.Mutex).unlockSlow", "internal/sync.fatal", "internal/sync.runtime_Semrelease", "sync/atomic.StoreUint32"], unfollowed := true, recurses := true, apart := false, narrowed := true }
def EdgeRisesUptoSaid : Prop := edgeRisesUptoRow.holds Try.pinned (OpenSpec.upto edgeRisesSpec)

/-- 'zoetropelaw16.EdgeStrengths', WHERE WHAT IT READS IS OF BULK AT MOST 1048576: true; the input reads as it did. -/
def edgeStrengthsUptoRow : OpenClaim := { program := "ytgmpkcdlffifoaa", sum := "9d52b6125d65e60e0f257d42709d3e41fa72295a105cdf15043467ac905d9f5f", func := "zoetrope/zoetropelaw16.EdgeStrengths", spec := "edgeStrengths", inPlace := ["sync/atomic.LoadUint32", "(*internal/sync.Mutex).Lock", "internal/race.Disable", "sync/atomic.CompareAndSwapInt32", "internal/race.Enable", "internal/race.Acquire", "(*internal/sync.Mutex).lockSlow", "internal/sync.runtime_canSpin", "internal/sync.runtime_doSpin", "internal/sync.throw", "internal/sync.runtime_nanotime", "internal/sync.runtime_SemacquireMutex", "sync/atomic.AddInt32", "(*internal/sync.Mutex).Unlock", "internal/race.ReleaseMerge", "(*internal/sync.Mutex).unlockSlow", "internal/sync.fatal", "internal/sync.runtime_Semrelease", "sync/atomic.StoreUint32"], unfollowed := true, recurses := true, apart := false, narrowed := true }
def EdgeStrengthsUptoSaid : Prop := edgeStrengthsUptoRow.holds Try.pinned (OpenSpec.upto edgeStrengthsSpec)

/-- 'zoetropelaw16.EdgeKeeps', WHERE WHAT IT READS IS OF BULK AT MOST 1048576: true; the input reads as it did. -/
def edgeKeepsUptoRow : OpenClaim := { program := "ytgmpkcdlffifoaa", sum := "9d52b6125d65e60e0f257d42709d3e41fa72295a105cdf15043467ac905d9f5f", func := "zoetrope/zoetropelaw16.EdgeKeeps", spec := "edgeKeeps", inPlace := ["sync/atomic.LoadUint32", "(*internal/sync.Mutex).Lock", "internal/race.Disable", "sync/atomic.CompareAndSwapInt32", "internal/race.Enable", "internal/race.Acquire", "(*internal/sync.Mutex).lockSlow", "internal/sync.runtime_canSpin", "internal/sync.runtime_doSpin", "internal/sync.throw", "internal/sync.runtime_nanotime", "internal/sync.runtime_SemacquireMutex", "sync/atomic.AddInt32", "(*internal/sync.Mutex).Unlock", "internal/race.ReleaseMerge", "(*internal/sync.Mutex).unlockSlow", "internal/sync.fatal", "internal/sync.runtime_Semrelease", "sync/atomic.StoreUint32"], unfollowed := true, recurses := true, apart := false, narrowed := true }
def EdgeKeepsUptoSaid : Prop := edgeKeepsUptoRow.holds Try.pinned (OpenSpec.upto edgeKeepsSpec)

/-- 'zoetropelaw16.EdgeNear', WHERE WHAT IT READS IS OF BULK AT MOST 1048576: true; the input reads as it did. -/
def edgeNearUptoRow : OpenClaim := { program := "ytgmpkcdlffifoaa", sum := "9d52b6125d65e60e0f257d42709d3e41fa72295a105cdf15043467ac905d9f5f", func := "zoetrope/zoetropelaw16.EdgeNear", spec := "edgeNear", inPlace := ["sync/atomic.LoadUint32", "(*internal/sync.Mutex).Lock", "internal/race.Disable", "sync/atomic.CompareAndSwapInt32", "internal/race.Enable", "internal/race.Acquire", "(*internal/sync.Mutex).lockSlow", "internal/sync.runtime_canSpin", "internal/sync.runtime_doSpin", "internal/sync.throw", "internal/sync.runtime_nanotime", "internal/sync.runtime_SemacquireMutex", "sync/atomic.AddInt32", "(*internal/sync.Mutex).Unlock", "internal/race.ReleaseMerge", "(*internal/sync.Mutex).unlockSlow", "internal/sync.fatal", "internal/sync.runtime_Semrelease", "sync/atomic.StoreUint32"], unfollowed := true, recurses := true, apart := false, narrowed := true }
def EdgeNearUptoSaid : Prop := edgeNearUptoRow.holds Try.pinned (OpenSpec.upto edgeNearSpec)

end Rows
end Go.Proofs.Ytgmpkcdlffifoaa
