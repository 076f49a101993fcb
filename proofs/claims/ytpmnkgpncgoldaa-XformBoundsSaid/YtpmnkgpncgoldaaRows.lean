/-
  No cell of these rows narrows 'for every input' (looked for: loops, veiled, ifaces, maps, wideKeys, modest, calm, conditions, laid).
  DERIVED. THE GIVEN ROWS OF THIS SEAT. 7 by the template 'for every input the law returns true; each argument reads behind the call as it read before'; 0 by the template 'total and deterministic' (their statements: YtpmnkgpncgoldaaTotals.lean).
  GIVEN WITH THE SEED: the statements are not yours to turn. If you find one false, say at which input.
  Laid BY PROGRAM, IN A SANDBOX (cutbox-rows.mjs): the forced cells as the released guide's own fill.sh prints them over the translation 42143ae12fb97953… (all of the seat's roots in one cut). By AI agents, Wed Nov 11 2026. No macro, syntax, notation, axiom, sorry.
-/
import Derived.Test.YtpmnkgpncgoldaaChecked
import GoSem.Claim
import GoSem.ClaimJoined
import GoSem.ClaimMapViews
import Derived.JoinedTies
import Derived.KernelRfl
namespace Go.Proofs.Ytpmnkgpncgoldaa
/- THE CELL 'sum', in the pinned program and in every row, IS THE sha256 OF THE DUMP (.gsa) THAT YtpmnkgpncgoldaaProg.lean LOADS. Nothing in Lean hashes anything: it is a label: what it is worth is what the hold of that sum in a sandbox is worth. -/
noncomputable def Try.pinned : Pinned := { name := "ytpmnkgpncgoldaa", sum := "42143ae12fb979531cb1fc3117df25d48b4f1723b4b9ccd829feb7098ae9f59a", checked := Try.checked }
namespace Rows
def none {H : Type} : Left H := { results := [], args := [] }

/-- 'zoetropelaw9.XformSums': WHATEVER THE INPUT: true; the input reads as it did. -/
def xformSumsSpec : ChangeSpec := { name := "xformSums", fn := fun _ => fun
  | [d1, d2] => { results := [.lit (.bool true)], args := [d1, d2] }
  | _ => none }
def xformSumsRow : OpenClaim := { program := "ytpmnkgpncgoldaa", sum := "42143ae12fb979531cb1fc3117df25d48b4f1723b4b9ccd829feb7098ae9f59a", func := "zoetrope/zoetropelaw9.XformSums", spec := "xformSums", inPlace := ["sync/atomic.LoadUint32", "(*internal/sync.Mutex).Lock", "internal/race.Disable", "sync/atomic.CompareAndSwapInt32", "internal/race.Enable", "internal/race.Acquire", "(*internal/sync.Mutex).lockSlow", "internal/sync.runtime_canSpin", "internal/sync.runtime_doSpin", "internal/sync.throw", "internal/sync.runtime_nanotime", "internal/sync.runtime_SemacquireMutex", "sync/atomic.AddInt32", "(*internal/sync.Mutex).Unlock", "internal/race.ReleaseMerge", "(*internal/sync.Mutex).unlockSlow", "internal/sync.fatal", "internal/sync.runtime_Semrelease", "sync/atomic.StoreUint32"], unfollowed := true, recurses := true, apart := false }
def XformSumsSaid : Prop := xformSumsRow.holds Try.pinned (OpenSpec.ofChange xformSumsSpec)

/-- ITS FALSE NEIGHBOUR: 'it returns false'. Refute it at one input. -/
def xformSumsWrong : ChangeSpec := { name := "xformSums", fn := fun _ => fun
  | [d1, d2] => { results := [.lit (.bool false)], args := [d1, d2] }
  | _ => none }
def XformSumsWrongFalsely : Prop := xformSumsRow.holds Try.pinned (OpenSpec.ofChange xformSumsWrong)

/-- 'zoetropelaw9.XformFlat': WHATEVER THE INPUT: true; the input reads as it did. -/
def xformFlatSpec : ChangeSpec := { name := "xformFlat", fn := fun _ => fun
  | [d] => { results := [.lit (.bool true)], args := [d] }
  | _ => none }
def xformFlatRow : OpenClaim := { program := "ytpmnkgpncgoldaa", sum := "42143ae12fb979531cb1fc3117df25d48b4f1723b4b9ccd829feb7098ae9f59a", func := "zoetrope/zoetropelaw9.XformFlat", spec := "xformFlat", inPlace := ["sync/atomic.LoadUint32", "(*internal/sync.Mutex).Lock", "internal/race.Disable", "sync/atomic.CompareAndSwapInt32", "internal/race.Enable", "internal/race.Acquire", "(*internal/sync.Mutex).lockSlow", "internal/sync.runtime_canSpin", "internal/sync.runtime_doSpin", "internal/sync.throw", "internal/sync.runtime_nanotime", "internal/sync.runtime_SemacquireMutex", "sync/atomic.AddInt32", "(*internal/sync.Mutex).Unlock", "internal/race.ReleaseMerge", "(*internal/sync.Mutex).unlockSlow", "internal/sync.fatal", "internal/sync.runtime_Semrelease", "sync/atomic.StoreUint32"], unfollowed := true, recurses := true, apart := false }
def XformFlatSaid : Prop := xformFlatRow.holds Try.pinned (OpenSpec.ofChange xformFlatSpec)

/-- ITS FALSE NEIGHBOUR: 'it returns false'. Refute it at one input. -/
def xformFlatWrong : ChangeSpec := { name := "xformFlat", fn := fun _ => fun
  | [d] => { results := [.lit (.bool false)], args := [d] }
  | _ => none }
def XformFlatWrongFalsely : Prop := xformFlatRow.holds Try.pinned (OpenSpec.ofChange xformFlatWrong)

/-- 'zoetropelaw9.XformScans': WHATEVER THE INPUT: true; the input reads as it did. -/
def xformScansSpec : ChangeSpec := { name := "xformScans", fn := fun _ => fun
  | [d] => { results := [.lit (.bool true)], args := [d] }
  | _ => none }
def xformScansRow : OpenClaim := { program := "ytpmnkgpncgoldaa", sum := "42143ae12fb979531cb1fc3117df25d48b4f1723b4b9ccd829feb7098ae9f59a", func := "zoetrope/zoetropelaw9.XformScans", spec := "xformScans", inPlace := ["sync/atomic.LoadUint32", "(*internal/sync.Mutex).Lock", "internal/race.Disable", "sync/atomic.CompareAndSwapInt32", "internal/race.Enable", "internal/race.Acquire", "(*internal/sync.Mutex).lockSlow", "internal/sync.runtime_canSpin", "internal/sync.runtime_doSpin", "internal/sync.throw", "internal/sync.runtime_nanotime", "internal/sync.runtime_SemacquireMutex", "sync/atomic.AddInt32", "(*internal/sync.Mutex).Unlock", "internal/race.ReleaseMerge", "(*internal/sync.Mutex).unlockSlow", "internal/sync.fatal", "internal/sync.runtime_Semrelease", "sync/atomic.StoreUint32"], unfollowed := true, recurses := true, apart := false }
def XformScansSaid : Prop := xformScansRow.holds Try.pinned (OpenSpec.ofChange xformScansSpec)

/-- ITS FALSE NEIGHBOUR: 'it returns false'. Refute it at one input. -/
def xformScansWrong : ChangeSpec := { name := "xformScans", fn := fun _ => fun
  | [d] => { results := [.lit (.bool false)], args := [d] }
  | _ => none }
def XformScansWrongFalsely : Prop := xformScansRow.holds Try.pinned (OpenSpec.ofChange xformScansWrong)

/-- 'zoetropelaw9.XformBounds': WHATEVER THE INPUT: true; the input reads as it did. -/
def xformBoundsSpec : ChangeSpec := { name := "xformBounds", fn := fun _ => fun
  | [d1, d2] => { results := [.lit (.bool true)], args := [d1, d2] }
  | _ => none }
def xformBoundsRow : OpenClaim := { program := "ytpmnkgpncgoldaa", sum := "42143ae12fb979531cb1fc3117df25d48b4f1723b4b9ccd829feb7098ae9f59a", func := "zoetrope/zoetropelaw9.XformBounds", spec := "xformBounds", inPlace := ["sync/atomic.LoadUint32", "(*internal/sync.Mutex).Lock", "internal/race.Disable", "sync/atomic.CompareAndSwapInt32", "internal/race.Enable", "internal/race.Acquire", "(*internal/sync.Mutex).lockSlow", "internal/sync.runtime_canSpin", "internal/sync.runtime_doSpin", "internal/sync.throw", "internal/sync.runtime_nanotime", "internal/sync.runtime_SemacquireMutex", "sync/atomic.AddInt32", "(*internal/sync.Mutex).Unlock", "internal/race.ReleaseMerge", "(*internal/sync.Mutex).unlockSlow", "internal/sync.fatal", "internal/sync.runtime_Semrelease", "sync/atomic.StoreUint32"], unfollowed := true, recurses := true, apart := false }
def XformBoundsSaid : Prop := xformBoundsRow.holds Try.pinned (OpenSpec.ofChange xformBoundsSpec)

/-- ITS FALSE NEIGHBOUR: 'it returns false'. Refute it at one input. -/
def xformBoundsWrong : ChangeSpec := { name := "xformBounds", fn := fun _ => fun
  | [d1, d2] => { results := [.lit (.bool false)], args := [d1, d2] }
  | _ => none }
def XformBoundsWrongFalsely : Prop := xformBoundsRow.holds Try.pinned (OpenSpec.ofChange xformBoundsWrong)

/-- 'zoetropelaw9.XformRows': WHATEVER THE INPUT: true; the input reads as it did. -/
def xformRowsSpec : ChangeSpec := { name := "xformRows", fn := fun _ => fun
  | [d] => { results := [.lit (.bool true)], args := [d] }
  | _ => none }
def xformRowsRow : OpenClaim := { program := "ytpmnkgpncgoldaa", sum := "42143ae12fb979531cb1fc3117df25d48b4f1723b4b9ccd829feb7098ae9f59a", func := "zoetrope/zoetropelaw9.XformRows", spec := "xformRows", inPlace := ["sync/atomic.LoadUint32", "(*internal/sync.Mutex).Lock", "internal/race.Disable", "sync/atomic.CompareAndSwapInt32", "internal/race.Enable", "internal/race.Acquire", "(*internal/sync.Mutex).lockSlow", "internal/sync.runtime_canSpin", "internal/sync.runtime_doSpin", "internal/sync.throw", "internal/sync.runtime_nanotime", "internal/sync.runtime_SemacquireMutex", "sync/atomic.AddInt32", "(*internal/sync.Mutex).Unlock", "internal/race.ReleaseMerge", "(*internal/sync.Mutex).unlockSlow", "internal/sync.fatal", "internal/sync.runtime_Semrelease", "sync/atomic.StoreUint32"], unfollowed := true, recurses := true, apart := false }
def XformRowsSaid : Prop := xformRowsRow.holds Try.pinned (OpenSpec.ofChange xformRowsSpec)

/-- ITS FALSE NEIGHBOUR: 'it returns false'. Refute it at one input. -/
def xformRowsWrong : ChangeSpec := { name := "xformRows", fn := fun _ => fun
  | [d] => { results := [.lit (.bool false)], args := [d] }
  | _ => none }
def XformRowsWrongFalsely : Prop := xformRowsRow.holds Try.pinned (OpenSpec.ofChange xformRowsWrong)

/-- 'zoetropelaw9.Xforms': WHATEVER THE INPUT: true; the input reads as it did. -/
def xformsSpec : ChangeSpec := { name := "xforms", fn := fun _ => fun
  | [d] => { results := [.lit (.bool true)], args := [d] }
  | _ => none }
def xformsRow : OpenClaim := { program := "ytpmnkgpncgoldaa", sum := "42143ae12fb979531cb1fc3117df25d48b4f1723b4b9ccd829feb7098ae9f59a", func := "zoetrope/zoetropelaw9.Xforms", spec := "xforms", inPlace := ["sync/atomic.LoadUint32", "(*internal/sync.Mutex).Lock", "internal/race.Disable", "sync/atomic.CompareAndSwapInt32", "internal/race.Enable", "internal/race.Acquire", "(*internal/sync.Mutex).lockSlow", "internal/sync.runtime_canSpin", "internal/sync.runtime_doSpin", "internal/sync.throw", "internal/sync.runtime_nanotime", "internal/sync.runtime_SemacquireMutex", "sync/atomic.AddInt32", "(*internal/sync.Mutex).Unlock", "internal/race.ReleaseMerge", "(*internal/sync.Mutex).unlockSlow", "internal/sync.fatal", "internal/sync.runtime_Semrelease", "sync/atomic.StoreUint32"], unfollowed := true, recurses := true, apart := false }
def XformsSaid : Prop := xformsRow.holds Try.pinned (OpenSpec.ofChange xformsSpec)

/-- ITS FALSE NEIGHBOUR: 'it returns false'. Refute it at one input. -/
def xformsWrong : ChangeSpec := { name := "xforms", fn := fun _ => fun
  | [d] => { results := [.lit (.bool false)], args := [d] }
  | _ => none }
def XformsWrongFalsely : Prop := xformsRow.holds Try.pinned (OpenSpec.ofChange xformsWrong)

/-- 'zoetropelaw9.XformTwice': WHATEVER THE INPUT: true; the input reads as it did. -/
def xformTwiceSpec : ChangeSpec := { name := "xformTwice", fn := fun _ => fun
  | [d] => { results := [.lit (.bool true)], args := [d] }
  | _ => none }
def xformTwiceRow : OpenClaim := { program := "ytpmnkgpncgoldaa", sum := "42143ae12fb979531cb1fc3117df25d48b4f1723b4b9ccd829feb7098ae9f59a", func := "zoetrope/zoetropelaw9.XformTwice", spec := "xformTwice", inPlace := ["sync/atomic.LoadUint32", "(*internal/sync.Mutex).Lock", "internal/race.Disable", "sync/atomic.CompareAndSwapInt32", "internal/race.Enable", "internal/race.Acquire", "(*internal/sync.Mutex).lockSlow", "internal/sync.runtime_canSpin", "internal/sync.runtime_doSpin", "internal/sync.throw", "internal/sync.runtime_nanotime", "internal/sync.runtime_SemacquireMutex", "sync/atomic.AddInt32", "(*internal/sync.Mutex).Unlock", "internal/race.ReleaseMerge", "(*internal/sync.Mutex).unlockSlow", "internal/sync.fatal", "internal/sync.runtime_Semrelease", "sync/atomic.StoreUint32"], unfollowed := true, recurses := true, apart := false }
def XformTwiceSaid : Prop := xformTwiceRow.holds Try.pinned (OpenSpec.ofChange xformTwiceSpec)

/-- ITS FALSE NEIGHBOUR: 'it returns false'. Refute it at one input. -/
def xformTwiceWrong : ChangeSpec := { name := "xformTwice", fn := fun _ => fun
  | [d] => { results := [.lit (.bool false)], args := [d] }
  | _ => none }
def XformTwiceWrongFalsely : Prop := xformTwiceRow.holds Try.pinned (OpenSpec.ofChange xformTwiceWrong)

/- THE SECOND FORM. 'bulk': how many values and letters a reading holds, each counted each time it is reached (what is shared counts as often as it is met; a slice's spare places count too). A statement '..UptoSaid' is the law's where the arguments, and the package variables that the reading takes, are together of bulk at most 1048576: NARROWER than '..Said'. Prove '..Said' where nothing that the law and all that it calls make is longer than what came in: it says more and counts as full. Else prove '..UptoSaid'. A law counts once. -/
mutual
def uptoBulk {H : Type} : DataW H → Nat
  | .lit (.string bytes) => bytes.length + 1
  | .lit _ => 1
  | .nil => 1
  | .ptr d => uptoBulk d + 1
  | .slice elems spare => uptoBulkAll elems + uptoBulkAll spare + 1
  | .agg parts => uptoBulkAll parts + 1
  | .iface _ d => uptoBulk d + 1
  | .map entries => uptoBulkEntries entries + 1
  | .held _ => 1
def uptoBulkAll {H : Type} : List (DataW H) → Nat
  | [] => 0
  | d :: r => uptoBulk d + uptoBulkAll r
def uptoBulkEntries {H : Type} : List (Lit × DataW H) → Nat
  | [] => 0
  | x :: r => uptoBulkEntry x + uptoBulkEntries r
def uptoBulkEntry {H : Type} : Lit × DataW H → Nat
  | (.string bytes, d) => bytes.length + uptoBulk d + 1
  | (_, d) => uptoBulk d + 1
 end
def uptoSmall : (H : Type) → List (DataW H) → Bool := fun _ ds => decide (uptoBulkAll ds ≤ 1048576)
def OpenSpec.upto (s : _root_.Go.ChangeSpec) : _root_.Go.OpenSpec := { _root_.Go.OpenSpec.ofChange s with cond := some uptoSmall }

/-- 'zoetropelaw9.XformSums', WHERE WHAT IT READS IS OF BULK AT MOST 1048576: true; the input reads as it did. -/
def xformSumsUptoRow : OpenClaim := { program := "ytpmnkgpncgoldaa", sum := "42143ae12fb979531cb1fc3117df25d48b4f1723b4b9ccd829feb7098ae9f59a", func := "zoetrope/zoetropelaw9.XformSums", spec := "xformSums", inPlace := ["sync/atomic.LoadUint32", "(*internal/sync.Mutex).Lock", "internal/race.Disable", "sync/atomic.CompareAndSwapInt32", "internal/race.Enable", "internal/race.Acquire", "(*internal/sync.Mutex).lockSlow", "internal/sync.runtime_canSpin", "internal/sync.runtime_doSpin", "internal/sync.throw", "internal/sync.runtime_nanotime", "internal/sync.runtime_SemacquireMutex", "sync/atomic.AddInt32", "(*internal/sync.Mutex).Unlock", "internal/race.ReleaseMerge", "(*internal/sync.Mutex).unlockSlow", "internal/sync.fatal", "internal/sync.runtime_Semrelease", "sync/atomic.StoreUint32"], unfollowed := true, recurses := true, apart := false, narrowed := true }
def XformSumsUptoSaid : Prop := xformSumsUptoRow.holds Try.pinned (OpenSpec.upto xformSumsSpec)

/-- 'zoetropelaw9.XformFlat', WHERE WHAT IT READS IS OF BULK AT MOST 1048576: true; the input reads as it did. -/
def xformFlatUptoRow : OpenClaim := { program := "ytpmnkgpncgoldaa", sum := "42143ae12fb979531cb1fc3117df25d48b4f1723b4b9ccd829feb7098ae9f59a", func := "zoetrope/zoetropelaw9.XformFlat", spec := "xformFlat", inPlace := ["sync/atomic.LoadUint32", "(*internal/sync.Mutex).Lock", "internal/race.Disable", "sync/atomic.CompareAndSwapInt32", "internal/race.Enable", "internal/race.Acquire", "(*internal/sync.Mutex).lockSlow", "internal/sync.runtime_canSpin", "internal/sync.runtime_doSpin", "internal/sync.throw", "internal/sync.runtime_nanotime", "internal/sync.runtime_SemacquireMutex", "sync/atomic.AddInt32", "(*internal/sync.Mutex).Unlock", "internal/race.ReleaseMerge", "(*internal/sync.Mutex).unlockSlow", "internal/sync.fatal", "internal/sync.runtime_Semrelease", "sync/atomic.StoreUint32"], unfollowed := true, recurses := true, apart := false, narrowed := true }
def XformFlatUptoSaid : Prop := xformFlatUptoRow.holds Try.pinned (OpenSpec.upto xformFlatSpec)

/-- 'zoetropelaw9.XformScans', WHERE WHAT IT READS IS OF BULK AT MOST 1048576: true; the input reads as it did. -/
def xformScansUptoRow : OpenClaim := { program := "ytpmnkgpncgoldaa", sum := "42143ae12fb979531cb1fc3117df25d48b4f1723b4b9ccd829feb7098ae9f59a", func := "zoetrope/zoetropelaw9.XformScans", spec := "xformScans", inPlace := ["sync/atomic.LoadUint32", "(*internal/sync.Mutex).Lock", "internal/race.Disable", "sync/atomic.CompareAndSwapInt32", "internal/race.Enable", "internal/race.Acquire", "(*internal/sync.Mutex).lockSlow", "internal/sync.runtime_canSpin", "internal/sync.runtime_doSpin", "internal/sync.throw", "internal/sync.runtime_nanotime", "internal/sync.runtime_SemacquireMutex", "sync/atomic.AddInt32", "(*internal/sync.Mutex).Unlock", "internal/race.ReleaseMerge", "(*internal/sync.Mutex).unlockSlow", "internal/sync.fatal", "internal/sync.runtime_Semrelease", "sync/atomic.StoreUint32"], unfollowed := true, recurses := true, apart := false, narrowed := true }
def XformScansUptoSaid : Prop := xformScansUptoRow.holds Try.pinned (OpenSpec.upto xformScansSpec)

/-- 'zoetropelaw9.XformBounds', WHERE WHAT IT READS IS OF BULK AT MOST 1048576: true; the input reads as it did. -/
def xformBoundsUptoRow : OpenClaim := { program := "ytpmnkgpncgoldaa", sum := "42143ae12fb979531cb1fc3117df25d48b4f1723b4b9ccd829feb7098ae9f59a", func := "zoetrope/zoetropelaw9.XformBounds", spec := "xformBounds", inPlace := ["sync/atomic.LoadUint32", "(*internal/sync.Mutex).Lock", "internal/race.Disable", "sync/atomic.CompareAndSwapInt32", "internal/race.Enable", "internal/race.Acquire", "(*internal/sync.Mutex).lockSlow", "internal/sync.runtime_canSpin", "internal/sync.runtime_doSpin", "internal/sync.throw", "internal/sync.runtime_nanotime", "internal/sync.runtime_SemacquireMutex", "sync/atomic.AddInt32", "(*internal/sync.Mutex).Unlock", "internal/race.ReleaseMerge", "(*internal/sync.Mutex).unlockSlow", "internal/sync.fatal", "internal/sync.runtime_Semrelease", "sync/atomic.StoreUint32"], unfollowed := true, recurses := true, apart := false, narrowed := true }
def XformBoundsUptoSaid : Prop := xformBoundsUptoRow.holds Try.pinned (OpenSpec.upto xformBoundsSpec)

/-- 'zoetropelaw9.XformRows', WHERE WHAT IT READS IS OF BULK AT MOST 1048576: true; the input reads as it did. -/
def xformRowsUptoRow : OpenClaim := { program := "ytpmnkgpncgoldaa", sum := "42143ae12fb979531cb1fc3117df25d48b4f1723b4b9ccd829feb7098ae9f59a", func := "zoetrope/zoetropelaw9.XformRows", spec := "xformRows", inPlace := ["sync/atomic.LoadUint32", "(*internal/sync.Mutex).Lock", "internal/race.Disable", "sync/atomic.CompareAndSwapInt32", "internal/race.Enable", "internal/race.Acquire", "(*internal/sync.Mutex).lockSlow", "internal/sync.runtime_canSpin", "internal/sync.runtime_doSpin", "internal/sync.throw", "internal/sync.runtime_nanotime", "internal/sync.runtime_SemacquireMutex", "sync/atomic.AddInt32", "(*internal/sync.Mutex).Unlock", "internal/race.ReleaseMerge", "(*internal/sync.Mutex).unlockSlow", "internal/sync.fatal", "internal/sync.runtime_Semrelease", "sync/atomic.StoreUint32"], unfollowed := true, recurses := true, apart := false, narrowed := true }
def XformRowsUptoSaid : Prop := xformRowsUptoRow.holds Try.pinned (OpenSpec.upto xformRowsSpec)

/-- 'zoetropelaw9.Xforms', WHERE WHAT IT READS IS OF BULK AT MOST 1048576: true; the input reads as it did. -/
def xformsUptoRow : OpenClaim := { program := "ytpmnkgpncgoldaa", sum := "42143ae12fb979531cb1fc3117df25d48b4f1723b4b9ccd829feb7098ae9f59a", func := "zoetrope/zoetropelaw9.Xforms", spec := "xforms", inPlace := ["sync/atomic.LoadUint32", "(*internal/sync.Mutex).Lock", "internal/race.Disable", "sync/atomic.CompareAndSwapInt32", "internal/race.Enable", "internal/race.Acquire", "(*internal/sync.Mutex).lockSlow", "internal/sync.runtime_canSpin", "internal/sync.runtime_doSpin", "internal/sync.throw", "internal/sync.runtime_nanotime", "internal/sync.runtime_SemacquireMutex", "sync/atomic.AddInt32", "(*internal/sync.Mutex).Unlock", "internal/race.ReleaseMerge", "(*internal/sync.Mutex).unlockSlow", "internal/sync.fatal", "internal/sync.runtime_Semrelease", "sync/atomic.StoreUint32"], unfollowed := true, recurses := true, apart := false, narrowed := true }
def XformsUptoSaid : Prop := xformsUptoRow.holds Try.pinned (OpenSpec.upto xformsSpec)

/-- 'zoetropelaw9.XformTwice', WHERE WHAT IT READS IS OF BULK AT MOST 1048576: true; the input reads as it did. -/
def xformTwiceUptoRow : OpenClaim := { program := "ytpmnkgpncgoldaa", sum := "42143ae12fb979531cb1fc3117df25d48b4f1723b4b9ccd829feb7098ae9f59a", func := "zoetrope/zoetropelaw9.XformTwice", spec := "xformTwice", inPlace := ["sync/atomic.LoadUint32", "(*internal/sync.Mutex).Lock", "internal/race.Disable", "sync/atomic.CompareAndSwapInt32", "internal/race.Enable", "internal/race.Acquire", "(*internal/sync.Mutex).lockSlow", "internal/sync.runtime_canSpin", "internal/sync.runtime_doSpin", "internal/sync.throw", "internal/sync.runtime_nanotime", "internal/sync.runtime_SemacquireMutex", "sync/atomic.AddInt32", "(*internal/sync.Mutex).Unlock", "internal/race.ReleaseMerge", "(*internal/sync.Mutex).unlockSlow", "internal/sync.fatal", "internal/sync.runtime_Semrelease", "sync/atomic.StoreUint32"], unfollowed := true, recurses := true, apart := false, narrowed := true }
def XformTwiceUptoSaid : Prop := xformTwiceUptoRow.holds Try.pinned (OpenSpec.upto xformTwiceSpec)

end Rows
end Go.Proofs.Ytpmnkgpncgoldaa
