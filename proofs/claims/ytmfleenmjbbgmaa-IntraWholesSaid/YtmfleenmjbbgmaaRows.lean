/-
  No cell of these rows narrows 'for every input' (looked for: loops, veiled, ifaces, maps, wideKeys, modest, calm, conditions, laid).
  DERIVED. THE GIVEN ROWS OF THIS SEAT. 14 by the template 'for every input the law returns true; each argument reads behind the call as it read before'; 0 by the template 'total and deterministic' (their statements: YtmfleenmjbbgmaaTotals.lean).
  GIVEN WITH THE SEED: the statements are not yours to turn. If you find one false, say at which input.
  Laid BY PROGRAM, IN A SANDBOX (cutbox-rows.mjs): the forced cells as the released guide's own fill.sh prints them over the translation c7531a96ddefb143… (all of the seat's roots in one cut). By AI agents, Wed Nov 11 2026. No macro, syntax, notation, axiom, sorry.
-/
import Derived.Test.YtmfleenmjbbgmaaChecked
import GoSem.Claim
import GoSem.ClaimJoined
import GoSem.ClaimMapViews
import Derived.JoinedTies
import Derived.KernelRfl
namespace Go.Proofs.Ytmfleenmjbbgmaa
/- THE CELL 'sum', in the pinned program and in every row, IS THE sha256 OF THE DUMP (.gsa) THAT YtmfleenmjbbgmaaProg.lean LOADS. Nothing in Lean hashes anything: it is a label: what it is worth is what the hold of that sum in a sandbox is worth. -/
noncomputable def Try.pinned : Pinned := { name := "ytmfleenmjbbgmaa", sum := "c7531a96ddefb143c3e36caa32144a885dd15b321eddaab0732c2b9146a81a79", checked := Try.checked }
namespace Rows
def none {H : Type} : Left H := { results := [], args := [] }

/-- 'zoetropelaw11.IntraFours': WHATEVER THE INPUT: true; the input reads as it did. -/
def intraFoursSpec : ChangeSpec := { name := "intraFours", fn := fun _ => fun
  | [d1, d2, d3, d4] => { results := [.lit (.bool true)], args := [d1, d2, d3, d4] }
  | _ => none }
def intraFoursRow : OpenClaim := { program := "ytmfleenmjbbgmaa", sum := "c7531a96ddefb143c3e36caa32144a885dd15b321eddaab0732c2b9146a81a79", func := "zoetrope/zoetropelaw11.IntraFours", spec := "intraFours", inPlace := ["sync/atomic.LoadUint32", "(*internal/sync.Mutex).Lock", "internal/race.Disable", "sync/atomic.CompareAndSwapInt32", "internal/race.Enable", "internal/race.Acquire", "(*internal/sync.Mutex).lockSlow", "internal/sync.runtime_canSpin", "internal/sync.runtime_doSpin", "internal/sync.throw", "internal/sync.runtime_nanotime", "internal/sync.runtime_SemacquireMutex", "sync/atomic.AddInt32", "(*internal/sync.Mutex).Unlock", "internal/race.ReleaseMerge", "(*internal/sync.Mutex).unlockSlow", "internal/sync.fatal", "internal/sync.runtime_Semrelease", "sync/atomic.StoreUint32"], unfollowed := true, recurses := true, apart := false }
def IntraFoursSaid : Prop := intraFoursRow.holds Try.pinned (OpenSpec.ofChange intraFoursSpec)

/-- ITS FALSE NEIGHBOUR: 'it returns false'. Refute it at one input. -/
def intraFoursWrong : ChangeSpec := { name := "intraFours", fn := fun _ => fun
  | [d1, d2, d3, d4] => { results := [.lit (.bool false)], args := [d1, d2, d3, d4] }
  | _ => none }
def IntraFoursWrongFalsely : Prop := intraFoursRow.holds Try.pinned (OpenSpec.ofChange intraFoursWrong)

/-- 'zoetropelaw11.IntraWholes': WHATEVER THE INPUT: true; the input reads as it did. -/
def intraWholesSpec : ChangeSpec := { name := "intraWholes", fn := fun _ => fun
  | [d1, d2, d3, d4] => { results := [.lit (.bool true)], args := [d1, d2, d3, d4] }
  | _ => none }
def intraWholesRow : OpenClaim := { program := "ytmfleenmjbbgmaa", sum := "c7531a96ddefb143c3e36caa32144a885dd15b321eddaab0732c2b9146a81a79", func := "zoetrope/zoetropelaw11.IntraWholes", spec := "intraWholes", inPlace := ["sync/atomic.LoadUint32", "(*internal/sync.Mutex).Lock", "internal/race.Disable", "sync/atomic.CompareAndSwapInt32", "internal/race.Enable", "internal/race.Acquire", "(*internal/sync.Mutex).lockSlow", "internal/sync.runtime_canSpin", "internal/sync.runtime_doSpin", "internal/sync.throw", "internal/sync.runtime_nanotime", "internal/sync.runtime_SemacquireMutex", "sync/atomic.AddInt32", "(*internal/sync.Mutex).Unlock", "internal/race.ReleaseMerge", "(*internal/sync.Mutex).unlockSlow", "internal/sync.fatal", "internal/sync.runtime_Semrelease", "sync/atomic.StoreUint32"], unfollowed := true, recurses := true, apart := false }
def IntraWholesSaid : Prop := intraWholesRow.holds Try.pinned (OpenSpec.ofChange intraWholesSpec)

/-- ITS FALSE NEIGHBOUR: 'it returns false'. Refute it at one input. -/
def intraWholesWrong : ChangeSpec := { name := "intraWholes", fn := fun _ => fun
  | [d1, d2, d3, d4] => { results := [.lit (.bool false)], args := [d1, d2, d3, d4] }
  | _ => none }
def IntraWholesWrongFalsely : Prop := intraWholesRow.holds Try.pinned (OpenSpec.ofChange intraWholesWrong)

/-- 'zoetropelaw11.IntraFlat': WHATEVER THE INPUT: true; the input reads as it did. -/
def intraFlatSpec : ChangeSpec := { name := "intraFlat", fn := fun _ => fun
  | [d1, d2] => { results := [.lit (.bool true)], args := [d1, d2] }
  | _ => none }
def intraFlatRow : OpenClaim := { program := "ytmfleenmjbbgmaa", sum := "c7531a96ddefb143c3e36caa32144a885dd15b321eddaab0732c2b9146a81a79", func := "zoetrope/zoetropelaw11.IntraFlat", spec := "intraFlat", inPlace := ["sync/atomic.LoadUint32", "(*internal/sync.Mutex).Lock", "internal/race.Disable", "sync/atomic.CompareAndSwapInt32", "internal/race.Enable", "internal/race.Acquire", "(*internal/sync.Mutex).lockSlow", "internal/sync.runtime_canSpin", "internal/sync.runtime_doSpin", "internal/sync.throw", "internal/sync.runtime_nanotime", "internal/sync.runtime_SemacquireMutex", "sync/atomic.AddInt32", "(*internal/sync.Mutex).Unlock", "internal/race.ReleaseMerge", "(*internal/sync.Mutex).unlockSlow", "internal/sync.fatal", "internal/sync.runtime_Semrelease", "sync/atomic.StoreUint32"], unfollowed := true, recurses := true, apart := false }
def IntraFlatSaid : Prop := intraFlatRow.holds Try.pinned (OpenSpec.ofChange intraFlatSpec)

/-- ITS FALSE NEIGHBOUR: 'it returns false'. Refute it at one input. -/
def intraFlatWrong : ChangeSpec := { name := "intraFlat", fn := fun _ => fun
  | [d1, d2] => { results := [.lit (.bool false)], args := [d1, d2] }
  | _ => none }
def IntraFlatWrongFalsely : Prop := intraFlatRow.holds Try.pinned (OpenSpec.ofChange intraFlatWrong)

/-- 'zoetropelaw11.IntraTurned': WHATEVER THE INPUT: true; the input reads as it did. -/
def intraTurnedSpec : ChangeSpec := { name := "intraTurned", fn := fun _ => fun
  | [d1, d2, d3, d4] => { results := [.lit (.bool true)], args := [d1, d2, d3, d4] }
  | _ => none }
def intraTurnedRow : OpenClaim := { program := "ytmfleenmjbbgmaa", sum := "c7531a96ddefb143c3e36caa32144a885dd15b321eddaab0732c2b9146a81a79", func := "zoetrope/zoetropelaw11.IntraTurned", spec := "intraTurned", inPlace := ["sync/atomic.LoadUint32", "(*internal/sync.Mutex).Lock", "internal/race.Disable", "sync/atomic.CompareAndSwapInt32", "internal/race.Enable", "internal/race.Acquire", "(*internal/sync.Mutex).lockSlow", "internal/sync.runtime_canSpin", "internal/sync.runtime_doSpin", "internal/sync.throw", "internal/sync.runtime_nanotime", "internal/sync.runtime_SemacquireMutex", "sync/atomic.AddInt32", "(*internal/sync.Mutex).Unlock", "internal/race.ReleaseMerge", "(*internal/sync.Mutex).unlockSlow", "internal/sync.fatal", "internal/sync.runtime_Semrelease", "sync/atomic.StoreUint32"], unfollowed := true, recurses := true, apart := false }
def IntraTurnedSaid : Prop := intraTurnedRow.holds Try.pinned (OpenSpec.ofChange intraTurnedSpec)

/-- ITS FALSE NEIGHBOUR: 'it returns false'. Refute it at one input. -/
def intraTurnedWrong : ChangeSpec := { name := "intraTurned", fn := fun _ => fun
  | [d1, d2, d3, d4] => { results := [.lit (.bool false)], args := [d1, d2, d3, d4] }
  | _ => none }
def IntraTurnedWrongFalsely : Prop := intraTurnedRow.holds Try.pinned (OpenSpec.ofChange intraTurnedWrong)

/-- 'zoetropelaw11.IntraVertical': WHATEVER THE INPUT: true; the input reads as it did. -/
def intraVerticalSpec : ChangeSpec := { name := "intraVertical", fn := fun _ => fun
  | [d1, d2, d3] => { results := [.lit (.bool true)], args := [d1, d2, d3] }
  | _ => none }
def intraVerticalRow : OpenClaim := { program := "ytmfleenmjbbgmaa", sum := "c7531a96ddefb143c3e36caa32144a885dd15b321eddaab0732c2b9146a81a79", func := "zoetrope/zoetropelaw11.IntraVertical", spec := "intraVertical", inPlace := ["sync/atomic.LoadUint32", "(*internal/sync.Mutex).Lock", "internal/race.Disable", "sync/atomic.CompareAndSwapInt32", "internal/race.Enable", "internal/race.Acquire", "(*internal/sync.Mutex).lockSlow", "internal/sync.runtime_canSpin", "internal/sync.runtime_doSpin", "internal/sync.throw", "internal/sync.runtime_nanotime", "internal/sync.runtime_SemacquireMutex", "sync/atomic.AddInt32", "(*internal/sync.Mutex).Unlock", "internal/race.ReleaseMerge", "(*internal/sync.Mutex).unlockSlow", "internal/sync.fatal", "internal/sync.runtime_Semrelease", "sync/atomic.StoreUint32"], unfollowed := true, recurses := true, apart := false }
def IntraVerticalSaid : Prop := intraVerticalRow.holds Try.pinned (OpenSpec.ofChange intraVerticalSpec)

/-- ITS FALSE NEIGHBOUR: 'it returns false'. Refute it at one input. -/
def intraVerticalWrong : ChangeSpec := { name := "intraVertical", fn := fun _ => fun
  | [d1, d2, d3] => { results := [.lit (.bool false)], args := [d1, d2, d3] }
  | _ => none }
def IntraVerticalWrongFalsely : Prop := intraVerticalRow.holds Try.pinned (OpenSpec.ofChange intraVerticalWrong)

/-- 'zoetropelaw11.IntraHorizontal': WHATEVER THE INPUT: true; the input reads as it did. -/
def intraHorizontalSpec : ChangeSpec := { name := "intraHorizontal", fn := fun _ => fun
  | [d1, d2, d3] => { results := [.lit (.bool true)], args := [d1, d2, d3] }
  | _ => none }
def intraHorizontalRow : OpenClaim := { program := "ytmfleenmjbbgmaa", sum := "c7531a96ddefb143c3e36caa32144a885dd15b321eddaab0732c2b9146a81a79", func := "zoetrope/zoetropelaw11.IntraHorizontal", spec := "intraHorizontal", inPlace := ["sync/atomic.LoadUint32", "(*internal/sync.Mutex).Lock", "internal/race.Disable", "sync/atomic.CompareAndSwapInt32", "internal/race.Enable", "internal/race.Acquire", "(*internal/sync.Mutex).lockSlow", "internal/sync.runtime_canSpin", "internal/sync.runtime_doSpin", "internal/sync.throw", "internal/sync.runtime_nanotime", "internal/sync.runtime_SemacquireMutex", "sync/atomic.AddInt32", "(*internal/sync.Mutex).Unlock", "internal/race.ReleaseMerge", "(*internal/sync.Mutex).unlockSlow", "internal/sync.fatal", "internal/sync.runtime_Semrelease", "sync/atomic.StoreUint32"], unfollowed := true, recurses := true, apart := false }
def IntraHorizontalSaid : Prop := intraHorizontalRow.holds Try.pinned (OpenSpec.ofChange intraHorizontalSpec)

/-- ITS FALSE NEIGHBOUR: 'it returns false'. Refute it at one input. -/
def intraHorizontalWrong : ChangeSpec := { name := "intraHorizontal", fn := fun _ => fun
  | [d1, d2, d3] => { results := [.lit (.bool false)], args := [d1, d2, d3] }
  | _ => none }
def IntraHorizontalWrongFalsely : Prop := intraHorizontalRow.holds Try.pinned (OpenSpec.ofChange intraHorizontalWrong)

/-- 'zoetropelaw11.IntraDownLeft': WHATEVER THE INPUT: true; the input reads as it did. -/
def intraDownLeftSpec : ChangeSpec := { name := "intraDownLeft", fn := fun _ => fun
  | [d1, d2, d3] => { results := [.lit (.bool true)], args := [d1, d2, d3] }
  | _ => none }
def intraDownLeftRow : OpenClaim := { program := "ytmfleenmjbbgmaa", sum := "c7531a96ddefb143c3e36caa32144a885dd15b321eddaab0732c2b9146a81a79", func := "zoetrope/zoetropelaw11.IntraDownLeft", spec := "intraDownLeft", inPlace := ["sync/atomic.LoadUint32", "(*internal/sync.Mutex).Lock", "internal/race.Disable", "sync/atomic.CompareAndSwapInt32", "internal/race.Enable", "internal/race.Acquire", "(*internal/sync.Mutex).lockSlow", "internal/sync.runtime_canSpin", "internal/sync.runtime_doSpin", "internal/sync.throw", "internal/sync.runtime_nanotime", "internal/sync.runtime_SemacquireMutex", "sync/atomic.AddInt32", "(*internal/sync.Mutex).Unlock", "internal/race.ReleaseMerge", "(*internal/sync.Mutex).unlockSlow", "internal/sync.fatal", "internal/sync.runtime_Semrelease", "sync/atomic.StoreUint32"], unfollowed := true, recurses := true, apart := false }
def IntraDownLeftSaid : Prop := intraDownLeftRow.holds Try.pinned (OpenSpec.ofChange intraDownLeftSpec)

/-- ITS FALSE NEIGHBOUR: 'it returns false'. Refute it at one input. -/
def intraDownLeftWrong : ChangeSpec := { name := "intraDownLeft", fn := fun _ => fun
  | [d1, d2, d3] => { results := [.lit (.bool false)], args := [d1, d2, d3] }
  | _ => none }
def IntraDownLeftWrongFalsely : Prop := intraDownLeftRow.holds Try.pinned (OpenSpec.ofChange intraDownLeftWrong)

/-- 'zoetropelaw11.IntraDownRight': WHATEVER THE INPUT: true; the input reads as it did. -/
def intraDownRightSpec : ChangeSpec := { name := "intraDownRight", fn := fun _ => fun
  | [d1, d2, d3] => { results := [.lit (.bool true)], args := [d1, d2, d3] }
  | _ => none }
def intraDownRightRow : OpenClaim := { program := "ytmfleenmjbbgmaa", sum := "c7531a96ddefb143c3e36caa32144a885dd15b321eddaab0732c2b9146a81a79", func := "zoetrope/zoetropelaw11.IntraDownRight", spec := "intraDownRight", inPlace := ["sync/atomic.LoadUint32", "(*internal/sync.Mutex).Lock", "internal/race.Disable", "sync/atomic.CompareAndSwapInt32", "internal/race.Enable", "internal/race.Acquire", "(*internal/sync.Mutex).lockSlow", "internal/sync.runtime_canSpin", "internal/sync.runtime_doSpin", "internal/sync.throw", "internal/sync.runtime_nanotime", "internal/sync.runtime_SemacquireMutex", "sync/atomic.AddInt32", "(*internal/sync.Mutex).Unlock", "internal/race.ReleaseMerge", "(*internal/sync.Mutex).unlockSlow", "internal/sync.fatal", "internal/sync.runtime_Semrelease", "sync/atomic.StoreUint32"], unfollowed := true, recurses := true, apart := false }
def IntraDownRightSaid : Prop := intraDownRightRow.holds Try.pinned (OpenSpec.ofChange intraDownRightSpec)

/-- ITS FALSE NEIGHBOUR: 'it returns false'. Refute it at one input. -/
def intraDownRightWrong : ChangeSpec := { name := "intraDownRight", fn := fun _ => fun
  | [d1, d2, d3] => { results := [.lit (.bool false)], args := [d1, d2, d3] }
  | _ => none }
def IntraDownRightWrongFalsely : Prop := intraDownRightRow.holds Try.pinned (OpenSpec.ofChange intraDownRightWrong)

/-- 'zoetropelaw11.IntraVerticalRight': WHATEVER THE INPUT: true; the input reads as it did. -/
def intraVerticalRightSpec : ChangeSpec := { name := "intraVerticalRight", fn := fun _ => fun
  | [d1, d2, d3] => { results := [.lit (.bool true)], args := [d1, d2, d3] }
  | _ => none }
def intraVerticalRightRow : OpenClaim := { program := "ytmfleenmjbbgmaa", sum := "c7531a96ddefb143c3e36caa32144a885dd15b321eddaab0732c2b9146a81a79", func := "zoetrope/zoetropelaw11.IntraVerticalRight", spec := "intraVerticalRight", inPlace := ["sync/atomic.LoadUint32", "(*internal/sync.Mutex).Lock", "internal/race.Disable", "sync/atomic.CompareAndSwapInt32", "internal/race.Enable", "internal/race.Acquire", "(*internal/sync.Mutex).lockSlow", "internal/sync.runtime_canSpin", "internal/sync.runtime_doSpin", "internal/sync.throw", "internal/sync.runtime_nanotime", "internal/sync.runtime_SemacquireMutex", "sync/atomic.AddInt32", "(*internal/sync.Mutex).Unlock", "internal/race.ReleaseMerge", "(*internal/sync.Mutex).unlockSlow", "internal/sync.fatal", "internal/sync.runtime_Semrelease", "sync/atomic.StoreUint32"], unfollowed := true, recurses := true, apart := false }
def IntraVerticalRightSaid : Prop := intraVerticalRightRow.holds Try.pinned (OpenSpec.ofChange intraVerticalRightSpec)

/-- ITS FALSE NEIGHBOUR: 'it returns false'. Refute it at one input. -/
def intraVerticalRightWrong : ChangeSpec := { name := "intraVerticalRight", fn := fun _ => fun
  | [d1, d2, d3] => { results := [.lit (.bool false)], args := [d1, d2, d3] }
  | _ => none }
def IntraVerticalRightWrongFalsely : Prop := intraVerticalRightRow.holds Try.pinned (OpenSpec.ofChange intraVerticalRightWrong)

/-- 'zoetropelaw11.IntraHorizontalDown': WHATEVER THE INPUT: true; the input reads as it did. -/
def intraHorizontalDownSpec : ChangeSpec := { name := "intraHorizontalDown", fn := fun _ => fun
  | [d1, d2, d3] => { results := [.lit (.bool true)], args := [d1, d2, d3] }
  | _ => none }
def intraHorizontalDownRow : OpenClaim := { program := "ytmfleenmjbbgmaa", sum := "c7531a96ddefb143c3e36caa32144a885dd15b321eddaab0732c2b9146a81a79", func := "zoetrope/zoetropelaw11.IntraHorizontalDown", spec := "intraHorizontalDown", inPlace := ["sync/atomic.LoadUint32", "(*internal/sync.Mutex).Lock", "internal/race.Disable", "sync/atomic.CompareAndSwapInt32", "internal/race.Enable", "internal/race.Acquire", "(*internal/sync.Mutex).lockSlow", "internal/sync.runtime_canSpin", "internal/sync.runtime_doSpin", "internal/sync.throw", "internal/sync.runtime_nanotime", "internal/sync.runtime_SemacquireMutex", "sync/atomic.AddInt32", "(*internal/sync.Mutex).Unlock", "internal/race.ReleaseMerge", "(*internal/sync.Mutex).unlockSlow", "internal/sync.fatal", "internal/sync.runtime_Semrelease", "sync/atomic.StoreUint32"], unfollowed := true, recurses := true, apart := false }
def IntraHorizontalDownSaid : Prop := intraHorizontalDownRow.holds Try.pinned (OpenSpec.ofChange intraHorizontalDownSpec)

/-- ITS FALSE NEIGHBOUR: 'it returns false'. Refute it at one input. -/
def intraHorizontalDownWrong : ChangeSpec := { name := "intraHorizontalDown", fn := fun _ => fun
  | [d1, d2, d3] => { results := [.lit (.bool false)], args := [d1, d2, d3] }
  | _ => none }
def IntraHorizontalDownWrongFalsely : Prop := intraHorizontalDownRow.holds Try.pinned (OpenSpec.ofChange intraHorizontalDownWrong)

/-- 'zoetropelaw11.IntraVerticalLeft': WHATEVER THE INPUT: true; the input reads as it did. -/
def intraVerticalLeftSpec : ChangeSpec := { name := "intraVerticalLeft", fn := fun _ => fun
  | [d1, d2, d3] => { results := [.lit (.bool true)], args := [d1, d2, d3] }
  | _ => none }
def intraVerticalLeftRow : OpenClaim := { program := "ytmfleenmjbbgmaa", sum := "c7531a96ddefb143c3e36caa32144a885dd15b321eddaab0732c2b9146a81a79", func := "zoetrope/zoetropelaw11.IntraVerticalLeft", spec := "intraVerticalLeft", inPlace := ["sync/atomic.LoadUint32", "(*internal/sync.Mutex).Lock", "internal/race.Disable", "sync/atomic.CompareAndSwapInt32", "internal/race.Enable", "internal/race.Acquire", "(*internal/sync.Mutex).lockSlow", "internal/sync.runtime_canSpin", "internal/sync.runtime_doSpin", "internal/sync.throw", "internal/sync.runtime_nanotime", "internal/sync.runtime_SemacquireMutex", "sync/atomic.AddInt32", "(*internal/sync.Mutex).Unlock", "internal/race.ReleaseMerge", "(*internal/sync.Mutex).unlockSlow", "internal/sync.fatal", "internal/sync.runtime_Semrelease", "sync/atomic.StoreUint32"], unfollowed := true, recurses := true, apart := false }
def IntraVerticalLeftSaid : Prop := intraVerticalLeftRow.holds Try.pinned (OpenSpec.ofChange intraVerticalLeftSpec)

/-- ITS FALSE NEIGHBOUR: 'it returns false'. Refute it at one input. -/
def intraVerticalLeftWrong : ChangeSpec := { name := "intraVerticalLeft", fn := fun _ => fun
  | [d1, d2, d3] => { results := [.lit (.bool false)], args := [d1, d2, d3] }
  | _ => none }
def IntraVerticalLeftWrongFalsely : Prop := intraVerticalLeftRow.holds Try.pinned (OpenSpec.ofChange intraVerticalLeftWrong)

/-- 'zoetropelaw11.IntraHorizontalUp': WHATEVER THE INPUT: true; the input reads as it did. -/
def intraHorizontalUpSpec : ChangeSpec := { name := "intraHorizontalUp", fn := fun _ => fun
  | [d1, d2, d3] => { results := [.lit (.bool true)], args := [d1, d2, d3] }
  | _ => none }
def intraHorizontalUpRow : OpenClaim := { program := "ytmfleenmjbbgmaa", sum := "c7531a96ddefb143c3e36caa32144a885dd15b321eddaab0732c2b9146a81a79", func := "zoetrope/zoetropelaw11.IntraHorizontalUp", spec := "intraHorizontalUp", inPlace := ["sync/atomic.LoadUint32", "(*internal/sync.Mutex).Lock", "internal/race.Disable", "sync/atomic.CompareAndSwapInt32", "internal/race.Enable", "internal/race.Acquire", "(*internal/sync.Mutex).lockSlow", "internal/sync.runtime_canSpin", "internal/sync.runtime_doSpin", "internal/sync.throw", "internal/sync.runtime_nanotime", "internal/sync.runtime_SemacquireMutex", "sync/atomic.AddInt32", "(*internal/sync.Mutex).Unlock", "internal/race.ReleaseMerge", "(*internal/sync.Mutex).unlockSlow", "internal/sync.fatal", "internal/sync.runtime_Semrelease", "sync/atomic.StoreUint32"], unfollowed := true, recurses := true, apart := false }
def IntraHorizontalUpSaid : Prop := intraHorizontalUpRow.holds Try.pinned (OpenSpec.ofChange intraHorizontalUpSpec)

/-- ITS FALSE NEIGHBOUR: 'it returns false'. Refute it at one input. -/
def intraHorizontalUpWrong : ChangeSpec := { name := "intraHorizontalUp", fn := fun _ => fun
  | [d1, d2, d3] => { results := [.lit (.bool false)], args := [d1, d2, d3] }
  | _ => none }
def IntraHorizontalUpWrongFalsely : Prop := intraHorizontalUpRow.holds Try.pinned (OpenSpec.ofChange intraHorizontalUpWrong)

/-- 'zoetropelaw11.IntraMeans': WHATEVER THE INPUT: true; the input reads as it did. -/
def intraMeansSpec : ChangeSpec := { name := "intraMeans", fn := fun _ => fun
  | [d1, d2, d3] => { results := [.lit (.bool true)], args := [d1, d2, d3] }
  | _ => none }
def intraMeansRow : OpenClaim := { program := "ytmfleenmjbbgmaa", sum := "c7531a96ddefb143c3e36caa32144a885dd15b321eddaab0732c2b9146a81a79", func := "zoetrope/zoetropelaw11.IntraMeans", spec := "intraMeans", inPlace := ["sync/atomic.LoadUint32", "(*internal/sync.Mutex).Lock", "internal/race.Disable", "sync/atomic.CompareAndSwapInt32", "internal/race.Enable", "internal/race.Acquire", "(*internal/sync.Mutex).lockSlow", "internal/sync.runtime_canSpin", "internal/sync.runtime_doSpin", "internal/sync.throw", "internal/sync.runtime_nanotime", "internal/sync.runtime_SemacquireMutex", "sync/atomic.AddInt32", "(*internal/sync.Mutex).Unlock", "internal/race.ReleaseMerge", "(*internal/sync.Mutex).unlockSlow", "internal/sync.fatal", "internal/sync.runtime_Semrelease", "sync/atomic.StoreUint32"], unfollowed := true, recurses := true, apart := false }
def IntraMeansSaid : Prop := intraMeansRow.holds Try.pinned (OpenSpec.ofChange intraMeansSpec)

/-- ITS FALSE NEIGHBOUR: 'it returns false'. Refute it at one input. -/
def intraMeansWrong : ChangeSpec := { name := "intraMeans", fn := fun _ => fun
  | [d1, d2, d3] => { results := [.lit (.bool false)], args := [d1, d2, d3] }
  | _ => none }
def IntraMeansWrongFalsely : Prop := intraMeansRow.holds Try.pinned (OpenSpec.ofChange intraMeansWrong)

/-- 'zoetropelaw11.IntraCorners': WHATEVER THE INPUT: true; the input reads as it did. -/
def intraCornersSpec : ChangeSpec := { name := "intraCorners", fn := fun _ => fun
  | [d1, d2, d3] => { results := [.lit (.bool true)], args := [d1, d2, d3] }
  | _ => none }
def intraCornersRow : OpenClaim := { program := "ytmfleenmjbbgmaa", sum := "c7531a96ddefb143c3e36caa32144a885dd15b321eddaab0732c2b9146a81a79", func := "zoetrope/zoetropelaw11.IntraCorners", spec := "intraCorners", inPlace := ["sync/atomic.LoadUint32", "(*internal/sync.Mutex).Lock", "internal/race.Disable", "sync/atomic.CompareAndSwapInt32", "internal/race.Enable", "internal/race.Acquire", "(*internal/sync.Mutex).lockSlow", "internal/sync.runtime_canSpin", "internal/sync.runtime_doSpin", "internal/sync.throw", "internal/sync.runtime_nanotime", "internal/sync.runtime_SemacquireMutex", "sync/atomic.AddInt32", "(*internal/sync.Mutex).Unlock", "internal/race.ReleaseMerge", "(*internal/sync.Mutex).unlockSlow", "internal/sync.fatal", "internal/sync.runtime_Semrelease", "sync/atomic.StoreUint32"], unfollowed := true, recurses := true, apart := false }
def IntraCornersSaid : Prop := intraCornersRow.holds Try.pinned (OpenSpec.ofChange intraCornersSpec)

/-- ITS FALSE NEIGHBOUR: 'it returns false'. Refute it at one input. -/
def intraCornersWrong : ChangeSpec := { name := "intraCorners", fn := fun _ => fun
  | [d1, d2, d3] => { results := [.lit (.bool false)], args := [d1, d2, d3] }
  | _ => none }
def IntraCornersWrongFalsely : Prop := intraCornersRow.holds Try.pinned (OpenSpec.ofChange intraCornersWrong)

/- THE SECOND FORM. 'bulk': how many values and letters a reading holds, each counted each time it is reached (what is shared counts as often as it is met; a slice's spare places count too). A statement '..UptoSaid' is the law's where the arguments, and the package variables that the reading takes, are together of bulk at most 1048576: NARROWER than '..Said'. Prove '..Said' where nothing that the law and all that it calls make is longer than what came in: it says more and counts as full. Else prove '..UptoSaid'. A law counts once. -/
mutual
def uptoBulk {H : Type} : DataW H → Nat
  | .lit (.string bytes) => bytes.length + 1
  | .lit _ => 1
  | .nil => 1
  | .ptr d => uptoBulk d + 1
  | .slice elems spare => uptoBulkAll elems + uptoBulkAll spare + 1
  | .agg parts => uptoBulkAll parts + 1
  | .iface _ d => uptoBulk d + 1
  | .map entries => uptoBulkEntries entries + 1
  | .held _ => 1
def uptoBulkAll {H : Type} : List (DataW H) → Nat
  | [] => 0
  | d :: r => uptoBulk d + uptoBulkAll r
def uptoBulkEntries {H : Type} : List (Lit × DataW H) → Nat
  | [] => 0
  | x :: r => uptoBulkEntry x + uptoBulkEntries r
def uptoBulkEntry {H : Type} : Lit × DataW H → Nat
  | (.string bytes, d) => bytes.length + uptoBulk d + 1
  | (_, d) => uptoBulk d + 1
 end
def uptoSmall : (H : Type) → List (DataW H) → Bool := fun _ ds => decide (uptoBulkAll ds ≤ 1048576)
def OpenSpec.upto (s : _root_.Go.ChangeSpec) : _root_.Go.OpenSpec := { _root_.Go.OpenSpec.ofChange s with cond := some uptoSmall }

/-- 'zoetropelaw11.IntraFours', WHERE WHAT IT READS IS OF BULK AT MOST 1048576: true; the input reads as it did. -/
def intraFoursUptoRow : OpenClaim := { program := "ytmfleenmjbbgmaa", sum := "c7531a96ddefb143c3e36caa32144a885dd15b321eddaab0732c2b9146a81a79", func := "zoetrope/zoetropelaw11.IntraFours", spec := "intraFours", inPlace := ["sync/atomic.LoadUint32", "(*internal/sync.Mutex).Lock", "internal/race.Disable", "sync/atomic.CompareAndSwapInt32", "internal/race.Enable", "internal/race.Acquire", "(*internal/sync.Mutex).lockSlow", "internal/sync.runtime_canSpin", "internal/sync.runtime_doSpin", "internal/sync.throw", "internal/sync.runtime_nanotime", "internal/sync.runtime_SemacquireMutex", "sync/atomic.AddInt32", "(*internal/sync.Mutex).Unlock", "internal/race.ReleaseMerge", "(*internal/sync.Mutex).unlockSlow", "internal/sync.fatal", "internal/sync.runtime_Semrelease", "sync/atomic.StoreUint32"], unfollowed := true, recurses := true, apart := false, narrowed := true }
def IntraFoursUptoSaid : Prop := intraFoursUptoRow.holds Try.pinned (OpenSpec.upto intraFoursSpec)

/-- 'zoetropelaw11.IntraWholes', WHERE WHAT IT READS IS OF BULK AT MOST 1048576: true; the input reads as it did. -/
def intraWholesUptoRow : OpenClaim := { program := "ytmfleenmjbbgmaa", sum := "c7531a96ddefb143c3e36caa32144a885dd15b321eddaab0732c2b9146a81a79", func := "zoetrope/zoetropelaw11.IntraWholes", spec := "intraWholes", inPlace := ["sync/atomic.LoadUint32", "(*internal/sync.Mutex).Lock", "internal/race.Disable", "sync/atomic.CompareAndSwapInt32", "internal/race.Enable", "internal/race.Acquire", "(*internal/sync.Mutex).lockSlow", "internal/sync.runtime_canSpin", "internal/sync.runtime_doSpin", "internal/sync.throw", "internal/sync.runtime_nanotime", "internal/sync.runtime_SemacquireMutex", "sync/atomic.AddInt32", "(*internal/sync.Mutex).Unlock", "internal/race.ReleaseMerge", "(*internal/sync.Mutex).unlockSlow", "internal/sync.fatal", "internal/sync.runtime_Semrelease", "sync/atomic.StoreUint32"], unfollowed := true, recurses := true, apart := false, narrowed := true }
def IntraWholesUptoSaid : Prop := intraWholesUptoRow.holds Try.pinned (OpenSpec.upto intraWholesSpec)

/-- 'zoetropelaw11.IntraFlat', WHERE WHAT IT READS IS OF BULK AT MOST 1048576: true; the input reads as it did. -/
def intraFlatUptoRow : OpenClaim := { program := "ytmfleenmjbbgmaa", sum := "c7531a96ddefb143c3e36caa32144a885dd15b321eddaab0732c2b9146a81a79", func := "zoetrope/zoetropelaw11.IntraFlat", spec := "intraFlat", inPlace := ["sync/atomic.LoadUint32", "(*internal/sync.Mutex).Lock", "internal/race.Disable", "sync/atomic.CompareAndSwapInt32", "internal/race.Enable", "internal/race.Acquire", "(*internal/sync.Mutex).lockSlow", "internal/sync.runtime_canSpin", "internal/sync.runtime_doSpin", "internal/sync.throw", "internal/sync.runtime_nanotime", "internal/sync.runtime_SemacquireMutex", "sync/atomic.AddInt32", "(*internal/sync.Mutex).Unlock", "internal/race.ReleaseMerge", "(*internal/sync.Mutex).unlockSlow", "internal/sync.fatal", "internal/sync.runtime_Semrelease", "sync/atomic.StoreUint32"], unfollowed := true, recurses := true, apart := false, narrowed := true }
def IntraFlatUptoSaid : Prop := intraFlatUptoRow.holds Try.pinned (OpenSpec.upto intraFlatSpec)

/-- 'zoetropelaw11.IntraTurned', WHERE WHAT IT READS IS OF BULK AT MOST 1048576: true; the input reads as it did. -/
def intraTurnedUptoRow : OpenClaim := { program := "ytmfleenmjbbgmaa", sum := "c7531a96ddefb143c3e36caa32144a885dd15b321eddaab0732c2b9146a81a79", func := "zoetrope/zoetropelaw11.IntraTurned", spec := "intraTurned", inPlace := ["sync/atomic.LoadUint32", "(*internal/sync.Mutex).Lock", "internal/race.Disable", "sync/atomic.CompareAndSwapInt32", "internal/race.Enable", "internal/race.Acquire", "(*internal/sync.Mutex).lockSlow", "internal/sync.runtime_canSpin", "internal/sync.runtime_doSpin", "internal/sync.throw", "internal/sync.runtime_nanotime", "internal/sync.runtime_SemacquireMutex", "sync/atomic.AddInt32", "(*internal/sync.Mutex).Unlock", "internal/race.ReleaseMerge", "(*internal/sync.Mutex).unlockSlow", "internal/sync.fatal", "internal/sync.runtime_Semrelease", "sync/atomic.StoreUint32"], unfollowed := true, recurses := true, apart := false, narrowed := true }
def IntraTurnedUptoSaid : Prop := intraTurnedUptoRow.holds Try.pinned (OpenSpec.upto intraTurnedSpec)

/-- 'zoetropelaw11.IntraVertical', WHERE WHAT IT READS IS OF BULK AT MOST 1048576: true; the input reads as it did. -/
def intraVerticalUptoRow : OpenClaim := { program := "ytmfleenmjbbgmaa", sum := "c7531a96ddefb143c3e36caa32144a885dd15b321eddaab0732c2b9146a81a79", func := "zoetrope/zoetropelaw11.IntraVertical", spec := "intraVertical", inPlace := ["sync/atomic.LoadUint32", "(*internal/sync.Mutex).Lock", "internal/race.Disable", "sync/atomic.CompareAndSwapInt32", "internal/race.Enable", "internal/race.Acquire", "(*internal/sync.Mutex).lockSlow", "internal/sync.runtime_canSpin", "internal/sync.runtime_doSpin", "internal/sync.throw", "internal/sync.runtime_nanotime", "internal/sync.runtime_SemacquireMutex", "sync/atomic.AddInt32", "(*internal/sync.Mutex).Unlock", "internal/race.ReleaseMerge", "(*internal/sync.Mutex).unlockSlow", "internal/sync.fatal", "internal/sync.runtime_Semrelease", "sync/atomic.StoreUint32"], unfollowed := true, recurses := true, apart := false, narrowed := true }
def IntraVerticalUptoSaid : Prop := intraVerticalUptoRow.holds Try.pinned (OpenSpec.upto intraVerticalSpec)

/-- 'zoetropelaw11.IntraHorizontal', WHERE WHAT IT READS IS OF BULK AT MOST 1048576: true; the input reads as it did. -/
def intraHorizontalUptoRow : OpenClaim := { program := "ytmfleenmjbbgmaa", sum := "c7531a96ddefb143c3e36caa32144a885dd15b321eddaab0732c2b9146a81a79", func := "zoetrope/zoetropelaw11.IntraHorizontal", spec := "intraHorizontal", inPlace := ["sync/atomic.LoadUint32", "(*internal/sync.Mutex).Lock", "internal/race.Disable", "sync/atomic.CompareAndSwapInt32", "internal/race.Enable", "internal/race.Acquire", "(*internal/sync.Mutex).lockSlow", "internal/sync.runtime_canSpin", "internal/sync.runtime_doSpin", "internal/sync.throw", "internal/sync.runtime_nanotime", "internal/sync.runtime_SemacquireMutex", "sync/atomic.AddInt32", "(*internal/sync.Mutex).Unlock", "internal/race.ReleaseMerge", "(*internal/sync.Mutex).unlockSlow", "internal/sync.fatal", "internal/sync.runtime_Semrelease", "sync/atomic.StoreUint32"], unfollowed := true, recurses := true, apart := false, narrowed := true }
def IntraHorizontalUptoSaid : Prop := intraHorizontalUptoRow.holds Try.pinned (OpenSpec.upto intraHorizontalSpec)

/-- 'zoetropelaw11.IntraDownLeft', WHERE WHAT IT READS IS OF BULK AT MOST 1048576: true; the input reads as it did. -/
def intraDownLeftUptoRow : OpenClaim := { program := "ytmfleenmjbbgmaa", sum := "c7531a96ddefb143c3e36caa32144a885dd15b321eddaab0732c2b9146a81a79", func := "zoetrope/zoetropelaw11.IntraDownLeft", spec := "intraDownLeft", inPlace := ["sync/atomic.LoadUint32", "(*internal/sync.Mutex).Lock", "internal/race.Disable", "sync/atomic.CompareAndSwapInt32", "internal/race.Enable", "internal/race.Acquire", "(*internal/sync.Mutex).lockSlow", "internal/sync.runtime_canSpin", "internal/sync.runtime_doSpin", "internal/sync.throw", "internal/sync.runtime_nanotime", "internal/sync.runtime_SemacquireMutex", "sync/atomic.AddInt32", "(*internal/sync.Mutex).Unlock", "internal/race.ReleaseMerge", "(*internal/sync.Mutex).unlockSlow", "internal/sync.fatal", "internal/sync.runtime_Semrelease", "sync/atomic.StoreUint32"], unfollowed := true, recurses := true, apart := false, narrowed := true }
def IntraDownLeftUptoSaid : Prop := intraDownLeftUptoRow.holds Try.pinned (OpenSpec.upto intraDownLeftSpec)

/-- 'zoetropelaw11.IntraDownRight', WHERE WHAT IT READS IS OF BULK AT MOST 1048576: true; the input reads as it did. -/
def intraDownRightUptoRow : OpenClaim := { program := "ytmfleenmjbbgmaa", sum := "c7531a96ddefb143c3e36caa32144a885dd15b321eddaab0732c2b9146a81a79", func := "zoetrope/zoetropelaw11.IntraDownRight", spec := "intraDownRight", inPlace := ["sync/atomic.LoadUint32", "(*internal/sync.Mutex).Lock", "internal/race.Disable", "sync/atomic.CompareAndSwapInt32", "internal/race.Enable", "internal/race.Acquire", "(*internal/sync.Mutex).lockSlow", "internal/sync.runtime_canSpin", "internal/sync.runtime_doSpin", "internal/sync.throw", "internal/sync.runtime_nanotime", "internal/sync.runtime_SemacquireMutex", "sync/atomic.AddInt32", "(*internal/sync.Mutex).Unlock", "internal/race.ReleaseMerge", "(*internal/sync.Mutex).unlockSlow", "internal/sync.fatal", "internal/sync.runtime_Semrelease", "sync/atomic.StoreUint32"], unfollowed := true, recurses := true, apart := false, narrowed := true }
def IntraDownRightUptoSaid : Prop := intraDownRightUptoRow.holds Try.pinned (OpenSpec.upto intraDownRightSpec)

/-- 'zoetropelaw11.IntraVerticalRight', WHERE WHAT IT READS IS OF BULK AT MOST 1048576: true; the input reads as it did. -/
def intraVerticalRightUptoRow : OpenClaim := { program := "ytmfleenmjbbgmaa", sum := "c7531a96ddefb143c3e36caa32144a885dd15b321eddaab0732c2b9146a81a79", func := "zoetrope/zoetropelaw11.IntraVerticalRight", spec := "intraVerticalRight", inPlace := ["sync/atomic.LoadUint32", "(*internal/sync.Mutex).Lock", "internal/race.Disable", "sync/atomic.CompareAndSwapInt32", "internal/race.Enable", "internal/race.Acquire", "(*internal/sync.Mutex).lockSlow", "internal/sync.runtime_canSpin", "internal/sync.runtime_doSpin", "internal/sync.throw", "internal/sync.runtime_nanotime", "internal/sync.runtime_SemacquireMutex", "sync/atomic.AddInt32", "(*internal/sync.Mutex).Unlock", "internal/race.ReleaseMerge", "(*internal/sync.Mutex).unlockSlow", "internal/sync.fatal", "internal/sync.runtime_Semrelease", "sync/atomic.StoreUint32"], unfollowed := true, recurses := true, apart := false, narrowed := true }
def IntraVerticalRightUptoSaid : Prop := intraVerticalRightUptoRow.holds Try.pinned (OpenSpec.upto intraVerticalRightSpec)

/-- 'zoetropelaw11.IntraHorizontalDown', WHERE WHAT IT READS IS OF BULK AT MOST 1048576: true; the input reads as it did. -/
def intraHorizontalDownUptoRow : OpenClaim := { program := "ytmfleenmjbbgmaa", sum := "c7531a96ddefb143c3e36caa32144a885dd15b321eddaab0732c2b9146a81a79", func := "zoetrope/zoetropelaw11.IntraHorizontalDown", spec := "intraHorizontalDown", inPlace := ["sync/atomic.LoadUint32", "(*internal/sync.Mutex).Lock", "internal/race.Disable", "sync/atomic.CompareAndSwapInt32", "internal/race.Enable", "internal/race.Acquire", "(*internal/sync.Mutex).lockSlow", "internal/sync.runtime_canSpin", "internal/sync.runtime_doSpin", "internal/sync.throw", "internal/sync.runtime_nanotime", "internal/sync.runtime_SemacquireMutex", "sync/atomic.AddInt32", "(*internal/sync.Mutex).Unlock", "internal/race.ReleaseMerge", "(*internal/sync.Mutex).unlockSlow", "internal/sync.fatal", "internal/sync.runtime_Semrelease", "sync/atomic.StoreUint32"], unfollowed := true, recurses := true, apart := false, narrowed := true }
def IntraHorizontalDownUptoSaid : Prop := intraHorizontalDownUptoRow.holds Try.pinned (OpenSpec.upto intraHorizontalDownSpec)

/-- 'zoetropelaw11.IntraVerticalLeft', WHERE WHAT IT READS IS OF BULK AT MOST 1048576: true; the input reads as it did. -/
def intraVerticalLeftUptoRow : OpenClaim := { program := "ytmfleenmjbbgmaa", sum := "c7531a96ddefb143c3e36caa32144a885dd15b321eddaab0732c2b9146a81a79", func := "zoetrope/zoetropelaw11.IntraVerticalLeft", spec := "intraVerticalLeft", inPlace := ["sync/atomic.LoadUint32", "(*internal/sync.Mutex).Lock", "internal/race.Disable", "sync/atomic.CompareAndSwapInt32", "internal/race.Enable", "internal/race.Acquire", "(*internal/sync.Mutex).lockSlow", "internal/sync.runtime_canSpin", "internal/sync.runtime_doSpin", "internal/sync.throw", "internal/sync.runtime_nanotime", "internal/sync.runtime_SemacquireMutex", "sync/atomic.AddInt32", "(*internal/sync.Mutex).Unlock", "internal/race.ReleaseMerge", "(*internal/sync.Mutex).unlockSlow", "internal/sync.fatal", "internal/sync.runtime_Semrelease", "sync/atomic.StoreUint32"], unfollowed := true, recurses := true, apart := false, narrowed := true }
def IntraVerticalLeftUptoSaid : Prop := intraVerticalLeftUptoRow.holds Try.pinned (OpenSpec.upto intraVerticalLeftSpec)

/-- 'zoetropelaw11.IntraHorizontalUp', WHERE WHAT IT READS IS OF BULK AT MOST 1048576: true; the input reads as it did. -/
def intraHorizontalUpUptoRow : OpenClaim := { program := "ytmfleenmjbbgmaa", sum := "c7531a96ddefb143c3e36caa32144a885dd15b321eddaab0732c2b9146a81a79", func := "zoetrope/zoetropelaw11.IntraHorizontalUp", spec := "intraHorizontalUp", inPlace := ["sync/atomic.LoadUint32", "(*internal/sync.Mutex).Lock", "internal/race.Disable", "sync/atomic.CompareAndSwapInt32", "internal/race.Enable", "internal/race.Acquire", "(*internal/sync.Mutex).lockSlow", "internal/sync.runtime_canSpin", "internal/sync.runtime_doSpin", "internal/sync.throw", "internal/sync.runtime_nanotime", "internal/sync.runtime_SemacquireMutex", "sync/atomic.AddInt32", "(*internal/sync.Mutex).Unlock", "internal/race.ReleaseMerge", "(*internal/sync.Mutex).unlockSlow", "internal/sync.fatal", "internal/sync.runtime_Semrelease", "sync/atomic.StoreUint32"], unfollowed := true, recurses := true, apart := false, narrowed := true }
def IntraHorizontalUpUptoSaid : Prop := intraHorizontalUpUptoRow.holds Try.pinned (OpenSpec.upto intraHorizontalUpSpec)

/-- 'zoetropelaw11.IntraMeans', WHERE WHAT IT READS IS OF BULK AT MOST 1048576: true; the input reads as it did. -/
def intraMeansUptoRow : OpenClaim := { program := "ytmfleenmjbbgmaa", sum := "c7531a96ddefb143c3e36caa32144a885dd15b321eddaab0732c2b9146a81a79", func := "zoetrope/zoetropelaw11.IntraMeans", spec := "intraMeans", inPlace := ["sync/atomic.LoadUint32", "(*internal/sync.Mutex).Lock", "internal/race.Disable", "sync/atomic.CompareAndSwapInt32", "internal/race.Enable", "internal/race.Acquire", "(*internal/sync.Mutex).lockSlow", "internal/sync.runtime_canSpin", "internal/sync.runtime_doSpin", "internal/sync.throw", "internal/sync.runtime_nanotime", "internal/sync.runtime_SemacquireMutex", "sync/atomic.AddInt32", "(*internal/sync.Mutex).Unlock", "internal/race.ReleaseMerge", "(*internal/sync.Mutex).unlockSlow", "internal/sync.fatal", "internal/sync.runtime_Semrelease", "sync/atomic.StoreUint32"], unfollowed := true, recurses := true, apart := false, narrowed := true }
def IntraMeansUptoSaid : Prop := intraMeansUptoRow.holds Try.pinned (OpenSpec.upto intraMeansSpec)

/-- 'zoetropelaw11.IntraCorners', WHERE WHAT IT READS IS OF BULK AT MOST 1048576: true; the input reads as it did. -/
def intraCornersUptoRow : OpenClaim := { program := "ytmfleenmjbbgmaa", sum := "c7531a96ddefb143c3e36caa32144a885dd15b321eddaab0732c2b9146a81a79", func := "zoetrope/zoetropelaw11.IntraCorners", spec := "intraCorners", inPlace := ["sync/atomic.LoadUint32", "(*internal/sync.Mutex).Lock", "internal/race.Disable", "sync/atomic.CompareAndSwapInt32", "internal/race.Enable", "internal/race.Acquire", "(*internal/sync.Mutex).lockSlow", "internal/sync.runtime_canSpin", "internal/sync.runtime_doSpin", "internal/sync.throw", "internal/sync.runtime_nanotime", "internal/sync.runtime_SemacquireMutex", "sync/atomic.AddInt32", "(*internal/sync.Mutex).Unlock", "internal/race.ReleaseMerge", "(*internal/sync.Mutex).unlockSlow", "internal/sync.fatal", "internal/sync.runtime_Semrelease", "sync/atomic.StoreUint32"], unfollowed := true, recurses := true, apart := false, narrowed := true }
def IntraCornersUptoSaid : Prop := intraCornersUptoRow.holds Try.pinned (OpenSpec.upto intraCornersSpec)

end Rows
end Go.Proofs.Ytmfleenmjbbgmaa
