/-
  NARROWER THAN 'FOR EVERY INPUT', by the rows' own cells (each row's printed sentence says how): FnWorldKeeps: laid · FnWorldKept: laid · FnWorldSend: laid · FnWorldFlush: laid · FnWorldDeliver: laid · FnWorldLose: laid · FnWorldChange: laid · FnWorldUnknown: laid · FnWorldTwice: laid · FnWorldPlay: laid · FnCalmValid: laid · FnWorldInvalid: laid.
  DERIVED. THE GIVEN ROWS OF THIS SEAT. 12 by the template 'for every input the law returns true; each argument reads behind the call as it read before'; 0 by the template 'total and deterministic' (their statements: YtolgbefghbddeaaGreatDoorTotals.lean).
  GIVEN WITH THE SEED: the statements are not yours to turn. If you find one false, say at which input.
  Laid BY PROGRAM, IN A SANDBOX (cutbox-rows.mjs): the forced cells as the released guide's own fill.sh prints them over the translation 51f4fad3aace2535… (all of the seat's roots in one cut). By AI agents, Wed Nov 11 2026. No macro, syntax, notation, axiom, sorry.
-/
import Derived.Test.YtolgbefghbddeaaGreatDoorChecked
import GoSem.Claim
import GoSem.ClaimJoined
import GoSem.ClaimMapViews
import Derived.JoinedTies
import Derived.KernelRfl
namespace Go.Proofs.YtolgbefghbddeaaGreatDoor
/- THE CELL 'sum', in the pinned program and in every row, IS THE sha256 OF THE DUMP (.gsa) THAT YtolgbefghbddeaaGreatDoorProg.lean LOADS. Nothing in Lean hashes anything: it is a label: what it is worth is what the hold of that sum in a sandbox is worth. -/
noncomputable def Tryz.pinned : Pinned := { name := "ytolgbefghbddeaagreatdoor", sum := "51f4fad3aace25350838b4aeaf364898705bd386e6b0cac8e7a2bb8f8779f9b4", checked := Tryz.checked }
namespace Rows
def none {H : Type} : Left H := { results := [], args := [] }

/- WHAT THE LISTED PACKAGE-LEVEL VARIABLES READ AS WHEN THE CALL BEGINS. Each datum BY PROGRAM (the guide's laid-datum.mjs) off the statement by which the dump's own 'gosem.cut.vars' lays the variable. In a bare row this is a premise. The card (YtolgbefghbddeaaGreatDoorCards.lean) ties it to the program's text. -/
def laid_errors_errorType {H : Type} : DataW H := .iface "internal/reflectlite.rtype" (.agg [.ptr (.lit (.string [101, 114, 114, 111, 114]))])

/-- 'laws.FnWorldKeeps': WHATEVER THE INPUT: true; the input reads as it did. -/
def fnWorldKeepsSpec : ChangeSpec := { name := "fnWorldKeeps", fn := fun _ => fun
  | [d] => { results := [.lit (.bool true)], args := [d] }
  | _ => none }
def fnWorldKeepsRow : OpenClaim := { program := "ytolgbefghbddeaagreatdoor", sum := "51f4fad3aace25350838b4aeaf364898705bd386e6b0cac8e7a2bb8f8779f9b4", func := "loop.example/mixrelay/laws.FnWorldKeeps", spec := "fnWorldKeeps", inPlace := ["(*internal/sync.Mutex).Lock", "internal/race.Disable", "sync/atomic.CompareAndSwapInt32", "internal/race.Enable", "internal/race.Acquire", "(*internal/sync.Mutex).lockSlow", "internal/sync.runtime_canSpin", "internal/sync.runtime_doSpin", "internal/sync.throw", "internal/sync.runtime_nanotime", "internal/sync.runtime_SemacquireMutex", "sync/atomic.AddInt32", "(*internal/sync.Mutex).Unlock", "internal/race.ReleaseMerge", "(*internal/sync.Mutex).unlockSlow", "internal/sync.fatal", "internal/sync.runtime_Semrelease", "internal/reflectlite.ValueOf", "(internal/reflectlite.Value).Type", "(internal/reflectlite.Value).IsNil", "internal/reflectlite.TypeOf", "(internal/reflectlite.Value).Elem", "(internal/reflectlite.Value).Set"], unfollowed := true, recurses := true, named := ["errors.errorType"], apart := false, laid := [("errors.errorType", laid_errors_errorType)] }
def FnWorldKeepsSaid : Prop := fnWorldKeepsRow.holds Tryz.pinned (OpenSpec.ofChange fnWorldKeepsSpec)

/-- ITS FALSE NEIGHBOUR: 'it returns false'. Refute it at one input. -/
def fnWorldKeepsWrong : ChangeSpec := { name := "fnWorldKeeps", fn := fun _ => fun
  | [d] => { results := [.lit (.bool false)], args := [d] }
  | _ => none }
def FnWorldKeepsWrongFalsely : Prop := fnWorldKeepsRow.holds Tryz.pinned (OpenSpec.ofChange fnWorldKeepsWrong)

/-- 'laws.FnWorldKept': WHATEVER THE INPUT: true; the input reads as it did. -/
def fnWorldKeptSpec : ChangeSpec := { name := "fnWorldKept", fn := fun _ => fun
  | [d] => { results := [.lit (.bool true)], args := [d] }
  | _ => none }
def fnWorldKeptRow : OpenClaim := { program := "ytolgbefghbddeaagreatdoor", sum := "51f4fad3aace25350838b4aeaf364898705bd386e6b0cac8e7a2bb8f8779f9b4", func := "loop.example/mixrelay/laws.FnWorldKept", spec := "fnWorldKept", inPlace := ["(*internal/sync.Mutex).Lock", "internal/race.Disable", "sync/atomic.CompareAndSwapInt32", "internal/race.Enable", "internal/race.Acquire", "(*internal/sync.Mutex).lockSlow", "internal/sync.runtime_canSpin", "internal/sync.runtime_doSpin", "internal/sync.throw", "internal/sync.runtime_nanotime", "internal/sync.runtime_SemacquireMutex", "sync/atomic.AddInt32", "(*internal/sync.Mutex).Unlock", "internal/race.ReleaseMerge", "(*internal/sync.Mutex).unlockSlow", "internal/sync.fatal", "internal/sync.runtime_Semrelease", "internal/reflectlite.ValueOf", "(internal/reflectlite.Value).Type", "(internal/reflectlite.Value).IsNil", "internal/reflectlite.TypeOf", "(internal/reflectlite.Value).Elem", "(internal/reflectlite.Value).Set"], unfollowed := true, recurses := true, named := ["errors.errorType"], apart := false, laid := [("errors.errorType", laid_errors_errorType)] }
def FnWorldKeptSaid : Prop := fnWorldKeptRow.holds Tryz.pinned (OpenSpec.ofChange fnWorldKeptSpec)

/-- ITS FALSE NEIGHBOUR: 'it returns false'. Refute it at one input. -/
def fnWorldKeptWrong : ChangeSpec := { name := "fnWorldKept", fn := fun _ => fun
  | [d] => { results := [.lit (.bool false)], args := [d] }
  | _ => none }
def FnWorldKeptWrongFalsely : Prop := fnWorldKeptRow.holds Tryz.pinned (OpenSpec.ofChange fnWorldKeptWrong)

/-- 'laws.FnWorldSend': WHATEVER THE INPUT: true; the input reads as it did. -/
def fnWorldSendSpec : ChangeSpec := { name := "fnWorldSend", fn := fun _ => fun
  | [d] => { results := [.lit (.bool true)], args := [d] }
  | _ => none }
def fnWorldSendRow : OpenClaim := { program := "ytolgbefghbddeaagreatdoor", sum := "51f4fad3aace25350838b4aeaf364898705bd386e6b0cac8e7a2bb8f8779f9b4", func := "loop.example/mixrelay/laws.FnWorldSend", spec := "fnWorldSend", inPlace := ["(*internal/sync.Mutex).Lock", "internal/race.Disable", "sync/atomic.CompareAndSwapInt32", "internal/race.Enable", "internal/race.Acquire", "(*internal/sync.Mutex).lockSlow", "internal/sync.runtime_canSpin", "internal/sync.runtime_doSpin", "internal/sync.throw", "internal/sync.runtime_nanotime", "internal/sync.runtime_SemacquireMutex", "sync/atomic.AddInt32", "(*internal/sync.Mutex).Unlock", "internal/race.ReleaseMerge", "(*internal/sync.Mutex).unlockSlow", "internal/sync.fatal", "internal/sync.runtime_Semrelease", "internal/reflectlite.ValueOf", "(internal/reflectlite.Value).Type", "(internal/reflectlite.Value).IsNil", "internal/reflectlite.TypeOf", "(internal/reflectlite.Value).Elem", "(internal/reflectlite.Value).Set"], unfollowed := true, recurses := true, named := ["errors.errorType"], apart := false, laid := [("errors.errorType", laid_errors_errorType)] }
def FnWorldSendSaid : Prop := fnWorldSendRow.holds Tryz.pinned (OpenSpec.ofChange fnWorldSendSpec)

/-- ITS FALSE NEIGHBOUR: 'it returns false'. Refute it at one input. -/
def fnWorldSendWrong : ChangeSpec := { name := "fnWorldSend", fn := fun _ => fun
  | [d] => { results := [.lit (.bool false)], args := [d] }
  | _ => none }
def FnWorldSendWrongFalsely : Prop := fnWorldSendRow.holds Tryz.pinned (OpenSpec.ofChange fnWorldSendWrong)

/-- 'laws.FnWorldFlush': WHATEVER THE INPUT: true; the input reads as it did. -/
def fnWorldFlushSpec : ChangeSpec := { name := "fnWorldFlush", fn := fun _ => fun
  | [d1, d2] => { results := [.lit (.bool true)], args := [d1, d2] }
  | _ => none }
def fnWorldFlushRow : OpenClaim := { program := "ytolgbefghbddeaagreatdoor", sum := "51f4fad3aace25350838b4aeaf364898705bd386e6b0cac8e7a2bb8f8779f9b4", func := "loop.example/mixrelay/laws.FnWorldFlush", spec := "fnWorldFlush", inPlace := ["(*internal/sync.Mutex).Lock", "internal/race.Disable", "sync/atomic.CompareAndSwapInt32", "internal/race.Enable", "internal/race.Acquire", "(*internal/sync.Mutex).lockSlow", "internal/sync.runtime_canSpin", "internal/sync.runtime_doSpin", "internal/sync.throw", "internal/sync.runtime_nanotime", "internal/sync.runtime_SemacquireMutex", "sync/atomic.AddInt32", "(*internal/sync.Mutex).Unlock", "internal/race.ReleaseMerge", "(*internal/sync.Mutex).unlockSlow", "internal/sync.fatal", "internal/sync.runtime_Semrelease", "internal/reflectlite.ValueOf", "(internal/reflectlite.Value).Type", "(internal/reflectlite.Value).IsNil", "internal/reflectlite.TypeOf", "(internal/reflectlite.Value).Elem", "(internal/reflectlite.Value).Set"], unfollowed := true, recurses := true, named := ["errors.errorType"], apart := false, laid := [("errors.errorType", laid_errors_errorType)] }
def FnWorldFlushSaid : Prop := fnWorldFlushRow.holds Tryz.pinned (OpenSpec.ofChange fnWorldFlushSpec)

/-- ITS FALSE NEIGHBOUR: 'it returns false'. Refute it at one input. -/
def fnWorldFlushWrong : ChangeSpec := { name := "fnWorldFlush", fn := fun _ => fun
  | [d1, d2] => { results := [.lit (.bool false)], args := [d1, d2] }
  | _ => none }
def FnWorldFlushWrongFalsely : Prop := fnWorldFlushRow.holds Tryz.pinned (OpenSpec.ofChange fnWorldFlushWrong)

/-- 'laws.FnWorldDeliver': WHATEVER THE INPUT: true; the input reads as it did. -/
def fnWorldDeliverSpec : ChangeSpec := { name := "fnWorldDeliver", fn := fun _ => fun
  | [d1, d2] => { results := [.lit (.bool true)], args := [d1, d2] }
  | _ => none }
def fnWorldDeliverRow : OpenClaim := { program := "ytolgbefghbddeaagreatdoor", sum := "51f4fad3aace25350838b4aeaf364898705bd386e6b0cac8e7a2bb8f8779f9b4", func := "loop.example/mixrelay/laws.FnWorldDeliver", spec := "fnWorldDeliver", inPlace := ["(*internal/sync.Mutex).Lock", "internal/race.Disable", "sync/atomic.CompareAndSwapInt32", "internal/race.Enable", "internal/race.Acquire", "(*internal/sync.Mutex).lockSlow", "internal/sync.runtime_canSpin", "internal/sync.runtime_doSpin", "internal/sync.throw", "internal/sync.runtime_nanotime", "internal/sync.runtime_SemacquireMutex", "sync/atomic.AddInt32", "(*internal/sync.Mutex).Unlock", "internal/race.ReleaseMerge", "(*internal/sync.Mutex).unlockSlow", "internal/sync.fatal", "internal/sync.runtime_Semrelease", "internal/reflectlite.ValueOf", "(internal/reflectlite.Value).Type", "(internal/reflectlite.Value).IsNil", "internal/reflectlite.TypeOf", "(internal/reflectlite.Value).Elem", "(internal/reflectlite.Value).Set"], unfollowed := true, recurses := true, named := ["errors.errorType"], apart := false, laid := [("errors.errorType", laid_errors_errorType)] }
def FnWorldDeliverSaid : Prop := fnWorldDeliverRow.holds Tryz.pinned (OpenSpec.ofChange fnWorldDeliverSpec)

/-- ITS FALSE NEIGHBOUR: 'it returns false'. Refute it at one input. -/
def fnWorldDeliverWrong : ChangeSpec := { name := "fnWorldDeliver", fn := fun _ => fun
  | [d1, d2] => { results := [.lit (.bool false)], args := [d1, d2] }
  | _ => none }
def FnWorldDeliverWrongFalsely : Prop := fnWorldDeliverRow.holds Tryz.pinned (OpenSpec.ofChange fnWorldDeliverWrong)

/-- 'laws.FnWorldLose': WHATEVER THE INPUT: true; the input reads as it did. -/
def fnWorldLoseSpec : ChangeSpec := { name := "fnWorldLose", fn := fun _ => fun
  | [d1, d2] => { results := [.lit (.bool true)], args := [d1, d2] }
  | _ => none }
def fnWorldLoseRow : OpenClaim := { program := "ytolgbefghbddeaagreatdoor", sum := "51f4fad3aace25350838b4aeaf364898705bd386e6b0cac8e7a2bb8f8779f9b4", func := "loop.example/mixrelay/laws.FnWorldLose", spec := "fnWorldLose", inPlace := ["(*internal/sync.Mutex).Lock", "internal/race.Disable", "sync/atomic.CompareAndSwapInt32", "internal/race.Enable", "internal/race.Acquire", "(*internal/sync.Mutex).lockSlow", "internal/sync.runtime_canSpin", "internal/sync.runtime_doSpin", "internal/sync.throw", "internal/sync.runtime_nanotime", "internal/sync.runtime_SemacquireMutex", "sync/atomic.AddInt32", "(*internal/sync.Mutex).Unlock", "internal/race.ReleaseMerge", "(*internal/sync.Mutex).unlockSlow", "internal/sync.fatal", "internal/sync.runtime_Semrelease", "internal/reflectlite.ValueOf", "(internal/reflectlite.Value).Type", "(internal/reflectlite.Value).IsNil", "internal/reflectlite.TypeOf", "(internal/reflectlite.Value).Elem", "(internal/reflectlite.Value).Set"], unfollowed := true, recurses := true, named := ["errors.errorType"], apart := false, laid := [("errors.errorType", laid_errors_errorType)] }
def FnWorldLoseSaid : Prop := fnWorldLoseRow.holds Tryz.pinned (OpenSpec.ofChange fnWorldLoseSpec)

/-- ITS FALSE NEIGHBOUR: 'it returns false'. Refute it at one input. -/
def fnWorldLoseWrong : ChangeSpec := { name := "fnWorldLose", fn := fun _ => fun
  | [d1, d2] => { results := [.lit (.bool false)], args := [d1, d2] }
  | _ => none }
def FnWorldLoseWrongFalsely : Prop := fnWorldLoseRow.holds Tryz.pinned (OpenSpec.ofChange fnWorldLoseWrong)

/-- 'laws.FnWorldChange': WHATEVER THE INPUT: true; the input reads as it did. -/
def fnWorldChangeSpec : ChangeSpec := { name := "fnWorldChange", fn := fun _ => fun
  | [d1, d2] => { results := [.lit (.bool true)], args := [d1, d2] }
  | _ => none }
def fnWorldChangeRow : OpenClaim := { program := "ytolgbefghbddeaagreatdoor", sum := "51f4fad3aace25350838b4aeaf364898705bd386e6b0cac8e7a2bb8f8779f9b4", func := "loop.example/mixrelay/laws.FnWorldChange", spec := "fnWorldChange", inPlace := ["(*internal/sync.Mutex).Lock", "internal/race.Disable", "sync/atomic.CompareAndSwapInt32", "internal/race.Enable", "internal/race.Acquire", "(*internal/sync.Mutex).lockSlow", "internal/sync.runtime_canSpin", "internal/sync.runtime_doSpin", "internal/sync.throw", "internal/sync.runtime_nanotime", "internal/sync.runtime_SemacquireMutex", "sync/atomic.AddInt32", "(*internal/sync.Mutex).Unlock", "internal/race.ReleaseMerge", "(*internal/sync.Mutex).unlockSlow", "internal/sync.fatal", "internal/sync.runtime_Semrelease", "internal/reflectlite.ValueOf", "(internal/reflectlite.Value).Type", "(internal/reflectlite.Value).IsNil", "internal/reflectlite.TypeOf", "(internal/reflectlite.Value).Elem", "(internal/reflectlite.Value).Set"], unfollowed := true, recurses := true, named := ["errors.errorType"], apart := false, laid := [("errors.errorType", laid_errors_errorType)] }
def FnWorldChangeSaid : Prop := fnWorldChangeRow.holds Tryz.pinned (OpenSpec.ofChange fnWorldChangeSpec)

/-- ITS FALSE NEIGHBOUR: 'it returns false'. Refute it at one input. -/
def fnWorldChangeWrong : ChangeSpec := { name := "fnWorldChange", fn := fun _ => fun
  | [d1, d2] => { results := [.lit (.bool false)], args := [d1, d2] }
  | _ => none }
def FnWorldChangeWrongFalsely : Prop := fnWorldChangeRow.holds Tryz.pinned (OpenSpec.ofChange fnWorldChangeWrong)

/-- 'laws.FnWorldUnknown': WHATEVER THE INPUT: true; the input reads as it did. -/
def fnWorldUnknownSpec : ChangeSpec := { name := "fnWorldUnknown", fn := fun _ => fun
  | [d1, d2] => { results := [.lit (.bool true)], args := [d1, d2] }
  | _ => none }
def fnWorldUnknownRow : OpenClaim := { program := "ytolgbefghbddeaagreatdoor", sum := "51f4fad3aace25350838b4aeaf364898705bd386e6b0cac8e7a2bb8f8779f9b4", func := "loop.example/mixrelay/laws.FnWorldUnknown", spec := "fnWorldUnknown", inPlace := ["(*internal/sync.Mutex).Lock", "internal/race.Disable", "sync/atomic.CompareAndSwapInt32", "internal/race.Enable", "internal/race.Acquire", "(*internal/sync.Mutex).lockSlow", "internal/sync.runtime_canSpin", "internal/sync.runtime_doSpin", "internal/sync.throw", "internal/sync.runtime_nanotime", "internal/sync.runtime_SemacquireMutex", "sync/atomic.AddInt32", "(*internal/sync.Mutex).Unlock", "internal/race.ReleaseMerge", "(*internal/sync.Mutex).unlockSlow", "internal/sync.fatal", "internal/sync.runtime_Semrelease", "internal/reflectlite.ValueOf", "(internal/reflectlite.Value).Type", "(internal/reflectlite.Value).IsNil", "internal/reflectlite.TypeOf", "(internal/reflectlite.Value).Elem", "(internal/reflectlite.Value).Set"], unfollowed := true, recurses := true, named := ["errors.errorType"], apart := false, laid := [("errors.errorType", laid_errors_errorType)] }
def FnWorldUnknownSaid : Prop := fnWorldUnknownRow.holds Tryz.pinned (OpenSpec.ofChange fnWorldUnknownSpec)

/-- ITS FALSE NEIGHBOUR: 'it returns false'. Refute it at one input. -/
def fnWorldUnknownWrong : ChangeSpec := { name := "fnWorldUnknown", fn := fun _ => fun
  | [d1, d2] => { results := [.lit (.bool false)], args := [d1, d2] }
  | _ => none }
def FnWorldUnknownWrongFalsely : Prop := fnWorldUnknownRow.holds Tryz.pinned (OpenSpec.ofChange fnWorldUnknownWrong)

/-- 'laws.FnWorldTwice': WHATEVER THE INPUT: true; the input reads as it did. -/
def fnWorldTwiceSpec : ChangeSpec := { name := "fnWorldTwice", fn := fun _ => fun
  | [d1, d2] => { results := [.lit (.bool true)], args := [d1, d2] }
  | _ => none }
def fnWorldTwiceRow : OpenClaim := { program := "ytolgbefghbddeaagreatdoor", sum := "51f4fad3aace25350838b4aeaf364898705bd386e6b0cac8e7a2bb8f8779f9b4", func := "loop.example/mixrelay/laws.FnWorldTwice", spec := "fnWorldTwice", inPlace := ["(*internal/sync.Mutex).Lock", "internal/race.Disable", "sync/atomic.CompareAndSwapInt32", "internal/race.Enable", "internal/race.Acquire", "(*internal/sync.Mutex).lockSlow", "internal/sync.runtime_canSpin", "internal/sync.runtime_doSpin", "internal/sync.throw", "internal/sync.runtime_nanotime", "internal/sync.runtime_SemacquireMutex", "sync/atomic.AddInt32", "(*internal/sync.Mutex).Unlock", "internal/race.ReleaseMerge", "(*internal/sync.Mutex).unlockSlow", "internal/sync.fatal", "internal/sync.runtime_Semrelease", "internal/reflectlite.ValueOf", "(internal/reflectlite.Value).Type", "(internal/reflectlite.Value).IsNil", "internal/reflectlite.TypeOf", "(internal/reflectlite.Value).Elem", "(internal/reflectlite.Value).Set"], unfollowed := true, recurses := true, named := ["errors.errorType"], apart := false, laid := [("errors.errorType", laid_errors_errorType)] }
def FnWorldTwiceSaid : Prop := fnWorldTwiceRow.holds Tryz.pinned (OpenSpec.ofChange fnWorldTwiceSpec)

/-- ITS FALSE NEIGHBOUR: 'it returns false'. Refute it at one input. -/
def fnWorldTwiceWrong : ChangeSpec := { name := "fnWorldTwice", fn := fun _ => fun
  | [d1, d2] => { results := [.lit (.bool false)], args := [d1, d2] }
  | _ => none }
def FnWorldTwiceWrongFalsely : Prop := fnWorldTwiceRow.holds Tryz.pinned (OpenSpec.ofChange fnWorldTwiceWrong)

/-- 'laws.FnWorldPlay': WHATEVER THE INPUT: true; the input reads as it did. -/
def fnWorldPlaySpec : ChangeSpec := { name := "fnWorldPlay", fn := fun _ => fun
  | [d1, d2] => { results := [.lit (.bool true)], args := [d1, d2] }
  | _ => none }
def fnWorldPlayRow : OpenClaim := { program := "ytolgbefghbddeaagreatdoor", sum := "51f4fad3aace25350838b4aeaf364898705bd386e6b0cac8e7a2bb8f8779f9b4", func := "loop.example/mixrelay/laws.FnWorldPlay", spec := "fnWorldPlay", inPlace := ["(*internal/sync.Mutex).Lock", "internal/race.Disable", "sync/atomic.CompareAndSwapInt32", "internal/race.Enable", "internal/race.Acquire", "(*internal/sync.Mutex).lockSlow", "internal/sync.runtime_canSpin", "internal/sync.runtime_doSpin", "internal/sync.throw", "internal/sync.runtime_nanotime", "internal/sync.runtime_SemacquireMutex", "sync/atomic.AddInt32", "(*internal/sync.Mutex).Unlock", "internal/race.ReleaseMerge", "(*internal/sync.Mutex).unlockSlow", "internal/sync.fatal", "internal/sync.runtime_Semrelease", "internal/reflectlite.ValueOf", "(internal/reflectlite.Value).Type", "(internal/reflectlite.Value).IsNil", "internal/reflectlite.TypeOf", "(internal/reflectlite.Value).Elem", "(internal/reflectlite.Value).Set"], unfollowed := true, recurses := true, named := ["errors.errorType"], apart := false, laid := [("errors.errorType", laid_errors_errorType)] }
def FnWorldPlaySaid : Prop := fnWorldPlayRow.holds Tryz.pinned (OpenSpec.ofChange fnWorldPlaySpec)

/-- ITS FALSE NEIGHBOUR: 'it returns false'. Refute it at one input. -/
def fnWorldPlayWrong : ChangeSpec := { name := "fnWorldPlay", fn := fun _ => fun
  | [d1, d2] => { results := [.lit (.bool false)], args := [d1, d2] }
  | _ => none }
def FnWorldPlayWrongFalsely : Prop := fnWorldPlayRow.holds Tryz.pinned (OpenSpec.ofChange fnWorldPlayWrong)

/-- 'laws.FnCalmValid': WHATEVER THE INPUT: true; the input reads as it did. -/
def fnCalmValidSpec : ChangeSpec := { name := "fnCalmValid", fn := fun _ => fun
  | [d] => { results := [.lit (.bool true)], args := [d] }
  | _ => none }
def fnCalmValidRow : OpenClaim := { program := "ytolgbefghbddeaagreatdoor", sum := "51f4fad3aace25350838b4aeaf364898705bd386e6b0cac8e7a2bb8f8779f9b4", func := "loop.example/mixrelay/laws.FnCalmValid", spec := "fnCalmValid", inPlace := ["internal/reflectlite.ValueOf", "(internal/reflectlite.Value).Type", "(internal/reflectlite.Value).IsNil", "internal/reflectlite.TypeOf", "(internal/reflectlite.Value).Elem", "(internal/reflectlite.Value).Set"], unfollowed := true, recurses := true, named := ["errors.errorType"], apart := false, laid := [("errors.errorType", laid_errors_errorType)] }
def FnCalmValidSaid : Prop := fnCalmValidRow.holds Tryz.pinned (OpenSpec.ofChange fnCalmValidSpec)

/-- ITS FALSE NEIGHBOUR: 'it returns false'. Refute it at one input. -/
def fnCalmValidWrong : ChangeSpec := { name := "fnCalmValid", fn := fun _ => fun
  | [d] => { results := [.lit (.bool false)], args := [d] }
  | _ => none }
def FnCalmValidWrongFalsely : Prop := fnCalmValidRow.holds Tryz.pinned (OpenSpec.ofChange fnCalmValidWrong)

/-- 'laws.FnWorldInvalid': WHATEVER THE INPUT: true; the input reads as it did. -/
def fnWorldInvalidSpec : ChangeSpec := { name := "fnWorldInvalid", fn := fun _ => fun
  | [d] => { results := [.lit (.bool true)], args := [d] }
  | _ => none }
def fnWorldInvalidRow : OpenClaim := { program := "ytolgbefghbddeaagreatdoor", sum := "51f4fad3aace25350838b4aeaf364898705bd386e6b0cac8e7a2bb8f8779f9b4", func := "loop.example/mixrelay/laws.FnWorldInvalid", spec := "fnWorldInvalid", inPlace := ["(*internal/sync.Mutex).Lock", "internal/race.Disable", "sync/atomic.CompareAndSwapInt32", "internal/race.Enable", "internal/race.Acquire", "(*internal/sync.Mutex).lockSlow", "internal/sync.runtime_canSpin", "internal/sync.runtime_doSpin", "internal/sync.throw", "internal/sync.runtime_nanotime", "internal/sync.runtime_SemacquireMutex", "sync/atomic.AddInt32", "(*internal/sync.Mutex).Unlock", "internal/race.ReleaseMerge", "(*internal/sync.Mutex).unlockSlow", "internal/sync.fatal", "internal/sync.runtime_Semrelease", "internal/reflectlite.ValueOf", "(internal/reflectlite.Value).Type", "(internal/reflectlite.Value).IsNil", "internal/reflectlite.TypeOf", "(internal/reflectlite.Value).Elem", "(internal/reflectlite.Value).Set"], unfollowed := true, recurses := true, named := ["errors.errorType"], apart := false, laid := [("errors.errorType", laid_errors_errorType)] }
def FnWorldInvalidSaid : Prop := fnWorldInvalidRow.holds Tryz.pinned (OpenSpec.ofChange fnWorldInvalidSpec)

/-- ITS FALSE NEIGHBOUR: 'it returns false'. Refute it at one input. -/
def fnWorldInvalidWrong : ChangeSpec := { name := "fnWorldInvalid", fn := fun _ => fun
  | [d] => { results := [.lit (.bool false)], args := [d] }
  | _ => none }
def FnWorldInvalidWrongFalsely : Prop := fnWorldInvalidRow.holds Tryz.pinned (OpenSpec.ofChange fnWorldInvalidWrong)

/- THE SECOND FORM. 'bulk': how many values and letters a reading holds, each counted each time it is reached (what is shared counts as often as it is met; a slice's spare places count too). A statement '..UptoSaid' is the law's where the arguments, and the package variables that the reading takes, are together of bulk at most 1048576: NARROWER than '..Said'. Prove '..Said' where nothing that the law and all that it calls make is longer than what came in: it says more and counts as full. Else prove '..UptoSaid'. A law counts once. -/
mutual
def uptoBulk {H : Type} : DataW H → Nat
  | .lit (.string bytes) => bytes.length + 1
  | .lit _ => 1
  | .nil => 1
  | .ptr d => uptoBulk d + 1
  | .slice elems spare => uptoBulkAll elems + uptoBulkAll spare + 1
  | .agg parts => uptoBulkAll parts + 1
  | .iface _ d => uptoBulk d + 1
  | .map entries => uptoBulkEntries entries + 1
  | .held _ => 1
def uptoBulkAll {H : Type} : List (DataW H) → Nat
  | [] => 0
  | d :: r => uptoBulk d + uptoBulkAll r
def uptoBulkEntries {H : Type} : List (Lit × DataW H) → Nat
  | [] => 0
  | x :: r => uptoBulkEntry x + uptoBulkEntries r
def uptoBulkEntry {H : Type} : Lit × DataW H → Nat
  | (.string bytes, d) => bytes.length + uptoBulk d + 1
  | (_, d) => uptoBulk d + 1
 end
def uptoSmall : (H : Type) → List (DataW H) → Bool := fun _ ds => decide (uptoBulkAll ds ≤ 1048576)
def OpenSpec.upto (s : _root_.Go.ChangeSpec) : _root_.Go.OpenSpec := { _root_.Go.OpenSpec.ofChange s with cond := some uptoSmall }

/-- 'laws.FnWorldKeeps', WHERE WHAT IT READS IS OF BULK AT MOST 1048576: true; the input reads as it did. -/
def fnWorldKeepsUptoRow : OpenClaim := { program := "ytolgbefghbddeaagreatdoor", sum := "51f4fad3aace25350838b4aeaf364898705bd386e6b0cac8e7a2bb8f8779f9b4", func := "loop.example/mixrelay/laws.FnWorldKeeps", spec := "fnWorldKeeps", inPlace := ["(*internal/sync.Mutex).Lock", "internal/race.Disable", "sync/atomic.CompareAndSwapInt32", "internal/race.Enable", "internal/race.Acquire", "(*internal/sync.Mutex).lockSlow", "internal/sync.runtime_canSpin", "internal/sync.runtime_doSpin", "internal/sync.throw", "internal/sync.runtime_nanotime", "internal/sync.runtime_SemacquireMutex", "sync/atomic.AddInt32", "(*internal/sync.Mutex).Unlock", "internal/race.ReleaseMerge", "(*internal/sync.Mutex).unlockSlow", "internal/sync.fatal", "internal/sync.runtime_Semrelease", "internal/reflectlite.ValueOf", "(internal/reflectlite.Value).Type", "(internal/reflectlite.Value).IsNil", "internal/reflectlite.TypeOf", "(internal/reflectlite.Value).Elem", "(internal/reflectlite.Value).Set"], unfollowed := true, recurses := true, named := ["errors.errorType"], apart := false, laid := [("errors.errorType", laid_errors_errorType)], narrowed := true }
def FnWorldKeepsUptoSaid : Prop := fnWorldKeepsUptoRow.holds Tryz.pinned (OpenSpec.upto fnWorldKeepsSpec)

/-- 'laws.FnWorldKept', WHERE WHAT IT READS IS OF BULK AT MOST 1048576: true; the input reads as it did. -/
def fnWorldKeptUptoRow : OpenClaim := { program := "ytolgbefghbddeaagreatdoor", sum := "51f4fad3aace25350838b4aeaf364898705bd386e6b0cac8e7a2bb8f8779f9b4", func := "loop.example/mixrelay/laws.FnWorldKept", spec := "fnWorldKept", inPlace := ["(*internal/sync.Mutex).Lock", "internal/race.Disable", "sync/atomic.CompareAndSwapInt32", "internal/race.Enable", "internal/race.Acquire", "(*internal/sync.Mutex).lockSlow", "internal/sync.runtime_canSpin", "internal/sync.runtime_doSpin", "internal/sync.throw", "internal/sync.runtime_nanotime", "internal/sync.runtime_SemacquireMutex", "sync/atomic.AddInt32", "(*internal/sync.Mutex).Unlock", "internal/race.ReleaseMerge", "(*internal/sync.Mutex).unlockSlow", "internal/sync.fatal", "internal/sync.runtime_Semrelease", "internal/reflectlite.ValueOf", "(internal/reflectlite.Value).Type", "(internal/reflectlite.Value).IsNil", "internal/reflectlite.TypeOf", "(internal/reflectlite.Value).Elem", "(internal/reflectlite.Value).Set"], unfollowed := true, recurses := true, named := ["errors.errorType"], apart := false, laid := [("errors.errorType", laid_errors_errorType)], narrowed := true }
def FnWorldKeptUptoSaid : Prop := fnWorldKeptUptoRow.holds Tryz.pinned (OpenSpec.upto fnWorldKeptSpec)

/-- 'laws.FnWorldSend', WHERE WHAT IT READS IS OF BULK AT MOST 1048576: true; the input reads as it did. -/
def fnWorldSendUptoRow : OpenClaim := { program := "ytolgbefghbddeaagreatdoor", sum := "51f4fad3aace25350838b4aeaf364898705bd386e6b0cac8e7a2bb8f8779f9b4", func := "loop.example/mixrelay/laws.FnWorldSend", spec := "fnWorldSend", inPlace := ["(*internal/sync.Mutex).Lock", "internal/race.Disable", "sync/atomic.CompareAndSwapInt32", "internal/race.Enable", "internal/race.Acquire", "(*internal/sync.Mutex).lockSlow", "internal/sync.runtime_canSpin", "internal/sync.runtime_doSpin", "internal/sync.throw", "internal/sync.runtime_nanotime", "internal/sync.runtime_SemacquireMutex", "sync/atomic.AddInt32", "(*internal/sync.Mutex).Unlock", "internal/race.ReleaseMerge", "(*internal/sync.Mutex).unlockSlow", "internal/sync.fatal", "internal/sync.runtime_Semrelease", "internal/reflectlite.ValueOf", "(internal/reflectlite.Value).Type", "(internal/reflectlite.Value).IsNil", "internal/reflectlite.TypeOf", "(internal/reflectlite.Value).Elem", "(internal/reflectlite.Value).Set"], unfollowed := true, recurses := true, named := ["errors.errorType"], apart := false, laid := [("errors.errorType", laid_errors_errorType)], narrowed := true }
def FnWorldSendUptoSaid : Prop := fnWorldSendUptoRow.holds Tryz.pinned (OpenSpec.upto fnWorldSendSpec)

/-- 'laws.FnWorldFlush', WHERE WHAT IT READS IS OF BULK AT MOST 1048576: true; the input reads as it did. -/
def fnWorldFlushUptoRow : OpenClaim := { program := "ytolgbefghbddeaagreatdoor", sum := "51f4fad3aace25350838b4aeaf364898705bd386e6b0cac8e7a2bb8f8779f9b4", func := "loop.example/mixrelay/laws.FnWorldFlush", spec := "fnWorldFlush", inPlace := ["(*internal/sync.Mutex).Lock", "internal/race.Disable", "sync/atomic.CompareAndSwapInt32", "internal/race.Enable", "internal/race.Acquire", "(*internal/sync.Mutex).lockSlow", "internal/sync.runtime_canSpin", "internal/sync.runtime_doSpin", "internal/sync.throw", "internal/sync.runtime_nanotime", "internal/sync.runtime_SemacquireMutex", "sync/atomic.AddInt32", "(*internal/sync.Mutex).Unlock", "internal/race.ReleaseMerge", "(*internal/sync.Mutex).unlockSlow", "internal/sync.fatal", "internal/sync.runtime_Semrelease", "internal/reflectlite.ValueOf", "(internal/reflectlite.Value).Type", "(internal/reflectlite.Value).IsNil", "internal/reflectlite.TypeOf", "(internal/reflectlite.Value).Elem", "(internal/reflectlite.Value).Set"], unfollowed := true, recurses := true, named := ["errors.errorType"], apart := false, laid := [("errors.errorType", laid_errors_errorType)], narrowed := true }
def FnWorldFlushUptoSaid : Prop := fnWorldFlushUptoRow.holds Tryz.pinned (OpenSpec.upto fnWorldFlushSpec)

/-- 'laws.FnWorldDeliver', WHERE WHAT IT READS IS OF BULK AT MOST 1048576: true; the input reads as it did. -/
def fnWorldDeliverUptoRow : OpenClaim := { program := "ytolgbefghbddeaagreatdoor", sum := "51f4fad3aace25350838b4aeaf364898705bd386e6b0cac8e7a2bb8f8779f9b4", func := "loop.example/mixrelay/laws.FnWorldDeliver", spec := "fnWorldDeliver", inPlace := ["(*internal/sync.Mutex).Lock", "internal/race.Disable", "sync/atomic.CompareAndSwapInt32", "internal/race.Enable", "internal/race.Acquire", "(*internal/sync.Mutex).lockSlow", "internal/sync.runtime_canSpin", "internal/sync.runtime_doSpin", "internal/sync.throw", "internal/sync.runtime_nanotime", "internal/sync.runtime_SemacquireMutex", "sync/atomic.AddInt32", "(*internal/sync.Mutex).Unlock", "internal/race.ReleaseMerge", "(*internal/sync.Mutex).unlockSlow", "internal/sync.fatal", "internal/sync.runtime_Semrelease", "internal/reflectlite.ValueOf", "(internal/reflectlite.Value).Type", "(internal/reflectlite.Value).IsNil", "internal/reflectlite.TypeOf", "(internal/reflectlite.Value).Elem", "(internal/reflectlite.Value).Set"], unfollowed := true, recurses := true, named := ["errors.errorType"], apart := false, laid := [("errors.errorType", laid_errors_errorType)], narrowed := true }
def FnWorldDeliverUptoSaid : Prop := fnWorldDeliverUptoRow.holds Tryz.pinned (OpenSpec.upto fnWorldDeliverSpec)

/-- 'laws.FnWorldLose', WHERE WHAT IT READS IS OF BULK AT MOST 1048576: true; the input reads as it did. -/
def fnWorldLoseUptoRow : OpenClaim := { program := "ytolgbefghbddeaagreatdoor", sum := "51f4fad3aace25350838b4aeaf364898705bd386e6b0cac8e7a2bb8f8779f9b4", func := "loop.example/mixrelay/laws.FnWorldLose", spec := "fnWorldLose", inPlace := ["(*internal/sync.Mutex).Lock", "internal/race.Disable", "sync/atomic.CompareAndSwapInt32", "internal/race.Enable", "internal/race.Acquire", "(*internal/sync.Mutex).lockSlow", "internal/sync.runtime_canSpin", "internal/sync.runtime_doSpin", "internal/sync.throw", "internal/sync.runtime_nanotime", "internal/sync.runtime_SemacquireMutex", "sync/atomic.AddInt32", "(*internal/sync.Mutex).Unlock", "internal/race.ReleaseMerge", "(*internal/sync.Mutex).unlockSlow", "internal/sync.fatal", "internal/sync.runtime_Semrelease", "internal/reflectlite.ValueOf", "(internal/reflectlite.Value).Type", "(internal/reflectlite.Value).IsNil", "internal/reflectlite.TypeOf", "(internal/reflectlite.Value).Elem", "(internal/reflectlite.Value).Set"], unfollowed := true, recurses := true, named := ["errors.errorType"], apart := false, laid := [("errors.errorType", laid_errors_errorType)], narrowed := true }
def FnWorldLoseUptoSaid : Prop := fnWorldLoseUptoRow.holds Tryz.pinned (OpenSpec.upto fnWorldLoseSpec)

/-- 'laws.FnWorldChange', WHERE WHAT IT READS IS OF BULK AT MOST 1048576: true; the input reads as it did. -/
def fnWorldChangeUptoRow : OpenClaim := { program := "ytolgbefghbddeaagreatdoor", sum := "51f4fad3aace25350838b4aeaf364898705bd386e6b0cac8e7a2bb8f8779f9b4", func := "loop.example/mixrelay/laws.FnWorldChange", spec := "fnWorldChange", inPlace := ["(*internal/sync.Mutex).Lock", "internal/race.Disable", "sync/atomic.CompareAndSwapInt32", "internal/race.Enable", "internal/race.Acquire", "(*internal/sync.Mutex).lockSlow", "internal/sync.runtime_canSpin", "internal/sync.runtime_doSpin", "internal/sync.throw", "internal/sync.runtime_nanotime", "internal/sync.runtime_SemacquireMutex", "sync/atomic.AddInt32", "(*internal/sync.Mutex).Unlock", "internal/race.ReleaseMerge", "(*internal/sync.Mutex).unlockSlow", "internal/sync.fatal", "internal/sync.runtime_Semrelease", "internal/reflectlite.ValueOf", "(internal/reflectlite.Value).Type", "(internal/reflectlite.Value).IsNil", "internal/reflectlite.TypeOf", "(internal/reflectlite.Value).Elem", "(internal/reflectlite.Value).Set"], unfollowed := true, recurses := true, named := ["errors.errorType"], apart := false, laid := [("errors.errorType", laid_errors_errorType)], narrowed := true }
def FnWorldChangeUptoSaid : Prop := fnWorldChangeUptoRow.holds Tryz.pinned (OpenSpec.upto fnWorldChangeSpec)

/-- 'laws.FnWorldUnknown', WHERE WHAT IT READS IS OF BULK AT MOST 1048576: true; the input reads as it did. -/
def fnWorldUnknownUptoRow : OpenClaim := { program := "ytolgbefghbddeaagreatdoor", sum := "51f4fad3aace25350838b4aeaf364898705bd386e6b0cac8e7a2bb8f8779f9b4", func := "loop.example/mixrelay/laws.FnWorldUnknown", spec := "fnWorldUnknown", inPlace := ["(*internal/sync.Mutex).Lock", "internal/race.Disable", "sync/atomic.CompareAndSwapInt32", "internal/race.Enable", "internal/race.Acquire", "(*internal/sync.Mutex).lockSlow", "internal/sync.runtime_canSpin", "internal/sync.runtime_doSpin", "internal/sync.throw", "internal/sync.runtime_nanotime", "internal/sync.runtime_SemacquireMutex", "sync/atomic.AddInt32", "(*internal/sync.Mutex).Unlock", "internal/race.ReleaseMerge", "(*internal/sync.Mutex).unlockSlow", "internal/sync.fatal", "internal/sync.runtime_Semrelease", "internal/reflectlite.ValueOf", "(internal/reflectlite.Value).Type", "(internal/reflectlite.Value).IsNil", "internal/reflectlite.TypeOf", "(internal/reflectlite.Value).Elem", "(internal/reflectlite.Value).Set"], unfollowed := true, recurses := true, named := ["errors.errorType"], apart := false, laid := [("errors.errorType", laid_errors_errorType)], narrowed := true }
def FnWorldUnknownUptoSaid : Prop := fnWorldUnknownUptoRow.holds Tryz.pinned (OpenSpec.upto fnWorldUnknownSpec)

/-- 'laws.FnWorldTwice', WHERE WHAT IT READS IS OF BULK AT MOST 1048576: true; the input reads as it did. -/
def fnWorldTwiceUptoRow : OpenClaim := { program := "ytolgbefghbddeaagreatdoor", sum := "51f4fad3aace25350838b4aeaf364898705bd386e6b0cac8e7a2bb8f8779f9b4", func := "loop.example/mixrelay/laws.FnWorldTwice", spec := "fnWorldTwice", inPlace := ["(*internal/sync.Mutex).Lock", "internal/race.Disable", "sync/atomic.CompareAndSwapInt32", "internal/race.Enable", "internal/race.Acquire", "(*internal/sync.Mutex).lockSlow", "internal/sync.runtime_canSpin", "internal/sync.runtime_doSpin", "internal/sync.throw", "internal/sync.runtime_nanotime", "internal/sync.runtime_SemacquireMutex", "sync/atomic.AddInt32", "(*internal/sync.Mutex).Unlock", "internal/race.ReleaseMerge", "(*internal/sync.Mutex).unlockSlow", "internal/sync.fatal", "internal/sync.runtime_Semrelease", "internal/reflectlite.ValueOf", "(internal/reflectlite.Value).Type", "(internal/reflectlite.Value).IsNil", "internal/reflectlite.TypeOf", "(internal/reflectlite.Value).Elem", "(internal/reflectlite.Value).Set"], unfollowed := true, recurses := true, named := ["errors.errorType"], apart := false, laid := [("errors.errorType", laid_errors_errorType)], narrowed := true }
def FnWorldTwiceUptoSaid : Prop := fnWorldTwiceUptoRow.holds Tryz.pinned (OpenSpec.upto fnWorldTwiceSpec)

/-- 'laws.FnWorldPlay', WHERE WHAT IT READS IS OF BULK AT MOST 1048576: true; the input reads as it did. -/
def fnWorldPlayUptoRow : OpenClaim := { program := "ytolgbefghbddeaagreatdoor", sum := "51f4fad3aace25350838b4aeaf364898705bd386e6b0cac8e7a2bb8f8779f9b4", func := "loop.example/mixrelay/laws.FnWorldPlay", spec := "fnWorldPlay", inPlace := ["(*internal/sync.Mutex).Lock", "internal/race.Disable", "sync/atomic.CompareAndSwapInt32", "internal/race.Enable", "internal/race.Acquire", "(*internal/sync.Mutex).lockSlow", "internal/sync.runtime_canSpin", "internal/sync.runtime_doSpin", "internal/sync.throw", "internal/sync.runtime_nanotime", "internal/sync.runtime_SemacquireMutex", "sync/atomic.AddInt32", "(*internal/sync.Mutex).Unlock", "internal/race.ReleaseMerge", "(*internal/sync.Mutex).unlockSlow", "internal/sync.fatal", "internal/sync.runtime_Semrelease", "internal/reflectlite.ValueOf", "(internal/reflectlite.Value).Type", "(internal/reflectlite.Value).IsNil", "internal/reflectlite.TypeOf", "(internal/reflectlite.Value).Elem", "(internal/reflectlite.Value).Set"], unfollowed := true, recurses := true, named := ["errors.errorType"], apart := false, laid := [("errors.errorType", laid_errors_errorType)], narrowed := true }
def FnWorldPlayUptoSaid : Prop := fnWorldPlayUptoRow.holds Tryz.pinned (OpenSpec.upto fnWorldPlaySpec)

/-- 'laws.FnCalmValid', WHERE WHAT IT READS IS OF BULK AT MOST 1048576: true; the input reads as it did. -/
def fnCalmValidUptoRow : OpenClaim := { program := "ytolgbefghbddeaagreatdoor", sum := "51f4fad3aace25350838b4aeaf364898705bd386e6b0cac8e7a2bb8f8779f9b4", func := "loop.example/mixrelay/laws.FnCalmValid", spec := "fnCalmValid", inPlace := ["internal/reflectlite.ValueOf", "(internal/reflectlite.Value).Type", "(internal/reflectlite.Value).IsNil", "internal/reflectlite.TypeOf", "(internal/reflectlite.Value).Elem", "(internal/reflectlite.Value).Set"], unfollowed := true, recurses := true, named := ["errors.errorType"], apart := false, laid := [("errors.errorType", laid_errors_errorType)], narrowed := true }
def FnCalmValidUptoSaid : Prop := fnCalmValidUptoRow.holds Tryz.pinned (OpenSpec.upto fnCalmValidSpec)

/-- 'laws.FnWorldInvalid', WHERE WHAT IT READS IS OF BULK AT MOST 1048576: true; the input reads as it did. -/
def fnWorldInvalidUptoRow : OpenClaim := { program := "ytolgbefghbddeaagreatdoor", sum := "51f4fad3aace25350838b4aeaf364898705bd386e6b0cac8e7a2bb8f8779f9b4", func := "loop.example/mixrelay/laws.FnWorldInvalid", spec := "fnWorldInvalid", inPlace := ["(*internal/sync.Mutex).Lock", "internal/race.Disable", "sync/atomic.CompareAndSwapInt32", "internal/race.Enable", "internal/race.Acquire", "(*internal/sync.Mutex).lockSlow", "internal/sync.runtime_canSpin", "internal/sync.runtime_doSpin", "internal/sync.throw", "internal/sync.runtime_nanotime", "internal/sync.runtime_SemacquireMutex", "sync/atomic.AddInt32", "(*internal/sync.Mutex).Unlock", "internal/race.ReleaseMerge", "(*internal/sync.Mutex).unlockSlow", "internal/sync.fatal", "internal/sync.runtime_Semrelease", "internal/reflectlite.ValueOf", "(internal/reflectlite.Value).Type", "(internal/reflectlite.Value).IsNil", "internal/reflectlite.TypeOf", "(internal/reflectlite.Value).Elem", "(internal/reflectlite.Value).Set"], unfollowed := true, recurses := true, named := ["errors.errorType"], apart := false, laid := [("errors.errorType", laid_errors_errorType)], narrowed := true }
def FnWorldInvalidUptoSaid : Prop := fnWorldInvalidUptoRow.holds Tryz.pinned (OpenSpec.upto fnWorldInvalidSpec)

end Rows
end Go.Proofs.YtolgbefghbddeaaGreatDoor
