/-
  No cell of these rows narrows 'for every input' (looked for: loops, veiled, ifaces, maps, wideKeys, modest, calm, conditions, laid).
  DERIVED. THE GIVEN ROWS OF THIS SEAT. 18 by the template 'for every input the law returns true; each argument reads behind the call as it read before'; 0 by the template 'total and deterministic' (their statements: YtbeiacoplhbmeaaTotals.lean).
  GIVEN WITH THE SEED: the statements are not yours to turn. If you find one false, say at which input.
  Laid BY PROGRAM, IN A SANDBOX (cutbox-rows.mjs): the forced cells as the released guide's own fill.sh prints them over the translation 6b7bce12cad45209… (all of the seat's roots in one cut). By AI agents, Wed Nov 11 2026. No macro, syntax, notation, axiom, sorry.
-/
import Derived.Test.YtbeiacoplhbmeaaChecked
import GoSem.Claim
import GoSem.ClaimJoined
import GoSem.ClaimMapViews
import Derived.JoinedTies
import Derived.KernelRfl
namespace Go.Proofs.Ytbeiacoplhbmeaa
/- THE CELL 'sum', in the pinned program and in every row, IS THE sha256 OF THE DUMP (.gsa) THAT YtbeiacoplhbmeaaProg.lean LOADS. Nothing in Lean hashes anything: it is a label: what it is worth is what the hold of that sum in a sandbox is worth. -/
noncomputable def Try.pinned : Pinned := { name := "ytbeiacoplhbmeaa", sum := "6b7bce12cad4520978d755cdd9d3b06ba1bb06f8d5be58a0b81ed2f0c4b29f68", checked := Try.checked }
namespace Rows
def none {H : Type} : Left H := { results := [], args := [] }

/-- 'laws.FnExactWorldPath': WHATEVER THE INPUT: true; the input reads as it did. -/
def fnExactWorldPathSpec : ChangeSpec := { name := "fnExactWorldPath", fn := fun _ => fun
  | [d] => { results := [.lit (.bool true)], args := [d] }
  | _ => none }
def fnExactWorldPathRow : OpenClaim := { program := "ytbeiacoplhbmeaa", sum := "6b7bce12cad4520978d755cdd9d3b06ba1bb06f8d5be58a0b81ed2f0c4b29f68", func := "loop.example/mixrelay/laws.FnExactWorldPath", spec := "fnExactWorldPath", apart := false }
def FnExactWorldPathSaid : Prop := fnExactWorldPathRow.holds Try.pinned (OpenSpec.ofChange fnExactWorldPathSpec)

/-- ITS FALSE NEIGHBOUR: 'it returns false'. Refute it at one input. -/
def fnExactWorldPathWrong : ChangeSpec := { name := "fnExactWorldPath", fn := fun _ => fun
  | [d] => { results := [.lit (.bool false)], args := [d] }
  | _ => none }
def FnExactWorldPathWrongFalsely : Prop := fnExactWorldPathRow.holds Try.pinned (OpenSpec.ofChange fnExactWorldPathWrong)

/-- 'laws.FnWorldPath': WHATEVER THE INPUT: true; the input reads as it did. -/
def fnWorldPathSpec : ChangeSpec := { name := "fnWorldPath", fn := fun _ => fun
  | [d1, d2] => { results := [.lit (.bool true)], args := [d1, d2] }
  | _ => none }
def fnWorldPathRow : OpenClaim := { program := "ytbeiacoplhbmeaa", sum := "6b7bce12cad4520978d755cdd9d3b06ba1bb06f8d5be58a0b81ed2f0c4b29f68", func := "loop.example/mixrelay/laws.FnWorldPath", spec := "fnWorldPath", apart := false }
def FnWorldPathSaid : Prop := fnWorldPathRow.holds Try.pinned (OpenSpec.ofChange fnWorldPathSpec)

/-- ITS FALSE NEIGHBOUR: 'it returns false'. Refute it at one input. -/
def fnWorldPathWrong : ChangeSpec := { name := "fnWorldPath", fn := fun _ => fun
  | [d1, d2] => { results := [.lit (.bool false)], args := [d1, d2] }
  | _ => none }
def FnWorldPathWrongFalsely : Prop := fnWorldPathRow.holds Try.pinned (OpenSpec.ofChange fnWorldPathWrong)

/-- 'laws.FnExactCoverCount': WHATEVER THE INPUT: true; the input reads as it did. -/
def fnExactCoverCountSpec : ChangeSpec := { name := "fnExactCoverCount", fn := fun _ => fun
  | [d] => { results := [.lit (.bool true)], args := [d] }
  | _ => none }
def fnExactCoverCountRow : OpenClaim := { program := "ytbeiacoplhbmeaa", sum := "6b7bce12cad4520978d755cdd9d3b06ba1bb06f8d5be58a0b81ed2f0c4b29f68", func := "loop.example/mixrelay/laws.FnExactCoverCount", spec := "fnExactCoverCount", apart := false }
def FnExactCoverCountSaid : Prop := fnExactCoverCountRow.holds Try.pinned (OpenSpec.ofChange fnExactCoverCountSpec)

/-- ITS FALSE NEIGHBOUR: 'it returns false'. Refute it at one input. -/
def fnExactCoverCountWrong : ChangeSpec := { name := "fnExactCoverCount", fn := fun _ => fun
  | [d] => { results := [.lit (.bool false)], args := [d] }
  | _ => none }
def FnExactCoverCountWrongFalsely : Prop := fnExactCoverCountRow.holds Try.pinned (OpenSpec.ofChange fnExactCoverCountWrong)

/-- 'laws.FnExactCoverDelay': WHATEVER THE INPUT: true; the input reads as it did. -/
def fnExactCoverDelaySpec : ChangeSpec := { name := "fnExactCoverDelay", fn := fun _ => fun
  | [d1, d2] => { results := [.lit (.bool true)], args := [d1, d2] }
  | _ => none }
def fnExactCoverDelayRow : OpenClaim := { program := "ytbeiacoplhbmeaa", sum := "6b7bce12cad4520978d755cdd9d3b06ba1bb06f8d5be58a0b81ed2f0c4b29f68", func := "loop.example/mixrelay/laws.FnExactCoverDelay", spec := "fnExactCoverDelay", apart := false }
def FnExactCoverDelaySaid : Prop := fnExactCoverDelayRow.holds Try.pinned (OpenSpec.ofChange fnExactCoverDelaySpec)

/-- ITS FALSE NEIGHBOUR: 'it returns false'. Refute it at one input. -/
def fnExactCoverDelayWrong : ChangeSpec := { name := "fnExactCoverDelay", fn := fun _ => fun
  | [d1, d2] => { results := [.lit (.bool false)], args := [d1, d2] }
  | _ => none }
def FnExactCoverDelayWrongFalsely : Prop := fnExactCoverDelayRow.holds Try.pinned (OpenSpec.ofChange fnExactCoverDelayWrong)

/-- 'laws.FnExactCoverVisible': WHATEVER THE INPUT: true; the input reads as it did. -/
def fnExactCoverVisibleSpec : ChangeSpec := { name := "fnExactCoverVisible", fn := fun _ => fun
  | [d] => { results := [.lit (.bool true)], args := [d] }
  | _ => none }
def fnExactCoverVisibleRow : OpenClaim := { program := "ytbeiacoplhbmeaa", sum := "6b7bce12cad4520978d755cdd9d3b06ba1bb06f8d5be58a0b81ed2f0c4b29f68", func := "loop.example/mixrelay/laws.FnExactCoverVisible", spec := "fnExactCoverVisible", unfollowed := true, recurses := true, apart := false }
def FnExactCoverVisibleSaid : Prop := fnExactCoverVisibleRow.holds Try.pinned (OpenSpec.ofChange fnExactCoverVisibleSpec)

/-- ITS FALSE NEIGHBOUR: 'it returns false'. Refute it at one input. -/
def fnExactCoverVisibleWrong : ChangeSpec := { name := "fnExactCoverVisible", fn := fun _ => fun
  | [d] => { results := [.lit (.bool false)], args := [d] }
  | _ => none }
def FnExactCoverVisibleWrongFalsely : Prop := fnExactCoverVisibleRow.holds Try.pinned (OpenSpec.ofChange fnExactCoverVisibleWrong)

/-- 'laws.FnVisible': WHATEVER THE INPUT: true; the input reads as it did. -/
def fnVisibleSpec : ChangeSpec := { name := "fnVisible", fn := fun _ => fun
  | [d] => { results := [.lit (.bool true)], args := [d] }
  | _ => none }
def fnVisibleRow : OpenClaim := { program := "ytbeiacoplhbmeaa", sum := "6b7bce12cad4520978d755cdd9d3b06ba1bb06f8d5be58a0b81ed2f0c4b29f68", func := "loop.example/mixrelay/laws.FnVisible", spec := "fnVisible", unfollowed := true, recurses := true, apart := false }
def FnVisibleSaid : Prop := fnVisibleRow.holds Try.pinned (OpenSpec.ofChange fnVisibleSpec)

/-- ITS FALSE NEIGHBOUR: 'it returns false'. Refute it at one input. -/
def fnVisibleWrong : ChangeSpec := { name := "fnVisible", fn := fun _ => fun
  | [d] => { results := [.lit (.bool false)], args := [d] }
  | _ => none }
def FnVisibleWrongFalsely : Prop := fnVisibleRow.holds Try.pinned (OpenSpec.ofChange fnVisibleWrong)

/-- 'laws.FnPlan': WHATEVER THE INPUT: true; the input reads as it did. -/
def fnPlanSpec : ChangeSpec := { name := "fnPlan", fn := fun _ => fun
  | [d] => { results := [.lit (.bool true)], args := [d] }
  | _ => none }
def fnPlanRow : OpenClaim := { program := "ytbeiacoplhbmeaa", sum := "6b7bce12cad4520978d755cdd9d3b06ba1bb06f8d5be58a0b81ed2f0c4b29f68", func := "loop.example/mixrelay/laws.FnPlan", spec := "fnPlan", apart := false }
def FnPlanSaid : Prop := fnPlanRow.holds Try.pinned (OpenSpec.ofChange fnPlanSpec)

/-- ITS FALSE NEIGHBOUR: 'it returns false'. Refute it at one input. -/
def fnPlanWrong : ChangeSpec := { name := "fnPlan", fn := fun _ => fun
  | [d] => { results := [.lit (.bool false)], args := [d] }
  | _ => none }
def FnPlanWrongFalsely : Prop := fnPlanRow.holds Try.pinned (OpenSpec.ofChange fnPlanWrong)

/-- 'laws.FnPlanCover': WHATEVER THE INPUT: true; the input reads as it did. -/
def fnPlanCoverSpec : ChangeSpec := { name := "fnPlanCover", fn := fun _ => fun
  | [d] => { results := [.lit (.bool true)], args := [d] }
  | _ => none }
def fnPlanCoverRow : OpenClaim := { program := "ytbeiacoplhbmeaa", sum := "6b7bce12cad4520978d755cdd9d3b06ba1bb06f8d5be58a0b81ed2f0c4b29f68", func := "loop.example/mixrelay/laws.FnPlanCover", spec := "fnPlanCover", apart := false }
def FnPlanCoverSaid : Prop := fnPlanCoverRow.holds Try.pinned (OpenSpec.ofChange fnPlanCoverSpec)

/-- ITS FALSE NEIGHBOUR: 'it returns false'. Refute it at one input. -/
def fnPlanCoverWrong : ChangeSpec := { name := "fnPlanCover", fn := fun _ => fun
  | [d] => { results := [.lit (.bool false)], args := [d] }
  | _ => none }
def FnPlanCoverWrongFalsely : Prop := fnPlanCoverRow.holds Try.pinned (OpenSpec.ofChange fnPlanCoverWrong)

/-- 'laws.FnPlanLetters': WHATEVER THE INPUT: true; the input reads as it did. -/
def fnPlanLettersSpec : ChangeSpec := { name := "fnPlanLetters", fn := fun _ => fun
  | [d] => { results := [.lit (.bool true)], args := [d] }
  | _ => none }
def fnPlanLettersRow : OpenClaim := { program := "ytbeiacoplhbmeaa", sum := "6b7bce12cad4520978d755cdd9d3b06ba1bb06f8d5be58a0b81ed2f0c4b29f68", func := "loop.example/mixrelay/laws.FnPlanLetters", spec := "fnPlanLetters", apart := false }
def FnPlanLettersSaid : Prop := fnPlanLettersRow.holds Try.pinned (OpenSpec.ofChange fnPlanLettersSpec)

/-- ITS FALSE NEIGHBOUR: 'it returns false'. Refute it at one input. -/
def fnPlanLettersWrong : ChangeSpec := { name := "fnPlanLetters", fn := fun _ => fun
  | [d] => { results := [.lit (.bool false)], args := [d] }
  | _ => none }
def FnPlanLettersWrongFalsely : Prop := fnPlanLettersRow.holds Try.pinned (OpenSpec.ofChange fnPlanLettersWrong)

/-- 'laws.FnPlanLonger': WHATEVER THE INPUT: true; the input reads as it did. -/
def fnPlanLongerSpec : ChangeSpec := { name := "fnPlanLonger", fn := fun _ => fun
  | [d1, d2] => { results := [.lit (.bool true)], args := [d1, d2] }
  | _ => none }
def fnPlanLongerRow : OpenClaim := { program := "ytbeiacoplhbmeaa", sum := "6b7bce12cad4520978d755cdd9d3b06ba1bb06f8d5be58a0b81ed2f0c4b29f68", func := "loop.example/mixrelay/laws.FnPlanLonger", spec := "fnPlanLonger", apart := false }
def FnPlanLongerSaid : Prop := fnPlanLongerRow.holds Try.pinned (OpenSpec.ofChange fnPlanLongerSpec)

/-- ITS FALSE NEIGHBOUR: 'it returns false'. Refute it at one input. -/
def fnPlanLongerWrong : ChangeSpec := { name := "fnPlanLonger", fn := fun _ => fun
  | [d1, d2] => { results := [.lit (.bool false)], args := [d1, d2] }
  | _ => none }
def FnPlanLongerWrongFalsely : Prop := fnPlanLongerRow.holds Try.pinned (OpenSpec.ofChange fnPlanLongerWrong)

/-- 'laws.FnExactCoverPlan': WHATEVER THE INPUT: true; the input reads as it did. -/
def fnExactCoverPlanSpec : ChangeSpec := { name := "fnExactCoverPlan", fn := fun _ => fun
  | [d1, d2, d3] => { results := [.lit (.bool true)], args := [d1, d2, d3] }
  | _ => none }
def fnExactCoverPlanRow : OpenClaim := { program := "ytbeiacoplhbmeaa", sum := "6b7bce12cad4520978d755cdd9d3b06ba1bb06f8d5be58a0b81ed2f0c4b29f68", func := "loop.example/mixrelay/laws.FnExactCoverPlan", spec := "fnExactCoverPlan", apart := false }
def FnExactCoverPlanSaid : Prop := fnExactCoverPlanRow.holds Try.pinned (OpenSpec.ofChange fnExactCoverPlanSpec)

/-- ITS FALSE NEIGHBOUR: 'it returns false'. Refute it at one input. -/
def fnExactCoverPlanWrong : ChangeSpec := { name := "fnExactCoverPlan", fn := fun _ => fun
  | [d1, d2, d3] => { results := [.lit (.bool false)], args := [d1, d2, d3] }
  | _ => none }
def FnExactCoverPlanWrongFalsely : Prop := fnExactCoverPlanRow.holds Try.pinned (OpenSpec.ofChange fnExactCoverPlanWrong)

/-- 'laws.FnPlanCount': WHATEVER THE INPUT: true; the input reads as it did. -/
def fnPlanCountSpec : ChangeSpec := { name := "fnPlanCount", fn := fun _ => fun
  | [d] => { results := [.lit (.bool true)], args := [d] }
  | _ => none }
def fnPlanCountRow : OpenClaim := { program := "ytbeiacoplhbmeaa", sum := "6b7bce12cad4520978d755cdd9d3b06ba1bb06f8d5be58a0b81ed2f0c4b29f68", func := "loop.example/mixrelay/laws.FnPlanCount", spec := "fnPlanCount", apart := false }
def FnPlanCountSaid : Prop := fnPlanCountRow.holds Try.pinned (OpenSpec.ofChange fnPlanCountSpec)

/-- ITS FALSE NEIGHBOUR: 'it returns false'. Refute it at one input. -/
def fnPlanCountWrong : ChangeSpec := { name := "fnPlanCount", fn := fun _ => fun
  | [d] => { results := [.lit (.bool false)], args := [d] }
  | _ => none }
def FnPlanCountWrongFalsely : Prop := fnPlanCountRow.holds Try.pinned (OpenSpec.ofChange fnPlanCountWrong)

/-- 'laws.FnPlanMore': WHATEVER THE INPUT: true; the input reads as it did. -/
def fnPlanMoreSpec : ChangeSpec := { name := "fnPlanMore", fn := fun _ => fun
  | [d1, d2] => { results := [.lit (.bool true)], args := [d1, d2] }
  | _ => none }
def fnPlanMoreRow : OpenClaim := { program := "ytbeiacoplhbmeaa", sum := "6b7bce12cad4520978d755cdd9d3b06ba1bb06f8d5be58a0b81ed2f0c4b29f68", func := "loop.example/mixrelay/laws.FnPlanMore", spec := "fnPlanMore", apart := false }
def FnPlanMoreSaid : Prop := fnPlanMoreRow.holds Try.pinned (OpenSpec.ofChange fnPlanMoreSpec)

/-- ITS FALSE NEIGHBOUR: 'it returns false'. Refute it at one input. -/
def fnPlanMoreWrong : ChangeSpec := { name := "fnPlanMore", fn := fun _ => fun
  | [d1, d2] => { results := [.lit (.bool false)], args := [d1, d2] }
  | _ => none }
def FnPlanMoreWrongFalsely : Prop := fnPlanMoreRow.holds Try.pinned (OpenSpec.ofChange fnPlanMoreWrong)

/-- 'laws.FnDelayOne': WHATEVER THE INPUT: true; the input reads as it did. -/
def fnDelayOneSpec : ChangeSpec := { name := "fnDelayOne", fn := fun _ => fun
  | [d1, d2] => { results := [.lit (.bool true)], args := [d1, d2] }
  | _ => none }
def fnDelayOneRow : OpenClaim := { program := "ytbeiacoplhbmeaa", sum := "6b7bce12cad4520978d755cdd9d3b06ba1bb06f8d5be58a0b81ed2f0c4b29f68", func := "loop.example/mixrelay/laws.FnDelayOne", spec := "fnDelayOne", apart := false }
def FnDelayOneSaid : Prop := fnDelayOneRow.holds Try.pinned (OpenSpec.ofChange fnDelayOneSpec)

/-- ITS FALSE NEIGHBOUR: 'it returns false'. Refute it at one input. -/
def fnDelayOneWrong : ChangeSpec := { name := "fnDelayOne", fn := fun _ => fun
  | [d1, d2] => { results := [.lit (.bool false)], args := [d1, d2] }
  | _ => none }
def FnDelayOneWrongFalsely : Prop := fnDelayOneRow.holds Try.pinned (OpenSpec.ofChange fnDelayOneWrong)

/-- 'laws.FnDelayShort': WHATEVER THE INPUT: true; the input reads as it did. -/
def fnDelayShortSpec : ChangeSpec := { name := "fnDelayShort", fn := fun _ => fun
  | [d] => { results := [.lit (.bool true)], args := [d] }
  | _ => none }
def fnDelayShortRow : OpenClaim := { program := "ytbeiacoplhbmeaa", sum := "6b7bce12cad4520978d755cdd9d3b06ba1bb06f8d5be58a0b81ed2f0c4b29f68", func := "loop.example/mixrelay/laws.FnDelayShort", spec := "fnDelayShort", apart := false }
def FnDelayShortSaid : Prop := fnDelayShortRow.holds Try.pinned (OpenSpec.ofChange fnDelayShortSpec)

/-- ITS FALSE NEIGHBOUR: 'it returns false'. Refute it at one input. -/
def fnDelayShortWrong : ChangeSpec := { name := "fnDelayShort", fn := fun _ => fun
  | [d] => { results := [.lit (.bool false)], args := [d] }
  | _ => none }
def FnDelayShortWrongFalsely : Prop := fnDelayShortRow.holds Try.pinned (OpenSpec.ofChange fnDelayShortWrong)

/-- 'laws.FnPlanHidden': WHATEVER THE INPUT: true; the input reads as it did. -/
def fnPlanHiddenSpec : ChangeSpec := { name := "fnPlanHidden", fn := fun _ => fun
  | [d1, d2] => { results := [.lit (.bool true)], args := [d1, d2] }
  | _ => none }
def fnPlanHiddenRow : OpenClaim := { program := "ytbeiacoplhbmeaa", sum := "6b7bce12cad4520978d755cdd9d3b06ba1bb06f8d5be58a0b81ed2f0c4b29f68", func := "loop.example/mixrelay/laws.FnPlanHidden", spec := "fnPlanHidden", unfollowed := true, recurses := true, apart := false }
def FnPlanHiddenSaid : Prop := fnPlanHiddenRow.holds Try.pinned (OpenSpec.ofChange fnPlanHiddenSpec)

/-- ITS FALSE NEIGHBOUR: 'it returns false'. Refute it at one input. -/
def fnPlanHiddenWrong : ChangeSpec := { name := "fnPlanHidden", fn := fun _ => fun
  | [d1, d2] => { results := [.lit (.bool false)], args := [d1, d2] }
  | _ => none }
def FnPlanHiddenWrongFalsely : Prop := fnPlanHiddenRow.holds Try.pinned (OpenSpec.ofChange fnPlanHiddenWrong)

/-- 'laws.FnDelay': WHATEVER THE INPUT: true; the input reads as it did. -/
def fnDelaySpec : ChangeSpec := { name := "fnDelay", fn := fun _ => fun
  | [d] => { results := [.lit (.bool true)], args := [d] }
  | _ => none }
def fnDelayRow : OpenClaim := { program := "ytbeiacoplhbmeaa", sum := "6b7bce12cad4520978d755cdd9d3b06ba1bb06f8d5be58a0b81ed2f0c4b29f68", func := "loop.example/mixrelay/laws.FnDelay", spec := "fnDelay", apart := false }
def FnDelaySaid : Prop := fnDelayRow.holds Try.pinned (OpenSpec.ofChange fnDelaySpec)

/-- ITS FALSE NEIGHBOUR: 'it returns false'. Refute it at one input. -/
def fnDelayWrong : ChangeSpec := { name := "fnDelay", fn := fun _ => fun
  | [d] => { results := [.lit (.bool false)], args := [d] }
  | _ => none }
def FnDelayWrongFalsely : Prop := fnDelayRow.holds Try.pinned (OpenSpec.ofChange fnDelayWrong)

/-- 'laws.FnPlanNone': WHATEVER THE INPUT: true; the input reads as it did. -/
def fnPlanNoneSpec : ChangeSpec := { name := "fnPlanNone", fn := fun _ => fun
  | [d] => { results := [.lit (.bool true)], args := [d] }
  | _ => none }
def fnPlanNoneRow : OpenClaim := { program := "ytbeiacoplhbmeaa", sum := "6b7bce12cad4520978d755cdd9d3b06ba1bb06f8d5be58a0b81ed2f0c4b29f68", func := "loop.example/mixrelay/laws.FnPlanNone", spec := "fnPlanNone", apart := false }
def FnPlanNoneSaid : Prop := fnPlanNoneRow.holds Try.pinned (OpenSpec.ofChange fnPlanNoneSpec)

/-- ITS FALSE NEIGHBOUR: 'it returns false'. Refute it at one input. -/
def fnPlanNoneWrong : ChangeSpec := { name := "fnPlanNone", fn := fun _ => fun
  | [d] => { results := [.lit (.bool false)], args := [d] }
  | _ => none }
def FnPlanNoneWrongFalsely : Prop := fnPlanNoneRow.holds Try.pinned (OpenSpec.ofChange fnPlanNoneWrong)

/- THE SECOND FORM. 'bulk': how many values and letters a reading holds, each counted each time it is reached (what is shared counts as often as it is met; a slice's spare places count too). A statement '..UptoSaid' is the law's where the arguments, and the package variables that the reading takes, are together of bulk at most 1048576: NARROWER than '..Said'. Prove '..Said' where nothing that the law and all that it calls make is longer than what came in: it says more and counts as full. Else prove '..UptoSaid'. A law counts once. -/
mutual
def uptoBulk {H : Type} : DataW H → Nat
  | .lit (.string bytes) => bytes.length + 1
  | .lit _ => 1
  | .nil => 1
  | .ptr d => uptoBulk d + 1
  | .slice elems spare => uptoBulkAll elems + uptoBulkAll spare + 1
  | .agg parts => uptoBulkAll parts + 1
  | .iface _ d => uptoBulk d + 1
  | .map entries => uptoBulkEntries entries + 1
  | .held _ => 1
def uptoBulkAll {H : Type} : List (DataW H) → Nat
  | [] => 0
  | d :: r => uptoBulk d + uptoBulkAll r
def uptoBulkEntries {H : Type} : List (Lit × DataW H) → Nat
  | [] => 0
  | x :: r => uptoBulkEntry x + uptoBulkEntries r
def uptoBulkEntry {H : Type} : Lit × DataW H → Nat
  | (.string bytes, d) => bytes.length + uptoBulk d + 1
  | (_, d) => uptoBulk d + 1
 end
def uptoSmall : (H : Type) → List (DataW H) → Bool := fun _ ds => decide (uptoBulkAll ds ≤ 1048576)
def OpenSpec.upto (s : _root_.Go.ChangeSpec) : _root_.Go.OpenSpec := { _root_.Go.OpenSpec.ofChange s with cond := some uptoSmall }

/-- 'laws.FnExactWorldPath', WHERE WHAT IT READS IS OF BULK AT MOST 1048576: true; the input reads as it did. -/
def fnExactWorldPathUptoRow : OpenClaim := { program := "ytbeiacoplhbmeaa", sum := "6b7bce12cad4520978d755cdd9d3b06ba1bb06f8d5be58a0b81ed2f0c4b29f68", func := "loop.example/mixrelay/laws.FnExactWorldPath", spec := "fnExactWorldPath", apart := false, narrowed := true }
def FnExactWorldPathUptoSaid : Prop := fnExactWorldPathUptoRow.holds Try.pinned (OpenSpec.upto fnExactWorldPathSpec)

/-- 'laws.FnWorldPath', WHERE WHAT IT READS IS OF BULK AT MOST 1048576: true; the input reads as it did. -/
def fnWorldPathUptoRow : OpenClaim := { program := "ytbeiacoplhbmeaa", sum := "6b7bce12cad4520978d755cdd9d3b06ba1bb06f8d5be58a0b81ed2f0c4b29f68", func := "loop.example/mixrelay/laws.FnWorldPath", spec := "fnWorldPath", apart := false, narrowed := true }
def FnWorldPathUptoSaid : Prop := fnWorldPathUptoRow.holds Try.pinned (OpenSpec.upto fnWorldPathSpec)

/-- 'laws.FnExactCoverCount', WHERE WHAT IT READS IS OF BULK AT MOST 1048576: true; the input reads as it did. -/
def fnExactCoverCountUptoRow : OpenClaim := { program := "ytbeiacoplhbmeaa", sum := "6b7bce12cad4520978d755cdd9d3b06ba1bb06f8d5be58a0b81ed2f0c4b29f68", func := "loop.example/mixrelay/laws.FnExactCoverCount", spec := "fnExactCoverCount", apart := false, narrowed := true }
def FnExactCoverCountUptoSaid : Prop := fnExactCoverCountUptoRow.holds Try.pinned (OpenSpec.upto fnExactCoverCountSpec)

/-- 'laws.FnExactCoverDelay', WHERE WHAT IT READS IS OF BULK AT MOST 1048576: true; the input reads as it did. -/
def fnExactCoverDelayUptoRow : OpenClaim := { program := "ytbeiacoplhbmeaa", sum := "6b7bce12cad4520978d755cdd9d3b06ba1bb06f8d5be58a0b81ed2f0c4b29f68", func := "loop.example/mixrelay/laws.FnExactCoverDelay", spec := "fnExactCoverDelay", apart := false, narrowed := true }
def FnExactCoverDelayUptoSaid : Prop := fnExactCoverDelayUptoRow.holds Try.pinned (OpenSpec.upto fnExactCoverDelaySpec)

/-- 'laws.FnExactCoverVisible', WHERE WHAT IT READS IS OF BULK AT MOST 1048576: true; the input reads as it did. -/
def fnExactCoverVisibleUptoRow : OpenClaim := { program := "ytbeiacoplhbmeaa", sum := "6b7bce12cad4520978d755cdd9d3b06ba1bb06f8d5be58a0b81ed2f0c4b29f68", func := "loop.example/mixrelay/laws.FnExactCoverVisible", spec := "fnExactCoverVisible", unfollowed := true, recurses := true, apart := false, narrowed := true }
def FnExactCoverVisibleUptoSaid : Prop := fnExactCoverVisibleUptoRow.holds Try.pinned (OpenSpec.upto fnExactCoverVisibleSpec)

/-- 'laws.FnVisible', WHERE WHAT IT READS IS OF BULK AT MOST 1048576: true; the input reads as it did. -/
def fnVisibleUptoRow : OpenClaim := { program := "ytbeiacoplhbmeaa", sum := "6b7bce12cad4520978d755cdd9d3b06ba1bb06f8d5be58a0b81ed2f0c4b29f68", func := "loop.example/mixrelay/laws.FnVisible", spec := "fnVisible", unfollowed := true, recurses := true, apart := false, narrowed := true }
def FnVisibleUptoSaid : Prop := fnVisibleUptoRow.holds Try.pinned (OpenSpec.upto fnVisibleSpec)

/-- 'laws.FnPlan', WHERE WHAT IT READS IS OF BULK AT MOST 1048576: true; the input reads as it did. -/
def fnPlanUptoRow : OpenClaim := { program := "ytbeiacoplhbmeaa", sum := "6b7bce12cad4520978d755cdd9d3b06ba1bb06f8d5be58a0b81ed2f0c4b29f68", func := "loop.example/mixrelay/laws.FnPlan", spec := "fnPlan", apart := false, narrowed := true }
def FnPlanUptoSaid : Prop := fnPlanUptoRow.holds Try.pinned (OpenSpec.upto fnPlanSpec)

/-- 'laws.FnPlanCover', WHERE WHAT IT READS IS OF BULK AT MOST 1048576: true; the input reads as it did. -/
def fnPlanCoverUptoRow : OpenClaim := { program := "ytbeiacoplhbmeaa", sum := "6b7bce12cad4520978d755cdd9d3b06ba1bb06f8d5be58a0b81ed2f0c4b29f68", func := "loop.example/mixrelay/laws.FnPlanCover", spec := "fnPlanCover", apart := false, narrowed := true }
def FnPlanCoverUptoSaid : Prop := fnPlanCoverUptoRow.holds Try.pinned (OpenSpec.upto fnPlanCoverSpec)

/-- 'laws.FnPlanLetters', WHERE WHAT IT READS IS OF BULK AT MOST 1048576: true; the input reads as it did. -/
def fnPlanLettersUptoRow : OpenClaim := { program := "ytbeiacoplhbmeaa", sum := "6b7bce12cad4520978d755cdd9d3b06ba1bb06f8d5be58a0b81ed2f0c4b29f68", func := "loop.example/mixrelay/laws.FnPlanLetters", spec := "fnPlanLetters", apart := false, narrowed := true }
def FnPlanLettersUptoSaid : Prop := fnPlanLettersUptoRow.holds Try.pinned (OpenSpec.upto fnPlanLettersSpec)

/-- 'laws.FnPlanLonger', WHERE WHAT IT READS IS OF BULK AT MOST 1048576: true; the input reads as it did. -/
def fnPlanLongerUptoRow : OpenClaim := { program := "ytbeiacoplhbmeaa", sum := "6b7bce12cad4520978d755cdd9d3b06ba1bb06f8d5be58a0b81ed2f0c4b29f68", func := "loop.example/mixrelay/laws.FnPlanLonger", spec := "fnPlanLonger", apart := false, narrowed := true }
def FnPlanLongerUptoSaid : Prop := fnPlanLongerUptoRow.holds Try.pinned (OpenSpec.upto fnPlanLongerSpec)

/-- 'laws.FnExactCoverPlan', WHERE WHAT IT READS IS OF BULK AT MOST 1048576: true; the input reads as it did. -/
def fnExactCoverPlanUptoRow : OpenClaim := { program := "ytbeiacoplhbmeaa", sum := "6b7bce12cad4520978d755cdd9d3b06ba1bb06f8d5be58a0b81ed2f0c4b29f68", func := "loop.example/mixrelay/laws.FnExactCoverPlan", spec := "fnExactCoverPlan", apart := false, narrowed := true }
def FnExactCoverPlanUptoSaid : Prop := fnExactCoverPlanUptoRow.holds Try.pinned (OpenSpec.upto fnExactCoverPlanSpec)

/-- 'laws.FnPlanCount', WHERE WHAT IT READS IS OF BULK AT MOST 1048576: true; the input reads as it did. -/
def fnPlanCountUptoRow : OpenClaim := { program := "ytbeiacoplhbmeaa", sum := "6b7bce12cad4520978d755cdd9d3b06ba1bb06f8d5be58a0b81ed2f0c4b29f68", func := "loop.example/mixrelay/laws.FnPlanCount", spec := "fnPlanCount", apart := false, narrowed := true }
def FnPlanCountUptoSaid : Prop := fnPlanCountUptoRow.holds Try.pinned (OpenSpec.upto fnPlanCountSpec)

/-- 'laws.FnPlanMore', WHERE WHAT IT READS IS OF BULK AT MOST 1048576: true; the input reads as it did. -/
def fnPlanMoreUptoRow : OpenClaim := { program := "ytbeiacoplhbmeaa", sum := "6b7bce12cad4520978d755cdd9d3b06ba1bb06f8d5be58a0b81ed2f0c4b29f68", func := "loop.example/mixrelay/laws.FnPlanMore", spec := "fnPlanMore", apart := false, narrowed := true }
def FnPlanMoreUptoSaid : Prop := fnPlanMoreUptoRow.holds Try.pinned (OpenSpec.upto fnPlanMoreSpec)

/-- 'laws.FnDelayOne', WHERE WHAT IT READS IS OF BULK AT MOST 1048576: true; the input reads as it did. -/
def fnDelayOneUptoRow : OpenClaim := { program := "ytbeiacoplhbmeaa", sum := "6b7bce12cad4520978d755cdd9d3b06ba1bb06f8d5be58a0b81ed2f0c4b29f68", func := "loop.example/mixrelay/laws.FnDelayOne", spec := "fnDelayOne", apart := false, narrowed := true }
def FnDelayOneUptoSaid : Prop := fnDelayOneUptoRow.holds Try.pinned (OpenSpec.upto fnDelayOneSpec)

/-- 'laws.FnDelayShort', WHERE WHAT IT READS IS OF BULK AT MOST 1048576: true; the input reads as it did. -/
def fnDelayShortUptoRow : OpenClaim := { program := "ytbeiacoplhbmeaa", sum := "6b7bce12cad4520978d755cdd9d3b06ba1bb06f8d5be58a0b81ed2f0c4b29f68", func := "loop.example/mixrelay/laws.FnDelayShort", spec := "fnDelayShort", apart := false, narrowed := true }
def FnDelayShortUptoSaid : Prop := fnDelayShortUptoRow.holds Try.pinned (OpenSpec.upto fnDelayShortSpec)

/-- 'laws.FnPlanHidden', WHERE WHAT IT READS IS OF BULK AT MOST 1048576: true; the input reads as it did. -/
def fnPlanHiddenUptoRow : OpenClaim := { program := "ytbeiacoplhbmeaa", sum := "6b7bce12cad4520978d755cdd9d3b06ba1bb06f8d5be58a0b81ed2f0c4b29f68", func := "loop.example/mixrelay/laws.FnPlanHidden", spec := "fnPlanHidden", unfollowed := true, recurses := true, apart := false, narrowed := true }
def FnPlanHiddenUptoSaid : Prop := fnPlanHiddenUptoRow.holds Try.pinned (OpenSpec.upto fnPlanHiddenSpec)

/-- 'laws.FnDelay', WHERE WHAT IT READS IS OF BULK AT MOST 1048576: true; the input reads as it did. -/
def fnDelayUptoRow : OpenClaim := { program := "ytbeiacoplhbmeaa", sum := "6b7bce12cad4520978d755cdd9d3b06ba1bb06f8d5be58a0b81ed2f0c4b29f68", func := "loop.example/mixrelay/laws.FnDelay", spec := "fnDelay", apart := false, narrowed := true }
def FnDelayUptoSaid : Prop := fnDelayUptoRow.holds Try.pinned (OpenSpec.upto fnDelaySpec)

/-- 'laws.FnPlanNone', WHERE WHAT IT READS IS OF BULK AT MOST 1048576: true; the input reads as it did. -/
def fnPlanNoneUptoRow : OpenClaim := { program := "ytbeiacoplhbmeaa", sum := "6b7bce12cad4520978d755cdd9d3b06ba1bb06f8d5be58a0b81ed2f0c4b29f68", func := "loop.example/mixrelay/laws.FnPlanNone", spec := "fnPlanNone", apart := false, narrowed := true }
def FnPlanNoneUptoSaid : Prop := fnPlanNoneUptoRow.holds Try.pinned (OpenSpec.upto fnPlanNoneSpec)

end Rows
end Go.Proofs.Ytbeiacoplhbmeaa
