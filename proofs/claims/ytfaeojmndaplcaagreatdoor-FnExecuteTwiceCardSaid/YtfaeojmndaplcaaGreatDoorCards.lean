/-
  DERIVED. GIVEN WITH THE SEED: THE CARDS: each row of YtfaeojmndaplcaaGreatDoorRows.lean that lists a variable, with what it lists TIED to the program's text (the seventh form; the later family's looks); each row that meets fmt, with fmt's text TOLD by the authors' own Lean function (tested against real Go, not proved from fmt's source: count such statements apart). THE CARD IS WHAT COUNTS. Prove the row's statement (the work); the ties are given (YtfaeojmndaplcaaGreatDoorTie.lean); close each card by the builder's one call (the guide's Derived/Test/ToyasCard.lean, 'card_holds'). Laid BY PROGRAM, IN A SANDBOX (cutbox-door.mjs). By AI agents, Wed Nov 11 2026. No macro, syntax, notation, axiom, sorry.
-/
import Derived.Test.YtfaeojmndaplcaaGreatDoorRows
import GoSem.ClaimSeven
namespace Go.Proofs.YtfaeojmndaplcaaGreatDoor
namespace Rows

/-- THE TIED CARD OF 'laws.FnExecuteLines'. -/
def fnExecuteLinesCard : Claim7 := { stood := { row := fnExecuteLinesRow, standIns := [], harness := (true, "ce4b402aa199ae7ade3bea3dd62e7b99986f29c4f69e87e43d86418eff50f956"), looks := true }, kinds := [], alts := [], laidByText := true, laidKinds := [.data, .data, .data, .data, .handle, .pinned], laidTests := true, laidLooks := .later }
def FnExecuteLinesCardSaid : Prop := Claim7.holds Tryz.pinned (.plain (OpenSpec.ofChange fnExecuteLinesSpec)) fnExecuteLinesCard

/-- THE TIED CARD OF 'laws.FnExecuteQueries'. -/
def fnExecuteQueriesCard : Claim7 := { stood := { row := fnExecuteQueriesRow, standIns := [], harness := (true, "ce4b402aa199ae7ade3bea3dd62e7b99986f29c4f69e87e43d86418eff50f956"), looks := true }, kinds := [], alts := [], laidByText := true, laidKinds := [.data, .data, .data, .data, .handle, .pinned], laidTests := true, laidLooks := .later }
def FnExecuteQueriesCardSaid : Prop := Claim7.holds Tryz.pinned (.plain (OpenSpec.ofChange fnExecuteQueriesSpec)) fnExecuteQueriesCard

/-- THE TIED CARD OF 'laws.FnExecuteUnknown'. -/
def fnExecuteUnknownCard : Claim7 := { stood := { row := fnExecuteUnknownRow, standIns := [], harness := (true, "ce4b402aa199ae7ade3bea3dd62e7b99986f29c4f69e87e43d86418eff50f956"), looks := true }, kinds := [], alts := [], laidByText := true, laidKinds := [.data, .data, .data, .data, .handle, .pinned], laidTests := true, laidLooks := .later }
def FnExecuteUnknownCardSaid : Prop := Claim7.holds Tryz.pinned (.plain (OpenSpec.ofChange fnExecuteUnknownSpec)) fnExecuteUnknownCard

/-- THE TIED CARD OF 'laws.FnExactExecute'. -/
def fnExactExecuteCard : Claim7 := { stood := { row := fnExactExecuteRow, standIns := [], harness := (true, "ce4b402aa199ae7ade3bea3dd62e7b99986f29c4f69e87e43d86418eff50f956"), looks := true }, kinds := [], alts := [], laidByText := true, laidKinds := [.data, .data, .data, .data, .handle, .pinned], laidTests := true, laidLooks := .later }
def FnExactExecuteCardSaid : Prop := Claim7.holds Tryz.pinned (.plain (OpenSpec.ofChange fnExactExecuteSpec)) fnExactExecuteCard

/-- THE TIED CARD OF 'laws.FnExecuteBatch'. -/
def fnExecuteBatchCard : Claim7 := { stood := { row := fnExecuteBatchRow, standIns := [], harness := (true, "ce4b402aa199ae7ade3bea3dd62e7b99986f29c4f69e87e43d86418eff50f956"), looks := true }, kinds := [], alts := [], laidByText := true, laidKinds := [.data, .data, .data, .data, .handle, .pinned], laidTests := true, laidLooks := .later }
def FnExecuteBatchCardSaid : Prop := Claim7.holds Tryz.pinned (.plain (OpenSpec.ofChange fnExecuteBatchSpec)) fnExecuteBatchCard

/-- THE TIED CARD OF 'laws.FnExecuteChange'. -/
def fnExecuteChangeCard : Claim7 := { stood := { row := fnExecuteChangeRow, standIns := [], harness := (true, "ce4b402aa199ae7ade3bea3dd62e7b99986f29c4f69e87e43d86418eff50f956"), looks := true }, kinds := [], alts := [], laidByText := true, laidKinds := [.data, .data, .data, .data, .handle, .pinned], laidTests := true, laidLooks := .later }
def FnExecuteChangeCardSaid : Prop := Claim7.holds Tryz.pinned (.plain (OpenSpec.ofChange fnExecuteChangeSpec)) fnExecuteChangeCard

/-- THE TIED CARD OF 'laws.FnExecuteEmpty'. -/
def fnExecuteEmptyCard : Claim7 := { stood := { row := fnExecuteEmptyRow, standIns := [], harness := (true, "ce4b402aa199ae7ade3bea3dd62e7b99986f29c4f69e87e43d86418eff50f956"), looks := true }, kinds := [], alts := [], laidByText := true, laidKinds := [.data, .data, .data, .data, .handle, .pinned], laidTests := true, laidLooks := .later }
def FnExecuteEmptyCardSaid : Prop := Claim7.holds Tryz.pinned (.plain (OpenSpec.ofChange fnExecuteEmptySpec)) fnExecuteEmptyCard

/-- THE TIED CARD OF 'laws.FnExecuteLose'. -/
def fnExecuteLoseCard : Claim7 := { stood := { row := fnExecuteLoseRow, standIns := [], harness := (true, "ce4b402aa199ae7ade3bea3dd62e7b99986f29c4f69e87e43d86418eff50f956"), looks := true }, kinds := [], alts := [], laidByText := true, laidKinds := [.data, .data, .data, .data, .handle, .pinned], laidTests := true, laidLooks := .later }
def FnExecuteLoseCardSaid : Prop := Claim7.holds Tryz.pinned (.plain (OpenSpec.ofChange fnExecuteLoseSpec)) fnExecuteLoseCard

/-- THE TIED CARD OF 'laws.FnExecuteOne'. -/
def fnExecuteOneCard : Claim7 := { stood := { row := fnExecuteOneRow, standIns := [], harness := (true, "ce4b402aa199ae7ade3bea3dd62e7b99986f29c4f69e87e43d86418eff50f956"), looks := true }, kinds := [], alts := [], laidByText := true, laidKinds := [.data, .data, .data, .data, .handle, .pinned], laidTests := true, laidLooks := .later }
def FnExecuteOneCardSaid : Prop := Claim7.holds Tryz.pinned (.plain (OpenSpec.ofChange fnExecuteOneSpec)) fnExecuteOneCard

/-- THE TIED CARD OF 'laws.FnExecuteTwice'. -/
def fnExecuteTwiceCard : Claim7 := { stood := { row := fnExecuteTwiceRow, standIns := [], harness := (true, "ce4b402aa199ae7ade3bea3dd62e7b99986f29c4f69e87e43d86418eff50f956"), looks := true }, kinds := [], alts := [], laidByText := true, laidKinds := [.data, .data, .data, .data, .handle, .pinned], laidTests := true, laidLooks := .later }
def FnExecuteTwiceCardSaid : Prop := Claim7.holds Tryz.pinned (.plain (OpenSpec.ofChange fnExecuteTwiceSpec)) fnExecuteTwiceCard

/-- THE TIED CARD OF 'laws.FnExecuteIncomplete'. -/
def fnExecuteIncompleteCard : Claim7 := { stood := { row := fnExecuteIncompleteRow, standIns := [], harness := (true, "ce4b402aa199ae7ade3bea3dd62e7b99986f29c4f69e87e43d86418eff50f956"), looks := true }, kinds := [], alts := [], laidByText := true, laidKinds := [.data, .data, .data, .data, .handle, .pinned], laidTests := true, laidLooks := .later }
def FnExecuteIncompleteCardSaid : Prop := Claim7.holds Tryz.pinned (.plain (OpenSpec.ofChange fnExecuteIncompleteSpec)) fnExecuteIncompleteCard

/-- THE TIED CARD OF 'laws.FnWorldPlay'. -/
def fnWorldPlayCard : Claim7 := { stood := { row := fnWorldPlayRow, standIns := [], harness := (true, "ce4b402aa199ae7ade3bea3dd62e7b99986f29c4f69e87e43d86418eff50f956"), looks := true }, kinds := [], alts := [], laidByText := true, laidKinds := [.handle], laidTests := true, laidLooks := .later }
def FnWorldPlayCardSaid : Prop := Claim7.holds Tryz.pinned (.plain (OpenSpec.ofChange fnWorldPlaySpec)) fnWorldPlayCard

/-- THE SECOND FORM's CARD OF 'laws.FnExecuteLines'. -/
def fnExecuteLinesUptoCard : Claim7 := { stood := { row := fnExecuteLinesUptoRow, standIns := [], harness := (true, "ce4b402aa199ae7ade3bea3dd62e7b99986f29c4f69e87e43d86418eff50f956"), looks := true }, kinds := [], alts := [], laidByText := true, laidKinds := [.data, .data, .data, .data, .handle, .pinned], laidTests := true, laidLooks := .later }
def FnExecuteLinesUptoCardSaid : Prop := Claim7.holds Tryz.pinned (.plain (OpenSpec.upto fnExecuteLinesSpec)) fnExecuteLinesUptoCard

/-- THE SECOND FORM's CARD OF 'laws.FnExecuteQueries'. -/
def fnExecuteQueriesUptoCard : Claim7 := { stood := { row := fnExecuteQueriesUptoRow, standIns := [], harness := (true, "ce4b402aa199ae7ade3bea3dd62e7b99986f29c4f69e87e43d86418eff50f956"), looks := true }, kinds := [], alts := [], laidByText := true, laidKinds := [.data, .data, .data, .data, .handle, .pinned], laidTests := true, laidLooks := .later }
def FnExecuteQueriesUptoCardSaid : Prop := Claim7.holds Tryz.pinned (.plain (OpenSpec.upto fnExecuteQueriesSpec)) fnExecuteQueriesUptoCard

/-- THE SECOND FORM's CARD OF 'laws.FnExecuteUnknown'. -/
def fnExecuteUnknownUptoCard : Claim7 := { stood := { row := fnExecuteUnknownUptoRow, standIns := [], harness := (true, "ce4b402aa199ae7ade3bea3dd62e7b99986f29c4f69e87e43d86418eff50f956"), looks := true }, kinds := [], alts := [], laidByText := true, laidKinds := [.data, .data, .data, .data, .handle, .pinned], laidTests := true, laidLooks := .later }
def FnExecuteUnknownUptoCardSaid : Prop := Claim7.holds Tryz.pinned (.plain (OpenSpec.upto fnExecuteUnknownSpec)) fnExecuteUnknownUptoCard

/-- THE SECOND FORM's CARD OF 'laws.FnExactExecute'. -/
def fnExactExecuteUptoCard : Claim7 := { stood := { row := fnExactExecuteUptoRow, standIns := [], harness := (true, "ce4b402aa199ae7ade3bea3dd62e7b99986f29c4f69e87e43d86418eff50f956"), looks := true }, kinds := [], alts := [], laidByText := true, laidKinds := [.data, .data, .data, .data, .handle, .pinned], laidTests := true, laidLooks := .later }
def FnExactExecuteUptoCardSaid : Prop := Claim7.holds Tryz.pinned (.plain (OpenSpec.upto fnExactExecuteSpec)) fnExactExecuteUptoCard

/-- THE SECOND FORM's CARD OF 'laws.FnExecuteBatch'. -/
def fnExecuteBatchUptoCard : Claim7 := { stood := { row := fnExecuteBatchUptoRow, standIns := [], harness := (true, "ce4b402aa199ae7ade3bea3dd62e7b99986f29c4f69e87e43d86418eff50f956"), looks := true }, kinds := [], alts := [], laidByText := true, laidKinds := [.data, .data, .data, .data, .handle, .pinned], laidTests := true, laidLooks := .later }
def FnExecuteBatchUptoCardSaid : Prop := Claim7.holds Tryz.pinned (.plain (OpenSpec.upto fnExecuteBatchSpec)) fnExecuteBatchUptoCard

/-- THE SECOND FORM's CARD OF 'laws.FnExecuteChange'. -/
def fnExecuteChangeUptoCard : Claim7 := { stood := { row := fnExecuteChangeUptoRow, standIns := [], harness := (true, "ce4b402aa199ae7ade3bea3dd62e7b99986f29c4f69e87e43d86418eff50f956"), looks := true }, kinds := [], alts := [], laidByText := true, laidKinds := [.data, .data, .data, .data, .handle, .pinned], laidTests := true, laidLooks := .later }
def FnExecuteChangeUptoCardSaid : Prop := Claim7.holds Tryz.pinned (.plain (OpenSpec.upto fnExecuteChangeSpec)) fnExecuteChangeUptoCard

/-- THE SECOND FORM's CARD OF 'laws.FnExecuteEmpty'. -/
def fnExecuteEmptyUptoCard : Claim7 := { stood := { row := fnExecuteEmptyUptoRow, standIns := [], harness := (true, "ce4b402aa199ae7ade3bea3dd62e7b99986f29c4f69e87e43d86418eff50f956"), looks := true }, kinds := [], alts := [], laidByText := true, laidKinds := [.data, .data, .data, .data, .handle, .pinned], laidTests := true, laidLooks := .later }
def FnExecuteEmptyUptoCardSaid : Prop := Claim7.holds Tryz.pinned (.plain (OpenSpec.upto fnExecuteEmptySpec)) fnExecuteEmptyUptoCard

/-- THE SECOND FORM's CARD OF 'laws.FnExecuteLose'. -/
def fnExecuteLoseUptoCard : Claim7 := { stood := { row := fnExecuteLoseUptoRow, standIns := [], harness := (true, "ce4b402aa199ae7ade3bea3dd62e7b99986f29c4f69e87e43d86418eff50f956"), looks := true }, kinds := [], alts := [], laidByText := true, laidKinds := [.data, .data, .data, .data, .handle, .pinned], laidTests := true, laidLooks := .later }
def FnExecuteLoseUptoCardSaid : Prop := Claim7.holds Tryz.pinned (.plain (OpenSpec.upto fnExecuteLoseSpec)) fnExecuteLoseUptoCard

/-- THE SECOND FORM's CARD OF 'laws.FnExecuteOne'. -/
def fnExecuteOneUptoCard : Claim7 := { stood := { row := fnExecuteOneUptoRow, standIns := [], harness := (true, "ce4b402aa199ae7ade3bea3dd62e7b99986f29c4f69e87e43d86418eff50f956"), looks := true }, kinds := [], alts := [], laidByText := true, laidKinds := [.data, .data, .data, .data, .handle, .pinned], laidTests := true, laidLooks := .later }
def FnExecuteOneUptoCardSaid : Prop := Claim7.holds Tryz.pinned (.plain (OpenSpec.upto fnExecuteOneSpec)) fnExecuteOneUptoCard

/-- THE SECOND FORM's CARD OF 'laws.FnExecuteTwice'. -/
def fnExecuteTwiceUptoCard : Claim7 := { stood := { row := fnExecuteTwiceUptoRow, standIns := [], harness := (true, "ce4b402aa199ae7ade3bea3dd62e7b99986f29c4f69e87e43d86418eff50f956"), looks := true }, kinds := [], alts := [], laidByText := true, laidKinds := [.data, .data, .data, .data, .handle, .pinned], laidTests := true, laidLooks := .later }
def FnExecuteTwiceUptoCardSaid : Prop := Claim7.holds Tryz.pinned (.plain (OpenSpec.upto fnExecuteTwiceSpec)) fnExecuteTwiceUptoCard

/-- THE SECOND FORM's CARD OF 'laws.FnExecuteIncomplete'. -/
def fnExecuteIncompleteUptoCard : Claim7 := { stood := { row := fnExecuteIncompleteUptoRow, standIns := [], harness := (true, "ce4b402aa199ae7ade3bea3dd62e7b99986f29c4f69e87e43d86418eff50f956"), looks := true }, kinds := [], alts := [], laidByText := true, laidKinds := [.data, .data, .data, .data, .handle, .pinned], laidTests := true, laidLooks := .later }
def FnExecuteIncompleteUptoCardSaid : Prop := Claim7.holds Tryz.pinned (.plain (OpenSpec.upto fnExecuteIncompleteSpec)) fnExecuteIncompleteUptoCard

/-- THE SECOND FORM's CARD OF 'laws.FnWorldPlay'. -/
def fnWorldPlayUptoCard : Claim7 := { stood := { row := fnWorldPlayUptoRow, standIns := [], harness := (true, "ce4b402aa199ae7ade3bea3dd62e7b99986f29c4f69e87e43d86418eff50f956"), looks := true }, kinds := [], alts := [], laidByText := true, laidKinds := [.handle], laidTests := true, laidLooks := .later }
def FnWorldPlayUptoCardSaid : Prop := Claim7.holds Tryz.pinned (.plain (OpenSpec.upto fnWorldPlaySpec)) fnWorldPlayUptoCard
end Rows
end Go.Proofs.YtfaeojmndaplcaaGreatDoor
