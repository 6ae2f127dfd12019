/-
  DERIVED. GIVEN WITH THE SEED: THE CARDS: each row of YtolgbefghbddeaaGreatDoorRows.lean that lists a variable, with what it lists TIED to the program's text (the seventh form; the later family's looks); each row that meets fmt, with fmt's text TOLD by the authors' own Lean function (tested against real Go, not proved from fmt's source: count such statements apart). THE CARD IS WHAT COUNTS. Prove the row's statement (the work); the ties are given (YtolgbefghbddeaaGreatDoorTie.lean); close each card by the builder's one call (the guide's Derived/Test/ToyasCard.lean, 'card_holds'). Laid BY PROGRAM, IN A SANDBOX (cutbox-door.mjs). By AI agents, Wed Nov 11 2026. No macro, syntax, notation, axiom, sorry.
-/
import Derived.Test.YtolgbefghbddeaaGreatDoorRows
import GoSem.ClaimSeven
namespace Go.Proofs.YtolgbefghbddeaaGreatDoor
namespace Rows

/-- THE TIED CARD OF 'laws.FnWorldKeeps'. -/
def fnWorldKeepsCard : Claim7 := { stood := { row := fnWorldKeepsRow, standIns := [], harness := (true, "0b88574e3966f29a5700fde5310b4a9d73255c860e3cfbe123706b230b6b56c3"), looks := true }, kinds := [], alts := [], laidByText := true, laidKinds := [.handle], laidTests := true, laidLooks := .later }
def FnWorldKeepsCardSaid : Prop := Claim7.holds Tryz.pinned (.plain (OpenSpec.ofChange fnWorldKeepsSpec)) fnWorldKeepsCard

/-- THE TIED CARD OF 'laws.FnWorldKept'. -/
def fnWorldKeptCard : Claim7 := { stood := { row := fnWorldKeptRow, standIns := [], harness := (true, "0b88574e3966f29a5700fde5310b4a9d73255c860e3cfbe123706b230b6b56c3"), looks := true }, kinds := [], alts := [], laidByText := true, laidKinds := [.handle], laidTests := true, laidLooks := .later }
def FnWorldKeptCardSaid : Prop := Claim7.holds Tryz.pinned (.plain (OpenSpec.ofChange fnWorldKeptSpec)) fnWorldKeptCard

/-- THE TIED CARD OF 'laws.FnWorldSend'. -/
def fnWorldSendCard : Claim7 := { stood := { row := fnWorldSendRow, standIns := [], harness := (true, "0b88574e3966f29a5700fde5310b4a9d73255c860e3cfbe123706b230b6b56c3"), looks := true }, kinds := [], alts := [], laidByText := true, laidKinds := [.handle], laidTests := true, laidLooks := .later }
def FnWorldSendCardSaid : Prop := Claim7.holds Tryz.pinned (.plain (OpenSpec.ofChange fnWorldSendSpec)) fnWorldSendCard

/-- THE TIED CARD OF 'laws.FnWorldFlush'. -/
def fnWorldFlushCard : Claim7 := { stood := { row := fnWorldFlushRow, standIns := [], harness := (true, "0b88574e3966f29a5700fde5310b4a9d73255c860e3cfbe123706b230b6b56c3"), looks := true }, kinds := [], alts := [], laidByText := true, laidKinds := [.handle], laidTests := true, laidLooks := .later }
def FnWorldFlushCardSaid : Prop := Claim7.holds Tryz.pinned (.plain (OpenSpec.ofChange fnWorldFlushSpec)) fnWorldFlushCard

/-- THE TIED CARD OF 'laws.FnWorldDeliver'. -/
def fnWorldDeliverCard : Claim7 := { stood := { row := fnWorldDeliverRow, standIns := [], harness := (true, "0b88574e3966f29a5700fde5310b4a9d73255c860e3cfbe123706b230b6b56c3"), looks := true }, kinds := [], alts := [], laidByText := true, laidKinds := [.handle], laidTests := true, laidLooks := .later }
def FnWorldDeliverCardSaid : Prop := Claim7.holds Tryz.pinned (.plain (OpenSpec.ofChange fnWorldDeliverSpec)) fnWorldDeliverCard

/-- THE TIED CARD OF 'laws.FnWorldLose'. -/
def fnWorldLoseCard : Claim7 := { stood := { row := fnWorldLoseRow, standIns := [], harness := (true, "0b88574e3966f29a5700fde5310b4a9d73255c860e3cfbe123706b230b6b56c3"), looks := true }, kinds := [], alts := [], laidByText := true, laidKinds := [.handle], laidTests := true, laidLooks := .later }
def FnWorldLoseCardSaid : Prop := Claim7.holds Tryz.pinned (.plain (OpenSpec.ofChange fnWorldLoseSpec)) fnWorldLoseCard

/-- THE TIED CARD OF 'laws.FnWorldChange'. -/
def fnWorldChangeCard : Claim7 := { stood := { row := fnWorldChangeRow, standIns := [], harness := (true, "0b88574e3966f29a5700fde5310b4a9d73255c860e3cfbe123706b230b6b56c3"), looks := true }, kinds := [], alts := [], laidByText := true, laidKinds := [.handle], laidTests := true, laidLooks := .later }
def FnWorldChangeCardSaid : Prop := Claim7.holds Tryz.pinned (.plain (OpenSpec.ofChange fnWorldChangeSpec)) fnWorldChangeCard

/-- THE TIED CARD OF 'laws.FnWorldUnknown'. -/
def fnWorldUnknownCard : Claim7 := { stood := { row := fnWorldUnknownRow, standIns := [], harness := (true, "0b88574e3966f29a5700fde5310b4a9d73255c860e3cfbe123706b230b6b56c3"), looks := true }, kinds := [], alts := [], laidByText := true, laidKinds := [.handle], laidTests := true, laidLooks := .later }
def FnWorldUnknownCardSaid : Prop := Claim7.holds Tryz.pinned (.plain (OpenSpec.ofChange fnWorldUnknownSpec)) fnWorldUnknownCard

/-- THE TIED CARD OF 'laws.FnWorldTwice'. -/
def fnWorldTwiceCard : Claim7 := { stood := { row := fnWorldTwiceRow, standIns := [], harness := (true, "0b88574e3966f29a5700fde5310b4a9d73255c860e3cfbe123706b230b6b56c3"), looks := true }, kinds := [], alts := [], laidByText := true, laidKinds := [.handle], laidTests := true, laidLooks := .later }
def FnWorldTwiceCardSaid : Prop := Claim7.holds Tryz.pinned (.plain (OpenSpec.ofChange fnWorldTwiceSpec)) fnWorldTwiceCard

/-- THE TIED CARD OF 'laws.FnWorldPlay'. -/
def fnWorldPlayCard : Claim7 := { stood := { row := fnWorldPlayRow, standIns := [], harness := (true, "0b88574e3966f29a5700fde5310b4a9d73255c860e3cfbe123706b230b6b56c3"), looks := true }, kinds := [], alts := [], laidByText := true, laidKinds := [.handle], laidTests := true, laidLooks := .later }
def FnWorldPlayCardSaid : Prop := Claim7.holds Tryz.pinned (.plain (OpenSpec.ofChange fnWorldPlaySpec)) fnWorldPlayCard

/-- THE TIED CARD OF 'laws.FnCalmValid'. -/
def fnCalmValidCard : Claim7 := { stood := { row := fnCalmValidRow, standIns := [], harness := (true, "0b88574e3966f29a5700fde5310b4a9d73255c860e3cfbe123706b230b6b56c3"), looks := true }, kinds := [], alts := [], laidByText := true, laidKinds := [.handle], laidTests := true, laidLooks := .later }
def FnCalmValidCardSaid : Prop := Claim7.holds Tryz.pinned (.plain (OpenSpec.ofChange fnCalmValidSpec)) fnCalmValidCard

/-- THE TIED CARD OF 'laws.FnWorldInvalid'. -/
def fnWorldInvalidCard : Claim7 := { stood := { row := fnWorldInvalidRow, standIns := [], harness := (true, "0b88574e3966f29a5700fde5310b4a9d73255c860e3cfbe123706b230b6b56c3"), looks := true }, kinds := [], alts := [], laidByText := true, laidKinds := [.handle], laidTests := true, laidLooks := .later }
def FnWorldInvalidCardSaid : Prop := Claim7.holds Tryz.pinned (.plain (OpenSpec.ofChange fnWorldInvalidSpec)) fnWorldInvalidCard

/-- THE SECOND FORM's CARD OF 'laws.FnWorldKeeps'. -/
def fnWorldKeepsUptoCard : Claim7 := { stood := { row := fnWorldKeepsUptoRow, standIns := [], harness := (true, "0b88574e3966f29a5700fde5310b4a9d73255c860e3cfbe123706b230b6b56c3"), looks := true }, kinds := [], alts := [], laidByText := true, laidKinds := [.handle], laidTests := true, laidLooks := .later }
def FnWorldKeepsUptoCardSaid : Prop := Claim7.holds Tryz.pinned (.plain (OpenSpec.upto fnWorldKeepsSpec)) fnWorldKeepsUptoCard

/-- THE SECOND FORM's CARD OF 'laws.FnWorldKept'. -/
def fnWorldKeptUptoCard : Claim7 := { stood := { row := fnWorldKeptUptoRow, standIns := [], harness := (true, "0b88574e3966f29a5700fde5310b4a9d73255c860e3cfbe123706b230b6b56c3"), looks := true }, kinds := [], alts := [], laidByText := true, laidKinds := [.handle], laidTests := true, laidLooks := .later }
def FnWorldKeptUptoCardSaid : Prop := Claim7.holds Tryz.pinned (.plain (OpenSpec.upto fnWorldKeptSpec)) fnWorldKeptUptoCard

/-- THE SECOND FORM's CARD OF 'laws.FnWorldSend'. -/
def fnWorldSendUptoCard : Claim7 := { stood := { row := fnWorldSendUptoRow, standIns := [], harness := (true, "0b88574e3966f29a5700fde5310b4a9d73255c860e3cfbe123706b230b6b56c3"), looks := true }, kinds := [], alts := [], laidByText := true, laidKinds := [.handle], laidTests := true, laidLooks := .later }
def FnWorldSendUptoCardSaid : Prop := Claim7.holds Tryz.pinned (.plain (OpenSpec.upto fnWorldSendSpec)) fnWorldSendUptoCard

/-- THE SECOND FORM's CARD OF 'laws.FnWorldFlush'. -/
def fnWorldFlushUptoCard : Claim7 := { stood := { row := fnWorldFlushUptoRow, standIns := [], harness := (true, "0b88574e3966f29a5700fde5310b4a9d73255c860e3cfbe123706b230b6b56c3"), looks := true }, kinds := [], alts := [], laidByText := true, laidKinds := [.handle], laidTests := true, laidLooks := .later }
def FnWorldFlushUptoCardSaid : Prop := Claim7.holds Tryz.pinned (.plain (OpenSpec.upto fnWorldFlushSpec)) fnWorldFlushUptoCard

/-- THE SECOND FORM's CARD OF 'laws.FnWorldDeliver'. -/
def fnWorldDeliverUptoCard : Claim7 := { stood := { row := fnWorldDeliverUptoRow, standIns := [], harness := (true, "0b88574e3966f29a5700fde5310b4a9d73255c860e3cfbe123706b230b6b56c3"), looks := true }, kinds := [], alts := [], laidByText := true, laidKinds := [.handle], laidTests := true, laidLooks := .later }
def FnWorldDeliverUptoCardSaid : Prop := Claim7.holds Tryz.pinned (.plain (OpenSpec.upto fnWorldDeliverSpec)) fnWorldDeliverUptoCard

/-- THE SECOND FORM's CARD OF 'laws.FnWorldLose'. -/
def fnWorldLoseUptoCard : Claim7 := { stood := { row := fnWorldLoseUptoRow, standIns := [], harness := (true, "0b88574e3966f29a5700fde5310b4a9d73255c860e3cfbe123706b230b6b56c3"), looks := true }, kinds := [], alts := [], laidByText := true, laidKinds := [.handle], laidTests := true, laidLooks := .later }
def FnWorldLoseUptoCardSaid : Prop := Claim7.holds Tryz.pinned (.plain (OpenSpec.upto fnWorldLoseSpec)) fnWorldLoseUptoCard

/-- THE SECOND FORM's CARD OF 'laws.FnWorldChange'. -/
def fnWorldChangeUptoCard : Claim7 := { stood := { row := fnWorldChangeUptoRow, standIns := [], harness := (true, "0b88574e3966f29a5700fde5310b4a9d73255c860e3cfbe123706b230b6b56c3"), looks := true }, kinds := [], alts := [], laidByText := true, laidKinds := [.handle], laidTests := true, laidLooks := .later }
def FnWorldChangeUptoCardSaid : Prop := Claim7.holds Tryz.pinned (.plain (OpenSpec.upto fnWorldChangeSpec)) fnWorldChangeUptoCard

/-- THE SECOND FORM's CARD OF 'laws.FnWorldUnknown'. -/
def fnWorldUnknownUptoCard : Claim7 := { stood := { row := fnWorldUnknownUptoRow, standIns := [], harness := (true, "0b88574e3966f29a5700fde5310b4a9d73255c860e3cfbe123706b230b6b56c3"), looks := true }, kinds := [], alts := [], laidByText := true, laidKinds := [.handle], laidTests := true, laidLooks := .later }
def FnWorldUnknownUptoCardSaid : Prop := Claim7.holds Tryz.pinned (.plain (OpenSpec.upto fnWorldUnknownSpec)) fnWorldUnknownUptoCard

/-- THE SECOND FORM's CARD OF 'laws.FnWorldTwice'. -/
def fnWorldTwiceUptoCard : Claim7 := { stood := { row := fnWorldTwiceUptoRow, standIns := [], harness := (true, "0b88574e3966f29a5700fde5310b4a9d73255c860e3cfbe123706b230b6b56c3"), looks := true }, kinds := [], alts := [], laidByText := true, laidKinds := [.handle], laidTests := true, laidLooks := .later }
def FnWorldTwiceUptoCardSaid : Prop := Claim7.holds Tryz.pinned (.plain (OpenSpec.upto fnWorldTwiceSpec)) fnWorldTwiceUptoCard

/-- THE SECOND FORM's CARD OF 'laws.FnWorldPlay'. -/
def fnWorldPlayUptoCard : Claim7 := { stood := { row := fnWorldPlayUptoRow, standIns := [], harness := (true, "0b88574e3966f29a5700fde5310b4a9d73255c860e3cfbe123706b230b6b56c3"), looks := true }, kinds := [], alts := [], laidByText := true, laidKinds := [.handle], laidTests := true, laidLooks := .later }
def FnWorldPlayUptoCardSaid : Prop := Claim7.holds Tryz.pinned (.plain (OpenSpec.upto fnWorldPlaySpec)) fnWorldPlayUptoCard

/-- THE SECOND FORM's CARD OF 'laws.FnCalmValid'. -/
def fnCalmValidUptoCard : Claim7 := { stood := { row := fnCalmValidUptoRow, standIns := [], harness := (true, "0b88574e3966f29a5700fde5310b4a9d73255c860e3cfbe123706b230b6b56c3"), looks := true }, kinds := [], alts := [], laidByText := true, laidKinds := [.handle], laidTests := true, laidLooks := .later }
def FnCalmValidUptoCardSaid : Prop := Claim7.holds Tryz.pinned (.plain (OpenSpec.upto fnCalmValidSpec)) fnCalmValidUptoCard

/-- THE SECOND FORM's CARD OF 'laws.FnWorldInvalid'. -/
def fnWorldInvalidUptoCard : Claim7 := { stood := { row := fnWorldInvalidUptoRow, standIns := [], harness := (true, "0b88574e3966f29a5700fde5310b4a9d73255c860e3cfbe123706b230b6b56c3"), looks := true }, kinds := [], alts := [], laidByText := true, laidKinds := [.handle], laidTests := true, laidLooks := .later }
def FnWorldInvalidUptoCardSaid : Prop := Claim7.holds Tryz.pinned (.plain (OpenSpec.upto fnWorldInvalidSpec)) fnWorldInvalidUptoCard
end Rows
end Go.Proofs.YtolgbefghbddeaaGreatDoor
