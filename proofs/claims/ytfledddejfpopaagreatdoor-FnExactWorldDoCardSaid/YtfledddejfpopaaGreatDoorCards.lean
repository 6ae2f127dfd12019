/-
  DERIVED. GIVEN WITH THE SEED: THE CARDS: each row of YtfledddejfpopaaGreatDoorRows.lean that lists a variable, with what it lists TIED to the program's text (the seventh form; the later family's looks); each row that meets fmt, with fmt's text TOLD by the authors' own Lean function (tested against real Go, not proved from fmt's source: count such statements apart). THE CARD IS WHAT COUNTS. Prove the row's statement (the work); the ties are given (YtfledddejfpopaaGreatDoorTie.lean); close each card by the builder's one call (the guide's Derived/Test/ToyasCard.lean, 'card_holds'). Laid BY PROGRAM, IN A SANDBOX (cutbox-door.mjs). By AI agents, Wed Nov 11 2026. No macro, syntax, notation, axiom, sorry.
-/
import Derived.Test.YtfledddejfpopaaGreatDoorRows
import GoSem.ClaimSeven
namespace Go.Proofs.YtfledddejfpopaaGreatDoor
namespace Rows

/-- THE TIED CARD OF 'laws.FnExactWorldPlay'. -/
def fnExactWorldPlayCard : Claim7 := { stood := { row := fnExactWorldPlayRow, standIns := [], harness := (true, "7f92a0a9953bcf8421b53ea28064d59a1af2c672f4f4d58016ed4b0cd9757e76"), looks := true }, kinds := [], alts := [], laidByText := true, laidKinds := [.handle], laidTests := true, laidLooks := .later }
def FnExactWorldPlayCardSaid : Prop := Claim7.holds Tryz.pinned (.plain (OpenSpec.ofChange fnExactWorldPlaySpec)) fnExactWorldPlayCard

/-- THE TIED CARD OF 'laws.FnExactWorldCalm'. -/
def fnExactWorldCalmCard : Claim7 := { stood := { row := fnExactWorldCalmRow, standIns := [], harness := (true, "7f92a0a9953bcf8421b53ea28064d59a1af2c672f4f4d58016ed4b0cd9757e76"), looks := true }, kinds := [], alts := [], laidByText := true, laidKinds := [.handle], laidTests := true, laidLooks := .later }
def FnExactWorldCalmCardSaid : Prop := Claim7.holds Tryz.pinned (.plain (OpenSpec.ofChange fnExactWorldCalmSpec)) fnExactWorldCalmCard

/-- THE TIED CARD OF 'laws.FnExactWorldDo'. -/
def fnExactWorldDoCard : Claim7 := { stood := { row := fnExactWorldDoRow, standIns := [], harness := (true, "7f92a0a9953bcf8421b53ea28064d59a1af2c672f4f4d58016ed4b0cd9757e76"), looks := true }, kinds := [], alts := [], laidByText := true, laidKinds := [.handle], laidTests := true, laidLooks := .later }
def FnExactWorldDoCardSaid : Prop := Claim7.holds Tryz.pinned (.plain (OpenSpec.ofChange fnExactWorldDoSpec)) fnExactWorldDoCard

/-- THE SECOND FORM's CARD OF 'laws.FnExactWorldPlay'. -/
def fnExactWorldPlayUptoCard : Claim7 := { stood := { row := fnExactWorldPlayUptoRow, standIns := [], harness := (true, "7f92a0a9953bcf8421b53ea28064d59a1af2c672f4f4d58016ed4b0cd9757e76"), looks := true }, kinds := [], alts := [], laidByText := true, laidKinds := [.handle], laidTests := true, laidLooks := .later }
def FnExactWorldPlayUptoCardSaid : Prop := Claim7.holds Tryz.pinned (.plain (OpenSpec.upto fnExactWorldPlaySpec)) fnExactWorldPlayUptoCard

/-- THE SECOND FORM's CARD OF 'laws.FnExactWorldCalm'. -/
def fnExactWorldCalmUptoCard : Claim7 := { stood := { row := fnExactWorldCalmUptoRow, standIns := [], harness := (true, "7f92a0a9953bcf8421b53ea28064d59a1af2c672f4f4d58016ed4b0cd9757e76"), looks := true }, kinds := [], alts := [], laidByText := true, laidKinds := [.handle], laidTests := true, laidLooks := .later }
def FnExactWorldCalmUptoCardSaid : Prop := Claim7.holds Tryz.pinned (.plain (OpenSpec.upto fnExactWorldCalmSpec)) fnExactWorldCalmUptoCard

/-- THE SECOND FORM's CARD OF 'laws.FnExactWorldDo'. -/
def fnExactWorldDoUptoCard : Claim7 := { stood := { row := fnExactWorldDoUptoRow, standIns := [], harness := (true, "7f92a0a9953bcf8421b53ea28064d59a1af2c672f4f4d58016ed4b0cd9757e76"), looks := true }, kinds := [], alts := [], laidByText := true, laidKinds := [.handle], laidTests := true, laidLooks := .later }
def FnExactWorldDoUptoCardSaid : Prop := Claim7.holds Tryz.pinned (.plain (OpenSpec.upto fnExactWorldDoSpec)) fnExactWorldDoUptoCard
end Rows
end Go.Proofs.YtfledddejfpopaaGreatDoor
