/-
  DERIVED. GIVEN WITH THE SEED: THE CARDS: each row of YtfmibcofgckldaaGreatDoorRows.lean that lists a variable, with what it lists TIED to the program's text (the seventh form; the later family's looks); each row that meets fmt, with fmt's text TOLD by the authors' own Lean function (tested against real Go, not proved from fmt's source: count such statements apart). THE CARD IS WHAT COUNTS. Prove the row's statement (the work); the ties are given (YtfmibcofgckldaaGreatDoorTie.lean); close each card by the builder's one call (the guide's Derived/Test/ToyasCard.lean, 'card_holds'). Laid BY PROGRAM, IN A SANDBOX (cutbox-door.mjs). By AI agents, Wed Nov 11 2026. No macro, syntax, notation, axiom, sorry.
-/
import Derived.Test.YtfmibcofgckldaaGreatDoorRows
import GoSem.ClaimSeven
namespace Go.Proofs.YtfmibcofgckldaaGreatDoor
namespace Rows

/-- THE TIED CARD OF 'laws.FnWorldSent'. -/
def fnWorldSentCard : Claim7 := { stood := { row := fnWorldSentRow, standIns := [], harness := (true, "f6a317a23dd1ee8c09a768da66efcfbaf3b078b2529fbb5caec4172cd33d1f77"), looks := true }, kinds := [], alts := [], laidByText := true, laidKinds := [.handle], laidTests := true, laidLooks := .later }
def FnWorldSentCardSaid : Prop := Claim7.holds Tryz.pinned (.plain (OpenSpec.ofChange fnWorldSentSpec)) fnWorldSentCard

/-- THE TIED CARD OF 'laws.FnWorldOnce'. -/
def fnWorldOnceCard : Claim7 := { stood := { row := fnWorldOnceRow, standIns := [], harness := (true, "f6a317a23dd1ee8c09a768da66efcfbaf3b078b2529fbb5caec4172cd33d1f77"), looks := true }, kinds := [], alts := [], laidByText := true, laidKinds := [.handle], laidTests := true, laidLooks := .later }
def FnWorldOnceCardSaid : Prop := Claim7.holds Tryz.pinned (.plain (OpenSpec.ofChange fnWorldOnceSpec)) fnWorldOnceCard

/-- THE TIED CARD OF 'laws.FnWorldAlike'. -/
def fnWorldAlikeCard : Claim7 := { stood := { row := fnWorldAlikeRow, standIns := [], harness := (true, "f6a317a23dd1ee8c09a768da66efcfbaf3b078b2529fbb5caec4172cd33d1f77"), looks := true }, kinds := [], alts := [], laidByText := true, laidKinds := [.handle], laidTests := true, laidLooks := .later }
def FnWorldAlikeCardSaid : Prop := Claim7.holds Tryz.pinned (.plain (OpenSpec.ofChange fnWorldAlikeSpec)) fnWorldAlikeCard

/-- THE TIED CARD OF 'laws.FnWorldChanged'. -/
def fnWorldChangedCard : Claim7 := { stood := { row := fnWorldChangedRow, standIns := [], harness := (true, "f6a317a23dd1ee8c09a768da66efcfbaf3b078b2529fbb5caec4172cd33d1f77"), looks := true }, kinds := [], alts := [], laidByText := true, laidKinds := [.handle], laidTests := true, laidLooks := .later }
def FnWorldChangedCardSaid : Prop := Claim7.holds Tryz.pinned (.plain (OpenSpec.ofChange fnWorldChangedSpec)) fnWorldChangedCard

/-- THE TIED CARD OF 'laws.FnWorldReplay'. -/
def fnWorldReplayCard : Claim7 := { stood := { row := fnWorldReplayRow, standIns := [], harness := (true, "f6a317a23dd1ee8c09a768da66efcfbaf3b078b2529fbb5caec4172cd33d1f77"), looks := true }, kinds := [], alts := [], laidByText := true, laidKinds := [.handle], laidTests := true, laidLooks := .later }
def FnWorldReplayCardSaid : Prop := Claim7.holds Tryz.pinned (.plain (OpenSpec.ofChange fnWorldReplaySpec)) fnWorldReplayCard

/-- THE TIED CARD OF 'laws.FnCalmEmpty'. -/
def fnCalmEmptyCard : Claim7 := { stood := { row := fnCalmEmptyRow, standIns := [], harness := (true, "f6a317a23dd1ee8c09a768da66efcfbaf3b078b2529fbb5caec4172cd33d1f77"), looks := true }, kinds := [], alts := [], laidByText := true, laidKinds := [.handle], laidTests := true, laidLooks := .later }
def FnCalmEmptyCardSaid : Prop := Claim7.holds Tryz.pinned (.plain (OpenSpec.ofChange fnCalmEmptySpec)) fnCalmEmptyCard

/-- THE TIED CARD OF 'laws.FnCalmWhole'. -/
def fnCalmWholeCard : Claim7 := { stood := { row := fnCalmWholeRow, standIns := [], harness := (true, "f6a317a23dd1ee8c09a768da66efcfbaf3b078b2529fbb5caec4172cd33d1f77"), looks := true }, kinds := [], alts := [], laidByText := true, laidKinds := [.handle], laidTests := true, laidLooks := .later }
def FnCalmWholeCardSaid : Prop := Claim7.holds Tryz.pinned (.plain (OpenSpec.ofChange fnCalmWholeSpec)) fnCalmWholeCard

/-- THE TIED CARD OF 'laws.FnCalmOnce'. -/
def fnCalmOnceCard : Claim7 := { stood := { row := fnCalmOnceRow, standIns := [], harness := (true, "f6a317a23dd1ee8c09a768da66efcfbaf3b078b2529fbb5caec4172cd33d1f77"), looks := true }, kinds := [], alts := [], laidByText := true, laidKinds := [.handle], laidTests := true, laidLooks := .later }
def FnCalmOnceCardSaid : Prop := Claim7.holds Tryz.pinned (.plain (OpenSpec.ofChange fnCalmOnceSpec)) fnCalmOnceCard

/-- THE TIED CARD OF 'laws.FnCalmTwice'. -/
def fnCalmTwiceCard : Claim7 := { stood := { row := fnCalmTwiceRow, standIns := [], harness := (true, "f6a317a23dd1ee8c09a768da66efcfbaf3b078b2529fbb5caec4172cd33d1f77"), looks := true }, kinds := [], alts := [], laidByText := true, laidKinds := [.handle], laidTests := true, laidLooks := .later }
def FnCalmTwiceCardSaid : Prop := Claim7.holds Tryz.pinned (.plain (OpenSpec.ofChange fnCalmTwiceSpec)) fnCalmTwiceCard

/-- THE SECOND FORM's CARD OF 'laws.FnWorldSent'. -/
def fnWorldSentUptoCard : Claim7 := { stood := { row := fnWorldSentUptoRow, standIns := [], harness := (true, "f6a317a23dd1ee8c09a768da66efcfbaf3b078b2529fbb5caec4172cd33d1f77"), looks := true }, kinds := [], alts := [], laidByText := true, laidKinds := [.handle], laidTests := true, laidLooks := .later }
def FnWorldSentUptoCardSaid : Prop := Claim7.holds Tryz.pinned (.plain (OpenSpec.upto fnWorldSentSpec)) fnWorldSentUptoCard

/-- THE SECOND FORM's CARD OF 'laws.FnWorldOnce'. -/
def fnWorldOnceUptoCard : Claim7 := { stood := { row := fnWorldOnceUptoRow, standIns := [], harness := (true, "f6a317a23dd1ee8c09a768da66efcfbaf3b078b2529fbb5caec4172cd33d1f77"), looks := true }, kinds := [], alts := [], laidByText := true, laidKinds := [.handle], laidTests := true, laidLooks := .later }
def FnWorldOnceUptoCardSaid : Prop := Claim7.holds Tryz.pinned (.plain (OpenSpec.upto fnWorldOnceSpec)) fnWorldOnceUptoCard

/-- THE SECOND FORM's CARD OF 'laws.FnWorldAlike'. -/
def fnWorldAlikeUptoCard : Claim7 := { stood := { row := fnWorldAlikeUptoRow, standIns := [], harness := (true, "f6a317a23dd1ee8c09a768da66efcfbaf3b078b2529fbb5caec4172cd33d1f77"), looks := true }, kinds := [], alts := [], laidByText := true, laidKinds := [.handle], laidTests := true, laidLooks := .later }
def FnWorldAlikeUptoCardSaid : Prop := Claim7.holds Tryz.pinned (.plain (OpenSpec.upto fnWorldAlikeSpec)) fnWorldAlikeUptoCard

/-- THE SECOND FORM's CARD OF 'laws.FnWorldChanged'. -/
def fnWorldChangedUptoCard : Claim7 := { stood := { row := fnWorldChangedUptoRow, standIns := [], harness := (true, "f6a317a23dd1ee8c09a768da66efcfbaf3b078b2529fbb5caec4172cd33d1f77"), looks := true }, kinds := [], alts := [], laidByText := true, laidKinds := [.handle], laidTests := true, laidLooks := .later }
def FnWorldChangedUptoCardSaid : Prop := Claim7.holds Tryz.pinned (.plain (OpenSpec.upto fnWorldChangedSpec)) fnWorldChangedUptoCard

/-- THE SECOND FORM's CARD OF 'laws.FnWorldReplay'. -/
def fnWorldReplayUptoCard : Claim7 := { stood := { row := fnWorldReplayUptoRow, standIns := [], harness := (true, "f6a317a23dd1ee8c09a768da66efcfbaf3b078b2529fbb5caec4172cd33d1f77"), looks := true }, kinds := [], alts := [], laidByText := true, laidKinds := [.handle], laidTests := true, laidLooks := .later }
def FnWorldReplayUptoCardSaid : Prop := Claim7.holds Tryz.pinned (.plain (OpenSpec.upto fnWorldReplaySpec)) fnWorldReplayUptoCard

/-- THE SECOND FORM's CARD OF 'laws.FnCalmEmpty'. -/
def fnCalmEmptyUptoCard : Claim7 := { stood := { row := fnCalmEmptyUptoRow, standIns := [], harness := (true, "f6a317a23dd1ee8c09a768da66efcfbaf3b078b2529fbb5caec4172cd33d1f77"), looks := true }, kinds := [], alts := [], laidByText := true, laidKinds := [.handle], laidTests := true, laidLooks := .later }
def FnCalmEmptyUptoCardSaid : Prop := Claim7.holds Tryz.pinned (.plain (OpenSpec.upto fnCalmEmptySpec)) fnCalmEmptyUptoCard

/-- THE SECOND FORM's CARD OF 'laws.FnCalmWhole'. -/
def fnCalmWholeUptoCard : Claim7 := { stood := { row := fnCalmWholeUptoRow, standIns := [], harness := (true, "f6a317a23dd1ee8c09a768da66efcfbaf3b078b2529fbb5caec4172cd33d1f77"), looks := true }, kinds := [], alts := [], laidByText := true, laidKinds := [.handle], laidTests := true, laidLooks := .later }
def FnCalmWholeUptoCardSaid : Prop := Claim7.holds Tryz.pinned (.plain (OpenSpec.upto fnCalmWholeSpec)) fnCalmWholeUptoCard

/-- THE SECOND FORM's CARD OF 'laws.FnCalmOnce'. -/
def fnCalmOnceUptoCard : Claim7 := { stood := { row := fnCalmOnceUptoRow, standIns := [], harness := (true, "f6a317a23dd1ee8c09a768da66efcfbaf3b078b2529fbb5caec4172cd33d1f77"), looks := true }, kinds := [], alts := [], laidByText := true, laidKinds := [.handle], laidTests := true, laidLooks := .later }
def FnCalmOnceUptoCardSaid : Prop := Claim7.holds Tryz.pinned (.plain (OpenSpec.upto fnCalmOnceSpec)) fnCalmOnceUptoCard

/-- THE SECOND FORM's CARD OF 'laws.FnCalmTwice'. -/
def fnCalmTwiceUptoCard : Claim7 := { stood := { row := fnCalmTwiceUptoRow, standIns := [], harness := (true, "f6a317a23dd1ee8c09a768da66efcfbaf3b078b2529fbb5caec4172cd33d1f77"), looks := true }, kinds := [], alts := [], laidByText := true, laidKinds := [.handle], laidTests := true, laidLooks := .later }
def FnCalmTwiceUptoCardSaid : Prop := Claim7.holds Tryz.pinned (.plain (OpenSpec.upto fnCalmTwiceSpec)) fnCalmTwiceUptoCard
end Rows
end Go.Proofs.YtfmibcofgckldaaGreatDoor
