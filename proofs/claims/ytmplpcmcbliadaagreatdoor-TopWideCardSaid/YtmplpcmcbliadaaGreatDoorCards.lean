/-
  DERIVED. GIVEN WITH THE SEED: THE CARDS: each row of YtmplpcmcbliadaaGreatDoorRows.lean that lists a variable, with what it lists TIED to the program's text (the seventh form; the later family's looks); each row that meets fmt, with fmt's text TOLD by the authors' own Lean function (tested against real Go, not proved from fmt's source: count such statements apart). THE CARD IS WHAT COUNTS. Prove the row's statement (the work); the ties are given (YtmplpcmcbliadaaGreatDoorTie.lean); close each card by the builder's one call (the guide's Derived/Test/ToyasCard.lean, 'card_holds'). Laid BY PROGRAM, IN A SANDBOX (cutbox-door.mjs). By AI agents, Wed Nov 11 2026. No macro, syntax, notation, axiom, sorry.
-/
import Derived.Test.YtmplpcmcbliadaaGreatDoorRows
import GoSem.ClaimSeven
namespace Go.Proofs.YtmplpcmcbliadaaGreatDoor
namespace Rows

/-- THE TIED CARD OF 'phosphortop.TopAsks'. -/
def topAsksCard : Claim7 := { stood := { row := topAsksRow, standIns := [], harness := (true, "7105b376a4775c507b0ca9435252541065ced0a3a68ff9b2ba849aa36dd05310"), looks := true }, kinds := [], alts := [], laidByText := true, laidKinds := [.data, .data, .data, .data, .pinned], laidTests := true, laidLooks := .later }
def TopAsksCardSaid : Prop := Claim7.holds Tryz.pinned (.plain (OpenSpec.ofChange topAsksSpec)) topAsksCard

/-- THE TIED CARD OF 'phosphortop.TopQuiet'. -/
def topQuietCard : Claim7 := { stood := { row := topQuietRow, standIns := [], harness := (true, "7105b376a4775c507b0ca9435252541065ced0a3a68ff9b2ba849aa36dd05310"), looks := true }, kinds := [], alts := [], laidByText := true, laidKinds := [.data, .data, .data, .data, .pinned], laidTests := true, laidLooks := .later }
def TopQuietCardSaid : Prop := Claim7.holds Tryz.pinned (.plain (OpenSpec.ofChange topQuietSpec)) topQuietCard

/-- THE TIED CARD OF 'phosphortop.TopOrder'. -/
def topOrderCard : Claim7 := { stood := { row := topOrderRow, standIns := [], harness := (true, "7105b376a4775c507b0ca9435252541065ced0a3a68ff9b2ba849aa36dd05310"), looks := true }, kinds := [], alts := [], laidByText := true, laidKinds := [.data, .data, .data, .data, .pinned], laidTests := true, laidLooks := .later }
def TopOrderCardSaid : Prop := Claim7.holds Tryz.pinned (.plain (OpenSpec.ofChange topOrderSpec)) topOrderCard

/-- THE TIED CARD OF 'phosphortop.TopSixel'. -/
def topSixelCard : Claim7 := { stood := { row := topSixelRow, standIns := [], harness := (true, "7105b376a4775c507b0ca9435252541065ced0a3a68ff9b2ba849aa36dd05310"), looks := true }, kinds := [], alts := [], laidByText := true, laidKinds := [.data, .data, .data, .data, .pinned], laidTests := true, laidLooks := .later }
def TopSixelCardSaid : Prop := Claim7.holds Tryz.pinned (.plain (OpenSpec.ofChange topSixelSpec)) topSixelCard

/-- THE TIED CARD OF 'phosphortop.TopWide'. -/
def topWideCard : Claim7 := { stood := { row := topWideRow, standIns := [], harness := (true, "7105b376a4775c507b0ca9435252541065ced0a3a68ff9b2ba849aa36dd05310"), looks := true }, kinds := [], alts := [], laidByText := true, laidKinds := [.data, .data, .data, .data, .pinned], laidTests := true, laidLooks := .later }
def TopWideCardSaid : Prop := Claim7.holds Tryz.pinned (.plain (OpenSpec.ofChange topWideSpec)) topWideCard

/-- THE TIED CARD OF 'phosphortop.TopText'. -/
def topTextCard : Claim7 := { stood := { row := topTextRow, standIns := [], harness := (true, "7105b376a4775c507b0ca9435252541065ced0a3a68ff9b2ba849aa36dd05310"), looks := true }, kinds := [], alts := [], laidByText := true, laidKinds := [.data, .data, .data, .data, .pinned], laidTests := true, laidLooks := .later }
def TopTextCardSaid : Prop := Claim7.holds Tryz.pinned (.plain (OpenSpec.ofChange topTextSpec)) topTextCard

/-- THE TIED CARD OF 'phosphortop.TopNoSpace'. -/
def topNoSpaceCard : Claim7 := { stood := { row := topNoSpaceRow, standIns := [], harness := (true, "7105b376a4775c507b0ca9435252541065ced0a3a68ff9b2ba849aa36dd05310"), looks := true }, kinds := [], alts := [], laidByText := true, laidKinds := [.data, .data, .data, .data, .pinned], laidTests := true, laidLooks := .later }
def TopNoSpaceCardSaid : Prop := Claim7.holds Tryz.pinned (.plain (OpenSpec.ofChange topNoSpaceSpec)) topNoSpaceCard

/-- THE TIED CARD OF 'phosphortop.TopScrolls'. -/
def topScrollsCard : Claim7 := { stood := { row := topScrollsRow, standIns := [], harness := (true, "7105b376a4775c507b0ca9435252541065ced0a3a68ff9b2ba849aa36dd05310"), looks := true }, kinds := [], alts := [], laidByText := true, laidKinds := [.data, .data, .data, .data, .pinned], laidTests := true, laidLooks := .later }
def TopScrollsCardSaid : Prop := Claim7.holds Tryz.pinned (.plain (OpenSpec.ofChange topScrollsSpec)) topScrollsCard

/-- THE TIED CARD OF 'phosphortop.TopErase'. -/
def topEraseCard : Claim7 := { stood := { row := topEraseRow, standIns := [], harness := (true, "7105b376a4775c507b0ca9435252541065ced0a3a68ff9b2ba849aa36dd05310"), looks := true }, kinds := [], alts := [], laidByText := true, laidKinds := [.data, .data, .data, .data, .pinned], laidTests := true, laidLooks := .later }
def TopEraseCardSaid : Prop := Claim7.holds Tryz.pinned (.plain (OpenSpec.ofChange topEraseSpec)) topEraseCard

/-- THE TIED CARD OF 'phosphortop.TopNumbers'. -/
def topNumbersCard : Claim7 := { stood := { row := topNumbersRow, standIns := [], harness := (true, "7105b376a4775c507b0ca9435252541065ced0a3a68ff9b2ba849aa36dd05310"), looks := true }, kinds := [], alts := [], laidByText := true, laidKinds := [.data, .data, .data, .data, .pinned], laidTests := true, laidLooks := .later }
def TopNumbersCardSaid : Prop := Claim7.holds Tryz.pinned (.plain (OpenSpec.ofChange topNumbersSpec)) topNumbersCard

/-- THE SECOND FORM's CARD OF 'phosphortop.TopAsks'. -/
def topAsksUptoCard : Claim7 := { stood := { row := topAsksUptoRow, standIns := [], harness := (true, "7105b376a4775c507b0ca9435252541065ced0a3a68ff9b2ba849aa36dd05310"), looks := true }, kinds := [], alts := [], laidByText := true, laidKinds := [.data, .data, .data, .data, .pinned], laidTests := true, laidLooks := .later }
def TopAsksUptoCardSaid : Prop := Claim7.holds Tryz.pinned (.plain (OpenSpec.upto topAsksSpec)) topAsksUptoCard

/-- THE SECOND FORM's CARD OF 'phosphortop.TopQuiet'. -/
def topQuietUptoCard : Claim7 := { stood := { row := topQuietUptoRow, standIns := [], harness := (true, "7105b376a4775c507b0ca9435252541065ced0a3a68ff9b2ba849aa36dd05310"), looks := true }, kinds := [], alts := [], laidByText := true, laidKinds := [.data, .data, .data, .data, .pinned], laidTests := true, laidLooks := .later }
def TopQuietUptoCardSaid : Prop := Claim7.holds Tryz.pinned (.plain (OpenSpec.upto topQuietSpec)) topQuietUptoCard

/-- THE SECOND FORM's CARD OF 'phosphortop.TopOrder'. -/
def topOrderUptoCard : Claim7 := { stood := { row := topOrderUptoRow, standIns := [], harness := (true, "7105b376a4775c507b0ca9435252541065ced0a3a68ff9b2ba849aa36dd05310"), looks := true }, kinds := [], alts := [], laidByText := true, laidKinds := [.data, .data, .data, .data, .pinned], laidTests := true, laidLooks := .later }
def TopOrderUptoCardSaid : Prop := Claim7.holds Tryz.pinned (.plain (OpenSpec.upto topOrderSpec)) topOrderUptoCard

/-- THE SECOND FORM's CARD OF 'phosphortop.TopSixel'. -/
def topSixelUptoCard : Claim7 := { stood := { row := topSixelUptoRow, standIns := [], harness := (true, "7105b376a4775c507b0ca9435252541065ced0a3a68ff9b2ba849aa36dd05310"), looks := true }, kinds := [], alts := [], laidByText := true, laidKinds := [.data, .data, .data, .data, .pinned], laidTests := true, laidLooks := .later }
def TopSixelUptoCardSaid : Prop := Claim7.holds Tryz.pinned (.plain (OpenSpec.upto topSixelSpec)) topSixelUptoCard

/-- THE SECOND FORM's CARD OF 'phosphortop.TopWide'. -/
def topWideUptoCard : Claim7 := { stood := { row := topWideUptoRow, standIns := [], harness := (true, "7105b376a4775c507b0ca9435252541065ced0a3a68ff9b2ba849aa36dd05310"), looks := true }, kinds := [], alts := [], laidByText := true, laidKinds := [.data, .data, .data, .data, .pinned], laidTests := true, laidLooks := .later }
def TopWideUptoCardSaid : Prop := Claim7.holds Tryz.pinned (.plain (OpenSpec.upto topWideSpec)) topWideUptoCard

/-- THE SECOND FORM's CARD OF 'phosphortop.TopText'. -/
def topTextUptoCard : Claim7 := { stood := { row := topTextUptoRow, standIns := [], harness := (true, "7105b376a4775c507b0ca9435252541065ced0a3a68ff9b2ba849aa36dd05310"), looks := true }, kinds := [], alts := [], laidByText := true, laidKinds := [.data, .data, .data, .data, .pinned], laidTests := true, laidLooks := .later }
def TopTextUptoCardSaid : Prop := Claim7.holds Tryz.pinned (.plain (OpenSpec.upto topTextSpec)) topTextUptoCard

/-- THE SECOND FORM's CARD OF 'phosphortop.TopNoSpace'. -/
def topNoSpaceUptoCard : Claim7 := { stood := { row := topNoSpaceUptoRow, standIns := [], harness := (true, "7105b376a4775c507b0ca9435252541065ced0a3a68ff9b2ba849aa36dd05310"), looks := true }, kinds := [], alts := [], laidByText := true, laidKinds := [.data, .data, .data, .data, .pinned], laidTests := true, laidLooks := .later }
def TopNoSpaceUptoCardSaid : Prop := Claim7.holds Tryz.pinned (.plain (OpenSpec.upto topNoSpaceSpec)) topNoSpaceUptoCard

/-- THE SECOND FORM's CARD OF 'phosphortop.TopScrolls'. -/
def topScrollsUptoCard : Claim7 := { stood := { row := topScrollsUptoRow, standIns := [], harness := (true, "7105b376a4775c507b0ca9435252541065ced0a3a68ff9b2ba849aa36dd05310"), looks := true }, kinds := [], alts := [], laidByText := true, laidKinds := [.data, .data, .data, .data, .pinned], laidTests := true, laidLooks := .later }
def TopScrollsUptoCardSaid : Prop := Claim7.holds Tryz.pinned (.plain (OpenSpec.upto topScrollsSpec)) topScrollsUptoCard

/-- THE SECOND FORM's CARD OF 'phosphortop.TopErase'. -/
def topEraseUptoCard : Claim7 := { stood := { row := topEraseUptoRow, standIns := [], harness := (true, "7105b376a4775c507b0ca9435252541065ced0a3a68ff9b2ba849aa36dd05310"), looks := true }, kinds := [], alts := [], laidByText := true, laidKinds := [.data, .data, .data, .data, .pinned], laidTests := true, laidLooks := .later }
def TopEraseUptoCardSaid : Prop := Claim7.holds Tryz.pinned (.plain (OpenSpec.upto topEraseSpec)) topEraseUptoCard

/-- THE SECOND FORM's CARD OF 'phosphortop.TopNumbers'. -/
def topNumbersUptoCard : Claim7 := { stood := { row := topNumbersUptoRow, standIns := [], harness := (true, "7105b376a4775c507b0ca9435252541065ced0a3a68ff9b2ba849aa36dd05310"), looks := true }, kinds := [], alts := [], laidByText := true, laidKinds := [.data, .data, .data, .data, .pinned], laidTests := true, laidLooks := .later }
def TopNumbersUptoCardSaid : Prop := Claim7.holds Tryz.pinned (.plain (OpenSpec.upto topNumbersSpec)) topNumbersUptoCard
end Rows
end Go.Proofs.YtmplpcmcbliadaaGreatDoor
