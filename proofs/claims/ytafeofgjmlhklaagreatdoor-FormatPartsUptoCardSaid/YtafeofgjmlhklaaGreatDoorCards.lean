/-
  DERIVED. GIVEN WITH THE SEED: THE CARDS: each row of YtafeofgjmlhklaaGreatDoorRows.lean that lists a variable, with what it lists TIED to the program's text (the seventh form; the later family's looks); each row that meets fmt, with fmt's text TOLD by the authors' own Lean function (tested against real Go, not proved from fmt's source: count such statements apart). THE CARD IS WHAT COUNTS. Prove the row's statement (the work); the ties are given (YtafeofgjmlhklaaGreatDoorTie.lean); close each card by the builder's one call (the guide's Derived/Test/ToyasCard.lean, 'card_holds'). Laid BY PROGRAM, IN A SANDBOX (cutbox-door.mjs). By AI agents, Wed Nov 11 2026. No macro, syntax, notation, axiom, sorry.
-/
import Derived.Test.YtafeofgjmlhklaaGreatDoorRows
import GoSem.ClaimSeven
namespace Go.Proofs.YtafeofgjmlhklaaGreatDoor
namespace Rows

/-- THE TIED CARD OF 'lorgnettelaw20.FormatApplies'. -/
def formatAppliesCard : Claim7 := { stood := { row := formatAppliesRow, standIns := [], harness := (true, "0a6690598e0da804729a2a12ed20f8c0204bee3309aef9c023d00e968251af97"), looks := true }, kinds := [], alts := [], laidByText := true, laidKinds := [.data, .data, .data, .data, .sentinel, .pinned], laidTests := true, laidLooks := .later }
def FormatAppliesCardSaid : Prop := Claim7.holds Tryz.pinned (.plain (OpenSpec.ofChange formatAppliesSpec)) formatAppliesCard

/-- THE TIED CARD OF 'lorgnettelaw20.FormatSplits'. -/
def formatSplitsCard : Claim7 := { stood := { row := formatSplitsRow, standIns := [], harness := (true, "0a6690598e0da804729a2a12ed20f8c0204bee3309aef9c023d00e968251af97"), looks := true }, kinds := [], alts := [], laidByText := true, laidKinds := [.data, .data, .data, .data, .sentinel, .pinned], laidTests := true, laidLooks := .later }
def FormatSplitsCardSaid : Prop := Claim7.holds Tryz.pinned (.plain (OpenSpec.ofChange formatSplitsSpec)) formatSplitsCard

/-- THE TIED CARD OF 'lorgnettelaw20.FormatBack'. -/
def formatBackCard : Claim7 := { stood := { row := formatBackRow, standIns := [], harness := (true, "0a6690598e0da804729a2a12ed20f8c0204bee3309aef9c023d00e968251af97"), looks := true }, kinds := [], alts := [], laidByText := true, laidKinds := [.data, .data, .data, .data, .sentinel, .pinned], laidTests := true, laidLooks := .later }
def FormatBackCardSaid : Prop := Claim7.holds Tryz.pinned (.plain (OpenSpec.ofChange formatBackSpec)) formatBackCard

/-- THE TIED CARD OF 'lorgnettelaw20.FormatKinds'. -/
def formatKindsCard : Claim7 := { stood := { row := formatKindsRow, standIns := [], harness := (true, "0a6690598e0da804729a2a12ed20f8c0204bee3309aef9c023d00e968251af97"), looks := true }, kinds := [], alts := [], laidByText := true, laidKinds := [.data, .data, .data, .data, .sentinel, .pinned], laidTests := true, laidLooks := .later }
def FormatKindsCardSaid : Prop := Claim7.holds Tryz.pinned (.plain (OpenSpec.ofChange formatKindsSpec)) formatKindsCard

/-- THE TIED CARD OF 'lorgnettelaw20.FormatCases'. -/
def formatCasesCard : Claim7 := { stood := { row := formatCasesRow, standIns := [], harness := (true, "0a6690598e0da804729a2a12ed20f8c0204bee3309aef9c023d00e968251af97"), looks := true }, kinds := [], alts := [], laidByText := true, laidKinds := [.data, .data, .data, .data, .sentinel, .pinned], laidTests := true, laidLooks := .later }
def FormatCasesCardSaid : Prop := Claim7.holds Tryz.pinned (.plain (OpenSpec.ofChange formatCasesSpec)) formatCasesCard

/-- THE TIED CARD OF 'lorgnettelaw20.FormatTrims'. -/
def formatTrimsCard : Claim7 := { stood := { row := formatTrimsRow, standIns := [], harness := (true, "0a6690598e0da804729a2a12ed20f8c0204bee3309aef9c023d00e968251af97"), looks := true }, kinds := [], alts := [], laidByText := true, laidKinds := [.data, .data, .data, .data, .sentinel, .pinned], laidTests := true, laidLooks := .later }
def FormatTrimsCardSaid : Prop := Claim7.holds Tryz.pinned (.plain (OpenSpec.ofChange formatTrimsSpec)) formatTrimsCard

/-- THE TIED CARD OF 'lorgnettelaw20.FormatParts'. -/
def formatPartsCard : Claim7 := { stood := { row := formatPartsRow, standIns := [], harness := (true, "0a6690598e0da804729a2a12ed20f8c0204bee3309aef9c023d00e968251af97"), looks := true }, kinds := [], alts := [], laidByText := true, laidKinds := [.data, .data, .data, .data, .sentinel, .pinned], laidTests := true, laidLooks := .later }
def FormatPartsCardSaid : Prop := Claim7.holds Tryz.pinned (.plain (OpenSpec.ofChange formatPartsSpec)) formatPartsCard

/-- THE SECOND FORM's CARD OF 'lorgnettelaw20.FormatApplies'. -/
def formatAppliesUptoCard : Claim7 := { stood := { row := formatAppliesUptoRow, standIns := [], harness := (true, "0a6690598e0da804729a2a12ed20f8c0204bee3309aef9c023d00e968251af97"), looks := true }, kinds := [], alts := [], laidByText := true, laidKinds := [.data, .data, .data, .data, .sentinel, .pinned], laidTests := true, laidLooks := .later }
def FormatAppliesUptoCardSaid : Prop := Claim7.holds Tryz.pinned (.plain (OpenSpec.upto formatAppliesSpec)) formatAppliesUptoCard

/-- THE SECOND FORM's CARD OF 'lorgnettelaw20.FormatSplits'. -/
def formatSplitsUptoCard : Claim7 := { stood := { row := formatSplitsUptoRow, standIns := [], harness := (true, "0a6690598e0da804729a2a12ed20f8c0204bee3309aef9c023d00e968251af97"), looks := true }, kinds := [], alts := [], laidByText := true, laidKinds := [.data, .data, .data, .data, .sentinel, .pinned], laidTests := true, laidLooks := .later }
def FormatSplitsUptoCardSaid : Prop := Claim7.holds Tryz.pinned (.plain (OpenSpec.upto formatSplitsSpec)) formatSplitsUptoCard

/-- THE SECOND FORM's CARD OF 'lorgnettelaw20.FormatBack'. -/
def formatBackUptoCard : Claim7 := { stood := { row := formatBackUptoRow, standIns := [], harness := (true, "0a6690598e0da804729a2a12ed20f8c0204bee3309aef9c023d00e968251af97"), looks := true }, kinds := [], alts := [], laidByText := true, laidKinds := [.data, .data, .data, .data, .sentinel, .pinned], laidTests := true, laidLooks := .later }
def FormatBackUptoCardSaid : Prop := Claim7.holds Tryz.pinned (.plain (OpenSpec.upto formatBackSpec)) formatBackUptoCard

/-- THE SECOND FORM's CARD OF 'lorgnettelaw20.FormatKinds'. -/
def formatKindsUptoCard : Claim7 := { stood := { row := formatKindsUptoRow, standIns := [], harness := (true, "0a6690598e0da804729a2a12ed20f8c0204bee3309aef9c023d00e968251af97"), looks := true }, kinds := [], alts := [], laidByText := true, laidKinds := [.data, .data, .data, .data, .sentinel, .pinned], laidTests := true, laidLooks := .later }
def FormatKindsUptoCardSaid : Prop := Claim7.holds Tryz.pinned (.plain (OpenSpec.upto formatKindsSpec)) formatKindsUptoCard

/-- THE SECOND FORM's CARD OF 'lorgnettelaw20.FormatCases'. -/
def formatCasesUptoCard : Claim7 := { stood := { row := formatCasesUptoRow, standIns := [], harness := (true, "0a6690598e0da804729a2a12ed20f8c0204bee3309aef9c023d00e968251af97"), looks := true }, kinds := [], alts := [], laidByText := true, laidKinds := [.data, .data, .data, .data, .sentinel, .pinned], laidTests := true, laidLooks := .later }
def FormatCasesUptoCardSaid : Prop := Claim7.holds Tryz.pinned (.plain (OpenSpec.upto formatCasesSpec)) formatCasesUptoCard

/-- THE SECOND FORM's CARD OF 'lorgnettelaw20.FormatTrims'. -/
def formatTrimsUptoCard : Claim7 := { stood := { row := formatTrimsUptoRow, standIns := [], harness := (true, "0a6690598e0da804729a2a12ed20f8c0204bee3309aef9c023d00e968251af97"), looks := true }, kinds := [], alts := [], laidByText := true, laidKinds := [.data, .data, .data, .data, .sentinel, .pinned], laidTests := true, laidLooks := .later }
def FormatTrimsUptoCardSaid : Prop := Claim7.holds Tryz.pinned (.plain (OpenSpec.upto formatTrimsSpec)) formatTrimsUptoCard

/-- THE SECOND FORM's CARD OF 'lorgnettelaw20.FormatParts'. -/
def formatPartsUptoCard : Claim7 := { stood := { row := formatPartsUptoRow, standIns := [], harness := (true, "0a6690598e0da804729a2a12ed20f8c0204bee3309aef9c023d00e968251af97"), looks := true }, kinds := [], alts := [], laidByText := true, laidKinds := [.data, .data, .data, .data, .sentinel, .pinned], laidTests := true, laidLooks := .later }
def FormatPartsUptoCardSaid : Prop := Claim7.holds Tryz.pinned (.plain (OpenSpec.upto formatPartsSpec)) formatPartsUptoCard
end Rows
end Go.Proofs.YtafeofgjmlhklaaGreatDoor
