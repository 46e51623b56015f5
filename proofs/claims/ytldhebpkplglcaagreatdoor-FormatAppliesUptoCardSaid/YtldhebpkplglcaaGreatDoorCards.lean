/-
  DERIVED. GIVEN WITH THE SEED: THE CARDS: each row of YtldhebpkplglcaaGreatDoorRows.lean that lists a variable, with what it lists TIED to the program's text (the seventh form; the later family's looks); each row that meets fmt, with fmt's text TOLD by the authors' own Lean function (tested against real Go, not proved from fmt's source: count such statements apart). THE CARD IS WHAT COUNTS. Prove the row's statement (the work); the ties are given (YtldhebpkplglcaaGreatDoorTie.lean); close each card by the builder's one call (the guide's Derived/Test/ToyasCard.lean, 'card_holds'). Laid BY PROGRAM, IN A SANDBOX (cutbox-door.mjs). By AI agents, Wed Nov 11 2026. No macro, syntax, notation, axiom, sorry.
-/
import Derived.Test.YtldhebpkplglcaaGreatDoorRows
import GoSem.ClaimSeven
namespace Go.Proofs.YtldhebpkplglcaaGreatDoor
namespace Rows

/-- THE TIED CARD OF 'lorgnettelaw20.FormatApplies'. -/
def formatAppliesCard : Claim7 := { stood := { row := formatAppliesRow, standIns := [], harness := (true, "ae989edb815391bf00598d9b20255c6ec79be0ad236d8982261244570eca7b77"), looks := true }, kinds := [], alts := [], laidByText := true, laidKinds := [.data, .data, .data, .data, .sentinel, .pinned], laidTests := true, laidLooks := .later }
def FormatAppliesCardSaid : Prop := Claim7.holds Tryz.pinned (.plain (OpenSpec.ofChange formatAppliesSpec)) formatAppliesCard

/-- THE TIED CARD OF 'lorgnettelaw20.FormatKinds'. -/
def formatKindsCard : Claim7 := { stood := { row := formatKindsRow, standIns := [], harness := (true, "ae989edb815391bf00598d9b20255c6ec79be0ad236d8982261244570eca7b77"), looks := true }, kinds := [], alts := [], laidByText := true, laidKinds := [.data, .data, .data, .data, .sentinel, .pinned], laidTests := true, laidLooks := .later }
def FormatKindsCardSaid : Prop := Claim7.holds Tryz.pinned (.plain (OpenSpec.ofChange formatKindsSpec)) formatKindsCard

/-- THE SECOND FORM's CARD OF 'lorgnettelaw20.FormatApplies'. -/
def formatAppliesUptoCard : Claim7 := { stood := { row := formatAppliesUptoRow, standIns := [], harness := (true, "ae989edb815391bf00598d9b20255c6ec79be0ad236d8982261244570eca7b77"), looks := true }, kinds := [], alts := [], laidByText := true, laidKinds := [.data, .data, .data, .data, .sentinel, .pinned], laidTests := true, laidLooks := .later }
def FormatAppliesUptoCardSaid : Prop := Claim7.holds Tryz.pinned (.plain (OpenSpec.upto formatAppliesSpec)) formatAppliesUptoCard

/-- THE SECOND FORM's CARD OF 'lorgnettelaw20.FormatKinds'. -/
def formatKindsUptoCard : Claim7 := { stood := { row := formatKindsUptoRow, standIns := [], harness := (true, "ae989edb815391bf00598d9b20255c6ec79be0ad236d8982261244570eca7b77"), looks := true }, kinds := [], alts := [], laidByText := true, laidKinds := [.data, .data, .data, .data, .sentinel, .pinned], laidTests := true, laidLooks := .later }
def FormatKindsUptoCardSaid : Prop := Claim7.holds Tryz.pinned (.plain (OpenSpec.upto formatKindsSpec)) formatKindsUptoCard
end Rows
end Go.Proofs.YtldhebpkplglcaaGreatDoor
