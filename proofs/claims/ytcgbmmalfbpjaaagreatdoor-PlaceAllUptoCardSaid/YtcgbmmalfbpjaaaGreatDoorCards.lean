/-
  DERIVED. GIVEN WITH THE SEED: THE CARDS: each row of YtcgbmmalfbpjaaaGreatDoorRows.lean that lists a variable, with what it lists TIED to the program's text (the seventh form; the later family's looks); each row that meets fmt, with fmt's text TOLD by the authors' own Lean function (tested against real Go, not proved from fmt's source: count such statements apart). THE CARD IS WHAT COUNTS. Prove the row's statement (the work); the ties are given (YtcgbmmalfbpjaaaGreatDoorTie.lean); close each card by the builder's one call (the guide's Derived/Test/ToyasCard.lean, 'card_holds'). Laid BY PROGRAM, IN A SANDBOX (cutbox-door.mjs). By AI agents, Wed Nov 11 2026. No macro, syntax, notation, axiom, sorry.
-/
import Derived.Test.YtcgbmmalfbpjaaaGreatDoorRows
import GoSem.ClaimSeven
namespace Go.Proofs.YtcgbmmalfbpjaaaGreatDoor
namespace Rows

/-- THE TIED CARD OF 'lorgnettelaw12.PlaceSteps'. -/
def placeStepsCard : Claim7 := { stood := { row := placeStepsRow, standIns := [], harness := (true, "73e94991e20da4fdb73d58c27867b26e66ba6dd398f278036de95f89a8ec3bf9"), looks := true }, kinds := [], alts := [], laidByText := true, laidKinds := [.data, .data, .data, .data, .sentinel, .sentinel, .pinned], laidTests := true, laidLooks := .later }
def PlaceStepsCardSaid : Prop := Claim7.holds Tryz.pinned (.plain (OpenSpec.ofChange placeStepsSpec)) placeStepsCard

/-- THE TIED CARD OF 'lorgnettelaw12.PlaceGets'. -/
def placeGetsCard : Claim7 := { stood := { row := placeGetsRow, standIns := [], harness := (true, "73e94991e20da4fdb73d58c27867b26e66ba6dd398f278036de95f89a8ec3bf9"), looks := true }, kinds := [], alts := [], laidByText := true, laidKinds := [.data, .data, .data, .data, .sentinel, .sentinel, .pinned], laidTests := true, laidLooks := .later }
def PlaceGetsCardSaid : Prop := Claim7.holds Tryz.pinned (.plain (OpenSpec.ofChange placeGetsSpec)) placeGetsCard

/-- THE TIED CARD OF 'lorgnettelaw12.PlaceSets'. -/
def placeSetsCard : Claim7 := { stood := { row := placeSetsRow, standIns := [], harness := (true, "73e94991e20da4fdb73d58c27867b26e66ba6dd398f278036de95f89a8ec3bf9"), looks := true }, kinds := [], alts := [], laidByText := true, laidKinds := [.data, .data, .data, .data, .sentinel, .sentinel, .pinned], laidTests := true, laidLooks := .later }
def PlaceSetsCardSaid : Prop := Claim7.holds Tryz.pinned (.plain (OpenSpec.ofChange placeSetsSpec)) placeSetsCard

/-- THE TIED CARD OF 'lorgnettelaw12.PlaceDeletes'. -/
def placeDeletesCard : Claim7 := { stood := { row := placeDeletesRow, standIns := [], harness := (true, "73e94991e20da4fdb73d58c27867b26e66ba6dd398f278036de95f89a8ec3bf9"), looks := true }, kinds := [], alts := [], laidByText := true, laidKinds := [.data, .data, .data, .data, .sentinel, .sentinel, .pinned], laidTests := true, laidLooks := .later }
def PlaceDeletesCardSaid : Prop := Claim7.holds Tryz.pinned (.plain (OpenSpec.ofChange placeDeletesSpec)) placeDeletesCard

/-- THE TIED CARD OF 'lorgnettelaw12.PlaceBack'. -/
def placeBackCard : Claim7 := { stood := { row := placeBackRow, standIns := [], harness := (true, "73e94991e20da4fdb73d58c27867b26e66ba6dd398f278036de95f89a8ec3bf9"), looks := true }, kinds := [], alts := [], laidByText := true, laidKinds := [.data, .data, .data, .data, .sentinel, .sentinel, .pinned], laidTests := true, laidLooks := .later }
def PlaceBackCardSaid : Prop := Claim7.holds Tryz.pinned (.plain (OpenSpec.ofChange placeBackSpec)) placeBackCard

/-- THE TIED CARD OF 'lorgnettelaw12.PlacePaths'. -/
def placePathsCard : Claim7 := { stood := { row := placePathsRow, standIns := [], harness := (true, "73e94991e20da4fdb73d58c27867b26e66ba6dd398f278036de95f89a8ec3bf9"), looks := true }, kinds := [], alts := [], laidByText := true, laidKinds := [.data, .data, .data, .data, .sentinel, .sentinel, .pinned], laidTests := true, laidLooks := .later }
def PlacePathsCardSaid : Prop := Claim7.holds Tryz.pinned (.plain (OpenSpec.ofChange placePathsSpec)) placePathsCard

/-- THE TIED CARD OF 'lorgnettelaw12.PlaceAll'. -/
def placeAllCard : Claim7 := { stood := { row := placeAllRow, standIns := [], harness := (true, "73e94991e20da4fdb73d58c27867b26e66ba6dd398f278036de95f89a8ec3bf9"), looks := true }, kinds := [], alts := [], laidByText := true, laidKinds := [.data, .data, .data, .data, .sentinel, .sentinel, .pinned], laidTests := true, laidLooks := .later }
def PlaceAllCardSaid : Prop := Claim7.holds Tryz.pinned (.plain (OpenSpec.ofChange placeAllSpec)) placeAllCard

/-- THE SECOND FORM's CARD OF 'lorgnettelaw12.PlaceSteps'. -/
def placeStepsUptoCard : Claim7 := { stood := { row := placeStepsUptoRow, standIns := [], harness := (true, "73e94991e20da4fdb73d58c27867b26e66ba6dd398f278036de95f89a8ec3bf9"), looks := true }, kinds := [], alts := [], laidByText := true, laidKinds := [.data, .data, .data, .data, .sentinel, .sentinel, .pinned], laidTests := true, laidLooks := .later }
def PlaceStepsUptoCardSaid : Prop := Claim7.holds Tryz.pinned (.plain (OpenSpec.upto placeStepsSpec)) placeStepsUptoCard

/-- THE SECOND FORM's CARD OF 'lorgnettelaw12.PlaceGets'. -/
def placeGetsUptoCard : Claim7 := { stood := { row := placeGetsUptoRow, standIns := [], harness := (true, "73e94991e20da4fdb73d58c27867b26e66ba6dd398f278036de95f89a8ec3bf9"), looks := true }, kinds := [], alts := [], laidByText := true, laidKinds := [.data, .data, .data, .data, .sentinel, .sentinel, .pinned], laidTests := true, laidLooks := .later }
def PlaceGetsUptoCardSaid : Prop := Claim7.holds Tryz.pinned (.plain (OpenSpec.upto placeGetsSpec)) placeGetsUptoCard

/-- THE SECOND FORM's CARD OF 'lorgnettelaw12.PlaceSets'. -/
def placeSetsUptoCard : Claim7 := { stood := { row := placeSetsUptoRow, standIns := [], harness := (true, "73e94991e20da4fdb73d58c27867b26e66ba6dd398f278036de95f89a8ec3bf9"), looks := true }, kinds := [], alts := [], laidByText := true, laidKinds := [.data, .data, .data, .data, .sentinel, .sentinel, .pinned], laidTests := true, laidLooks := .later }
def PlaceSetsUptoCardSaid : Prop := Claim7.holds Tryz.pinned (.plain (OpenSpec.upto placeSetsSpec)) placeSetsUptoCard

/-- THE SECOND FORM's CARD OF 'lorgnettelaw12.PlaceDeletes'. -/
def placeDeletesUptoCard : Claim7 := { stood := { row := placeDeletesUptoRow, standIns := [], harness := (true, "73e94991e20da4fdb73d58c27867b26e66ba6dd398f278036de95f89a8ec3bf9"), looks := true }, kinds := [], alts := [], laidByText := true, laidKinds := [.data, .data, .data, .data, .sentinel, .sentinel, .pinned], laidTests := true, laidLooks := .later }
def PlaceDeletesUptoCardSaid : Prop := Claim7.holds Tryz.pinned (.plain (OpenSpec.upto placeDeletesSpec)) placeDeletesUptoCard

/-- THE SECOND FORM's CARD OF 'lorgnettelaw12.PlaceBack'. -/
def placeBackUptoCard : Claim7 := { stood := { row := placeBackUptoRow, standIns := [], harness := (true, "73e94991e20da4fdb73d58c27867b26e66ba6dd398f278036de95f89a8ec3bf9"), looks := true }, kinds := [], alts := [], laidByText := true, laidKinds := [.data, .data, .data, .data, .sentinel, .sentinel, .pinned], laidTests := true, laidLooks := .later }
def PlaceBackUptoCardSaid : Prop := Claim7.holds Tryz.pinned (.plain (OpenSpec.upto placeBackSpec)) placeBackUptoCard

/-- THE SECOND FORM's CARD OF 'lorgnettelaw12.PlacePaths'. -/
def placePathsUptoCard : Claim7 := { stood := { row := placePathsUptoRow, standIns := [], harness := (true, "73e94991e20da4fdb73d58c27867b26e66ba6dd398f278036de95f89a8ec3bf9"), looks := true }, kinds := [], alts := [], laidByText := true, laidKinds := [.data, .data, .data, .data, .sentinel, .sentinel, .pinned], laidTests := true, laidLooks := .later }
def PlacePathsUptoCardSaid : Prop := Claim7.holds Tryz.pinned (.plain (OpenSpec.upto placePathsSpec)) placePathsUptoCard

/-- THE SECOND FORM's CARD OF 'lorgnettelaw12.PlaceAll'. -/
def placeAllUptoCard : Claim7 := { stood := { row := placeAllUptoRow, standIns := [], harness := (true, "73e94991e20da4fdb73d58c27867b26e66ba6dd398f278036de95f89a8ec3bf9"), looks := true }, kinds := [], alts := [], laidByText := true, laidKinds := [.data, .data, .data, .data, .sentinel, .sentinel, .pinned], laidTests := true, laidLooks := .later }
def PlaceAllUptoCardSaid : Prop := Claim7.holds Tryz.pinned (.plain (OpenSpec.upto placeAllSpec)) placeAllUptoCard
end Rows
end Go.Proofs.YtcgbmmalfbpjaaaGreatDoor
