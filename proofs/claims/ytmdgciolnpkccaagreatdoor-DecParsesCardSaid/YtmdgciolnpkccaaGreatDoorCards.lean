/-
  DERIVED. GIVEN WITH THE SEED: THE CARDS: each row of YtmdgciolnpkccaaGreatDoorRows.lean that lists a variable, with what it lists TIED to the program's text (the seventh form; the later family's looks); each row that meets fmt, with fmt's text TOLD by the authors' own Lean function (tested against real Go, not proved from fmt's source: count such statements apart). THE CARD IS WHAT COUNTS. Prove the row's statement (the work); the ties are given (YtmdgciolnpkccaaGreatDoorTie.lean); close each card by the builder's one call (the guide's Derived/Test/ToyasCard.lean, 'card_holds'). Laid BY PROGRAM, IN A SANDBOX (cutbox-door.mjs). By AI agents, Wed Nov 11 2026. No macro, syntax, notation, axiom, sorry.
-/
import Derived.Test.YtmdgciolnpkccaaGreatDoorRows
import GoSem.ClaimSeven
namespace Go.Proofs.YtmdgciolnpkccaaGreatDoor
namespace Rows

/-- THE TIED CARD OF 'lorgnettelaw02.DecParses'. -/
def decParsesCard : Claim7 := { stood := { row := decParsesRow, standIns := [], harness := (true, "6e6bfadc7b70f9c12cd23bd1003c0b5695d264b42fcebba8f4beb2a56f39d53c"), looks := true }, kinds := [], alts := [], laidByText := true, laidKinds := [.data, .data, .data, .data, .sentinel, .sentinel, .pinned], laidTests := true, laidLooks := .later }
def DecParsesCardSaid : Prop := Claim7.holds Tryz.pinned (.plain (OpenSpec.ofChange decParsesSpec)) decParsesCard

/-- THE TIED CARD OF 'lorgnettelaw11.ValueCmps'. -/
def valueCmpsCard : Claim7 := { stood := { row := valueCmpsRow, standIns := [], harness := (true, "6e6bfadc7b70f9c12cd23bd1003c0b5695d264b42fcebba8f4beb2a56f39d53c"), looks := true }, kinds := [], alts := [], laidByText := true, laidKinds := [.data, .data, .data, .data, .pinned], laidTests := true, laidLooks := .later }
def ValueCmpsCardSaid : Prop := Claim7.holds Tryz.pinned (.plain (OpenSpec.ofChange valueCmpsSpec)) valueCmpsCard

/-- THE TIED CARD OF 'lorgnettelaw11.ValueWiths'. -/
def valueWithsCard : Claim7 := { stood := { row := valueWithsRow, standIns := [], harness := (true, "6e6bfadc7b70f9c12cd23bd1003c0b5695d264b42fcebba8f4beb2a56f39d53c"), looks := true }, kinds := [], alts := [], laidByText := true, laidKinds := [.data, .data, .data, .data, .pinned], laidTests := true, laidLooks := .later }
def ValueWithsCardSaid : Prop := Claim7.holds Tryz.pinned (.plain (OpenSpec.ofChange valueWithsSpec)) valueWithsCard

/-- THE TIED CARD OF 'lorgnettelaw11.ValueOrder'. -/
def valueOrderCard : Claim7 := { stood := { row := valueOrderRow, standIns := [], harness := (true, "6e6bfadc7b70f9c12cd23bd1003c0b5695d264b42fcebba8f4beb2a56f39d53c"), looks := true }, kinds := [], alts := [], laidByText := true, laidKinds := [.data, .data, .data, .data, .pinned], laidTests := true, laidLooks := .later }
def ValueOrderCardSaid : Prop := Claim7.holds Tryz.pinned (.plain (OpenSpec.ofChange valueOrderSpec)) valueOrderCard

/-- THE TIED CARD OF 'lorgnettelaw11.ValueGets'. -/
def valueGetsCard : Claim7 := { stood := { row := valueGetsRow, standIns := [], harness := (true, "6e6bfadc7b70f9c12cd23bd1003c0b5695d264b42fcebba8f4beb2a56f39d53c"), looks := true }, kinds := [], alts := [], laidByText := true, laidKinds := [.data, .data, .data, .data, .pinned], laidTests := true, laidLooks := .later }
def ValueGetsCardSaid : Prop := Claim7.holds Tryz.pinned (.plain (OpenSpec.ofChange valueGetsSpec)) valueGetsCard

/-- THE TIED CARD OF 'lorgnettelaw11.ValueBack'. -/
def valueBackCard : Claim7 := { stood := { row := valueBackRow, standIns := [], harness := (true, "6e6bfadc7b70f9c12cd23bd1003c0b5695d264b42fcebba8f4beb2a56f39d53c"), looks := true }, kinds := [], alts := [], laidByText := true, laidKinds := [.data, .data, .data, .data, .pinned], laidTests := true, laidLooks := .later }
def ValueBackCardSaid : Prop := Claim7.holds Tryz.pinned (.plain (OpenSpec.ofChange valueBackSpec)) valueBackCard

/-- THE TIED CARD OF 'lorgnettelaw03.QuotDivs'. -/
def quotDivsCard : Claim7 := { stood := { row := quotDivsRow, standIns := [], harness := (true, "6e6bfadc7b70f9c12cd23bd1003c0b5695d264b42fcebba8f4beb2a56f39d53c"), looks := true }, kinds := [], alts := [], laidByText := true, laidKinds := [.data, .data, .data, .data, .sentinel, .sentinel, .pinned], laidTests := true, laidLooks := .later }
def QuotDivsCardSaid : Prop := Claim7.holds Tryz.pinned (.plain (OpenSpec.ofChange quotDivsSpec)) quotDivsCard

/-- THE TIED CARD OF 'lorgnettelaw03.QuotRems'. -/
def quotRemsCard : Claim7 := { stood := { row := quotRemsRow, standIns := [], harness := (true, "6e6bfadc7b70f9c12cd23bd1003c0b5695d264b42fcebba8f4beb2a56f39d53c"), looks := true }, kinds := [], alts := [], laidByText := true, laidKinds := [.data, .data, .data, .data, .sentinel, .sentinel, .pinned], laidTests := true, laidLooks := .later }
def QuotRemsCardSaid : Prop := Claim7.holds Tryz.pinned (.plain (OpenSpec.ofChange quotRemsSpec)) quotRemsCard

/-- THE TIED CARD OF 'lorgnettelaw03.QuotInts'. -/
def quotIntsCard : Claim7 := { stood := { row := quotIntsRow, standIns := [], harness := (true, "6e6bfadc7b70f9c12cd23bd1003c0b5695d264b42fcebba8f4beb2a56f39d53c"), looks := true }, kinds := [], alts := [], laidByText := true, laidKinds := [.data, .data, .data, .data, .sentinel, .sentinel, .pinned], laidTests := true, laidLooks := .later }
def QuotIntsCardSaid : Prop := Claim7.holds Tryz.pinned (.plain (OpenSpec.ofChange quotIntsSpec)) quotIntsCard

/-- THE TIED CARD OF 'lorgnettelaw03.QuotRounds'. -/
def quotRoundsCard : Claim7 := { stood := { row := quotRoundsRow, standIns := [], harness := (true, "6e6bfadc7b70f9c12cd23bd1003c0b5695d264b42fcebba8f4beb2a56f39d53c"), looks := true }, kinds := [], alts := [], laidByText := true, laidKinds := [.data, .data, .data, .data, .sentinel, .sentinel, .pinned], laidTests := true, laidLooks := .later }
def QuotRoundsCardSaid : Prop := Claim7.holds Tryz.pinned (.plain (OpenSpec.ofChange quotRoundsSpec)) quotRoundsCard

/-- THE TIED CARD OF 'lorgnettelaw11.ValueSorts'. -/
def valueSortsCard : Claim7 := { stood := { row := valueSortsRow, standIns := [], harness := (true, "6e6bfadc7b70f9c12cd23bd1003c0b5695d264b42fcebba8f4beb2a56f39d53c"), looks := true }, kinds := [], alts := [], laidByText := true, laidKinds := [.data, .data, .data, .data, .pinned], laidTests := true, laidLooks := .later }
def ValueSortsCardSaid : Prop := Claim7.holds Tryz.pinned (.plain (OpenSpec.ofChange valueSortsSpec)) valueSortsCard

/-- THE TIED CARD OF 'lorgnettelaw11.ValueSorted'. -/
def valueSortedCard : Claim7 := { stood := { row := valueSortedRow, standIns := [], harness := (true, "6e6bfadc7b70f9c12cd23bd1003c0b5695d264b42fcebba8f4beb2a56f39d53c"), looks := true }, kinds := [], alts := [], laidByText := true, laidKinds := [.data, .data, .data, .data, .pinned], laidTests := true, laidLooks := .later }
def ValueSortedCardSaid : Prop := Claim7.holds Tryz.pinned (.plain (OpenSpec.ofChange valueSortedSpec)) valueSortedCard

/-- THE TIED CARD OF 'lorgnettelaw03.QuotBetween'. -/
def quotBetweenCard : Claim7 := { stood := { row := quotBetweenRow, standIns := [], harness := (true, "6e6bfadc7b70f9c12cd23bd1003c0b5695d264b42fcebba8f4beb2a56f39d53c"), looks := true }, kinds := [], alts := [], laidByText := true, laidKinds := [.data, .data, .data, .data, .sentinel, .sentinel, .pinned], laidTests := true, laidLooks := .later }
def QuotBetweenCardSaid : Prop := Claim7.holds Tryz.pinned (.plain (OpenSpec.ofChange quotBetweenSpec)) quotBetweenCard

/-- THE TIED CARD OF 'lorgnettelaw03.QuotLess'. -/
def quotLessCard : Claim7 := { stood := { row := quotLessRow, standIns := [], harness := (true, "6e6bfadc7b70f9c12cd23bd1003c0b5695d264b42fcebba8f4beb2a56f39d53c"), looks := true }, kinds := [], alts := [], laidByText := true, laidKinds := [.data, .data, .data, .data, .sentinel, .sentinel, .pinned], laidTests := true, laidLooks := .later }
def QuotLessCardSaid : Prop := Claim7.holds Tryz.pinned (.plain (OpenSpec.ofChange quotLessSpec)) quotLessCard

/-- THE TIED CARD OF 'lorgnettelaw03.QuotOff'. -/
def quotOffCard : Claim7 := { stood := { row := quotOffRow, standIns := [], harness := (true, "6e6bfadc7b70f9c12cd23bd1003c0b5695d264b42fcebba8f4beb2a56f39d53c"), looks := true }, kinds := [], alts := [], laidByText := true, laidKinds := [.data, .data, .data, .data, .sentinel, .sentinel, .pinned], laidTests := true, laidLooks := .later }
def QuotOffCardSaid : Prop := Claim7.holds Tryz.pinned (.plain (OpenSpec.ofChange quotOffSpec)) quotOffCard

/-- THE SECOND FORM's CARD OF 'lorgnettelaw02.DecParses'. -/
def decParsesUptoCard : Claim7 := { stood := { row := decParsesUptoRow, standIns := [], harness := (true, "6e6bfadc7b70f9c12cd23bd1003c0b5695d264b42fcebba8f4beb2a56f39d53c"), looks := true }, kinds := [], alts := [], laidByText := true, laidKinds := [.data, .data, .data, .data, .sentinel, .sentinel, .pinned], laidTests := true, laidLooks := .later }
def DecParsesUptoCardSaid : Prop := Claim7.holds Tryz.pinned (.plain (OpenSpec.upto decParsesSpec)) decParsesUptoCard

/-- THE SECOND FORM's CARD OF 'lorgnettelaw11.ValueCmps'. -/
def valueCmpsUptoCard : Claim7 := { stood := { row := valueCmpsUptoRow, standIns := [], harness := (true, "6e6bfadc7b70f9c12cd23bd1003c0b5695d264b42fcebba8f4beb2a56f39d53c"), looks := true }, kinds := [], alts := [], laidByText := true, laidKinds := [.data, .data, .data, .data, .pinned], laidTests := true, laidLooks := .later }
def ValueCmpsUptoCardSaid : Prop := Claim7.holds Tryz.pinned (.plain (OpenSpec.upto valueCmpsSpec)) valueCmpsUptoCard

/-- THE SECOND FORM's CARD OF 'lorgnettelaw11.ValueWiths'. -/
def valueWithsUptoCard : Claim7 := { stood := { row := valueWithsUptoRow, standIns := [], harness := (true, "6e6bfadc7b70f9c12cd23bd1003c0b5695d264b42fcebba8f4beb2a56f39d53c"), looks := true }, kinds := [], alts := [], laidByText := true, laidKinds := [.data, .data, .data, .data, .pinned], laidTests := true, laidLooks := .later }
def ValueWithsUptoCardSaid : Prop := Claim7.holds Tryz.pinned (.plain (OpenSpec.upto valueWithsSpec)) valueWithsUptoCard

/-- THE SECOND FORM's CARD OF 'lorgnettelaw11.ValueOrder'. -/
def valueOrderUptoCard : Claim7 := { stood := { row := valueOrderUptoRow, standIns := [], harness := (true, "6e6bfadc7b70f9c12cd23bd1003c0b5695d264b42fcebba8f4beb2a56f39d53c"), looks := true }, kinds := [], alts := [], laidByText := true, laidKinds := [.data, .data, .data, .data, .pinned], laidTests := true, laidLooks := .later }
def ValueOrderUptoCardSaid : Prop := Claim7.holds Tryz.pinned (.plain (OpenSpec.upto valueOrderSpec)) valueOrderUptoCard

/-- THE SECOND FORM's CARD OF 'lorgnettelaw11.ValueGets'. -/
def valueGetsUptoCard : Claim7 := { stood := { row := valueGetsUptoRow, standIns := [], harness := (true, "6e6bfadc7b70f9c12cd23bd1003c0b5695d264b42fcebba8f4beb2a56f39d53c"), looks := true }, kinds := [], alts := [], laidByText := true, laidKinds := [.data, .data, .data, .data, .pinned], laidTests := true, laidLooks := .later }
def ValueGetsUptoCardSaid : Prop := Claim7.holds Tryz.pinned (.plain (OpenSpec.upto valueGetsSpec)) valueGetsUptoCard

/-- THE SECOND FORM's CARD OF 'lorgnettelaw11.ValueBack'. -/
def valueBackUptoCard : Claim7 := { stood := { row := valueBackUptoRow, standIns := [], harness := (true, "6e6bfadc7b70f9c12cd23bd1003c0b5695d264b42fcebba8f4beb2a56f39d53c"), looks := true }, kinds := [], alts := [], laidByText := true, laidKinds := [.data, .data, .data, .data, .pinned], laidTests := true, laidLooks := .later }
def ValueBackUptoCardSaid : Prop := Claim7.holds Tryz.pinned (.plain (OpenSpec.upto valueBackSpec)) valueBackUptoCard

/-- THE SECOND FORM's CARD OF 'lorgnettelaw03.QuotDivs'. -/
def quotDivsUptoCard : Claim7 := { stood := { row := quotDivsUptoRow, standIns := [], harness := (true, "6e6bfadc7b70f9c12cd23bd1003c0b5695d264b42fcebba8f4beb2a56f39d53c"), looks := true }, kinds := [], alts := [], laidByText := true, laidKinds := [.data, .data, .data, .data, .sentinel, .sentinel, .pinned], laidTests := true, laidLooks := .later }
def QuotDivsUptoCardSaid : Prop := Claim7.holds Tryz.pinned (.plain (OpenSpec.upto quotDivsSpec)) quotDivsUptoCard

/-- THE SECOND FORM's CARD OF 'lorgnettelaw03.QuotRems'. -/
def quotRemsUptoCard : Claim7 := { stood := { row := quotRemsUptoRow, standIns := [], harness := (true, "6e6bfadc7b70f9c12cd23bd1003c0b5695d264b42fcebba8f4beb2a56f39d53c"), looks := true }, kinds := [], alts := [], laidByText := true, laidKinds := [.data, .data, .data, .data, .sentinel, .sentinel, .pinned], laidTests := true, laidLooks := .later }
def QuotRemsUptoCardSaid : Prop := Claim7.holds Tryz.pinned (.plain (OpenSpec.upto quotRemsSpec)) quotRemsUptoCard

/-- THE SECOND FORM's CARD OF 'lorgnettelaw03.QuotInts'. -/
def quotIntsUptoCard : Claim7 := { stood := { row := quotIntsUptoRow, standIns := [], harness := (true, "6e6bfadc7b70f9c12cd23bd1003c0b5695d264b42fcebba8f4beb2a56f39d53c"), looks := true }, kinds := [], alts := [], laidByText := true, laidKinds := [.data, .data, .data, .data, .sentinel, .sentinel, .pinned], laidTests := true, laidLooks := .later }
def QuotIntsUptoCardSaid : Prop := Claim7.holds Tryz.pinned (.plain (OpenSpec.upto quotIntsSpec)) quotIntsUptoCard

/-- THE SECOND FORM's CARD OF 'lorgnettelaw03.QuotRounds'. -/
def quotRoundsUptoCard : Claim7 := { stood := { row := quotRoundsUptoRow, standIns := [], harness := (true, "6e6bfadc7b70f9c12cd23bd1003c0b5695d264b42fcebba8f4beb2a56f39d53c"), looks := true }, kinds := [], alts := [], laidByText := true, laidKinds := [.data, .data, .data, .data, .sentinel, .sentinel, .pinned], laidTests := true, laidLooks := .later }
def QuotRoundsUptoCardSaid : Prop := Claim7.holds Tryz.pinned (.plain (OpenSpec.upto quotRoundsSpec)) quotRoundsUptoCard

/-- THE SECOND FORM's CARD OF 'lorgnettelaw11.ValueSorts'. -/
def valueSortsUptoCard : Claim7 := { stood := { row := valueSortsUptoRow, standIns := [], harness := (true, "6e6bfadc7b70f9c12cd23bd1003c0b5695d264b42fcebba8f4beb2a56f39d53c"), looks := true }, kinds := [], alts := [], laidByText := true, laidKinds := [.data, .data, .data, .data, .pinned], laidTests := true, laidLooks := .later }
def ValueSortsUptoCardSaid : Prop := Claim7.holds Tryz.pinned (.plain (OpenSpec.upto valueSortsSpec)) valueSortsUptoCard

/-- THE SECOND FORM's CARD OF 'lorgnettelaw11.ValueSorted'. -/
def valueSortedUptoCard : Claim7 := { stood := { row := valueSortedUptoRow, standIns := [], harness := (true, "6e6bfadc7b70f9c12cd23bd1003c0b5695d264b42fcebba8f4beb2a56f39d53c"), looks := true }, kinds := [], alts := [], laidByText := true, laidKinds := [.data, .data, .data, .data, .pinned], laidTests := true, laidLooks := .later }
def ValueSortedUptoCardSaid : Prop := Claim7.holds Tryz.pinned (.plain (OpenSpec.upto valueSortedSpec)) valueSortedUptoCard

/-- THE SECOND FORM's CARD OF 'lorgnettelaw03.QuotBetween'. -/
def quotBetweenUptoCard : Claim7 := { stood := { row := quotBetweenUptoRow, standIns := [], harness := (true, "6e6bfadc7b70f9c12cd23bd1003c0b5695d264b42fcebba8f4beb2a56f39d53c"), looks := true }, kinds := [], alts := [], laidByText := true, laidKinds := [.data, .data, .data, .data, .sentinel, .sentinel, .pinned], laidTests := true, laidLooks := .later }
def QuotBetweenUptoCardSaid : Prop := Claim7.holds Tryz.pinned (.plain (OpenSpec.upto quotBetweenSpec)) quotBetweenUptoCard

/-- THE SECOND FORM's CARD OF 'lorgnettelaw03.QuotLess'. -/
def quotLessUptoCard : Claim7 := { stood := { row := quotLessUptoRow, standIns := [], harness := (true, "6e6bfadc7b70f9c12cd23bd1003c0b5695d264b42fcebba8f4beb2a56f39d53c"), looks := true }, kinds := [], alts := [], laidByText := true, laidKinds := [.data, .data, .data, .data, .sentinel, .sentinel, .pinned], laidTests := true, laidLooks := .later }
def QuotLessUptoCardSaid : Prop := Claim7.holds Tryz.pinned (.plain (OpenSpec.upto quotLessSpec)) quotLessUptoCard

/-- THE SECOND FORM's CARD OF 'lorgnettelaw03.QuotOff'. -/
def quotOffUptoCard : Claim7 := { stood := { row := quotOffUptoRow, standIns := [], harness := (true, "6e6bfadc7b70f9c12cd23bd1003c0b5695d264b42fcebba8f4beb2a56f39d53c"), looks := true }, kinds := [], alts := [], laidByText := true, laidKinds := [.data, .data, .data, .data, .sentinel, .sentinel, .pinned], laidTests := true, laidLooks := .later }
def QuotOffUptoCardSaid : Prop := Claim7.holds Tryz.pinned (.plain (OpenSpec.upto quotOffSpec)) quotOffUptoCard
end Rows
end Go.Proofs.YtmdgciolnpkccaaGreatDoor
