/-
  DERIVED. GIVEN WITH THE SEED: THE CARDS: each row of YtgbgkodjjgjhgaaGreatDoorRows.lean that lists a variable, with what it lists TIED to the program's text (the seventh form; the later family's looks); each row that meets fmt, with fmt's text TOLD by the authors' own Lean function (tested against real Go, not proved from fmt's source: count such statements apart). THE CARD IS WHAT COUNTS. Prove the row's statement (the work); the ties are given (YtgbgkodjjgjhgaaGreatDoorTie.lean); close each card by the builder's one call (the guide's Derived/Test/ToyasCard.lean, 'card_holds'). Laid BY PROGRAM, IN A SANDBOX (cutbox-door.mjs). By AI agents, Wed Nov 11 2026. No macro, syntax, notation, axiom, sorry.
-/
import Derived.Test.YtgbgkodjjgjhgaaGreatDoorRows
import GoSem.ClaimSeven
namespace Go.Proofs.YtgbgkodjjgjhgaaGreatDoor
namespace Rows

/-- THE TIED CARD OF 'lorgnettelaw11.ValueCmps'. -/
def valueCmpsCard : Claim7 := { stood := { row := valueCmpsRow, standIns := [], harness := (true, "087a6711221a66884291fa2278f382963c9163793d11e0f99efbd045b114527d"), looks := false }, kinds := [], alts := [], laidByText := true, laidKinds := [.data, .data, .data, .data, .pinned], laidTests := true, laidLooks := .later }
def ValueCmpsCardSaid : Prop := Claim7.holds Tryz.pinned (.plain (OpenSpec.ofChange valueCmpsSpec)) valueCmpsCard

/-- THE TIED CARD OF 'lorgnettelaw11.ValueWiths'. -/
def valueWithsCard : Claim7 := { stood := { row := valueWithsRow, standIns := [], harness := (true, "087a6711221a66884291fa2278f382963c9163793d11e0f99efbd045b114527d"), looks := false }, kinds := [], alts := [], laidByText := true, laidKinds := [.data, .data, .data, .data, .pinned], laidTests := true, laidLooks := .later }
def ValueWithsCardSaid : Prop := Claim7.holds Tryz.pinned (.plain (OpenSpec.ofChange valueWithsSpec)) valueWithsCard

/-- THE TIED CARD OF 'lorgnettelaw11.ValueOrder'. -/
def valueOrderCard : Claim7 := { stood := { row := valueOrderRow, standIns := [], harness := (true, "087a6711221a66884291fa2278f382963c9163793d11e0f99efbd045b114527d"), looks := false }, kinds := [], alts := [], laidByText := true, laidKinds := [.data, .data, .data, .data, .pinned], laidTests := true, laidLooks := .later }
def ValueOrderCardSaid : Prop := Claim7.holds Tryz.pinned (.plain (OpenSpec.ofChange valueOrderSpec)) valueOrderCard

/-- THE TIED CARD OF 'lorgnettelaw11.ValueGets'. -/
def valueGetsCard : Claim7 := { stood := { row := valueGetsRow, standIns := [], harness := (true, "087a6711221a66884291fa2278f382963c9163793d11e0f99efbd045b114527d"), looks := false }, kinds := [], alts := [], laidByText := true, laidKinds := [.data, .data, .data, .data, .pinned], laidTests := true, laidLooks := .later }
def ValueGetsCardSaid : Prop := Claim7.holds Tryz.pinned (.plain (OpenSpec.ofChange valueGetsSpec)) valueGetsCard

/-- THE TIED CARD OF 'lorgnettelaw11.ValueBack'. -/
def valueBackCard : Claim7 := { stood := { row := valueBackRow, standIns := [], harness := (true, "087a6711221a66884291fa2278f382963c9163793d11e0f99efbd045b114527d"), looks := false }, kinds := [], alts := [], laidByText := true, laidKinds := [.data, .data, .data, .data, .pinned], laidTests := true, laidLooks := .later }
def ValueBackCardSaid : Prop := Claim7.holds Tryz.pinned (.plain (OpenSpec.ofChange valueBackSpec)) valueBackCard

/-- THE TIED CARD OF 'lorgnettelaw11.ValueSorts'. -/
def valueSortsCard : Claim7 := { stood := { row := valueSortsRow, standIns := [], harness := (true, "087a6711221a66884291fa2278f382963c9163793d11e0f99efbd045b114527d"), looks := false }, kinds := [], alts := [], laidByText := true, laidKinds := [.data, .data, .data, .data, .pinned], laidTests := true, laidLooks := .later }
def ValueSortsCardSaid : Prop := Claim7.holds Tryz.pinned (.plain (OpenSpec.ofChange valueSortsSpec)) valueSortsCard

/-- THE TIED CARD OF 'lorgnettelaw11.ValueSorted'. -/
def valueSortedCard : Claim7 := { stood := { row := valueSortedRow, standIns := [], harness := (true, "087a6711221a66884291fa2278f382963c9163793d11e0f99efbd045b114527d"), looks := false }, kinds := [], alts := [], laidByText := true, laidKinds := [.data, .data, .data, .data, .pinned], laidTests := true, laidLooks := .later }
def ValueSortedCardSaid : Prop := Claim7.holds Tryz.pinned (.plain (OpenSpec.ofChange valueSortedSpec)) valueSortedCard

/-- THE SECOND FORM's CARD OF 'lorgnettelaw11.ValueCmps'. -/
def valueCmpsUptoCard : Claim7 := { stood := { row := valueCmpsUptoRow, standIns := [], harness := (true, "087a6711221a66884291fa2278f382963c9163793d11e0f99efbd045b114527d"), looks := false }, kinds := [], alts := [], laidByText := true, laidKinds := [.data, .data, .data, .data, .pinned], laidTests := true, laidLooks := .later }
def ValueCmpsUptoCardSaid : Prop := Claim7.holds Tryz.pinned (.plain (OpenSpec.upto valueCmpsSpec)) valueCmpsUptoCard

/-- THE SECOND FORM's CARD OF 'lorgnettelaw11.ValueWiths'. -/
def valueWithsUptoCard : Claim7 := { stood := { row := valueWithsUptoRow, standIns := [], harness := (true, "087a6711221a66884291fa2278f382963c9163793d11e0f99efbd045b114527d"), looks := false }, kinds := [], alts := [], laidByText := true, laidKinds := [.data, .data, .data, .data, .pinned], laidTests := true, laidLooks := .later }
def ValueWithsUptoCardSaid : Prop := Claim7.holds Tryz.pinned (.plain (OpenSpec.upto valueWithsSpec)) valueWithsUptoCard

/-- THE SECOND FORM's CARD OF 'lorgnettelaw11.ValueOrder'. -/
def valueOrderUptoCard : Claim7 := { stood := { row := valueOrderUptoRow, standIns := [], harness := (true, "087a6711221a66884291fa2278f382963c9163793d11e0f99efbd045b114527d"), looks := false }, kinds := [], alts := [], laidByText := true, laidKinds := [.data, .data, .data, .data, .pinned], laidTests := true, laidLooks := .later }
def ValueOrderUptoCardSaid : Prop := Claim7.holds Tryz.pinned (.plain (OpenSpec.upto valueOrderSpec)) valueOrderUptoCard

/-- THE SECOND FORM's CARD OF 'lorgnettelaw11.ValueGets'. -/
def valueGetsUptoCard : Claim7 := { stood := { row := valueGetsUptoRow, standIns := [], harness := (true, "087a6711221a66884291fa2278f382963c9163793d11e0f99efbd045b114527d"), looks := false }, kinds := [], alts := [], laidByText := true, laidKinds := [.data, .data, .data, .data, .pinned], laidTests := true, laidLooks := .later }
def ValueGetsUptoCardSaid : Prop := Claim7.holds Tryz.pinned (.plain (OpenSpec.upto valueGetsSpec)) valueGetsUptoCard

/-- THE SECOND FORM's CARD OF 'lorgnettelaw11.ValueBack'. -/
def valueBackUptoCard : Claim7 := { stood := { row := valueBackUptoRow, standIns := [], harness := (true, "087a6711221a66884291fa2278f382963c9163793d11e0f99efbd045b114527d"), looks := false }, kinds := [], alts := [], laidByText := true, laidKinds := [.data, .data, .data, .data, .pinned], laidTests := true, laidLooks := .later }
def ValueBackUptoCardSaid : Prop := Claim7.holds Tryz.pinned (.plain (OpenSpec.upto valueBackSpec)) valueBackUptoCard

/-- THE SECOND FORM's CARD OF 'lorgnettelaw11.ValueSorts'. -/
def valueSortsUptoCard : Claim7 := { stood := { row := valueSortsUptoRow, standIns := [], harness := (true, "087a6711221a66884291fa2278f382963c9163793d11e0f99efbd045b114527d"), looks := false }, kinds := [], alts := [], laidByText := true, laidKinds := [.data, .data, .data, .data, .pinned], laidTests := true, laidLooks := .later }
def ValueSortsUptoCardSaid : Prop := Claim7.holds Tryz.pinned (.plain (OpenSpec.upto valueSortsSpec)) valueSortsUptoCard

/-- THE SECOND FORM's CARD OF 'lorgnettelaw11.ValueSorted'. -/
def valueSortedUptoCard : Claim7 := { stood := { row := valueSortedUptoRow, standIns := [], harness := (true, "087a6711221a66884291fa2278f382963c9163793d11e0f99efbd045b114527d"), looks := false }, kinds := [], alts := [], laidByText := true, laidKinds := [.data, .data, .data, .data, .pinned], laidTests := true, laidLooks := .later }
def ValueSortedUptoCardSaid : Prop := Claim7.holds Tryz.pinned (.plain (OpenSpec.upto valueSortedSpec)) valueSortedUptoCard
end Rows
end Go.Proofs.YtgbgkodjjgjhgaaGreatDoor
