/-
  DERIVED. GIVEN WITH THE SEED: THE CARDS: each row of YtfdlifhkeicnnaaGreatDoorRows.lean that lists a variable, with what it lists TIED to the program's text (the seventh form; the later family's looks); each row that meets fmt, with fmt's text TOLD by the authors' own Lean function (tested against real Go, not proved from fmt's source: count such statements apart). THE CARD IS WHAT COUNTS. Prove the row's statement (the work); the ties are given (YtfdlifhkeicnnaaGreatDoorTie.lean); close each card by the builder's one call (the guide's Derived/Test/ToyasCard.lean, 'card_holds'). Laid BY PROGRAM, IN A SANDBOX (cutbox-door.mjs). By AI agents, Wed Nov 11 2026. No macro, syntax, notation, axiom, sorry.
-/
import Derived.Test.YtfdlifhkeicnnaaGreatDoorRows
import GoSem.ClaimSeven
namespace Go.Proofs.YtfdlifhkeicnnaaGreatDoor
namespace Rows

/-- THE TIED CARD OF 'rehearsallaw20.AsmBytes'. -/
def asmBytesCard : Claim7 := { stood := { row := asmBytesRow, standIns := [], harness := (true, "ed2addb900cea77d9a9299e4864bcafc1ffeb70113a159073e2deda722c5f06c"), looks := true }, kinds := [], alts := [], laidByText := true, laidKinds := [.data, .data, .data, .data, .sentinel, .sentinel, .listed, .data, .widerDeep, .data, .data, .pinned], laidTests := true, laidLooks := .later }
def AsmBytesCardSaid : Prop := Claim7.holds Tryz.pinned (.plain (OpenSpec.ofChange asmBytesSpec)) asmBytesCard

/-- THE TIED CARD OF 'rehearsallaw20.AsmLabels'. -/
def asmLabelsCard : Claim7 := { stood := { row := asmLabelsRow, standIns := [], harness := (true, "ed2addb900cea77d9a9299e4864bcafc1ffeb70113a159073e2deda722c5f06c"), looks := true }, kinds := [], alts := [], laidByText := true, laidKinds := [.data, .data, .data, .data, .sentinel, .sentinel, .listed, .data, .widerDeep, .data, .data, .pinned], laidTests := true, laidLooks := .later }
def AsmLabelsCardSaid : Prop := Claim7.holds Tryz.pinned (.plain (OpenSpec.ofChange asmLabelsSpec)) asmLabelsCard

/-- THE TIED CARD OF 'rehearsallaw20.AsmLines'. -/
def asmLinesCard : Claim7 := { stood := { row := asmLinesRow, standIns := [], harness := (true, "ed2addb900cea77d9a9299e4864bcafc1ffeb70113a159073e2deda722c5f06c"), looks := true }, kinds := [], alts := [], laidByText := true, laidKinds := [.data, .data, .data, .data, .sentinel, .sentinel, .listed, .data, .widerDeep, .data, .data, .pinned], laidTests := true, laidLooks := .later }
def AsmLinesCardSaid : Prop := Claim7.holds Tryz.pinned (.plain (OpenSpec.ofChange asmLinesSpec)) asmLinesCard

/-- THE TIED CARD OF 'rehearsallaw20.AsmTells'. -/
def asmTellsCard : Claim7 := { stood := { row := asmTellsRow, standIns := [], harness := (true, "ed2addb900cea77d9a9299e4864bcafc1ffeb70113a159073e2deda722c5f06c"), looks := true }, kinds := [], alts := [], laidByText := true, laidKinds := [.data, .data, .data, .data, .sentinel, .sentinel, .listed, .data, .widerDeep, .data, .data, .pinned], laidTests := true, laidLooks := .later }
def AsmTellsCardSaid : Prop := Claim7.holds Tryz.pinned (.plain (OpenSpec.ofChange asmTellsSpec)) asmTellsCard

/-- THE TIED CARD OF 'rehearsallaw20.AsmBack'. -/
def asmBackCard : Claim7 := { stood := { row := asmBackRow, standIns := [], harness := (true, "ed2addb900cea77d9a9299e4864bcafc1ffeb70113a159073e2deda722c5f06c"), looks := true }, kinds := [], alts := [], laidByText := true, laidKinds := [.data, .data, .data, .data, .sentinel, .sentinel, .listed, .data, .widerDeep, .data, .data, .pinned], laidTests := true, laidLooks := .later }
def AsmBackCardSaid : Prop := Claim7.holds Tryz.pinned (.plain (OpenSpec.ofChange asmBackSpec)) asmBackCard

/-- THE SECOND FORM's CARD OF 'rehearsallaw20.AsmBytes'. -/
def asmBytesUptoCard : Claim7 := { stood := { row := asmBytesUptoRow, standIns := [], harness := (true, "ed2addb900cea77d9a9299e4864bcafc1ffeb70113a159073e2deda722c5f06c"), looks := true }, kinds := [], alts := [], laidByText := true, laidKinds := [.data, .data, .data, .data, .sentinel, .sentinel, .listed, .data, .widerDeep, .data, .data, .pinned], laidTests := true, laidLooks := .later }
def AsmBytesUptoCardSaid : Prop := Claim7.holds Tryz.pinned (.plain (OpenSpec.upto asmBytesSpec)) asmBytesUptoCard

/-- THE SECOND FORM's CARD OF 'rehearsallaw20.AsmLabels'. -/
def asmLabelsUptoCard : Claim7 := { stood := { row := asmLabelsUptoRow, standIns := [], harness := (true, "ed2addb900cea77d9a9299e4864bcafc1ffeb70113a159073e2deda722c5f06c"), looks := true }, kinds := [], alts := [], laidByText := true, laidKinds := [.data, .data, .data, .data, .sentinel, .sentinel, .listed, .data, .widerDeep, .data, .data, .pinned], laidTests := true, laidLooks := .later }
def AsmLabelsUptoCardSaid : Prop := Claim7.holds Tryz.pinned (.plain (OpenSpec.upto asmLabelsSpec)) asmLabelsUptoCard

/-- THE SECOND FORM's CARD OF 'rehearsallaw20.AsmLines'. -/
def asmLinesUptoCard : Claim7 := { stood := { row := asmLinesUptoRow, standIns := [], harness := (true, "ed2addb900cea77d9a9299e4864bcafc1ffeb70113a159073e2deda722c5f06c"), looks := true }, kinds := [], alts := [], laidByText := true, laidKinds := [.data, .data, .data, .data, .sentinel, .sentinel, .listed, .data, .widerDeep, .data, .data, .pinned], laidTests := true, laidLooks := .later }
def AsmLinesUptoCardSaid : Prop := Claim7.holds Tryz.pinned (.plain (OpenSpec.upto asmLinesSpec)) asmLinesUptoCard

/-- THE SECOND FORM's CARD OF 'rehearsallaw20.AsmTells'. -/
def asmTellsUptoCard : Claim7 := { stood := { row := asmTellsUptoRow, standIns := [], harness := (true, "ed2addb900cea77d9a9299e4864bcafc1ffeb70113a159073e2deda722c5f06c"), looks := true }, kinds := [], alts := [], laidByText := true, laidKinds := [.data, .data, .data, .data, .sentinel, .sentinel, .listed, .data, .widerDeep, .data, .data, .pinned], laidTests := true, laidLooks := .later }
def AsmTellsUptoCardSaid : Prop := Claim7.holds Tryz.pinned (.plain (OpenSpec.upto asmTellsSpec)) asmTellsUptoCard

/-- THE SECOND FORM's CARD OF 'rehearsallaw20.AsmBack'. -/
def asmBackUptoCard : Claim7 := { stood := { row := asmBackUptoRow, standIns := [], harness := (true, "ed2addb900cea77d9a9299e4864bcafc1ffeb70113a159073e2deda722c5f06c"), looks := true }, kinds := [], alts := [], laidByText := true, laidKinds := [.data, .data, .data, .data, .sentinel, .sentinel, .listed, .data, .widerDeep, .data, .data, .pinned], laidTests := true, laidLooks := .later }
def AsmBackUptoCardSaid : Prop := Claim7.holds Tryz.pinned (.plain (OpenSpec.upto asmBackSpec)) asmBackUptoCard
end Rows
end Go.Proofs.YtfdlifhkeicnnaaGreatDoor
