/-
  DERIVED. GIVEN WITH THE SEED: THE CARDS: each row of YtbmonkhnmaamnaaDoorRows.lean that lists a variable, with what it lists TIED to the program's text (the seventh form; the later family's looks); each row that meets fmt, with fmt's text TOLD by the authors' own Lean function (tested against real Go, not proved from fmt's source: count such statements apart). THE CARD IS WHAT COUNTS. Prove the row's statement (the work); the ties are given (YtbmonkhnmaamnaaDoorTie.lean); close each card by the builder's one call (the guide's Derived/Test/ToyasCard.lean, 'card_holds'). Laid BY PROGRAM, IN A SANDBOX (cutbox-door.mjs). By AI agents, Wed Nov 11 2026. No macro, syntax, notation, axiom, sorry.
-/
import Derived.Test.YtbmonkhnmaamnaaDoorRows
import GoSem.ClaimSeven
namespace Go.Proofs.YtbmonkhnmaamnaaDoor
namespace Rows

/-- THE TIED CARD OF 'rehearsallaw19.IsaBack'. -/
def isaBackCard : Claim7 := { stood := { row := isaBackRow, standIns := [], harness := (true, "424755d9ccba74097c4d3652f6287dc8eaeb5b86e2e835af97c17bc42f313a71"), looks := false }, kinds := [], alts := [], laidByText := true, laidKinds := [.data, .data, .data, .widerDeep, .data, .data], laidTests := true, laidLooks := .later }
def IsaBackCardSaid : Prop := Claim7.holds Tryd.pinned (.plain (OpenSpec.ofChange isaBackSpec)) isaBackCard

/-- THE TIED CARD OF 'rehearsallaw19.IsaPrints'. -/
def isaPrintsCard : Claim7 := { stood := { row := isaPrintsRow, standIns := [], harness := (true, "424755d9ccba74097c4d3652f6287dc8eaeb5b86e2e835af97c17bc42f313a71"), looks := false }, kinds := [], alts := [], laidByText := true, laidKinds := [.data, .data, .data, .widerDeep, .data, .data], laidTests := true, laidLooks := .later }
def IsaPrintsCardSaid : Prop := Claim7.holds Tryd.pinned (.plain (OpenSpec.ofChange isaPrintsSpec)) isaPrintsCard

/-- THE TIED CARD OF 'rehearsallaw19.IsaWraps'. -/
def isaWrapsCard : Claim7 := { stood := { row := isaWrapsRow, standIns := [], harness := (true, "424755d9ccba74097c4d3652f6287dc8eaeb5b86e2e835af97c17bc42f313a71"), looks := false }, kinds := [], alts := [], laidByText := true, laidKinds := [.data, .data, .data, .widerDeep, .data, .data], laidTests := true, laidLooks := .later }
def IsaWrapsCardSaid : Prop := Claim7.holds Tryd.pinned (.plain (OpenSpec.ofChange isaWrapsSpec)) isaWrapsCard

/-- THE TIED CARD OF 'rehearsallaw19.IsaTell'. -/
def isaTellCard : Claim7 := { stood := { row := isaTellRow, standIns := [], harness := (true, "424755d9ccba74097c4d3652f6287dc8eaeb5b86e2e835af97c17bc42f313a71"), looks := false }, kinds := [], alts := [], laidByText := true, laidKinds := [.data, .data, .data, .widerDeep, .data, .data], laidTests := true, laidLooks := .later }
def IsaTellCardSaid : Prop := Claim7.holds Tryd.pinned (.plain (OpenSpec.ofChange isaTellSpec)) isaTellCard

/-- THE TIED CARD OF 'rehearsallaw19.IsaNames'. -/
def isaNamesCard : Claim7 := { stood := { row := isaNamesRow, standIns := [], harness := (true, "424755d9ccba74097c4d3652f6287dc8eaeb5b86e2e835af97c17bc42f313a71"), looks := false }, kinds := [], alts := [], laidByText := true, laidKinds := [.data, .data, .data, .widerDeep, .data, .data], laidTests := true, laidLooks := .later }
def IsaNamesCardSaid : Prop := Claim7.holds Tryd.pinned (.plain (OpenSpec.ofChange isaNamesSpec)) isaNamesCard

/-- THE SECOND FORM's CARD OF 'rehearsallaw19.IsaBack'. -/
def isaBackUptoCard : Claim7 := { stood := { row := isaBackUptoRow, standIns := [], harness := (true, "424755d9ccba74097c4d3652f6287dc8eaeb5b86e2e835af97c17bc42f313a71"), looks := false }, kinds := [], alts := [], laidByText := true, laidKinds := [.data, .data, .data, .widerDeep, .data, .data], laidTests := true, laidLooks := .later }
def IsaBackUptoCardSaid : Prop := Claim7.holds Tryd.pinned (.plain (OpenSpec.upto isaBackSpec)) isaBackUptoCard

/-- THE SECOND FORM's CARD OF 'rehearsallaw19.IsaPrints'. -/
def isaPrintsUptoCard : Claim7 := { stood := { row := isaPrintsUptoRow, standIns := [], harness := (true, "424755d9ccba74097c4d3652f6287dc8eaeb5b86e2e835af97c17bc42f313a71"), looks := false }, kinds := [], alts := [], laidByText := true, laidKinds := [.data, .data, .data, .widerDeep, .data, .data], laidTests := true, laidLooks := .later }
def IsaPrintsUptoCardSaid : Prop := Claim7.holds Tryd.pinned (.plain (OpenSpec.upto isaPrintsSpec)) isaPrintsUptoCard

/-- THE SECOND FORM's CARD OF 'rehearsallaw19.IsaWraps'. -/
def isaWrapsUptoCard : Claim7 := { stood := { row := isaWrapsUptoRow, standIns := [], harness := (true, "424755d9ccba74097c4d3652f6287dc8eaeb5b86e2e835af97c17bc42f313a71"), looks := false }, kinds := [], alts := [], laidByText := true, laidKinds := [.data, .data, .data, .widerDeep, .data, .data], laidTests := true, laidLooks := .later }
def IsaWrapsUptoCardSaid : Prop := Claim7.holds Tryd.pinned (.plain (OpenSpec.upto isaWrapsSpec)) isaWrapsUptoCard

/-- THE SECOND FORM's CARD OF 'rehearsallaw19.IsaTell'. -/
def isaTellUptoCard : Claim7 := { stood := { row := isaTellUptoRow, standIns := [], harness := (true, "424755d9ccba74097c4d3652f6287dc8eaeb5b86e2e835af97c17bc42f313a71"), looks := false }, kinds := [], alts := [], laidByText := true, laidKinds := [.data, .data, .data, .widerDeep, .data, .data], laidTests := true, laidLooks := .later }
def IsaTellUptoCardSaid : Prop := Claim7.holds Tryd.pinned (.plain (OpenSpec.upto isaTellSpec)) isaTellUptoCard

/-- THE SECOND FORM's CARD OF 'rehearsallaw19.IsaNames'. -/
def isaNamesUptoCard : Claim7 := { stood := { row := isaNamesUptoRow, standIns := [], harness := (true, "424755d9ccba74097c4d3652f6287dc8eaeb5b86e2e835af97c17bc42f313a71"), looks := false }, kinds := [], alts := [], laidByText := true, laidKinds := [.data, .data, .data, .widerDeep, .data, .data], laidTests := true, laidLooks := .later }
def IsaNamesUptoCardSaid : Prop := Claim7.holds Tryd.pinned (.plain (OpenSpec.upto isaNamesSpec)) isaNamesUptoCard
end Rows
end Go.Proofs.YtbmonkhnmaamnaaDoor
