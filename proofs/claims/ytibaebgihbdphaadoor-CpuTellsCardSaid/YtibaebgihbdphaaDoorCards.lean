/-
  DERIVED. GIVEN WITH THE SEED: THE CARDS: each row of YtibaebgihbdphaaDoorRows.lean that lists a variable, with what it lists TIED to the program's text (the seventh form; the later family's looks); each row that meets fmt, with fmt's text TOLD by the authors' own Lean function (tested against real Go, not proved from fmt's source: count such statements apart). THE CARD IS WHAT COUNTS. Prove the row's statement (the work); the ties are given (YtibaebgihbdphaaDoorTie.lean); close each card by the builder's one call (the guide's Derived/Test/ToyasCard.lean, 'card_holds'). Laid BY PROGRAM, IN A SANDBOX (cutbox-door.mjs). By AI agents, Wed Nov 11 2026. No macro, syntax, notation, axiom, sorry.
-/
import Derived.Test.YtibaebgihbdphaaDoorRows
import GoSem.ClaimSeven
namespace Go.Proofs.YtibaebgihbdphaaDoor
namespace Rows

/-- THE TIED CARD OF 'rehearsallaw21.CpuNumbers'. -/
def cpuNumbersCard : Claim7 := { stood := { row := cpuNumbersRow, standIns := [], harness := (true, "58f1f4971c04e58d3a53b06dccf01729a275d7f1be2a3838d5b8237774ab8fcc"), looks := false }, kinds := [], alts := [], laidByText := true, laidKinds := [.data, .data], laidTests := true, laidLooks := .later }
def CpuNumbersCardSaid : Prop := Claim7.holds Tryd.pinned (.plain (OpenSpec.ofChange cpuNumbersSpec)) cpuNumbersCard

/-- THE TIED CARD OF 'rehearsallaw21.CpuConstants'. -/
def cpuConstantsCard : Claim7 := { stood := { row := cpuConstantsRow, standIns := [], harness := (true, "58f1f4971c04e58d3a53b06dccf01729a275d7f1be2a3838d5b8237774ab8fcc"), looks := false }, kinds := [], alts := [], laidByText := true, laidKinds := [.data, .data], laidTests := true, laidLooks := .later }
def CpuConstantsCardSaid : Prop := Claim7.holds Tryd.pinned (.plain (OpenSpec.ofChange cpuConstantsSpec)) cpuConstantsCard

/-- THE TIED CARD OF 'rehearsallaw21.CpuTells'. -/
def cpuTellsCard : Claim7 := { stood := { row := cpuTellsRow, standIns := [], harness := (true, "58f1f4971c04e58d3a53b06dccf01729a275d7f1be2a3838d5b8237774ab8fcc"), looks := false }, kinds := [], alts := [], laidByText := true, laidKinds := [.data, .data], laidTests := true, laidLooks := .later }
def CpuTellsCardSaid : Prop := Claim7.holds Tryd.pinned (.plain (OpenSpec.ofChange cpuTellsSpec)) cpuTellsCard

/-- THE TIED CARD OF 'rehearsallaw21.CpuWords'. -/
def cpuWordsCard : Claim7 := { stood := { row := cpuWordsRow, standIns := [], harness := (true, "58f1f4971c04e58d3a53b06dccf01729a275d7f1be2a3838d5b8237774ab8fcc"), looks := false }, kinds := [], alts := [], laidByText := true, laidKinds := [.data, .data], laidTests := true, laidLooks := .later }
def CpuWordsCardSaid : Prop := Claim7.holds Tryd.pinned (.plain (OpenSpec.ofChange cpuWordsSpec)) cpuWordsCard

/-- THE TIED CARD OF 'rehearsallaw21.CpuStack'. -/
def cpuStackCard : Claim7 := { stood := { row := cpuStackRow, standIns := [], harness := (true, "58f1f4971c04e58d3a53b06dccf01729a275d7f1be2a3838d5b8237774ab8fcc"), looks := false }, kinds := [], alts := [], laidByText := true, laidKinds := [.data, .data], laidTests := true, laidLooks := .later }
def CpuStackCardSaid : Prop := Claim7.holds Tryd.pinned (.plain (OpenSpec.ofChange cpuStackSpec)) cpuStackCard

/-- THE SECOND FORM's CARD OF 'rehearsallaw21.CpuNumbers'. -/
def cpuNumbersUptoCard : Claim7 := { stood := { row := cpuNumbersUptoRow, standIns := [], harness := (true, "58f1f4971c04e58d3a53b06dccf01729a275d7f1be2a3838d5b8237774ab8fcc"), looks := false }, kinds := [], alts := [], laidByText := true, laidKinds := [.data, .data], laidTests := true, laidLooks := .later }
def CpuNumbersUptoCardSaid : Prop := Claim7.holds Tryd.pinned (.plain (OpenSpec.upto cpuNumbersSpec)) cpuNumbersUptoCard

/-- THE SECOND FORM's CARD OF 'rehearsallaw21.CpuConstants'. -/
def cpuConstantsUptoCard : Claim7 := { stood := { row := cpuConstantsUptoRow, standIns := [], harness := (true, "58f1f4971c04e58d3a53b06dccf01729a275d7f1be2a3838d5b8237774ab8fcc"), looks := false }, kinds := [], alts := [], laidByText := true, laidKinds := [.data, .data], laidTests := true, laidLooks := .later }
def CpuConstantsUptoCardSaid : Prop := Claim7.holds Tryd.pinned (.plain (OpenSpec.upto cpuConstantsSpec)) cpuConstantsUptoCard

/-- THE SECOND FORM's CARD OF 'rehearsallaw21.CpuTells'. -/
def cpuTellsUptoCard : Claim7 := { stood := { row := cpuTellsUptoRow, standIns := [], harness := (true, "58f1f4971c04e58d3a53b06dccf01729a275d7f1be2a3838d5b8237774ab8fcc"), looks := false }, kinds := [], alts := [], laidByText := true, laidKinds := [.data, .data], laidTests := true, laidLooks := .later }
def CpuTellsUptoCardSaid : Prop := Claim7.holds Tryd.pinned (.plain (OpenSpec.upto cpuTellsSpec)) cpuTellsUptoCard

/-- THE SECOND FORM's CARD OF 'rehearsallaw21.CpuWords'. -/
def cpuWordsUptoCard : Claim7 := { stood := { row := cpuWordsUptoRow, standIns := [], harness := (true, "58f1f4971c04e58d3a53b06dccf01729a275d7f1be2a3838d5b8237774ab8fcc"), looks := false }, kinds := [], alts := [], laidByText := true, laidKinds := [.data, .data], laidTests := true, laidLooks := .later }
def CpuWordsUptoCardSaid : Prop := Claim7.holds Tryd.pinned (.plain (OpenSpec.upto cpuWordsSpec)) cpuWordsUptoCard

/-- THE SECOND FORM's CARD OF 'rehearsallaw21.CpuStack'. -/
def cpuStackUptoCard : Claim7 := { stood := { row := cpuStackUptoRow, standIns := [], harness := (true, "58f1f4971c04e58d3a53b06dccf01729a275d7f1be2a3838d5b8237774ab8fcc"), looks := false }, kinds := [], alts := [], laidByText := true, laidKinds := [.data, .data], laidTests := true, laidLooks := .later }
def CpuStackUptoCardSaid : Prop := Claim7.holds Tryd.pinned (.plain (OpenSpec.upto cpuStackSpec)) cpuStackUptoCard
end Rows
end Go.Proofs.YtibaebgihbdphaaDoor
