/-
  NARROWER THAN 'FOR EVERY INPUT', by the rows' own cells (each row's printed sentence says how): CpuNumbers: laid · CpuConstants: laid · CpuTells: laid · CpuWords: laid · CpuStack: laid.
  DERIVED. THE GIVEN ROWS OF THIS SEAT. 5 by the template 'for every input the law returns true; each argument reads behind the call as it read before'; 0 by the template 'total and deterministic' (their statements: YtibaebgihbdphaaDoorTotals.lean).
  GIVEN WITH THE SEED: the statements are not yours to turn. If you find one false, say at which input.
  Laid BY PROGRAM, IN A SANDBOX (cutbox-rows.mjs): the forced cells as the released guide's own fill.sh prints them over the translation 4c6ae55a311582f8… (all of the seat's roots in one cut). By AI agents, Wed Nov 11 2026. No macro, syntax, notation, axiom, sorry.
-/
import Derived.Test.YtibaebgihbdphaaDoorChecked
import GoSem.Claim
import GoSem.ClaimJoined
import GoSem.ClaimMapViews
import Derived.JoinedTies
import Derived.KernelRfl
namespace Go.Proofs.YtibaebgihbdphaaDoor
/- THE CELL 'sum', in the pinned program and in every row, IS THE sha256 OF THE DUMP (.gsa) THAT YtibaebgihbdphaaDoorProg.lean LOADS. Nothing in Lean hashes anything: it is a label: what it is worth is what the hold of that sum in a sandbox is worth. -/
noncomputable def Tryd.pinned : Pinned := { name := "ytibaebgihbdphaadoor", sum := "4c6ae55a311582f8b859ba51160c1c752b33f1d3d0519154121b163a07f8404f", checked := Tryd.checked }
namespace Rows
def none {H : Type} : Left H := { results := [], args := [] }

/- WHAT THE LISTED PACKAGE-LEVEL VARIABLES READ AS WHEN THE CALL BEGINS. Each datum BY PROGRAM (the guide's laid-datum.mjs) off the statement by which the dump's own 'gosem.cut.vars' lays the variable. In a bare row this is a premise. The card (YtibaebgihbdphaaDoorCards.lean) ties it to the program's text. -/
def laid_rehearsal_isa_forms {H : Type} : DataW H := .agg [.lit (.int .i64 0), .lit (.int .i64 2), .lit (.int .i64 5), .lit (.int .i64 5), .lit (.int .i64 0), .lit (.int .i64 0), .lit (.int .i64 0), .lit (.int .i64 0), .lit (.int .i64 0), .lit (.int .i64 0), .lit (.int .i64 0), .lit (.int .i64 0), .lit (.int .i64 0), .lit (.int .i64 0), .lit (.int .i64 0), .lit (.int .i64 0), .lit (.int .i64 0), .lit (.int .i64 0), .lit (.int .i64 5), .lit (.int .i64 4), .lit (.int .i64 4), .lit (.int .i64 4), .lit (.int .i64 4), .lit (.int .i64 1), .lit (.int .i64 1), .lit (.int .i64 6), .lit (.int .i64 5), .lit (.int .i64 5), .lit (.int .i64 5), .lit (.int .i64 1), .lit (.int .i64 5), .lit (.int .i64 6)]
def laid_rehearsal_isa_operands {H : Type} : DataW H := .agg [.lit (.string []), .lit (.string [114]), .lit (.string [114, 114]), .lit (.string [114, 114, 114]), .lit (.string [114, 114, 111]), .lit (.string [114, 110]), .lit (.string [110])]

/-- 'rehearsallaw21.CpuNumbers': WHATEVER THE INPUT: true; the input reads as it did. -/
def cpuNumbersSpec : ChangeSpec := { name := "cpuNumbers", fn := fun _ => fun
  | [d1, d2, d3] => { results := [.lit (.bool true)], args := [d1, d2, d3] }
  | _ => none }
def cpuNumbersRow : OpenClaim := { program := "ytibaebgihbdphaadoor", sum := "4c6ae55a311582f8b859ba51160c1c752b33f1d3d0519154121b163a07f8404f", func := "rehearsal/rehearsallaw21.CpuNumbers", spec := "cpuNumbers", named := ["rehearsal/isa.operands", "rehearsal/isa.forms"], apart := false, laid := [("rehearsal/isa.forms", laid_rehearsal_isa_forms), ("rehearsal/isa.operands", laid_rehearsal_isa_operands)] }
def CpuNumbersSaid : Prop := cpuNumbersRow.holds Tryd.pinned (OpenSpec.ofChange cpuNumbersSpec)

/-- ITS FALSE NEIGHBOUR: 'it returns false'. Refute it at one input. -/
def cpuNumbersWrong : ChangeSpec := { name := "cpuNumbers", fn := fun _ => fun
  | [d1, d2, d3] => { results := [.lit (.bool false)], args := [d1, d2, d3] }
  | _ => none }
def CpuNumbersWrongFalsely : Prop := cpuNumbersRow.holds Tryd.pinned (OpenSpec.ofChange cpuNumbersWrong)

/-- 'rehearsallaw21.CpuConstants': WHATEVER THE INPUT: true; the input reads as it did. -/
def cpuConstantsSpec : ChangeSpec := { name := "cpuConstants", fn := fun _ => fun
  | [d1, d2, d3] => { results := [.lit (.bool true)], args := [d1, d2, d3] }
  | _ => none }
def cpuConstantsRow : OpenClaim := { program := "ytibaebgihbdphaadoor", sum := "4c6ae55a311582f8b859ba51160c1c752b33f1d3d0519154121b163a07f8404f", func := "rehearsal/rehearsallaw21.CpuConstants", spec := "cpuConstants", named := ["rehearsal/isa.operands", "rehearsal/isa.forms"], apart := false, laid := [("rehearsal/isa.forms", laid_rehearsal_isa_forms), ("rehearsal/isa.operands", laid_rehearsal_isa_operands)] }
def CpuConstantsSaid : Prop := cpuConstantsRow.holds Tryd.pinned (OpenSpec.ofChange cpuConstantsSpec)

/-- ITS FALSE NEIGHBOUR: 'it returns false'. Refute it at one input. -/
def cpuConstantsWrong : ChangeSpec := { name := "cpuConstants", fn := fun _ => fun
  | [d1, d2, d3] => { results := [.lit (.bool false)], args := [d1, d2, d3] }
  | _ => none }
def CpuConstantsWrongFalsely : Prop := cpuConstantsRow.holds Tryd.pinned (OpenSpec.ofChange cpuConstantsWrong)

/-- 'rehearsallaw21.CpuTells': WHATEVER THE INPUT: true; the input reads as it did. -/
def cpuTellsSpec : ChangeSpec := { name := "cpuTells", fn := fun _ => fun
  | [d1, d2, d3, d4] => { results := [.lit (.bool true)], args := [d1, d2, d3, d4] }
  | _ => none }
def cpuTellsRow : OpenClaim := { program := "ytibaebgihbdphaadoor", sum := "4c6ae55a311582f8b859ba51160c1c752b33f1d3d0519154121b163a07f8404f", func := "rehearsal/rehearsallaw21.CpuTells", spec := "cpuTells", named := ["rehearsal/isa.operands", "rehearsal/isa.forms"], apart := false, laid := [("rehearsal/isa.forms", laid_rehearsal_isa_forms), ("rehearsal/isa.operands", laid_rehearsal_isa_operands)] }
def CpuTellsSaid : Prop := cpuTellsRow.holds Tryd.pinned (OpenSpec.ofChange cpuTellsSpec)

/-- ITS FALSE NEIGHBOUR: 'it returns false'. Refute it at one input. -/
def cpuTellsWrong : ChangeSpec := { name := "cpuTells", fn := fun _ => fun
  | [d1, d2, d3, d4] => { results := [.lit (.bool false)], args := [d1, d2, d3, d4] }
  | _ => none }
def CpuTellsWrongFalsely : Prop := cpuTellsRow.holds Tryd.pinned (OpenSpec.ofChange cpuTellsWrong)

/-- 'rehearsallaw21.CpuWords': WHATEVER THE INPUT: true; the input reads as it did. -/
def cpuWordsSpec : ChangeSpec := { name := "cpuWords", fn := fun _ => fun
  | [d1, d2, d3] => { results := [.lit (.bool true)], args := [d1, d2, d3] }
  | _ => none }
def cpuWordsRow : OpenClaim := { program := "ytibaebgihbdphaadoor", sum := "4c6ae55a311582f8b859ba51160c1c752b33f1d3d0519154121b163a07f8404f", func := "rehearsal/rehearsallaw21.CpuWords", spec := "cpuWords", named := ["rehearsal/isa.operands", "rehearsal/isa.forms"], apart := false, laid := [("rehearsal/isa.forms", laid_rehearsal_isa_forms), ("rehearsal/isa.operands", laid_rehearsal_isa_operands)] }
def CpuWordsSaid : Prop := cpuWordsRow.holds Tryd.pinned (OpenSpec.ofChange cpuWordsSpec)

/-- ITS FALSE NEIGHBOUR: 'it returns false'. Refute it at one input. -/
def cpuWordsWrong : ChangeSpec := { name := "cpuWords", fn := fun _ => fun
  | [d1, d2, d3] => { results := [.lit (.bool false)], args := [d1, d2, d3] }
  | _ => none }
def CpuWordsWrongFalsely : Prop := cpuWordsRow.holds Tryd.pinned (OpenSpec.ofChange cpuWordsWrong)

/-- 'rehearsallaw21.CpuStack': WHATEVER THE INPUT: true; the input reads as it did. -/
def cpuStackSpec : ChangeSpec := { name := "cpuStack", fn := fun _ => fun
  | [d1, d2, d3] => { results := [.lit (.bool true)], args := [d1, d2, d3] }
  | _ => none }
def cpuStackRow : OpenClaim := { program := "ytibaebgihbdphaadoor", sum := "4c6ae55a311582f8b859ba51160c1c752b33f1d3d0519154121b163a07f8404f", func := "rehearsal/rehearsallaw21.CpuStack", spec := "cpuStack", named := ["rehearsal/isa.operands", "rehearsal/isa.forms"], apart := false, laid := [("rehearsal/isa.forms", laid_rehearsal_isa_forms), ("rehearsal/isa.operands", laid_rehearsal_isa_operands)] }
def CpuStackSaid : Prop := cpuStackRow.holds Tryd.pinned (OpenSpec.ofChange cpuStackSpec)

/-- ITS FALSE NEIGHBOUR: 'it returns false'. Refute it at one input. -/
def cpuStackWrong : ChangeSpec := { name := "cpuStack", fn := fun _ => fun
  | [d1, d2, d3] => { results := [.lit (.bool false)], args := [d1, d2, d3] }
  | _ => none }
def CpuStackWrongFalsely : Prop := cpuStackRow.holds Tryd.pinned (OpenSpec.ofChange cpuStackWrong)

/- THE SECOND FORM. 'bulk': how many values and letters a reading holds, each counted each time it is reached (what is shared counts as often as it is met; a slice's spare places count too). A statement '..UptoSaid' is the law's where the arguments, and the package variables that the reading takes, are together of bulk at most 1048576: NARROWER than '..Said'. Prove '..Said' where nothing that the law and all that it calls make is longer than what came in: it says more and counts as full. Else prove '..UptoSaid'. A law counts once. -/
mutual
def uptoBulk {H : Type} : DataW H → Nat
  | .lit (.string bytes) => bytes.length + 1
  | .lit _ => 1
  | .nil => 1
  | .ptr d => uptoBulk d + 1
  | .slice elems spare => uptoBulkAll elems + uptoBulkAll spare + 1
  | .agg parts => uptoBulkAll parts + 1
  | .iface _ d => uptoBulk d + 1
  | .map entries => uptoBulkEntries entries + 1
  | .held _ => 1
def uptoBulkAll {H : Type} : List (DataW H) → Nat
  | [] => 0
  | d :: r => uptoBulk d + uptoBulkAll r
def uptoBulkEntries {H : Type} : List (Lit × DataW H) → Nat
  | [] => 0
  | x :: r => uptoBulkEntry x + uptoBulkEntries r
def uptoBulkEntry {H : Type} : Lit × DataW H → Nat
  | (.string bytes, d) => bytes.length + uptoBulk d + 1
  | (_, d) => uptoBulk d + 1
 end
def uptoSmall : (H : Type) → List (DataW H) → Bool := fun _ ds => decide (uptoBulkAll ds ≤ 1048576)
def OpenSpec.upto (s : _root_.Go.ChangeSpec) : _root_.Go.OpenSpec := { _root_.Go.OpenSpec.ofChange s with cond := some uptoSmall }

/-- 'rehearsallaw21.CpuNumbers', WHERE WHAT IT READS IS OF BULK AT MOST 1048576: true; the input reads as it did. -/
def cpuNumbersUptoRow : OpenClaim := { program := "ytibaebgihbdphaadoor", sum := "4c6ae55a311582f8b859ba51160c1c752b33f1d3d0519154121b163a07f8404f", func := "rehearsal/rehearsallaw21.CpuNumbers", spec := "cpuNumbers", named := ["rehearsal/isa.operands", "rehearsal/isa.forms"], apart := false, laid := [("rehearsal/isa.forms", laid_rehearsal_isa_forms), ("rehearsal/isa.operands", laid_rehearsal_isa_operands)], narrowed := true }
def CpuNumbersUptoSaid : Prop := cpuNumbersUptoRow.holds Tryd.pinned (OpenSpec.upto cpuNumbersSpec)

/-- 'rehearsallaw21.CpuConstants', WHERE WHAT IT READS IS OF BULK AT MOST 1048576: true; the input reads as it did. -/
def cpuConstantsUptoRow : OpenClaim := { program := "ytibaebgihbdphaadoor", sum := "4c6ae55a311582f8b859ba51160c1c752b33f1d3d0519154121b163a07f8404f", func := "rehearsal/rehearsallaw21.CpuConstants", spec := "cpuConstants", named := ["rehearsal/isa.operands", "rehearsal/isa.forms"], apart := false, laid := [("rehearsal/isa.forms", laid_rehearsal_isa_forms), ("rehearsal/isa.operands", laid_rehearsal_isa_operands)], narrowed := true }
def CpuConstantsUptoSaid : Prop := cpuConstantsUptoRow.holds Tryd.pinned (OpenSpec.upto cpuConstantsSpec)

/-- 'rehearsallaw21.CpuTells', WHERE WHAT IT READS IS OF BULK AT MOST 1048576: true; the input reads as it did. -/
def cpuTellsUptoRow : OpenClaim := { program := "ytibaebgihbdphaadoor", sum := "4c6ae55a311582f8b859ba51160c1c752b33f1d3d0519154121b163a07f8404f", func := "rehearsal/rehearsallaw21.CpuTells", spec := "cpuTells", named := ["rehearsal/isa.operands", "rehearsal/isa.forms"], apart := false, laid := [("rehearsal/isa.forms", laid_rehearsal_isa_forms), ("rehearsal/isa.operands", laid_rehearsal_isa_operands)], narrowed := true }
def CpuTellsUptoSaid : Prop := cpuTellsUptoRow.holds Tryd.pinned (OpenSpec.upto cpuTellsSpec)

/-- 'rehearsallaw21.CpuWords', WHERE WHAT IT READS IS OF BULK AT MOST 1048576: true; the input reads as it did. -/
def cpuWordsUptoRow : OpenClaim := { program := "ytibaebgihbdphaadoor", sum := "4c6ae55a311582f8b859ba51160c1c752b33f1d3d0519154121b163a07f8404f", func := "rehearsal/rehearsallaw21.CpuWords", spec := "cpuWords", named := ["rehearsal/isa.operands", "rehearsal/isa.forms"], apart := false, laid := [("rehearsal/isa.forms", laid_rehearsal_isa_forms), ("rehearsal/isa.operands", laid_rehearsal_isa_operands)], narrowed := true }
def CpuWordsUptoSaid : Prop := cpuWordsUptoRow.holds Tryd.pinned (OpenSpec.upto cpuWordsSpec)

/-- 'rehearsallaw21.CpuStack', WHERE WHAT IT READS IS OF BULK AT MOST 1048576: true; the input reads as it did. -/
def cpuStackUptoRow : OpenClaim := { program := "ytibaebgihbdphaadoor", sum := "4c6ae55a311582f8b859ba51160c1c752b33f1d3d0519154121b163a07f8404f", func := "rehearsal/rehearsallaw21.CpuStack", spec := "cpuStack", named := ["rehearsal/isa.operands", "rehearsal/isa.forms"], apart := false, laid := [("rehearsal/isa.forms", laid_rehearsal_isa_forms), ("rehearsal/isa.operands", laid_rehearsal_isa_operands)], narrowed := true }
def CpuStackUptoSaid : Prop := cpuStackUptoRow.holds Tryd.pinned (OpenSpec.upto cpuStackSpec)

end Rows
end Go.Proofs.YtibaebgihbdphaaDoor
