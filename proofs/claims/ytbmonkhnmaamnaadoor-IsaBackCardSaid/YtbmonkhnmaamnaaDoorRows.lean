/-
  NARROWER THAN 'FOR EVERY INPUT', by the rows' own cells (each row's printed sentence says how): IsaBack: laid · IsaPrints: laid · IsaWraps: laid · IsaTell: laid · IsaNames: laid.
  DERIVED. THE GIVEN ROWS OF THIS SEAT. 5 by the template 'for every input the law returns true; each argument reads behind the call as it read before'; 0 by the template 'total and deterministic' (their statements: YtbmonkhnmaamnaaDoorTotals.lean).
  GIVEN WITH THE SEED: the statements are not yours to turn. If you find one false, say at which input.
  Laid BY PROGRAM, IN A SANDBOX (cutbox-rows.mjs): the forced cells as the released guide's own fill.sh prints them over the translation 89f3352c3bb83669… (all of the seat's roots in one cut). By AI agents, Wed Nov 11 2026. No macro, syntax, notation, axiom, sorry.
-/
import Derived.Test.YtbmonkhnmaamnaaDoorChecked
import GoSem.Claim
import GoSem.ClaimJoined
import GoSem.ClaimMapViews
import Derived.JoinedTies
import Derived.KernelRfl
namespace Go.Proofs.YtbmonkhnmaamnaaDoor
/- THE CELL 'sum', in the pinned program and in every row, IS THE sha256 OF THE DUMP (.gsa) THAT YtbmonkhnmaamnaaDoorProg.lean LOADS. Nothing in Lean hashes anything: it is a label: what it is worth is what the hold of that sum in a sandbox is worth. -/
noncomputable def Tryd.pinned : Pinned := { name := "ytbmonkhnmaamnaadoor", sum := "89f3352c3bb83669e42dc5a3287249381c9a55cd0d56af5ade46235271af3d25", checked := Tryd.checked }
namespace Rows
def none {H : Type} : Left H := { results := [], args := [] }

/- WHAT THE LISTED PACKAGE-LEVEL VARIABLES READ AS WHEN THE CALL BEGINS. Each datum BY PROGRAM (the guide's laid-datum.mjs) off the statement by which the dump's own 'gosem.cut.vars' lays the variable. In a bare row this is a premise. The card (YtbmonkhnmaamnaaDoorCards.lean) ties it to the program's text. -/
def laid_math_bits_deBruijn32tab {H : Type} : DataW H := .agg [.lit (.int .u8 0), .lit (.int .u8 1), .lit (.int .u8 28), .lit (.int .u8 2), .lit (.int .u8 29), .lit (.int .u8 14), .lit (.int .u8 24), .lit (.int .u8 3), .lit (.int .u8 30), .lit (.int .u8 22), .lit (.int .u8 20), .lit (.int .u8 15), .lit (.int .u8 25), .lit (.int .u8 17), .lit (.int .u8 4), .lit (.int .u8 8), .lit (.int .u8 31), .lit (.int .u8 27), .lit (.int .u8 13), .lit (.int .u8 23), .lit (.int .u8 21), .lit (.int .u8 19), .lit (.int .u8 16), .lit (.int .u8 7), .lit (.int .u8 26), .lit (.int .u8 12), .lit (.int .u8 18), .lit (.int .u8 6), .lit (.int .u8 11), .lit (.int .u8 5), .lit (.int .u8 10), .lit (.int .u8 9)]
def laid_math_bits_deBruijn64tab {H : Type} : DataW H := .agg [.lit (.int .u8 0), .lit (.int .u8 1), .lit (.int .u8 56), .lit (.int .u8 2), .lit (.int .u8 57), .lit (.int .u8 49), .lit (.int .u8 28), .lit (.int .u8 3), .lit (.int .u8 61), .lit (.int .u8 58), .lit (.int .u8 42), .lit (.int .u8 50), .lit (.int .u8 38), .lit (.int .u8 29), .lit (.int .u8 17), .lit (.int .u8 4), .lit (.int .u8 62), .lit (.int .u8 47), .lit (.int .u8 59), .lit (.int .u8 36), .lit (.int .u8 45), .lit (.int .u8 43), .lit (.int .u8 51), .lit (.int .u8 22), .lit (.int .u8 53), .lit (.int .u8 39), .lit (.int .u8 33), .lit (.int .u8 30), .lit (.int .u8 24), .lit (.int .u8 18), .lit (.int .u8 12), .lit (.int .u8 5), .lit (.int .u8 63), .lit (.int .u8 55), .lit (.int .u8 48), .lit (.int .u8 27), .lit (.int .u8 60), .lit (.int .u8 41), .lit (.int .u8 37), .lit (.int .u8 16), .lit (.int .u8 46), .lit (.int .u8 35), .lit (.int .u8 44), .lit (.int .u8 21), .lit (.int .u8 52), .lit (.int .u8 32), .lit (.int .u8 23), .lit (.int .u8 11), .lit (.int .u8 54), .lit (.int .u8 26), .lit (.int .u8 40), .lit (.int .u8 15), .lit (.int .u8 34), .lit (.int .u8 20), .lit (.int .u8 31), .lit (.int .u8 10), .lit (.int .u8 25), .lit (.int .u8 14), .lit (.int .u8 19), .lit (.int .u8 9), .lit (.int .u8 13), .lit (.int .u8 8), .lit (.int .u8 7), .lit (.int .u8 6)]
def laid_internal_strconv_uint64pow10 {H : Type} : DataW H := .agg [.lit (.int .u64 1), .lit (.int .u64 10), .lit (.int .u64 100), .lit (.int .u64 1000), .lit (.int .u64 10000), .lit (.int .u64 100000), .lit (.int .u64 1000000), .lit (.int .u64 10000000), .lit (.int .u64 100000000), .lit (.int .u64 1000000000), .lit (.int .u64 10000000000), .lit (.int .u64 100000000000), .lit (.int .u64 1000000000000), .lit (.int .u64 10000000000000), .lit (.int .u64 100000000000000), .lit (.int .u64 1000000000000000), .lit (.int .u64 10000000000000000), .lit (.int .u64 100000000000000000), .lit (.int .u64 1000000000000000000), .lit (.int .u64 10000000000000000000)]
def laid_rehearsal_isa_names {H : Type} : DataW H := .agg [.lit (.string [110, 111, 112]), .lit (.string [109, 111, 118]), .lit (.string [115, 101, 116]), .lit (.string [104, 105, 103, 104]), .lit (.string [97, 100, 100]), .lit (.string [115, 117, 98]), .lit (.string [109, 117, 108]), .lit (.string [100, 105, 118]), .lit (.string [109, 111, 100]), .lit (.string [97, 110, 100]), .lit (.string [111, 114]), .lit (.string [120, 111, 114]), .lit (.string [115, 104, 108]), .lit (.string [115, 104, 114]), .lit (.string [101, 113]), .lit (.string [110, 101]), .lit (.string [108, 116]), .lit (.string [108, 101]), .lit (.string [97, 100, 100, 105]), .lit (.string [108, 100, 98]), .lit (.string [108, 100, 119]), .lit (.string [115, 116, 98]), .lit (.string [115, 116, 119]), .lit (.string [112, 117, 115, 104]), .lit (.string [112, 111, 112]), .lit (.string [106, 109, 112]), .lit (.string [106, 122]), .lit (.string [106, 110, 122]), .lit (.string [108, 105, 110, 107]), .lit (.string [106, 114]), .lit (.string [97, 100, 100, 114]), .lit (.string [99, 97, 108, 108])]
def laid_rehearsal_isa_forms {H : Type} : DataW H := .agg [.lit (.int .i64 0), .lit (.int .i64 2), .lit (.int .i64 5), .lit (.int .i64 5), .lit (.int .i64 0), .lit (.int .i64 0), .lit (.int .i64 0), .lit (.int .i64 0), .lit (.int .i64 0), .lit (.int .i64 0), .lit (.int .i64 0), .lit (.int .i64 0), .lit (.int .i64 0), .lit (.int .i64 0), .lit (.int .i64 0), .lit (.int .i64 0), .lit (.int .i64 0), .lit (.int .i64 0), .lit (.int .i64 5), .lit (.int .i64 4), .lit (.int .i64 4), .lit (.int .i64 4), .lit (.int .i64 4), .lit (.int .i64 1), .lit (.int .i64 1), .lit (.int .i64 6), .lit (.int .i64 5), .lit (.int .i64 5), .lit (.int .i64 5), .lit (.int .i64 1), .lit (.int .i64 5), .lit (.int .i64 6)]
def laid_rehearsal_isa_operands {H : Type} : DataW H := .agg [.lit (.string []), .lit (.string [114]), .lit (.string [114, 114]), .lit (.string [114, 114, 114]), .lit (.string [114, 114, 111]), .lit (.string [114, 110]), .lit (.string [110])]

/-- 'rehearsallaw19.IsaBack': WHATEVER THE INPUT: true; the input reads as it did. -/
def isaBackSpec : ChangeSpec := { name := "isaBack", fn := fun _ => fun
  | [d1, d2] => { results := [.lit (.bool true)], args := [d1, d2] }
  | _ => none }
def isaBackRow : OpenClaim := { program := "ytbmonkhnmaamnaadoor", sum := "89f3352c3bb83669e42dc5a3287249381c9a55cd0d56af5ade46235271af3d25", func := "rehearsal/rehearsallaw19.IsaBack", spec := "isaBack", inPlace := ["internal/abi.NoEscape", "internal/bytealg.MakeNoZero"], named := ["rehearsal/isa.forms", "rehearsal/isa.operands", "rehearsal/isa.names", "internal/strconv.uint64pow10", "math/bits.deBruijn32tab", "math/bits.deBruijn64tab"], apart := false, laid := [("math/bits.deBruijn32tab", laid_math_bits_deBruijn32tab), ("math/bits.deBruijn64tab", laid_math_bits_deBruijn64tab), ("internal/strconv.uint64pow10", laid_internal_strconv_uint64pow10), ("rehearsal/isa.names", laid_rehearsal_isa_names), ("rehearsal/isa.forms", laid_rehearsal_isa_forms), ("rehearsal/isa.operands", laid_rehearsal_isa_operands)] }
def IsaBackSaid : Prop := isaBackRow.holds Tryd.pinned (OpenSpec.ofChange isaBackSpec)

/-- ITS FALSE NEIGHBOUR: 'it returns false'. Refute it at one input. -/
def isaBackWrong : ChangeSpec := { name := "isaBack", fn := fun _ => fun
  | [d1, d2] => { results := [.lit (.bool false)], args := [d1, d2] }
  | _ => none }
def IsaBackWrongFalsely : Prop := isaBackRow.holds Tryd.pinned (OpenSpec.ofChange isaBackWrong)

/-- 'rehearsallaw19.IsaPrints': WHATEVER THE INPUT: true; the input reads as it did. -/
def isaPrintsSpec : ChangeSpec := { name := "isaPrints", fn := fun _ => fun
  | [d1, d2] => { results := [.lit (.bool true)], args := [d1, d2] }
  | _ => none }
def isaPrintsRow : OpenClaim := { program := "ytbmonkhnmaamnaadoor", sum := "89f3352c3bb83669e42dc5a3287249381c9a55cd0d56af5ade46235271af3d25", func := "rehearsal/rehearsallaw19.IsaPrints", spec := "isaPrints", inPlace := ["internal/abi.NoEscape", "internal/bytealg.MakeNoZero"], named := ["rehearsal/isa.forms", "rehearsal/isa.operands", "rehearsal/isa.names", "internal/strconv.uint64pow10", "math/bits.deBruijn32tab", "math/bits.deBruijn64tab"], apart := false, laid := [("math/bits.deBruijn32tab", laid_math_bits_deBruijn32tab), ("math/bits.deBruijn64tab", laid_math_bits_deBruijn64tab), ("internal/strconv.uint64pow10", laid_internal_strconv_uint64pow10), ("rehearsal/isa.names", laid_rehearsal_isa_names), ("rehearsal/isa.forms", laid_rehearsal_isa_forms), ("rehearsal/isa.operands", laid_rehearsal_isa_operands)] }
def IsaPrintsSaid : Prop := isaPrintsRow.holds Tryd.pinned (OpenSpec.ofChange isaPrintsSpec)

/-- ITS FALSE NEIGHBOUR: 'it returns false'. Refute it at one input. -/
def isaPrintsWrong : ChangeSpec := { name := "isaPrints", fn := fun _ => fun
  | [d1, d2] => { results := [.lit (.bool false)], args := [d1, d2] }
  | _ => none }
def IsaPrintsWrongFalsely : Prop := isaPrintsRow.holds Tryd.pinned (OpenSpec.ofChange isaPrintsWrong)

/-- 'rehearsallaw19.IsaWraps': WHATEVER THE INPUT: true; the input reads as it did. -/
def isaWrapsSpec : ChangeSpec := { name := "isaWraps", fn := fun _ => fun
  | [d1, d2] => { results := [.lit (.bool true)], args := [d1, d2] }
  | _ => none }
def isaWrapsRow : OpenClaim := { program := "ytbmonkhnmaamnaadoor", sum := "89f3352c3bb83669e42dc5a3287249381c9a55cd0d56af5ade46235271af3d25", func := "rehearsal/rehearsallaw19.IsaWraps", spec := "isaWraps", inPlace := ["internal/abi.NoEscape", "internal/bytealg.MakeNoZero"], named := ["rehearsal/isa.forms", "rehearsal/isa.operands", "rehearsal/isa.names", "internal/strconv.uint64pow10", "math/bits.deBruijn32tab", "math/bits.deBruijn64tab"], apart := false, laid := [("math/bits.deBruijn32tab", laid_math_bits_deBruijn32tab), ("math/bits.deBruijn64tab", laid_math_bits_deBruijn64tab), ("internal/strconv.uint64pow10", laid_internal_strconv_uint64pow10), ("rehearsal/isa.names", laid_rehearsal_isa_names), ("rehearsal/isa.forms", laid_rehearsal_isa_forms), ("rehearsal/isa.operands", laid_rehearsal_isa_operands)] }
def IsaWrapsSaid : Prop := isaWrapsRow.holds Tryd.pinned (OpenSpec.ofChange isaWrapsSpec)

/-- ITS FALSE NEIGHBOUR: 'it returns false'. Refute it at one input. -/
def isaWrapsWrong : ChangeSpec := { name := "isaWraps", fn := fun _ => fun
  | [d1, d2] => { results := [.lit (.bool false)], args := [d1, d2] }
  | _ => none }
def IsaWrapsWrongFalsely : Prop := isaWrapsRow.holds Tryd.pinned (OpenSpec.ofChange isaWrapsWrong)

/-- 'rehearsallaw19.IsaTell': WHATEVER THE INPUT: true; the input reads as it did. -/
def isaTellSpec : ChangeSpec := { name := "isaTell", fn := fun _ => fun
  | [d1, d2, d3, d4] => { results := [.lit (.bool true)], args := [d1, d2, d3, d4] }
  | _ => none }
def isaTellRow : OpenClaim := { program := "ytbmonkhnmaamnaadoor", sum := "89f3352c3bb83669e42dc5a3287249381c9a55cd0d56af5ade46235271af3d25", func := "rehearsal/rehearsallaw19.IsaTell", spec := "isaTell", inPlace := ["internal/abi.NoEscape", "internal/bytealg.MakeNoZero"], recurses := true, named := ["rehearsal/isa.forms", "rehearsal/isa.operands", "rehearsal/isa.names", "internal/strconv.uint64pow10", "math/bits.deBruijn32tab", "math/bits.deBruijn64tab"], apart := false, laid := [("math/bits.deBruijn32tab", laid_math_bits_deBruijn32tab), ("math/bits.deBruijn64tab", laid_math_bits_deBruijn64tab), ("internal/strconv.uint64pow10", laid_internal_strconv_uint64pow10), ("rehearsal/isa.names", laid_rehearsal_isa_names), ("rehearsal/isa.forms", laid_rehearsal_isa_forms), ("rehearsal/isa.operands", laid_rehearsal_isa_operands)] }
def IsaTellSaid : Prop := isaTellRow.holds Tryd.pinned (OpenSpec.ofChange isaTellSpec)

/-- ITS FALSE NEIGHBOUR: 'it returns false'. Refute it at one input. -/
def isaTellWrong : ChangeSpec := { name := "isaTell", fn := fun _ => fun
  | [d1, d2, d3, d4] => { results := [.lit (.bool false)], args := [d1, d2, d3, d4] }
  | _ => none }
def IsaTellWrongFalsely : Prop := isaTellRow.holds Tryd.pinned (OpenSpec.ofChange isaTellWrong)

/-- 'rehearsallaw19.IsaNames': WHATEVER THE INPUT: true; the input reads as it did. -/
def isaNamesSpec : ChangeSpec := { name := "isaNames", fn := fun _ => fun
  | [d] => { results := [.lit (.bool true)], args := [d] }
  | _ => none }
def isaNamesRow : OpenClaim := { program := "ytbmonkhnmaamnaadoor", sum := "89f3352c3bb83669e42dc5a3287249381c9a55cd0d56af5ade46235271af3d25", func := "rehearsal/rehearsallaw19.IsaNames", spec := "isaNames", inPlace := ["internal/abi.NoEscape", "internal/bytealg.MakeNoZero"], named := ["rehearsal/isa.forms", "rehearsal/isa.operands", "rehearsal/isa.names", "internal/strconv.uint64pow10", "math/bits.deBruijn32tab", "math/bits.deBruijn64tab"], apart := false, laid := [("math/bits.deBruijn32tab", laid_math_bits_deBruijn32tab), ("math/bits.deBruijn64tab", laid_math_bits_deBruijn64tab), ("internal/strconv.uint64pow10", laid_internal_strconv_uint64pow10), ("rehearsal/isa.names", laid_rehearsal_isa_names), ("rehearsal/isa.forms", laid_rehearsal_isa_forms), ("rehearsal/isa.operands", laid_rehearsal_isa_operands)] }
def IsaNamesSaid : Prop := isaNamesRow.holds Tryd.pinned (OpenSpec.ofChange isaNamesSpec)

/-- ITS FALSE NEIGHBOUR: 'it returns false'. Refute it at one input. -/
def isaNamesWrong : ChangeSpec := { name := "isaNames", fn := fun _ => fun
  | [d] => { results := [.lit (.bool false)], args := [d] }
  | _ => none }
def IsaNamesWrongFalsely : Prop := isaNamesRow.holds Tryd.pinned (OpenSpec.ofChange isaNamesWrong)

/- THE SECOND FORM. 'bulk': how many values and letters a reading holds, each counted each time it is reached (what is shared counts as often as it is met; a slice's spare places count too). A statement '..UptoSaid' is the law's where the arguments, and the package variables that the reading takes, are together of bulk at most 1048576: NARROWER than '..Said'. Prove '..Said' where nothing that the law and all that it calls make is longer than what came in: it says more and counts as full. Else prove '..UptoSaid'. A law counts once. -/
mutual
def uptoBulk {H : Type} : DataW H → Nat
  | .lit (.string bytes) => bytes.length + 1
  | .lit _ => 1
  | .nil => 1
  | .ptr d => uptoBulk d + 1
  | .slice elems spare => uptoBulkAll elems + uptoBulkAll spare + 1
  | .agg parts => uptoBulkAll parts + 1
  | .iface _ d => uptoBulk d + 1
  | .map entries => uptoBulkEntries entries + 1
  | .held _ => 1
def uptoBulkAll {H : Type} : List (DataW H) → Nat
  | [] => 0
  | d :: r => uptoBulk d + uptoBulkAll r
def uptoBulkEntries {H : Type} : List (Lit × DataW H) → Nat
  | [] => 0
  | x :: r => uptoBulkEntry x + uptoBulkEntries r
def uptoBulkEntry {H : Type} : Lit × DataW H → Nat
  | (.string bytes, d) => bytes.length + uptoBulk d + 1
  | (_, d) => uptoBulk d + 1
 end
def uptoSmall : (H : Type) → List (DataW H) → Bool := fun _ ds => decide (uptoBulkAll ds ≤ 1048576)
def OpenSpec.upto (s : _root_.Go.ChangeSpec) : _root_.Go.OpenSpec := { _root_.Go.OpenSpec.ofChange s with cond := some uptoSmall }

/-- 'rehearsallaw19.IsaBack', WHERE WHAT IT READS IS OF BULK AT MOST 1048576: true; the input reads as it did. -/
def isaBackUptoRow : OpenClaim := { program := "ytbmonkhnmaamnaadoor", sum := "89f3352c3bb83669e42dc5a3287249381c9a55cd0d56af5ade46235271af3d25", func := "rehearsal/rehearsallaw19.IsaBack", spec := "isaBack", inPlace := ["internal/abi.NoEscape", "internal/bytealg.MakeNoZero"], named := ["rehearsal/isa.forms", "rehearsal/isa.operands", "rehearsal/isa.names", "internal/strconv.uint64pow10", "math/bits.deBruijn32tab", "math/bits.deBruijn64tab"], apart := false, laid := [("math/bits.deBruijn32tab", laid_math_bits_deBruijn32tab), ("math/bits.deBruijn64tab", laid_math_bits_deBruijn64tab), ("internal/strconv.uint64pow10", laid_internal_strconv_uint64pow10), ("rehearsal/isa.names", laid_rehearsal_isa_names), ("rehearsal/isa.forms", laid_rehearsal_isa_forms), ("rehearsal/isa.operands", laid_rehearsal_isa_operands)], narrowed := true }
def IsaBackUptoSaid : Prop := isaBackUptoRow.holds Tryd.pinned (OpenSpec.upto isaBackSpec)

/-- 'rehearsallaw19.IsaPrints', WHERE WHAT IT READS IS OF BULK AT MOST 1048576: true; the input reads as it did. -/
def isaPrintsUptoRow : OpenClaim := { program := "ytbmonkhnmaamnaadoor", sum := "89f3352c3bb83669e42dc5a3287249381c9a55cd0d56af5ade46235271af3d25", func := "rehearsal/rehearsallaw19.IsaPrints", spec := "isaPrints", inPlace := ["internal/abi.NoEscape", "internal/bytealg.MakeNoZero"], named := ["rehearsal/isa.forms", "rehearsal/isa.operands", "rehearsal/isa.names", "internal/strconv.uint64pow10", "math/bits.deBruijn32tab", "math/bits.deBruijn64tab"], apart := false, laid := [("math/bits.deBruijn32tab", laid_math_bits_deBruijn32tab), ("math/bits.deBruijn64tab", laid_math_bits_deBruijn64tab), ("internal/strconv.uint64pow10", laid_internal_strconv_uint64pow10), ("rehearsal/isa.names", laid_rehearsal_isa_names), ("rehearsal/isa.forms", laid_rehearsal_isa_forms), ("rehearsal/isa.operands", laid_rehearsal_isa_operands)], narrowed := true }
def IsaPrintsUptoSaid : Prop := isaPrintsUptoRow.holds Tryd.pinned (OpenSpec.upto isaPrintsSpec)

/-- 'rehearsallaw19.IsaWraps', WHERE WHAT IT READS IS OF BULK AT MOST 1048576: true; the input reads as it did. -/
def isaWrapsUptoRow : OpenClaim := { program := "ytbmonkhnmaamnaadoor", sum := "89f3352c3bb83669e42dc5a3287249381c9a55cd0d56af5ade46235271af3d25", func := "rehearsal/rehearsallaw19.IsaWraps", spec := "isaWraps", inPlace := ["internal/abi.NoEscape", "internal/bytealg.MakeNoZero"], named := ["rehearsal/isa.forms", "rehearsal/isa.operands", "rehearsal/isa.names", "internal/strconv.uint64pow10", "math/bits.deBruijn32tab", "math/bits.deBruijn64tab"], apart := false, laid := [("math/bits.deBruijn32tab", laid_math_bits_deBruijn32tab), ("math/bits.deBruijn64tab", laid_math_bits_deBruijn64tab), ("internal/strconv.uint64pow10", laid_internal_strconv_uint64pow10), ("rehearsal/isa.names", laid_rehearsal_isa_names), ("rehearsal/isa.forms", laid_rehearsal_isa_forms), ("rehearsal/isa.operands", laid_rehearsal_isa_operands)], narrowed := true }
def IsaWrapsUptoSaid : Prop := isaWrapsUptoRow.holds Tryd.pinned (OpenSpec.upto isaWrapsSpec)

/-- 'rehearsallaw19.IsaTell', WHERE WHAT IT READS IS OF BULK AT MOST 1048576: true; the input reads as it did. -/
def isaTellUptoRow : OpenClaim := { program := "ytbmonkhnmaamnaadoor", sum := "89f3352c3bb83669e42dc5a3287249381c9a55cd0d56af5ade46235271af3d25", func := "rehearsal/rehearsallaw19.IsaTell", spec := "isaTell", inPlace := ["internal/abi.NoEscape", "internal/bytealg.MakeNoZero"], recurses := true, named := ["rehearsal/isa.forms", "rehearsal/isa.operands", "rehearsal/isa.names", "internal/strconv.uint64pow10", "math/bits.deBruijn32tab", "math/bits.deBruijn64tab"], apart := false, laid := [("math/bits.deBruijn32tab", laid_math_bits_deBruijn32tab), ("math/bits.deBruijn64tab", laid_math_bits_deBruijn64tab), ("internal/strconv.uint64pow10", laid_internal_strconv_uint64pow10), ("rehearsal/isa.names", laid_rehearsal_isa_names), ("rehearsal/isa.forms", laid_rehearsal_isa_forms), ("rehearsal/isa.operands", laid_rehearsal_isa_operands)], narrowed := true }
def IsaTellUptoSaid : Prop := isaTellUptoRow.holds Tryd.pinned (OpenSpec.upto isaTellSpec)

/-- 'rehearsallaw19.IsaNames', WHERE WHAT IT READS IS OF BULK AT MOST 1048576: true; the input reads as it did. -/
def isaNamesUptoRow : OpenClaim := { program := "ytbmonkhnmaamnaadoor", sum := "89f3352c3bb83669e42dc5a3287249381c9a55cd0d56af5ade46235271af3d25", func := "rehearsal/rehearsallaw19.IsaNames", spec := "isaNames", inPlace := ["internal/abi.NoEscape", "internal/bytealg.MakeNoZero"], named := ["rehearsal/isa.forms", "rehearsal/isa.operands", "rehearsal/isa.names", "internal/strconv.uint64pow10", "math/bits.deBruijn32tab", "math/bits.deBruijn64tab"], apart := false, laid := [("math/bits.deBruijn32tab", laid_math_bits_deBruijn32tab), ("math/bits.deBruijn64tab", laid_math_bits_deBruijn64tab), ("internal/strconv.uint64pow10", laid_internal_strconv_uint64pow10), ("rehearsal/isa.names", laid_rehearsal_isa_names), ("rehearsal/isa.forms", laid_rehearsal_isa_forms), ("rehearsal/isa.operands", laid_rehearsal_isa_operands)], narrowed := true }
def IsaNamesUptoSaid : Prop := isaNamesUptoRow.holds Tryd.pinned (OpenSpec.upto isaNamesSpec)

end Rows
end Go.Proofs.YtbmonkhnmaamnaaDoor
