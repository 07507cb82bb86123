/- Lemmas and walks for the law of this seat (part 27). -/
import Derived.Test.YtgboffbbpmileaaGreatDoorPj26
import Derived.Shelf.Vars
import Derived.Lib.LaidIn
set_option linter.unusedVariables false
set_option linter.unusedSimpArgs false
namespace Go.Proofs.YtgboffbbpmileaaGreatDoor
open Go Go.ChangeShapes Go.WideShapes Go.ChangeAt Go.RowKit
theorem own : ownKnob Tryz.prog.godebug = none := by kernel_rfl
theorem kids : Kids Tryz.prog (· < Tryz.prog.types.size) := kids_rows (by kernel_rfl) (by kernel_rfl)
theorem slices : ∀ t e, t < Tryz.prog.types.size → Tryz.prog.underlying t = some (.slice e) → 0 < Tryz.prog.cellsOf e := slices_full_of _ (by kernel_rfl)
def laidList : List (String × DataW Unit) := [("math/bits.deBruijn32tab", Rows.laid_math_bits_deBruijn32tab), ("math/bits.deBruijn64tab", Rows.laid_math_bits_deBruijn64tab), ("internal/strconv.uint64pow10", Rows.laid_internal_strconv_uint64pow10), ("unicode/utf8.acceptRanges", Rows.laid_unicode_utf8_acceptRanges), ("strconv.ErrRange", Rows.laid_strconv_ErrRange), ("strconv.ErrSyntax", Rows.laid_strconv_ErrSyntax), ("rehearsal/parse.closers", Rows.laid_rehearsal_parse_closers), ("unicode/utf8.first", Rows.laid_unicode_utf8_first)]
set_option maxRecDepth 100000 in
/-- What the row's list gives: the tables. -/
theorem tables {W : World} (h : laidMetH Tryz.prog laidList W) (hSh : W.ShapedOpen Tryz.prog) : TabP W := by
 have h' : laidMet Tryz.prog laidList W := h
 obtain ⟨ps, hV, _⟩ := h'
 obtain ⟨T0, qs0, hV1⟩ := laid_tab (k := .u8) (zs := [0, 1, 28, 2, 29, 14, 24, 3, 30, 22, 20, 15, 25, 17, 4, 8, 31, 27, 13, 23, 21, 19, 16, 7, 26, 12, 18, 6, 11, 5, 10, 9]) (g := 7) (by kernel_rfl) (by kernel_rfl) Tryz.underlying212 Tryz.underlying5 (by kernel_rfl) (by kernel_rfl) hV
 obtain ⟨T1, qs1, hV2⟩ := laid_tab (k := .u8) (zs := [0, 1, 56, 2, 57, 49, 28, 3, 61, 58, 42, 50, 38, 29, 17, 4, 62, 47, 59, 36, 45, 43, 51, 22, 53, 39, 33, 30, 24, 18, 12, 5, 63, 55, 48, 27, 60, 41, 37, 16, 46, 35, 44, 21, 52, 32, 23, 11, 54, 26, 40, 15, 34, 20, 31, 10, 25, 14, 19, 9, 13, 8, 7, 6]) (g := 8) (by kernel_rfl) (by kernel_rfl) Tryz.underlying213 Tryz.underlying5 (by kernel_rfl) (by kernel_rfl) hV1
 obtain ⟨T2, qs2, hV3⟩ := laid_tab (k := .u64) (zs := [1, 10, 100, 1000, 10000, 100000, 1000000, 10000000, 100000000, 1000000000, 10000000000, 100000000000, 1000000000000, 10000000000000, 100000000000000, 1000000000000000, 10000000000000000, 100000000000000000, 1000000000000000000, 10000000000000000000]) (g := 6) (by kernel_rfl) (by kernel_rfl) Tryz.underlying207 Tryz.underlying183 (by kernel_rfl) (by kernel_rfl) hV2
 obtain ⟨qs3, hV4⟩ := laid_skip hV3
 obtain ⟨T4, qs4, hV5⟩ := laid_iface (g := 3) (by kernel_rfl) (by kernel_rfl) Tryz.underlying145 hV4
 obtain ⟨T5, qs5, hV6⟩ := laid_iface (g := 2) (by kernel_rfl) (by kernel_rfl) Tryz.underlying145 hV5
 obtain ⟨T6, qs6, hV7⟩ := laid_sslice (ss := [[116, 104, 101, 110], [101, 108, 105, 102], [101, 108, 115, 101], [102, 105], [100, 111], [100, 111, 110, 101], [101, 115, 97, 99], [125], [105, 110], [33]]) (g := 0) (by kernel_rfl) (by kernel_rfl) Tryz.underlying50 Tryz.underlying9 (by kernel_rfl) (by simp) hV6
 obtain ⟨qs7, hV8⟩ := laid_skip hV7
 obtain ⟨m, hm⟩ := cell_of_shapedOpen_int (g := 1) (zero := #[.int .i64 0]) (t := 3) hSh (of_decide_eq_true (by kernel_rfl)) (by kernel_rfl) rfl (by kernel_rfl) (by kernel_rfl) Tryz.underlying3
 obtain ⟨cg, co, cc, h1, h2, h3⟩ := T6
 exact ⟨⟨m, hm⟩, cg, co, cc, h1, h2, fun j s hs => h3 j s hs⟩
end Go.Proofs.YtgboffbbpmileaaGreatDoor
set_option linter.unusedVariables false
set_option linter.unusedSimpArgs false
namespace Go.Proofs.YtgboffbbpmileaaGreatDoor
open Go Go.ChangeShapes Go.WideShapes Go.ChangeAt Go.RowKit
def low : Nat := 14
def lay (h : Array Obj) (g : Nat) (cs : Array Value) : Array Obj := h.modify g fun
 | .cells _ t frozen => .cells cs t frozen
 | o => o
/-- A world for the witness: the settled one, the tables as the initialisers lay them. -/
noncomputable def laidWorld (os : Os) : World :=
 { World.holding Tryz.prog os ⟨#[.cells #[.string ⟨#[118, 97, 108, 117, 101, 32, 111, 117, 116, 32, 111, 102, 32, 114, 97, 110, 103, 101]⟩] 199, .cells #[.string ⟨#[105, 110, 118, 97, 108, 105, 100, 32, 115, 121, 110, 116, 97, 120]⟩] 199, .cells #[.string ⟨#[116, 104, 101, 110]⟩, .string ⟨#[101, 108, 105, 102]⟩, .string ⟨#[101, 108, 115, 101]⟩, .string ⟨#[102, 105]⟩, .string ⟨#[100, 111]⟩, .string ⟨#[100, 111, 110, 101]⟩, .string ⟨#[101, 115, 97, 99]⟩, .string ⟨#[125]⟩, .string ⟨#[105, 110]⟩, .string ⟨#[33]⟩] 9], #[], []⟩ with heap := (lay (lay (lay (lay (lay (lay (lay (lay (World.holding Tryz.prog os ⟨#[.cells #[.string ⟨#[118, 97, 108, 117, 101, 32, 111, 117, 116, 32, 111, 102, 32, 114, 97, 110, 103, 101]⟩] 199, .cells #[.string ⟨#[105, 110, 118, 97, 108, 105, 100, 32, 115, 121, 110, 116, 97, 120]⟩] 199, .cells #[.string ⟨#[116, 104, 101, 110]⟩, .string ⟨#[101, 108, 105, 102]⟩, .string ⟨#[101, 108, 115, 101]⟩, .string ⟨#[102, 105]⟩, .string ⟨#[100, 111]⟩, .string ⟨#[100, 111, 110, 101]⟩, .string ⟨#[101, 115, 97, 99]⟩, .string ⟨#[125]⟩, .string ⟨#[105, 110]⟩, .string ⟨#[33]⟩] 9], #[], []⟩).heap 7 #[.int .u8 0, .int .u8 1, .int .u8 28, .int .u8 2, .int .u8 29, .int .u8 14, .int .u8 24, .int .u8 3, .int .u8 30, .int .u8 22, .int .u8 20, .int .u8 15, .int .u8 25, .int .u8 17, .int .u8 4, .int .u8 8, .int .u8 31, .int .u8 27, .int .u8 13, .int .u8 23, .int .u8 21, .int .u8 19, .int .u8 16, .int .u8 7, .int .u8 26, .int .u8 12, .int .u8 18, .int .u8 6, .int .u8 11, .int .u8 5, .int .u8 10, .int .u8 9]) 8 #[.int .u8 0, .int .u8 1, .int .u8 56, .int .u8 2, .int .u8 57, .int .u8 49, .int .u8 28, .int .u8 3, .int .u8 61, .int .u8 58, .int .u8 42, .int .u8 50, .int .u8 38, .int .u8 29, .int .u8 17, .int .u8 4, .int .u8 62, .int .u8 47, .int .u8 59, .int .u8 36, .int .u8 45, .int .u8 43, .int .u8 51, .int .u8 22, .int .u8 53, .int .u8 39, .int .u8 33, .int .u8 30, .int .u8 24, .int .u8 18, .int .u8 12, .int .u8 5, .int .u8 63, .int .u8 55, .int .u8 48, .int .u8 27, .int .u8 60, .int .u8 41, .int .u8 37, .int .u8 16, .int .u8 46, .int .u8 35, .int .u8 44, .int .u8 21, .int .u8 52, .int .u8 32, .int .u8 23, .int .u8 11, .int .u8 54, .int .u8 26, .int .u8 40, .int .u8 15, .int .u8 34, .int .u8 20, .int .u8 31, .int .u8 10, .int .u8 25, .int .u8 14, .int .u8 19, .int .u8 9, .int .u8 13, .int .u8 8, .int .u8 7, .int .u8 6]) 6 #[.int .u64 1, .int .u64 10, .int .u64 100, .int .u64 1000, .int .u64 10000, .int .u64 100000, .int .u64 1000000, .int .u64 10000000, .int .u64 100000000, .int .u64 1000000000, .int .u64 10000000000, .int .u64 100000000000, .int .u64 1000000000000, .int .u64 10000000000000, .int .u64 100000000000000, .int .u64 1000000000000000, .int .u64 10000000000000000, .int .u64 100000000000000000, .int .u64 1000000000000000000, .int .u64 10000000000000000000]) 5 #[.int .u8 128, .int .u8 191, .int .u8 160, .int .u8 191, .int .u8 128, .int .u8 159, .int .u8 144, .int .u8 191, .int .u8 128, .int .u8 143, .int .u8 0, .int .u8 0, .int .u8 0, .int .u8 0, .int .u8 0, .int .u8 0, .int .u8 0, .int .u8 0, .int .u8 0, .int .u8 0, .int .u8 0, .int .u8 0, .int .u8 0, .int .u8 0, .int .u8 0, .int .u8 0, .int .u8 0, .int .u8 0, .int .u8 0, .int .u8 0, .int .u8 0, .int .u8 0]) 3 #[.iface 197 (.pointer (some ⟨low + 0, 0, none⟩))]) 2 #[.iface 197 (.pointer (some ⟨low + 1, 0, none⟩))]) 0 #[.slice (some ⟨low + 2, 0, none⟩) 10 10]) 4 (Go.Pinned.utf8FirstZ.map fun z : Nat => Value.int .u8 z).toArray) }
theorem laid_all (os : Os) (args : Array Value) : laidMet Tryz.prog laidList ((laidWorld os).forCall (fun _ _ => 0) ⟨#[], args, []⟩).memory :=
 (LaidIn.of_run [7, 8, 6, 5, 3, 2, 0, 4, 14, 15, 16] 8 (by kernel_rfl) (by kernel_rfl) (by kernel_rfl) (by kernel_rfl)).met
end Go.Proofs.YtgboffbbpmileaaGreatDoor
