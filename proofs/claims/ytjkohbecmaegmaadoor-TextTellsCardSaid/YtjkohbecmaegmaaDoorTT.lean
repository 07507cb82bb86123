import Derived.Test.YtjkohbecmaegmaaDoorTab
import Derived.Test.YtjkohbecmaegmaaDoorRow
import Derived.Test.YtjkohbecmaegmaaDoorT0
import Derived.Shelf.Vars
namespace Go.Proofs.YtjkohbecmaegmaaDoor
open Go Go.ChangeShapes Go.WideShapes Go.ChangeAt Go.RowKit
theorem own : ownKnob Tryd.prog.godebug = none := by kernel_rfl
theorem kids : Kids Tryd.prog (· < Tryd.prog.types.size) := kids_rows (by kernel_rfl) (by kernel_rfl)
theorem slices : ∀ t e, t < Tryd.prog.types.size → Tryd.prog.underlying t = some (.slice e) → 0 < Tryd.prog.cellsOf e := slices_full_of _ (by kernel_rfl)
theorem ints_one : ∀ t, t < Tryd.prog.types.size → Tryd.prog.underlying t = some (.int .i64) → Tryd.prog.cellsOf t = 1 := by
  intro t ht hu
  have h : (List.range Tryd.prog.types.size).all (fun t => match Tryd.prog.underlying t with | some (.int .i64) => Tryd.prog.cellsOf t == 1 | _ => true) = true := by kernel_rfl
  have := List.all_eq_true.1 h t (List.mem_range.2 ht)
  simpa [hu] using this
def laidList : List (String × DataW Unit) := [("math/bits.deBruijn32tab", Rows.laid_math_bits_deBruijn32tab), ("math/bits.deBruijn64tab", Rows.laid_math_bits_deBruijn64tab), ("internal/strconv.uint64pow10", Rows.laid_internal_strconv_uint64pow10), ("unicode/utf8.acceptRanges", Rows.laid_unicode_utf8_acceptRanges), ("strconv.ErrRange", Rows.laid_strconv_ErrRange), ("strconv.ErrSyntax", Rows.laid_strconv_ErrSyntax), ("unicode/utf8.first", Rows.laid_unicode_utf8_first)]
/-- What the row's list gives: the tables. -/
theorem tables {W : World} (h : laidMetH Tryd.prog laidList W) (hSh : W.ShapedOpen Tryd.prog) : Tab W := by
  have h' : laidMet Tryd.prog laidList W := h
  obtain ⟨ps, hV, _⟩ := h'
  obtain ⟨T0, qs0, hV1⟩ := laid_tab (k := .u8) (zs := [0, 1, 28, 2, 29, 14, 24, 3, 30, 22, 20, 15, 25, 17, 4, 8, 31, 27, 13, 23, 21, 19, 16, 7, 26, 12, 18, 6, 11, 5, 10, 9]) (g := 6) (by kernel_rfl) (by kernel_rfl) Tryd.underlying115 Tryd.underlying5 (by kernel_rfl) (by kernel_rfl) hV
  obtain ⟨T1, qs1, hV2⟩ := laid_tab (k := .u8) (zs := [0, 1, 56, 2, 57, 49, 28, 3, 61, 58, 42, 50, 38, 29, 17, 4, 62, 47, 59, 36, 45, 43, 51, 22, 53, 39, 33, 30, 24, 18, 12, 5, 63, 55, 48, 27, 60, 41, 37, 16, 46, 35, 44, 21, 52, 32, 23, 11, 54, 26, 40, 15, 34, 20, 31, 10, 25, 14, 19, 9, 13, 8, 7, 6]) (g := 7) (by kernel_rfl) (by kernel_rfl) Tryd.underlying116 Tryd.underlying5 (by kernel_rfl) (by kernel_rfl) hV1
  obtain ⟨T2, qs2, hV3⟩ := laid_tab (k := .u64) (zs := [1, 10, 100, 1000, 10000, 100000, 1000000, 10000000, 100000000, 1000000000, 10000000000, 100000000000, 1000000000000, 10000000000000, 100000000000000, 1000000000000000, 10000000000000000, 100000000000000000, 1000000000000000000, 10000000000000000000]) (g := 3) (by kernel_rfl) (by kernel_rfl) Tryd.underlying100 Tryd.underlying81 (by kernel_rfl) (by kernel_rfl) hV2
  obtain ⟨qs3, hV4⟩ := laid_skip hV3
  obtain ⟨T4, qs4, hV5⟩ := laid_iface (g := 2) (by kernel_rfl) (by kernel_rfl) Tryd.underlying46 hV4
  obtain ⟨T5, qs5, hV6⟩ := laid_iface (g := 1) (by kernel_rfl) (by kernel_rfl) Tryd.underlying46 hV5
  obtain ⟨qs6, hV7⟩ := laid_skip hV6
  obtain ⟨m, hm⟩ := cell_of_shapedOpen_int (g := 0) (zero := #[.int .i64 0]) (t := 3) hSh (of_decide_eq_true (by kernel_rfl)) (by kernel_rfl) rfl (by kernel_rfl) (by kernel_rfl) Tryd.underlying3
  refine ⟨?_, T2, T5, T4, m, hm⟩
  have h6 := T1.cell (g := 7) (by kernel_rfl) 0 (by decide)
  simp only [World.cell?] at h6
  split at h6
  · rename_i he; have := lt_of_has he; omega
  · cases h6
end Go.Proofs.YtjkohbecmaegmaaDoor
