import Derived.Test.YtflfaobbfhjmmaaDoorTab
import Derived.Test.YtflfaobbfhjmmaaDoorRow
import Derived.Test.YtflfaobbfhjmmaaDoorT0
import Derived.Shelf.Vars
namespace Go.Proofs.YtflfaobbfhjmmaaDoor
open Go Go.ChangeShapes Go.WideShapes Go.ChangeAt Go.RowKit
theorem own : ownKnob Tryd.prog.godebug = none := by kernel_rfl
theorem kids : Kids Tryd.prog (· < Tryd.prog.types.size) := kids_rows (by kernel_rfl) (by kernel_rfl)
theorem slices : ∀ t e, t < Tryd.prog.types.size → Tryd.prog.underlying t = some (.slice e) → 0 < Tryd.prog.cellsOf e := slices_full_of _ (by kernel_rfl)
theorem ints_one : ∀ t, t < Tryd.prog.types.size → Tryd.prog.underlying t = some (.int .i64) → Tryd.prog.cellsOf t = 1 := by
  intro t ht hu
  have h : (List.range Tryd.prog.types.size).all (fun t => match Tryd.prog.underlying t with | some (.int .i64) => Tryd.prog.cellsOf t == 1 | _ => true) = true := by kernel_rfl
  have := List.all_eq_true.1 h t (List.mem_range.2 ht)
  simpa [hu] using this
def laidList : List (String × DataW Unit) := [("math/bits.deBruijn32tab", Rows.laid_math_bits_deBruijn32tab), ("math/bits.deBruijn64tab", Rows.laid_math_bits_deBruijn64tab), ("internal/strconv.uint64pow10", Rows.laid_internal_strconv_uint64pow10), ("unicode/utf8.acceptRanges", Rows.laid_unicode_utf8_acceptRanges), ("strconv.ErrRange", Rows.laid_strconv_ErrRange), ("strconv.ErrSyntax", Rows.laid_strconv_ErrSyntax), ("unicode/utf8.first", Rows.laid_unicode_utf8_first)]
/-- None of the tables is wanted. -/
theorem tables {W : World} (_ : laidMetH Tryd.prog laidList W) : True := trivial
end Go.Proofs.YtflfaobbfhjmmaaDoor
