import Derived.Test.YtibaebgihbdphaaDoorProg
import Derived.WalkKit
import Derived.Laws.StructEq
import Derived.ChangeKeysEq
namespace Go.Proofs.YtibaebgihbdphaaDoor
open Go Go.RowKit
theorem u_arr : Tryd.prog.underlying 22 = some (.array 8 3) := by kernel_rfl
theorem u_int : Tryd.prog.underlying 3 = some (.int .i64) := by kernel_rfl
theorem c_int : Tryd.prog.cellsOf 3 = 1 := by kernel_rfl
theorem i_int : ∃ i, Tryd.prog.info? 3 = some i := Option.isSome_iff_exists.1 (by kernel_rfl)
theorem part_int (cs : Array Value) (off : Nat) (v : Value) (w : World) (h : cs[off]? = some v) : (part 3 cs off).run Tryd.prog w = .ok v w := by
  simp [part, isAgg, run_underlying u_int, h]
theorem item (w : World) (d : Nat) (xs ys : Array Value) (i : Nat) (is : List Nat) (a b : Int) (ha : xs[i]? = some (.int .i64 a)) (hb : ys[i]? = some (.int .i64 b)) :
    (Op.eqItems (d + 1) 3 1 xs ys (i :: is)).run Tryd.prog w = if (a == b) = true then (Op.eqItems (d + 1) 3 1 xs ys is).run Tryd.prog w else .ok false w := by
  simp only [Op.eqItems, Sem.run_bind, Nat.mul_one, part_int _ _ _ w ha, part_int _ _ _ w hb, Result.andThen_ok, run_equalIn_int w d 3 .i64 .i64 a b u_int]
  cases h : (a == b) <;> simp
theorem arr_eq (w : World) (d : Nat) (x0 x1 x2 x3 x4 x5 x6 x7 y0 y1 y2 y3 y4 y5 y6 y7 : Int) :
    (Op.equalIn (d + 2) 22 (.agg #[.int .i64 x0, .int .i64 x1, .int .i64 x2, .int .i64 x3, .int .i64 x4, .int .i64 x5, .int .i64 x6, .int .i64 x7]) (.agg #[.int .i64 y0, .int .i64 y1, .int .i64 y2, .int .i64 y3, .int .i64 y4, .int .i64 y5, .int .i64 y6, .int .i64 y7])).run Tryd.prog w = .ok (x0 == y0 && (x1 == y1 && (x2 == y2 && (x3 == y3 && (x4 == y4 && (x5 == y5 && (x6 == y6 && (x7 == y7)))))))) w := by
  obtain ⟨i, hi⟩ := i_int
  rw [run_equalIn_array w (d + 1) _ _ u_arr hi, c_int]
  show (Op.eqItems (d + 1) 3 1 _ _ [0, 1, 2, 3, 4, 5, 6, 7]).run Tryd.prog w = _
  rw [item w d _ _ 0 _ x0 y0 rfl rfl, item w d _ _ 1 _ x1 y1 rfl rfl, item w d _ _ 2 _ x2 y2 rfl rfl, item w d _ _ 3 _ x3 y3 rfl rfl, item w d _ _ 4 _ x4 y4 rfl rfl, item w d _ _ 5 _ x5 y5 rfl rfl, item w d _ _ 6 _ x6 y6 rfl rfl, item w d _ _ 7 _ x7 y7 rfl rfl]
  simp only [Op.eqItems, Sem.run_pure]
  cases x0 == y0 <;> cases x1 == y1 <;> cases x2 == y2 <;> cases x3 == y3 <;> cases x4 == y4 <;> cases x5 == y5 <;> cases x6 == y6 <;> cases x7 == y7 <;> rfl
end Go.Proofs.YtibaebgihbdphaaDoor
