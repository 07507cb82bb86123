import Derived.Test.YtedifjdhdhcbhaaDoorWT
import Derived.Test.YtedifjdhdhcbhaaDoorW17
namespace Go.Proofs.YtedifjdhdhcbhaaDoor
open Go Go.ChangeShapes Go.WideShapes Go.ChangeAt Go.RowKit
set_option maxRecDepth 100000
section
variable {H : Type} {enc : TypeId × Value → H}
theorem val_trod {w : World} {base : Nat} {sp : Nat → Bool} {held : Bool} {m : Nat} {cs : List Value} {y : DataW H × List MemPlace} (h : DataW.trod enc Tryd.prog w base sp held m 25 cs = some y) : ∃ v : Val, cs = v.cells ∧ ValIn w v := by
  obtain ⟨hl, hf⟩ := fields_trod Tryd.underlying25 (by kernel_rfl) (by kernel_rfl) h
  obtain ⟨c0, _, _, e0, t0⟩ := hf 0 _ rfl
  obtain ⟨c1, _, _, e1, t1⟩ := hf 1 _ rfl
  obtain ⟨c2, _, _, e2, t2⟩ := hf 2 _ rfl
  obtain ⟨c3, _, _, e3, t3⟩ := hf 3 _ rfl
  obtain ⟨c4, _, _, e4, t4⟩ := hf 4 _ rfl
  obtain ⟨k, rfl, hk⟩ := int_cell Tryd.underlying3 t0
  obtain ⟨n, rfl, hn⟩ := int_cell Tryd.underlying3 t1
  obtain ⟨s, rfl, hs⟩ := str_cell Tryd.underlying9 t2
  obtain ⟨l, r1, r2, r3⟩ := ints_cell Tryd.underlying22 Tryd.underlying3 (by kernel_rfl) t3
  obtain ⟨t, q1, q2, q3⟩ := strs_cell Tryd.underlying23 Tryd.underlying9 (by kernel_rfl) t4
  refine ⟨⟨k, n, s, l, t, c3, c4⟩, ?_, ⟨r1, q1, r2, q2, hs, hk, hn, r3, q3⟩⟩
  apply List.ext_getElem?
  intro i
  match i with
  | 0 => exact e0
  | 1 => exact e1
  | 2 => exact e2
  | 3 => exact e3
  | 4 => exact e4
  | i + 5 => rw [List.getElem?_eq_none (by rw [hl]; exact Nat.le_add_left 5 i), List.getElem?_eq_none (by simp [Val.cells])]
theorem open_val {W : World} {base b0 : Nat} {sp : Nat → Bool} {hd : Bool} {r : Reach} {v : Value} {d : DataW H} {ps : List MemPlace}
    (hval : Value.okWide Tryd.prog W r b0 25 v) (h : DataW.Trod enc Tryd.prog W base sp hd 25 v d ps) : ∃ x : Val, v = .agg #[.int .i64 x.k, .int .i64 x.n, .string x.s, x.lv, x.tv] ∧ ValIn W x := by
  obtain ⟨cs, rfl, hc⟩ := okWide_struct Tryd.underlying25 hval
  obtain ⟨n, hn⟩ := h
  obtain ⟨x, hx, hi⟩ := val_trod hn
  refine ⟨x, congrArg Value.agg ?_, hi⟩
  rw [← Array.toList_inj]
  simpa [Value.cells, Val.cells] using hx
theorem open_vals {W : World} {base b0 : Nat} {sp : Nat → Bool} {hd : Bool} {r : Reach} {v : Value} {d : DataW H} {ps : List MemPlace}
    (hval : Value.okWide Tryd.prog W r b0 28 v) (h : DataW.Trod enc Tryd.prog W base sp hd 28 v d ps) : ∃ xs : List Val, VRow W v xs ∧ xs.length ≤ maxLen := by
  obtain ⟨ys, h1, h2, h3⟩ := open_rows Tryd.underlying28 (k := 5) (by kernel_rfl) (by decide) hval h
  obtain ⟨xs, rfl, h4⟩ := list_of Val.cells (fun x => ValIn W x) ys (fun z hz => by
    obtain ⟨_, m, y, hy⟩ := h3 z hz
    exact val_trod hy)
  exact ⟨xs, ⟨h1, h4⟩, by simpa using h2⟩
end
end Go.Proofs.YtedifjdhdhcbhaaDoor
