import Derived.Test.YtbmonkhnmaamnaaDoorTab
import Derived.Test.YtbmonkhnmaamnaaDoorIsaS
namespace Go.Proofs.YtbmonkhnmaamnaaDoor
open Go Go.ChangeShapes Go.WideShapes Go.ChangeAt Go.RowKit
theorem own : ownKnob Tryd.prog.godebug = none := by kernel_rfl
theorem kids : Kids Tryd.prog (· < Tryd.prog.types.size) := kids_rows (by kernel_rfl) (by kernel_rfl)
theorem slices : ∀ t e, t < Tryd.prog.types.size → Tryd.prog.underlying t = some (.slice e) → 0 < Tryd.prog.cellsOf e := slices_full_of _ (by kernel_rfl)
theorem ints_one : ∀ t, t < Tryd.prog.types.size → Tryd.prog.underlying t = some (.int .i64) → Tryd.prog.cellsOf t = 1 := by
  intro t ht hu
  have h : (List.range Tryd.prog.types.size).all (fun t => match Tryd.prog.underlying t with | some (.int .i64) => Tryd.prog.cellsOf t == 1 | _ => true) = true := by kernel_rfl
  have := List.all_eq_true.1 h t (List.mem_range.2 ht)
  simpa [hu] using this
def laidList : List (String × DataW Unit) := [("math/bits.deBruijn32tab", Rows.laid_math_bits_deBruijn32tab), ("math/bits.deBruijn64tab", Rows.laid_math_bits_deBruijn64tab), ("internal/strconv.uint64pow10", Rows.laid_internal_strconv_uint64pow10), ("rehearsal/isa.names", Rows.laid_rehearsal_isa_names), ("rehearsal/isa.forms", Rows.laid_rehearsal_isa_forms), ("rehearsal/isa.operands", Rows.laid_rehearsal_isa_operands)]
/-- What the row's list gives: the tables. -/
theorem tables {W : World} (h : laidMetH Tryd.prog laidList W) : Tab W := by
  have h' : laidMet Tryd.prog laidList W := h
  obtain ⟨ps, hV, _⟩ := h'
  obtain ⟨T0, qs0, hV1⟩ := laid_tab (k := .u8) (zs := [0, 1, 28, 2, 29, 14, 24, 3, 30, 22, 20, 15, 25, 17, 4, 8, 31, 27, 13, 23, 21, 19, 16, 7, 26, 12, 18, 6, 11, 5, 10, 9]) (g := 5) (by kernel_rfl) (by kernel_rfl) Tryd.underlying81 Tryd.underlying5 (by kernel_rfl) (by kernel_rfl) hV
  obtain ⟨T1, qs1, hV2⟩ := laid_tab (k := .u8) (zs := [0, 1, 56, 2, 57, 49, 28, 3, 61, 58, 42, 50, 38, 29, 17, 4, 62, 47, 59, 36, 45, 43, 51, 22, 53, 39, 33, 30, 24, 18, 12, 5, 63, 55, 48, 27, 60, 41, 37, 16, 46, 35, 44, 21, 52, 32, 23, 11, 54, 26, 40, 15, 34, 20, 31, 10, 25, 14, 19, 9, 13, 8, 7, 6]) (g := 6) (by kernel_rfl) (by kernel_rfl) Tryd.underlying82 Tryd.underlying5 (by kernel_rfl) (by kernel_rfl) hV1
  obtain ⟨T2, qs2, hV3⟩ := laid_tab (k := .u64) (zs := [1, 10, 100, 1000, 10000, 100000, 1000000, 10000000, 100000000, 1000000000, 10000000000, 100000000000, 1000000000000, 10000000000000, 100000000000000, 1000000000000000, 10000000000000000, 100000000000000000, 1000000000000000000, 10000000000000000000]) (g := 4) (by kernel_rfl) (by kernel_rfl) Tryd.underlying76 Tryd.underlying70 (by kernel_rfl) (by kernel_rfl) hV2
  obtain ⟨T3, qs3, hV4⟩ := laid_strs (ss := [[110, 111, 112], [109, 111, 118], [115, 101, 116], [104, 105, 103, 104], [97, 100, 100], [115, 117, 98], [109, 117, 108], [100, 105, 118], [109, 111, 100], [97, 110, 100], [111, 114], [120, 111, 114], [115, 104, 108], [115, 104, 114], [101, 113], [110, 101], [108, 116], [108, 101], [97, 100, 100, 105], [108, 100, 98], [108, 100, 119], [115, 116, 98], [115, 116, 119], [112, 117, 115, 104], [112, 111, 112], [106, 109, 112], [106, 122], [106, 110, 122], [108, 105, 110, 107], [106, 114], [97, 100, 100, 114], [99, 97, 108, 108]]) (g := 1) (by kernel_rfl) (by kernel_rfl) Tryd.underlying49 Tryd.underlying9 (by kernel_rfl) (by kernel_rfl) hV3
  obtain ⟨T4, qs4, hV5⟩ := laid_tab (k := .i64) (zs := [0, 2, 5, 5, 0, 0, 0, 0, 0, 0, 0, 0, 0, 0, 0, 0, 0, 0, 5, 4, 4, 4, 4, 1, 1, 6, 5, 5, 5, 1, 5, 6]) (g := 2) (by kernel_rfl) (by kernel_rfl) Tryd.underlying52 Tryd.underlying3 (by kernel_rfl) (by kernel_rfl) hV4
  obtain ⟨T5, qs5, hV6⟩ := laid_strs (ss := [[], [114], [114, 114], [114, 114, 114], [114, 114, 111], [114, 110], [110]]) (g := 0) (by kernel_rfl) (by kernel_rfl) Tryd.underlying47 Tryd.underlying9 (by kernel_rfl) (by kernel_rfl) hV5
  have hfc : ∀ k : Nat, k < 32 → W.cell? ⟨2, k, none⟩ = some (.int .i64 (formsL.getD k 0)) := fun k hk => T4.cell (by kernel_rfl) k hk
  refine ⟨?_, hfc, fun k hk => ?_, fun k hk => ?_, T2⟩
  · have h6 := T1.cell (g := 6) (by kernel_rfl) 0 (by decide)
    simp only [World.cell?] at h6
    split at h6
    · rename_i he; have := lt_of_has he; omega
    · cases h6
  · rw [T5 k]
    have : k = 0 ∨ k = 1 ∨ k = 2 ∨ k = 3 ∨ k = 4 ∨ k = 5 ∨ k = 6 := by omega
    rcases this with h | h | h | h | h | h | h <;> subst h <;> rfl
  · rw [T3 k]
    have e : ∀ k : Fin 32, ([[110, 111, 112], [109, 111, 118], [115, 101, 116], [104, 105, 103, 104], [97, 100, 100], [115, 117, 98], [109, 117, 108], [100, 105, 118], [109, 111, 100], [97, 110, 100], [111, 114], [120, 111, 114], [115, 104, 108], [115, 104, 114], [101, 113], [110, 101], [108, 116], [108, 101], [97, 100, 100, 105], [108, 100, 98], [108, 100, 119], [115, 116, 98], [115, 116, 119], [112, 117, 115, 104], [112, 111, 112], [106, 109, 112], [106, 122], [106, 110, 122], [108, 105, 110, 107], [106, 114], [97, 100, 100, 114], [99, 97, 108, 108]].map fun s : List UInt8 => Value.string ⟨s.toArray⟩)[k.val]? = some (.string (namesB.getD k.val ByteArray.empty)) := by
      intro k
      show (namesB.map Value.string)[k.val]? = _
      rw [List.getElem?_map, List.getElem?_eq_getElem (by rw [namesB_len]; exact k.isLt), List.getD_eq_getElem?_getD, List.getElem?_eq_getElem (by rw [namesB_len]; exact k.isLt)]
      rfl
    exact e ⟨k, hk⟩
section
variable {H : Type} {enc : TypeId × Value → H}
theorem open_flat {W : World} {base b0 : Nat} {sp : Nat → Bool} {hd : Bool} {r : Reach} {t : TypeId} {v : Value} {d : DataW H} {ps : List MemPlace} {fs : Array Field} (ht : t < Tryd.prog.types.size) (hu : Tryd.prog.underlying t = some (.struct fs)) (hf : flatI Tryd.prog 4 t = true)
    (hval : Value.okWide Tryd.prog W r b0 t v) (h : DataW.Trod enc Tryd.prog W base sp hd t v d ps) : ∃ cs : Array Value, v = .agg cs ∧ cs.size = Tryd.prog.cellsOf t ∧ ∀ p, p < cs.size → ∃ n, cs[p]? = some (.int .i64 n) := by
  obtain ⟨cs, rfl, hc⟩ := okWide_struct hu hval
  obtain ⟨n, hn⟩ := h
  obtain ⟨h1, h2⟩ := flat_ints kids ints_one 4 n t _ _ ht hf hn
  refine ⟨cs, rfl, hc, fun p hp => ?_⟩
  obtain ⟨m, hm, _⟩ := h2 p (by simpa [Value.cells] using hp)
  exact ⟨m, by simpa [Value.cells] using hm⟩
theorem open_ins {W : World} {base b0 : Nat} {sp : Nat → Bool} {hd : Bool} {r : Reach} {v : Value} {d : DataW H} {ps : List MemPlace}
    (hval : Value.okWide Tryd.prog W r b0 23 v) (h : DataW.Trod enc Tryd.prog W base sp hd 23 v d ps) : ∃ n0 n1 n2 n3 : Int, v = .agg #[.int .i64 n0, .int .i64 n1, .int .i64 n2, .int .i64 n3] := by
  obtain ⟨cs, rfl, hc, hi⟩ := open_flat (of_decide_eq_true (by kernel_rfl)) Tryd.underlying23 (by kernel_rfl) hval h
  have hc : cs.size = 4 := hc.trans (by kernel_rfl)
  obtain ⟨n0, h0⟩ := hi 0 (by omega)
  obtain ⟨n1, h1⟩ := hi 1 (by omega)
  obtain ⟨n2, h2⟩ := hi 2 (by omega)
  obtain ⟨n3, h3⟩ := hi 3 (by omega)
  refine ⟨n0, n1, n2, n3, congrArg Value.agg ?_⟩
  apply Array.ext_getElem?
  intro i
  by_cases hl : i < 4
  · have : i = 0 ∨ i = 1 ∨ i = 2 ∨ i = 3 := by omega
    rcases this with e | e | e | e <;> subst e <;> simp [*]
  · rw [Array.getElem?_eq_none (by omega), Array.getElem?_eq_none (by simp; omega)]
end
end Go.Proofs.YtbmonkhnmaamnaaDoor
