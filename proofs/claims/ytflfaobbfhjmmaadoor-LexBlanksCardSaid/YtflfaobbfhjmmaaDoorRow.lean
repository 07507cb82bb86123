/- The elements of a slice stand in a world (Row: one cell an element; RowK: k cells an element); an argument that is a slice is opened into its list. Of no program. -/
import Derived.Test.YtflfaobbfhjmmaaDoorSt
import Derived.Deep.Slices
import Derived.Deep.Strs
import Derived.Deep.Fields
namespace Go.Proofs.YtflfaobbfhjmmaaDoor
open Go Go.ChangeShapes Go.WideShapes Go.RowKit
set_option linter.unusedVariables false
set_option linter.unusedSimpArgs false

def Row (w : World) (v : Value) (xs : List Value) : Prop :=
  ∃ ao cap, v = .slice ao xs.length cap ∧ ∀ (j : Nat) x, xs[j]? = some x → ∃ g o, ao = some ⟨g, o, none⟩ ∧ w.cell? ⟨g, o + j, none⟩ = some x
def RowK (k : Nat) (w : World) (v : Value) (xs : List (List Value)) : Prop :=
  ∃ ao cap, v = .slice ao xs.length cap ∧ ∀ (j : Nat) cs, xs[j]? = some cs → ∃ g o, ao = some ⟨g, o, none⟩ ∧ ∀ (c : Nat) x, cs[c]? = some x → w.cell? ⟨g, o + j * k + c, none⟩ = some x
theorem cell_lt {w : World} {g j : Nat} {x : Value} (h : w.cell? ⟨g, j, none⟩ = some x) : g < w.heap.size := by
  rcases Nat.lt_or_ge g w.heap.size with h' | h'
  · exact h'
  · simp [World.cell?, Array.getElem?_eq_none h'] at h
theorem cell_same {w w' : World} {g j : Nat} (h : w'.heap[g]? = w.heap[g]?) : w'.cell? ⟨g, j, none⟩ = w.cell? ⟨g, j, none⟩ := by
  unfold World.cell?; simp only [h]
theorem cell_ext {w w' : World} {g j : Nat} {x : Value} (h : w.cell? ⟨g, j, none⟩ = some x) (k : Below w.heap.size w w') : w'.cell? ⟨g, j, none⟩ = some x :=
  (cell_same (k.block g (cell_lt h))).trans h
theorem Row.ext {w w' : World} {v : Value} {xs : List Value} (h : Row w v xs) (k : Below w.heap.size w w') : Row w' v xs := by
  obtain ⟨ao, cap, hv, hc⟩ := h
  refine ⟨ao, cap, hv, fun j x hx => ?_⟩
  obtain ⟨g, o, hg, hx⟩ := hc j x hx
  exact ⟨g, o, hg, cell_ext hx k⟩
theorem RowK.ext {k : Nat} {w w' : World} {v : Value} {xs : List (List Value)} (h : RowK k w v xs) (b : Below w.heap.size w w') : RowK k w' v xs := by
  obtain ⟨ao, cap, hv, hc⟩ := h
  refine ⟨ao, cap, hv, fun j x hx => ?_⟩
  obtain ⟨g, o, hg, hx⟩ := hc j x hx
  exact ⟨g, o, hg, fun c y hy => cell_ext (hx c y hy) b⟩
theorem Row.kn {X : List Nat} {w w' : World} {L : List (Nat × Obj)} {v : Value} {xs : List Value} (h : Row w v xs) (k : Kn X w w' L) (hx : ∀ x ∈ X, w.heap.size ≤ x) : Row w' v xs := by
  obtain ⟨ao, cap, hv, hc⟩ := h
  refine ⟨ao, cap, hv, fun j x hx' => ?_⟩
  obtain ⟨g, o, hg, hx'⟩ := hc j x hx'
  exact ⟨g, o, hg, (cell_same (k.block g (cell_lt hx') fun hm => by have := hx g hm; have := cell_lt hx'; omega)).trans hx'⟩
theorem RowK.kn {n : Nat} {X : List Nat} {w w' : World} {L : List (Nat × Obj)} {v : Value} {xs : List (List Value)} (h : RowK n w v xs) (k : Kn X w w' L) (hx : ∀ x ∈ X, w.heap.size ≤ x) : RowK n w' v xs := by
  obtain ⟨ao, cap, hv, hc⟩ := h
  refine ⟨ao, cap, hv, fun j x hx' => ?_⟩
  obtain ⟨g, o, hg, hx'⟩ := hc j x hx'
  exact ⟨g, o, hg, fun c y hy => (cell_same (k.block g (cell_lt (hx' c y hy)) fun hm => by have := hx g hm; have := cell_lt (hx' c y hy); omega)).trans (hx' c y hy)⟩
/-- What stood in w stands in w'. -/
def Old (w w' : World) : Prop := ∀ g, g < w.heap.size → w'.heap[g]? = w.heap[g]?
theorem Old.refl (w : World) : Old w w := fun _ _ => rfl
theorem Old.kn {X : List Nat} {w0 w w' : World} {L : List (Nat × Obj)} (h : Old w0 w) (k : Kn X w w' L) (hs : w0.heap.size ≤ w.heap.size) (hx : ∀ x ∈ X, w0.heap.size ≤ x) : Old w0 w' := fun g hg =>
  (k.block g (Nat.lt_of_lt_of_le hg hs) (fun hm => by have := hx g hm; omega)).trans (h g hg)
theorem Kn.old {X : List Nat} {w w' : World} {L : List (Nat × Obj)} (k : Kn X w w' L) (hx : ∀ x ∈ X, w.heap.size ≤ x) : Old w w' := fun g hg => k.block g hg (fun hm => by have := hx g hm; omega)
theorem Row.old {w w' : World} {v : Value} {xs : List Value} (h : Row w v xs) (k : Old w w') : Row w' v xs := by
  obtain ⟨ao, cap, hv, hc⟩ := h
  refine ⟨ao, cap, hv, fun j x hx' => ?_⟩
  obtain ⟨g, o, hg, hx'⟩ := hc j x hx'
  exact ⟨g, o, hg, (cell_same (k g (cell_lt hx'))).trans hx'⟩
theorem RowK.old {n : Nat} {w w' : World} {v : Value} {xs : List (List Value)} (h : RowK n w v xs) (k : Old w w') : RowK n w' v xs := by
  obtain ⟨ao, cap, hv, hc⟩ := h
  refine ⟨ao, cap, hv, fun j x hx' => ?_⟩
  obtain ⟨g, o, hg, hx'⟩ := hc j x hx'
  exact ⟨g, o, hg, fun c y hy => (cell_same (k g (cell_lt (hx' c y hy)))).trans (hx' c y hy)⟩
theorem Row.one {v : Value} {xs : List Value} {w : World} (h : Row w v xs) : v.oneCell' = true := by
  obtain ⟨ao, cap, rfl, _⟩ := h; rfl
theorem addr_plain {w : World} {a : Addr} {v : Value} (h : w.cell? a = some v) : a = ⟨a.block, a.off, none⟩ := by
  cases a with
  | mk b o s =>
    cases s with
    | none => rfl
    | some n => unfold World.cell? at h; split at h <;> simp at h
theorem list_of {α β : Type} (f : α → β) (p : α → Prop) : ∀ (xs : List β), (∀ x ∈ xs, ∃ a, x = f a ∧ p a) → ∃ as : List α, xs = as.map f ∧ ∀ a ∈ as, p a
  | [], _ => ⟨[], rfl, by simp⟩
  | x :: xs, h => by
    obtain ⟨a, rfl, ha⟩ := h x (by simp)
    obtain ⟨as, rfl, has⟩ := list_of f p xs (fun y hy => h y (List.mem_cons_of_mem _ hy))
    exact ⟨a :: as, rfl, by intro b hb; rcases List.mem_cons.1 hb with rfl | hb; exact ha; exact has b hb⟩

section
variable {H : Type} {enc : TypeId × Value → H} {P : Program} {w : World} {base : Nat} {sp : Nat → Bool} {held : Bool}
theorem row_trod {t e : TypeId} {k fuel : Nat} {cs : List Value} {x : DataW H × List MemPlace} (ht : P.underlying t = some (.slice e)) (hk : P.cellsOf e = k) (h0 : 0 < k) (h : DataW.trod enc P w base sp held fuel t cs = some x) :
    ∃ v xs, cs = [v] ∧ RowK k w v xs ∧ xs.length ≤ maxLen ∧ ∀ ys ∈ xs, ys.length = k ∧ ∃ m y, DataW.trod enc P w base sp held m e ys = some y := by
  rcases Deep.open_slice ht h with ⟨rfl, rfl⟩ | ⟨a, len, cap, m, n, D, Pl, rfl, hb, hl, hm, hmm, rfl, hx⟩
  · exact ⟨_, [], rfl, ⟨none, 0, rfl, fun j ys hj => by simp at hj⟩, by simp, by simp⟩
  · have hlm : len ≤ m := by rw [hmm]; split <;> omega
    have hx' : ∀ i, i < len → ∃ ys : List Value, ys.length = k ∧ (∀ c, c < k → w.cell? ((a.add (i * k)).add c) = ys[c]?) ∧ ∃ m y, DataW.trod enc P w base sp held m e ys = some y := fun i hi => by
      obtain ⟨ys, h1, h2⟩ := hx i (by omega)
      rw [hk] at h1
      obtain ⟨_, h3, h4⟩ := World.cells?_some h1
      exact ⟨ys, h3, h4, n, _, h2⟩
    obtain ⟨f, hf⟩ := Deep.choose_lt hx'
    refine ⟨_, (List.range len).map f, rfl, ⟨some a, cap, by simp, fun j ys hj => ?_⟩, by simp; omega, fun ys hys => ?_⟩
    · rw [List.getElem?_map] at hj
      obtain ⟨i, hi, rfl⟩ := Option.map_eq_some_iff.1 hj
      obtain ⟨hi1, hi2⟩ := List.getElem?_eq_some_iff.1 hi
      simp at hi1 hi2
      subst hi2
      have hlen0 : 0 < len := by omega
      have ha : a = ⟨a.block, a.off, none⟩ := by
        obtain ⟨h3, h4, _⟩ := hf 0 hlen0
        have h5 := h4 0 h0
        rw [List.getElem?_eq_getElem (by omega)] at h5
        have := addr_plain h5
        simpa [Addr.add] using this
      refine ⟨a.block, a.off, by rw [← ha], fun c x hc => ?_⟩
      obtain ⟨h3, h4, _⟩ := hf j hi1
      have hck : c < k := by have := (List.getElem?_eq_some_iff.1 hc).1; omega
      have h5 := h4 c hck
      rw [hc, ha, add_plain, add_plain] at h5
      exact h5
    · obtain ⟨i, hi, rfl⟩ := List.mem_map.1 hys
      obtain ⟨h3, _, h5⟩ := hf i (by simpa using hi)
      exact ⟨h3, h5⟩
theorem row_one {v : Value} {ys : List Value} (h : RowK 1 w v (ys.map fun y => [y])) : Row w v ys := by
  obtain ⟨ao, cap, hv, hc⟩ := h
  refine ⟨ao, cap, by simpa using hv, fun j x hx => ?_⟩
  obtain ⟨g, o, hg, h1⟩ := hc j [x] (by simp [hx])
  exact ⟨g, o, hg, by simpa using h1 0 x rfl⟩
theorem strs_trod {t e : TypeId} {fuel : Nat} {cs : List Value} {x : DataW H × List MemPlace} (ht : P.underlying t = some (.slice e)) (he : P.underlying e = some .string) (hk : P.cellsOf e = 1) (h : DataW.trod enc P w base sp held fuel t cs = some x) :
    ∃ v, ∃ ss : List ByteArray, cs = [v] ∧ Row w v (ss.map fun s => .string s) ∧ ss.length ≤ maxLen ∧ ∀ s ∈ ss, s.size ≤ maxLen := by
  obtain ⟨v, xs, hc, hr, hl, hx⟩ := row_trod ht hk (by decide) h
  obtain ⟨ss, rfl, hs⟩ := list_of (fun s : ByteArray => [Value.string s]) (fun s => s.size ≤ maxLen) xs (fun ys hys => by
    obtain ⟨_, m, y, hy⟩ := hx ys hys
    obtain ⟨s, h1, _, h3⟩ := DataW.trod_string he hy
    exact ⟨s, h1, h3⟩)
  exact ⟨v, ss, hc, row_one (by simpa [List.map_map, Function.comp_def] using hr), by simpa using hl, hs⟩
theorem ints_trod {t e : TypeId} {fuel : Nat} {cs : List Value} {x : DataW H × List MemPlace} (ht : P.underlying t = some (.slice e)) (he : P.underlying e = some (.int .i64)) (hk : P.cellsOf e = 1) (h : DataW.trod enc P w base sp held fuel t cs = some x) :
    ∃ v, ∃ ns : List Int, cs = [v] ∧ Row w v (ns.map fun n => .int .i64 n) ∧ ns.length ≤ maxLen ∧ ∀ n ∈ ns, -9223372036854775808 ≤ n ∧ n ≤ 9223372036854775807 := by
  obtain ⟨v, xs, hc, hr, hl, hx⟩ := row_trod ht hk (by decide) h
  obtain ⟨ns, rfl, hs⟩ := list_of (fun n : Int => [Value.int .i64 n]) (fun n => -9223372036854775808 ≤ n ∧ n ≤ 9223372036854775807) xs (fun ys hys => by
    obtain ⟨_, m, y, hy⟩ := hx ys hys
    obtain ⟨n, h1, _, h3⟩ := DataW.trod_int he hy
    refine ⟨n, h1, ?_⟩
    simp [Lit.wf, IntKind.min, IntKind.max, IntKind.bits, IntKind.signed] at h3
    omega)
  exact ⟨v, ns, hc, row_one (by simpa [List.map_map, Function.comp_def] using hr), by simpa using hl, hs⟩
/-- A struct whose fields are one cell each. -/
theorem fields_trod {t : TypeId} {fs : Array Field} {fuel : Nat} {cs : List Value} {x : DataW H × List MemPlace} (ht : P.underlying t = some (.struct fs)) (hone : Deep.oneCellFields P fs = true) (hc : P.cellsOf t = fs.size) (h : DataW.trod enc P w base sp held fuel t cs = some x) :
    cs.length = fs.size ∧ ∀ (i : Nat) f, fs[i]? = some f → ∃ c m y, cs[i]? = some c ∧ DataW.trod enc P w base sp held m f.type [c] = some y := by
  obtain ⟨xs, n, _, _, hl, hlen, hf⟩ := DataW.trod_struct ht h
  refine ⟨hl.trans hc, fun i f hi => ?_⟩
  have hfi := hf i f hi
  obtain ⟨o, k⟩ := Deep.hone_of hone i f hi
  have hif := (Array.getElem?_eq_some_iff.1 hi).1
  have hil : i < cs.length := by rw [hl, hc]; exact hif
  rw [o, k, List.drop_eq_getElem_cons hil, List.take_succ_cons, List.take_zero, List.getElem?_eq_getElem (by omega)] at hfi
  exact ⟨cs[i], n, _, List.getElem?_eq_getElem hil, hfi⟩
theorem int_cell {t : TypeId} {m : Nat} {c : Value} {y : DataW H × List MemPlace} (ht : P.underlying t = some (.int .i64)) (h : DataW.trod enc P w base sp held m t [c] = some y) : ∃ n : Int, c = .int .i64 n ∧ -9223372036854775808 ≤ n ∧ n ≤ 9223372036854775807 := by
  obtain ⟨n, h1, _, h3⟩ := DataW.trod_int ht h
  refine ⟨n, by simpa using h1, ?_⟩
  simp [Lit.wf, IntKind.min, IntKind.max, IntKind.bits, IntKind.signed] at h3
  omega
theorem str_cell {t : TypeId} {m : Nat} {c : Value} {y : DataW H × List MemPlace} (ht : P.underlying t = some .string) (h : DataW.trod enc P w base sp held m t [c] = some y) : ∃ s : ByteArray, c = .string s ∧ s.size ≤ maxLen := by
  obtain ⟨s, h1, _, h3⟩ := DataW.trod_string ht h
  exact ⟨s, by simpa using h1, h3⟩
theorem strs_cell {t e : TypeId} {m : Nat} {c : Value} {y : DataW H × List MemPlace} (ht : P.underlying t = some (.slice e)) (he : P.underlying e = some .string) (hk : P.cellsOf e = 1) (h : DataW.trod enc P w base sp held m t [c] = some y) :
    ∃ ss : List ByteArray, Row w c (ss.map fun s => .string s) ∧ ss.length ≤ maxLen ∧ ∀ s ∈ ss, s.size ≤ maxLen := by
  obtain ⟨v, ss, hc, h1⟩ := strs_trod ht he hk h
  obtain rfl : c = v := by simpa using hc
  exact ⟨ss, h1⟩
theorem ints_cell {t e : TypeId} {m : Nat} {c : Value} {y : DataW H × List MemPlace} (ht : P.underlying t = some (.slice e)) (he : P.underlying e = some (.int .i64)) (hk : P.cellsOf e = 1) (h : DataW.trod enc P w base sp held m t [c] = some y) :
    ∃ ns : List Int, Row w c (ns.map fun n => .int .i64 n) ∧ ns.length ≤ maxLen ∧ ∀ n ∈ ns, -9223372036854775808 ≤ n ∧ n ≤ 9223372036854775807 := by
  obtain ⟨v, ss, hc, h1⟩ := ints_trod ht he hk h
  obtain rfl : c = v := by simpa using hc
  exact ⟨ss, h1⟩
theorem open_rows {t e : TypeId} {k : Nat} {v : Value} {d : DataW H} {ps : List MemPlace} {r : Reach} {b0 : Nat} (ht : P.underlying t = some (.slice e)) (hk : P.cellsOf e = k) (h0 : 0 < k) (hv : Value.okWide P w r b0 t v) (h : DataW.Trod enc P w base sp held t v d ps) :
    ∃ xs : List (List Value), RowK k w v xs ∧ xs.length ≤ maxLen ∧ ∀ ys ∈ xs, ys.length = k ∧ ∃ m y, DataW.trod enc P w base sp held m e ys = some y := by
  obtain ⟨a, len, cap, rfl⟩ := okWide_slice ht hv
  obtain ⟨n, hn⟩ := h
  obtain ⟨v, ss, hc, h1⟩ := row_trod ht hk h0 hn
  obtain rfl : Value.slice a len cap = v := by simpa [Value.cells] using hc
  exact ⟨ss, h1⟩
theorem open_strs' {t e : TypeId} {v : Value} {d : DataW H} {ps : List MemPlace} {r : Reach} {b0 : Nat} (ht : P.underlying t = some (.slice e)) (he : P.underlying e = some .string) (hk : P.cellsOf e = 1) (hv : Value.okWide P w r b0 t v) (h : DataW.Trod enc P w base sp held t v d ps) :
    ∃ ss : List ByteArray, Row w v (ss.map fun s => .string s) ∧ ss.length ≤ maxLen ∧ ∀ s ∈ ss, s.size ≤ maxLen := by
  obtain ⟨a, len, cap, rfl⟩ := okWide_slice ht hv
  obtain ⟨n, hn⟩ := h
  obtain ⟨v, ss, hc, h1⟩ := strs_trod ht he hk hn
  obtain rfl : Value.slice a len cap = v := by simpa [Value.cells] using hc
  exact ⟨ss, h1⟩
theorem open_ints' {t e : TypeId} {v : Value} {d : DataW H} {ps : List MemPlace} {r : Reach} {b0 : Nat} (ht : P.underlying t = some (.slice e)) (he : P.underlying e = some (.int .i64)) (hk : P.cellsOf e = 1) (hv : Value.okWide P w r b0 t v) (h : DataW.Trod enc P w base sp held t v d ps) :
    ∃ ns : List Int, Row w v (ns.map fun n => .int .i64 n) ∧ ns.length ≤ maxLen ∧ ∀ n ∈ ns, -9223372036854775808 ≤ n ∧ n ≤ 9223372036854775807 := by
  obtain ⟨a, len, cap, rfl⟩ := okWide_slice ht hv
  obtain ⟨n, hn⟩ := h
  obtain ⟨v, ss, hc, h1⟩ := ints_trod ht he hk hn
  obtain rfl : Value.slice a len cap = v := by simpa [Value.cells] using hc
  exact ⟨ss, h1⟩
end
end Go.Proofs.YtflfaobbfhjmmaaDoor
