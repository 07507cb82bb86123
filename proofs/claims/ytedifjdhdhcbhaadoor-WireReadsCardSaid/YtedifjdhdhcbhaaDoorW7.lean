import Derived.Test.YtedifjdhdhcbhaaDoorProg
import Derived.WalkKit
import Derived.Handy
import Derived.Deep.Light
import Derived.WalkSmall
import Derived.StillTailTactics
import Derived.Lib.Hide
import Derived.Test.YtedifjdhdhcbhaaDoorW0
import Derived.Test.YtedifjdhdhcbhaaDoorIt
import Derived.Test.YtedifjdhdhcbhaaDoorW6
namespace Go.Proofs.YtedifjdhdhcbhaaDoor
open Go Go.RowKit
set_option linter.unusedSimpArgs false
set_option linter.unusedVariables false

set_option maxRecDepth 20000 in
set_option maxHeartbeats 4000000 in
theorem list_Int (l : List Int) (hin : ∀ n ∈ l, minInt ≤ n ∧ n ≤ maxInt) (v : Value) (w : World) (hT : Tab w) (hv : Row w v (l.map fun x => .int .i64 x)) (hlen : l.length ≤ 1000) (hbytes : (l.flatMap encInt).length ≤ 100000000) :
    Calls Tryd.prog 46 #[v, .func (.func 13) #[] #[]] w fun e w' => e = .returned (.string ⟨(Lib.itoa l.length ++ 91 :: (l.flatMap encInt ++ [93])).toArray⟩) ∧ Below w.heap.size w w' := by
  obtain ⟨ao, cap, rfl, hcell⟩ := hv
  rw [List.length_map]
  have h2 : minInt ≤ (l.length : Int) := by unfold minInt; omega
  have h3 : (l.length : Int) ≤ maxInt := by unfold maxInt; omega
  obtain ⟨t, ht, hts⟩ := tobtain _ h2 h3
  go_enter Tryd.func46, Tryd.ntmps46
  have hal : ∀ o, Below w.heap.size w (w.alloc o) := fun o => (Below.refl _ _).alloc (Nat.le_refl _) _
  go_wp2_with (go_at_call 44; refine (Itoa_t _ h2 h3 _ (hT.ext (hal _)) _ ht).mono ?_)
  rintro e W ⟨rfl, hb⟩
  have hI : Lib.IsBuilderF 67 5 w.heap.size w.heap.size (Lib.byteCells []) W := is_fresh ((hb.block _ (by simp)).trans (heap_alloc_new w _))
  have hW : Below w.heap.size w W := (hal _).trans (hb.mono (by simp))
  clear hb hal
  go_wp2_with (go_at_call 59; refine (WriteString_k w.heap.size w.heap.size _ _ _ hI ?hsz hW.size).mono ?_)
  case hsz => have h1 : (⟨#[91]⟩ : ByteArray).size = 1 := rfl
              simp [Lib.byteCells]; omega
  rintro e W2 ⟨rfl, h2, b2⟩
  have hI2 : Lib.IsBuilderF 67 5 w.heap.size w.heap.size (Lib.byteCells (Lib.itoa l.length ++ [91])) W2 := by
    have : Lib.byteCells [] ++ Lib.strCells (t ++ ⟨#[91]⟩) = Lib.byteCells (Lib.itoa l.length ++ [91]) := by simp [Lib.byteCells, Lib.strCells, ht]
    rw [← this]; exact .inr h2
  have hW2 := hW.trans b2
  clear hI hW h2 b2
  go_wp2
  go_loopw [15] (fun i wr => ∃ k : Nat, k ≤ l.length ∧ i = .int .i64 k ∧ Lib.IsBuilderF 67 5 w.heap.size w.heap.size (Lib.byteCells (Lib.itoa l.length ++ [91] ++ (l.take k).flatMap encInt)) wr ∧ Below w.heap.size w wr) (fun i _ => l.length - (intOf i).toNat)
  case atStart => exact ⟨0, by omega, rfl, by simpa using hI2, hW2⟩
  case round =>
    obtain ⟨k, hk, rfl, hI, hW⟩ := hrel
    clear hI2 hW2
    by_cases hlt : k < l.length
    · obtain ⟨x, hx⟩ : ∃ x, l[k]? = some x := ⟨_, List.getElem?_eq_getElem hlt⟩
      obtain ⟨g, o, rfl, hc⟩ := hcell k (.int .i64 x) (by simp [hx])
      have hc2 : wr.cell? ⟨g, o + k, none⟩ = some (.int .i64 x) := (cell_same (hW.block g (cell_lt hc))).trans hc
      go_wp2_with (go_at_call 13; refine (Int_enc _ (hin x (List.mem_of_getElem? hx)).1 (hin x (List.mem_of_getElem? hx)).2 _ (hT.ext hW)).mono ?_)
      rintro e W3 ⟨rfl, hb3⟩
      have hI3 := is_ext hI hb3
      have hW3 := hW.trans (hb3.mono hW.size)
      have hpre : ((l.take k).flatMap encInt).length + (encInt x).length ≤ (l.flatMap encInt).length := by
        have e1 : l.flatMap encInt = (l.take (k + 1)).flatMap encInt ++ (l.drop (k + 1)).flatMap encInt := by rw [← List.flatMap_append, List.take_append_drop]
        rw [e1, List.take_add_one, hx]; simp
      have hil := itoa_len h2 h3
      go_wp2_with (go_at_call 59; refine (WriteString_k w.heap.size w.heap.size _ _ _ hI3 ?hsz hW3.size).mono ?_)
      case hsz =>
        have hz : (⟨(encInt x).toArray⟩ : ByteArray).size = (encInt x).length := by show (encInt x).toArray.size = _; simp
        rw [hz, Lib.byteCells_length, List.length_append, List.length_append]
        simp only [List.length_singleton]
        omega
      rintro e W4 ⟨rfl, h4, b4⟩
      go_wp2
      go_roundw
      case rel =>
        refine ⟨k + 1, by omega, by go_num, ?_, hW3.trans b4⟩
        have e1 : Lib.byteCells (Lib.itoa l.length ++ [91] ++ (l.take (k + 1)).flatMap encInt) = Lib.byteCells (Lib.itoa l.length ++ [91] ++ (l.take k).flatMap encInt) ++ Lib.strCells ⟨(encInt x).toArray⟩ := by
          rw [List.take_add_one, hx]; simp [Lib.byteCells, Lib.strCells]
        rw [e1]; exact .inr h4
      case measure => simp [intOf]; omega
    · obtain rfl : k = l.length := by omega
      rw [List.take_length] at hI
      have hil := itoa_len h2 h3
      obtain ⟨u, hu⟩ : ∃ u : ByteArray, u = ⟨(Lib.itoa l.length ++ [91] ++ l.flatMap encInt).toArray⟩ := ⟨_, rfl⟩
      have hul : u.data.toList = Lib.itoa l.length ++ [91] ++ l.flatMap encInt := by rw [hu]
      have hus : u.size ≤ 200000000 := by
        have : u.size = u.data.toList.length := by simp
        rw [this, hul, List.length_append, List.length_append, List.length_singleton]; omega
      go_wp2_with (go_at_call 60; refine (Tryd.Builder_String_any_k w.heap.size w.heap.size _ _ hI hW.size).mono ?_)
      rintro e W5 ⟨rfl, _, b5, _⟩
      rw [← hu]; clear hu
      go_wp2
      go_ret
      refine ⟨?_, hW.trans b5⟩
      show Ending.returned (Value.string (u ++ ⟨#[93]⟩)) = _
      congr 2
      apply ba_ext
      simp [hul]

set_option maxRecDepth 20000 in
set_option maxHeartbeats 4000000 in
theorem list_Text (l : List ByteArray) (hin : ∀ s ∈ l, s.size ≤ 100000000) (v : Value) (w : World) (hT : Tab w) (hv : Row w v (l.map fun x => .string x)) (hlen : l.length ≤ 1000) (hbytes : (l.flatMap encT).length ≤ 100000000) :
    Calls Tryd.prog 47 #[v, .func (.func 15) #[] #[]] w fun e w' => e = .returned (.string ⟨(Lib.itoa l.length ++ 91 :: (l.flatMap encT ++ [93])).toArray⟩) ∧ Below w.heap.size w w' := by
  obtain ⟨ao, cap, rfl, hcell⟩ := hv
  rw [List.length_map]
  have h2 : minInt ≤ (l.length : Int) := by unfold minInt; omega
  have h3 : (l.length : Int) ≤ maxInt := by unfold maxInt; omega
  obtain ⟨t, ht, hts⟩ := tobtain _ h2 h3
  go_enter Tryd.func47, Tryd.ntmps47
  have hal : ∀ o, Below w.heap.size w (w.alloc o) := fun o => (Below.refl _ _).alloc (Nat.le_refl _) _
  go_wp2_with (go_at_call 44; refine (Itoa_t _ h2 h3 _ (hT.ext (hal _)) _ ht).mono ?_)
  rintro e W ⟨rfl, hb⟩
  have hI : Lib.IsBuilderF 67 5 w.heap.size w.heap.size (Lib.byteCells []) W := is_fresh ((hb.block _ (by simp)).trans (heap_alloc_new w _))
  have hW : Below w.heap.size w W := (hal _).trans (hb.mono (by simp))
  clear hb hal
  go_wp2_with (go_at_call 59; refine (WriteString_k w.heap.size w.heap.size _ _ _ hI ?hsz hW.size).mono ?_)
  case hsz => have h1 : (⟨#[91]⟩ : ByteArray).size = 1 := rfl
              simp [Lib.byteCells]; omega
  rintro e W2 ⟨rfl, h2, b2⟩
  have hI2 : Lib.IsBuilderF 67 5 w.heap.size w.heap.size (Lib.byteCells (Lib.itoa l.length ++ [91])) W2 := by
    have : Lib.byteCells [] ++ Lib.strCells (t ++ ⟨#[91]⟩) = Lib.byteCells (Lib.itoa l.length ++ [91]) := by simp [Lib.byteCells, Lib.strCells, ht]
    rw [← this]; exact .inr h2
  have hW2 := hW.trans b2
  clear hI hW h2 b2
  go_wp2
  go_loopw [15] (fun i wr => ∃ k : Nat, k ≤ l.length ∧ i = .int .i64 k ∧ Lib.IsBuilderF 67 5 w.heap.size w.heap.size (Lib.byteCells (Lib.itoa l.length ++ [91] ++ (l.take k).flatMap encT)) wr ∧ Below w.heap.size w wr) (fun i _ => l.length - (intOf i).toNat)
  case atStart => exact ⟨0, by omega, rfl, by simpa using hI2, hW2⟩
  case round =>
    obtain ⟨k, hk, rfl, hI, hW⟩ := hrel
    clear hI2 hW2
    by_cases hlt : k < l.length
    · obtain ⟨x, hx⟩ : ∃ x, l[k]? = some x := ⟨_, List.getElem?_eq_getElem hlt⟩
      obtain ⟨g, o, rfl, hc⟩ := hcell k (.string x) (by simp [hx])
      have hc2 : wr.cell? ⟨g, o + k, none⟩ = some (.string x) := (cell_same (hW.block g (cell_lt hc))).trans hc
      go_wp2_with (go_at_call 15; refine (Text_enc _ (hin x (List.mem_of_getElem? hx)) _ (hT.ext hW)).mono ?_)
      rintro e W3 ⟨rfl, hb3⟩
      have hI3 := is_ext hI hb3
      have hW3 := hW.trans (hb3.mono hW.size)
      have hpre : ((l.take k).flatMap encT).length + (encT x).length ≤ (l.flatMap encT).length := by
        have e1 : l.flatMap encT = (l.take (k + 1)).flatMap encT ++ (l.drop (k + 1)).flatMap encT := by rw [← List.flatMap_append, List.take_append_drop]
        rw [e1, List.take_add_one, hx]; simp
      have hil := itoa_len h2 h3
      go_wp2_with (go_at_call 59; refine (WriteString_k w.heap.size w.heap.size _ _ _ hI3 ?hsz hW3.size).mono ?_)
      case hsz =>
        have hz : (⟨(encT x).toArray⟩ : ByteArray).size = (encT x).length := by show (encT x).toArray.size = _; simp
        rw [hz, Lib.byteCells_length, List.length_append, List.length_append]
        simp only [List.length_singleton]
        omega
      rintro e W4 ⟨rfl, h4, b4⟩
      go_wp2
      go_roundw
      case rel =>
        refine ⟨k + 1, by omega, by go_num, ?_, hW3.trans b4⟩
        have e1 : Lib.byteCells (Lib.itoa l.length ++ [91] ++ (l.take (k + 1)).flatMap encT) = Lib.byteCells (Lib.itoa l.length ++ [91] ++ (l.take k).flatMap encT) ++ Lib.strCells ⟨(encT x).toArray⟩ := by
          rw [List.take_add_one, hx]; simp [Lib.byteCells, Lib.strCells]
        rw [e1]; exact .inr h4
      case measure => simp [intOf]; omega
    · obtain rfl : k = l.length := by omega
      rw [List.take_length] at hI
      have hil := itoa_len h2 h3
      obtain ⟨u, hu⟩ : ∃ u : ByteArray, u = ⟨(Lib.itoa l.length ++ [91] ++ l.flatMap encT).toArray⟩ := ⟨_, rfl⟩
      have hul : u.data.toList = Lib.itoa l.length ++ [91] ++ l.flatMap encT := by rw [hu]
      have hus : u.size ≤ 200000000 := by
        have : u.size = u.data.toList.length := by simp
        rw [this, hul, List.length_append, List.length_append, List.length_singleton]; omega
      go_wp2_with (go_at_call 60; refine (Tryd.Builder_String_any_k w.heap.size w.heap.size _ _ hI hW.size).mono ?_)
      rintro e W5 ⟨rfl, _, b5, _⟩
      rw [← hu]; clear hu
      go_wp2
      go_ret
      refine ⟨?_, hW.trans b5⟩
      show Ending.returned (Value.string (u ++ ⟨#[93]⟩)) = _
      congr 2
      apply ba_ext
      simp [hul]

end Go.Proofs.YtedifjdhdhcbhaaDoor
