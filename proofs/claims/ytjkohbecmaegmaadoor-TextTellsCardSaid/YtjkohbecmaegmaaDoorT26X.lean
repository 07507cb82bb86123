import Derived.Test.YtjkohbecmaegmaaDoorProg
import Derived.WalkKit
import Derived.Handy
import Derived.Deep.Light
import Derived.WalkSmall
import Derived.StillTailTactics
import Derived.Lib.Hide
import Derived.Test.YtjkohbecmaegmaaDoorT0
import Derived.Test.YtjkohbecmaegmaaDoorIt
import Derived.Test.YtjkohbecmaegmaaDoorT23X
import Derived.Test.YtjkohbecmaegmaaDoorT24X
import Derived.Test.YtjkohbecmaegmaaDoorT25X
namespace Go.Proofs.YtjkohbecmaegmaaDoor
open Go Go.RowKit
set_option linter.unusedSimpArgs false
set_option linter.unusedVariables false

theorem mem_join : ∀ {l : List Bytes} {x : Bytes}, x ∈ l → x.length + 1 ≤ (join10 l).length
  | y :: l, x, h => by
    have e : (join10 (y :: l)).length = y.length + 1 + (join10 l).length := by simp [join10]; omega
    rcases List.mem_cons.1 h with rfl | h
    · omega
    · have := mem_join h; omega
theorem len_join : ∀ l : List Bytes, l.length ≤ (join10 l).length
  | [] => by simp
  | y :: l => by
    have e : (join10 (y :: l)).length = y.length + 1 + (join10 l).length := by simp [join10]; omega
    have := len_join l
    rw [List.length_cons]; omega
theorem fields_len : ∀ (s now : Bytes), (fieldsGo now s).length ≤ s.length + 1
  | [], now => by rw [fieldsGo]; split <;> simp
  | c :: t, now => by
    have h1 := fields_len t []
    have h2 := fields_len t (now ++ [c])
    rw [fieldsGo]
    split
    · split
      · simp only [List.length_cons]; omega
      · simp only [List.length_cons]; omega
    · simp only [List.length_cons]; omega
theorem fields_size : ∀ (s now : Bytes), ∀ f ∈ fieldsGo now s, f.length ≤ now.length + s.length
  | [], now, f, h => by
    rw [fieldsGo] at h
    split at h
    · simp at h
    · simp at h; subst h; simp
  | c :: t, now, f, h => by
    rw [fieldsGo] at h
    split at h
    · split at h
      · have := fields_size t [] f h; simp at this ⊢; omega
      · rcases List.mem_cons.1 h with rfl | h
        · simp
        · have := fields_size t [] f h; simp at this ⊢; omega
    · have := fields_size t _ f h
      simp at this ⊢; omega
theorem take_flat (l : List Bytes) (k : Nat) : ((l.take k).flatMap fieldsB).length ≤ (l.flatMap fieldsB).length := by
  have : l.flatMap fieldsB = (l.take k).flatMap fieldsB ++ (l.drop k).flatMap fieldsB := by rw [← List.flatMap_append, List.take_append_drop]
  rw [this, List.length_append]; omega
theorem unl_join (l : List ByteArray) : unlB l = join10 (l.map fun x => x.data.toList) := by unfold unlB join10; rw [List.flatMap_map]
theorem unl_mk (l : List Bytes) : unlB (l.map fun x => (⟨x.toArray⟩ : ByteArray)) = join10 l := by
  rw [unl_join, List.map_map]
  congr 1
  refine (List.map_congr_left fun x _ => ?_).trans (List.map_id _)
  simp
theorem all_take (l : List ByteArray) (k : Nat) (x : ByteArray) (h : l[k]? = some x) : (l.take (k + 1)).all (fun x => x.data.toList.all (· != 10)) = ((l.take k).all (fun x => x.data.toList.all (· != 10)) && x.data.toList.all (· != 10)) := by
  rw [List.take_add_one, h, List.all_append]; simp
theorem Fields_row (s : ByteArray) (hs : s.size ≤ 100000000) (w : World) : Calls Tryd.prog 12 #[.string s] w fun e w' => ∃ v3, e = .returned v3 ∧ Row w' v3 (strs (fieldsB s.data.toList)) ∧ Below w.heap.size w w' :=
  (Fields_any s hs w).mono fun e w' ⟨g, h1, h2, h3⟩ => ⟨_, h1, row_owns h2, h3⟩
set_option maxRecDepth 20000 in
set_option maxHeartbeats 4000000 in
theorem lines_long1 (l : List ByteArray) (v : Value) (s : ByteArray) (w : World) (hT : Tab w) (hv : Row w v (l.map fun x => .string x)) (hl : ¬ (l.length : Int) ≤ 30) : Calls Tryd.prog 3 #[v, .string s] w fun e w' => e = .returned (.bool true) ∧ Below w.heap.size w w' := by
  obtain ⟨ao, cap, rfl, _⟩ := id hv
  rw [List.length_map] at *
  have hL : Kn [] w w [] := Kn.refl [] w; (try simp only [List.setIfInBounds_toArray, List.set_cons_zero, List.set_cons_succ, List.cons_append, List.nil_append] at hL); have hF := hL.facts; (try simp only [Facts, Dist, List.map_cons, List.map_nil, List.forall_mem_cons, false_implies, ne_eq, not_false_eq_true, List.not_mem_nil, not_false_eq_true, true_implies, forall_const, List.mem_cons, or_false, implies_true, and_true, true_and, Nat.le_refl, List.setIfInBounds_toArray, List.set_cons_zero, List.set_cons_succ] at hF); go_enter Tryd.func3, Tryd.ntmps3
  go_wp2_with (first | ((with_reducible refine kn_list_set ?_); (try clear hF); clear hL; intro W hL; (try simp only [List.setIfInBounds_toArray, List.set_cons_zero, List.set_cons_succ, List.cons_append, List.nil_append] at hL); have hF := hL.facts; (try simp only [Facts, Dist, List.map_cons, List.map_nil, List.forall_mem_cons, false_implies, ne_eq, not_false_eq_true, List.not_mem_nil, not_false_eq_true, true_implies, forall_const, List.mem_cons, or_false, implies_true, and_true, true_and, Nat.le_refl, List.setIfInBounds_toArray, List.set_cons_zero, List.set_cons_succ] at hF)) | (go_at_call 8; refine kn_calls ?_; (try clear hF); clear hL; intro W hL; (try simp only [List.setIfInBounds_toArray, List.set_cons_zero, List.set_cons_succ, List.cons_append, List.nil_append] at hL); have hF := hL.facts; (try simp only [Facts, Dist, List.map_cons, List.map_nil, List.forall_mem_cons, false_implies, ne_eq, not_false_eq_true, List.not_mem_nil, not_false_eq_true, true_implies, forall_const, List.mem_cons, or_false, implies_true, and_true, true_and, Nat.le_refl, List.setIfInBounds_toArray, List.set_cons_zero, List.set_cons_succ] at hF); (with_reducible refine (small_any _ (hT.kn hL (by simp))).mono ?_); rintro e W ⟨rfl, hb⟩; replace hL := hL.below hb; clear hb; (try clear hF); (try simp only [List.setIfInBounds_toArray, List.set_cons_zero, List.set_cons_succ, List.cons_append, List.nil_append] at hL); have hF := hL.facts; (try simp only [Facts, Dist, List.map_cons, List.map_nil, List.forall_mem_cons, false_implies, ne_eq, not_false_eq_true, List.not_mem_nil, not_false_eq_true, true_implies, forall_const, List.mem_cons, or_false, implies_true, and_true, true_and, Nat.le_refl, List.setIfInBounds_toArray, List.set_cons_zero, List.set_cons_succ] at hF)))
  (try simp only [Exit.inBlock, Exit.then]); refine bodyPost_ret (by simp [results, Tryd.results3, go_sem, *]; try rfl) rfl ?_
  exact ⟨rfl, hL.below0⟩
set_option maxRecDepth 20000 in
set_option maxHeartbeats 4000000 in
theorem lines_long2 (l : List ByteArray) (v : Value) (s : ByteArray) (w : World) (hT : Tab w) (hv : Row w v (l.map fun x => .string x)) (hl : (l.length : Int) ≤ 30) (hs : ¬ (s.size : Int) ≤ 300) : Calls Tryd.prog 3 #[v, .string s] w fun e w' => e = .returned (.bool true) ∧ Below w.heap.size w w' := by
  obtain ⟨ao, cap, rfl, _⟩ := id hv
  rw [List.length_map] at *
  have hL : Kn [] w w [] := Kn.refl [] w; (try simp only [List.setIfInBounds_toArray, List.set_cons_zero, List.set_cons_succ, List.cons_append, List.nil_append] at hL); have hF := hL.facts; (try simp only [Facts, Dist, List.map_cons, List.map_nil, List.forall_mem_cons, false_implies, ne_eq, not_false_eq_true, List.not_mem_nil, not_false_eq_true, true_implies, forall_const, List.mem_cons, or_false, implies_true, and_true, true_and, Nat.le_refl, List.setIfInBounds_toArray, List.set_cons_zero, List.set_cons_succ] at hF); go_enter Tryd.func3, Tryd.ntmps3
  go_wp2_with (first | ((with_reducible refine kn_list_set ?_); (try clear hF); clear hL; intro W hL; (try simp only [List.setIfInBounds_toArray, List.set_cons_zero, List.set_cons_succ, List.cons_append, List.nil_append] at hL); have hF := hL.facts; (try simp only [Facts, Dist, List.map_cons, List.map_nil, List.forall_mem_cons, false_implies, ne_eq, not_false_eq_true, List.not_mem_nil, not_false_eq_true, true_implies, forall_const, List.mem_cons, or_false, implies_true, and_true, true_and, Nat.le_refl, List.setIfInBounds_toArray, List.set_cons_zero, List.set_cons_succ] at hF)) | (go_at_call 8; refine kn_calls ?_; (try clear hF); clear hL; intro W hL; (try simp only [List.setIfInBounds_toArray, List.set_cons_zero, List.set_cons_succ, List.cons_append, List.nil_append] at hL); have hF := hL.facts; (try simp only [Facts, Dist, List.map_cons, List.map_nil, List.forall_mem_cons, false_implies, ne_eq, not_false_eq_true, List.not_mem_nil, not_false_eq_true, true_implies, forall_const, List.mem_cons, or_false, implies_true, and_true, true_and, Nat.le_refl, List.setIfInBounds_toArray, List.set_cons_zero, List.set_cons_succ] at hF); (with_reducible refine (small_any _ (hT.kn hL (by simp))).mono ?_); rintro e W ⟨rfl, hb⟩; replace hL := hL.below hb; clear hb; (try clear hF); (try simp only [List.setIfInBounds_toArray, List.set_cons_zero, List.set_cons_succ, List.cons_append, List.nil_append] at hL); have hF := hL.facts; (try simp only [Facts, Dist, List.map_cons, List.map_nil, List.forall_mem_cons, false_implies, ne_eq, not_false_eq_true, List.not_mem_nil, not_false_eq_true, true_implies, forall_const, List.mem_cons, or_false, implies_true, and_true, true_and, Nat.le_refl, List.setIfInBounds_toArray, List.set_cons_zero, List.set_cons_succ] at hF)))
  (try simp only [Exit.inBlock, Exit.then]); refine bodyPost_ret (by simp [results, Tryd.results3, go_sem, *]; try rfl) rfl ?_
  exact ⟨rfl, hL.below0⟩
theorem textLines_any (l : List ByteArray) (v : Value) (s : ByteArray) (w : World) (hT : Tab w) (hv : Row w v (l.map fun x => .string x)) : Calls Tryd.prog 3 #[v, .string s] w fun e w' => e = .returned (.bool true) ∧ Below w.heap.size w w' := by
  by_cases hl : (l.length : Int) ≤ 30
  · by_cases hs : (s.size : Int) ≤ 300
    · have hsl := szl s
      have HP : Hid ((fun k => (l.take k).all fun x => x.data.toList.all (· != 10)) 0 = true ∧ ∀ k x, l[k]? = some x → (fun k => (l.take k).all fun x => x.data.toList.all (· != 10)) (k + 1) = ((fun k => (l.take k).all fun x => x.data.toList.all (· != 10)) k && x.data.toList.all (· != 10))) := Lib.hid ⟨rfl, fun k x h => all_take l k x h⟩
      have UL : (∀ x ∈ l, x.size ≤ 100) → (fun k => (l.take k).all fun x => x.data.toList.all (· != 10)) l.length = true → ∃ u, Hid (∀ W, Row W v (l.map fun x => .string x) → Calls Tryd.prog 11 #[v] W fun e w' => e = .returned (.string u) ∧ Below W.heap.size W w') ∧ Hid (∀ W, Tab W → Calls Tryd.prog 10 #[.string u] W fun e w' => ∃ v2, e = .returned v2 ∧ Row w' v2 (l.map fun x => .string x) ∧ Below W.heap.size W w') := by
        intro hz hp
        simp only [List.take_length] at hp
        have hul : (unlB l).length ≤ 10000 := by
          have := flat_le (fun s : ByteArray => s.data.toList ++ [10]) 101 l (fun x hx => by rw [List.length_append, szl, List.length_singleton]; have := hz x hx; omega)
          unfold unlB
          have h2 : l.length * 101 ≤ 30 * 101 := Nat.mul_le_mul_right _ (by omega)
          omega
        refine ⟨⟨(unlB l).toArray⟩, Lib.hid fun W hW => Unlines_any l v W hW (by omega) (by omega), Lib.hid fun W hW => ?_⟩
        have := Lines_row ⟨(unlB l).toArray⟩ (by rw [← szl]; simp; omega) W hW
        have e : lns (⟨(unlB l).toArray⟩ : ByteArray).data.toList = l.map fun x => x.data.toList := by
          simp only
          rw [unl_join]
          refine lns_lines _ fun y hy => ?_
          obtain ⟨x, hx, rfl⟩ := List.mem_map.1 hy
          have := List.all_eq_true.1 (List.all_eq_true.1 hp x hx)
          intro hm
          have := this 10 hm
          simp at this
        rw [e, strs_ba] at this
        exact this
      by_cases hse : s.data.toList = []
      · obtain rfl : s = ⟨#[]⟩ := ba_ext hse
        refine lines_e l v _ w hT hv (by omega) hs (fun k => (l.take k).all fun x => x.data.toList.all (· != 10)) HP UL (by decide +kernel) (by decide +kernel) (Lib.hid fun W => Lines_none _ rfl W) (Lib.hid fun W hW => ?_) (Lib.hid fun W => ?_)
        · exact Unlines_any [] _ W hW (by simp) (by simp [unlB])
        · exact Fields_row ⟨#[]⟩ (by decide) W
      · have hs1 : 1 ≤ s.size := by rw [← szl]; exact List.length_pos_iff.2 hse
        have hsi : s.toList.isEmpty = false := by
          rw [ByteArray.toList_eq]
          cases hd : s.data.toList with
          | nil => exact absurd hd hse
          | cons => rfl
        obtain ⟨c, hc⟩ : ∃ c, s.data.toList[s.size - 1]? = some c := ⟨_, List.getElem?_eq_getElem (by omega)⟩
        have hlast : s.data.toList.getLast? = some c := by rw [List.getLast?_eq_getElem?, hsl, hc]
        have LS : Hid (∀ W, Tab W → Calls Tryd.prog 10 #[.string s] W fun e w' => ∃ g, e = .returned (.slice (some ⟨g, 0, none⟩) (lns s.data.toList).length (lns s.data.toList).length) ∧ Kn [] W w' [(g, .cells (strs (lns s.data.toList)).toArray 9 (0, 0))]) := Lib.hid fun W hW => by
          have := Lines_some s (by omega) (by omega) W hW
          rw [lines_lns] at this; exact this
        have hj : (join10 (lns s.data.toList)).length ≤ 301 := by
          rw [lns_join]
          split
          · simp
          · split
            · omega
            · rw [List.length_append, List.length_singleton]; omega
        have FS : Hid (∀ W, Calls Tryd.prog 12 #[.string s] W fun e w' => ∃ v3, e = .returned v3 ∧ Row w' v3 (strs (fieldsB s.data.toList)) ∧ Below W.heap.size W w') := Lib.hid fun W => Fields_row s (by omega) W
        have UL2 : ∀ want : ByteArray, join10 (lns s.data.toList) = want.data.toList → Hid (∀ GL W, Row W (.slice (some ⟨GL, 0, none⟩) (lns s.data.toList).length (lns s.data.toList).length) (strs (lns s.data.toList)) → Calls Tryd.prog 11 #[.slice (some ⟨GL, 0, none⟩) (lns s.data.toList).length (lns s.data.toList).length] W fun e w' => e = .returned (.string want) ∧ Below W.heap.size W w') := fun want hw => Lib.hid fun GL W hr => by
          have h1 : strs (lns s.data.toList) = ((lns s.data.toList).map fun x => (⟨x.toArray⟩ : ByteArray)).map fun x => Value.string x := by unfold strs; rw [List.map_map]; rfl
          rw [h1] at hr
          have := Unlines_any _ _ W hr (by rw [List.length_map]; have := len_join (lns s.data.toList); omega) (by rw [unl_mk]; omega)
          rw [unl_mk, hw, ba_mk] at this
          exact this
        have htot : ∀ k, (((lns s.data.toList).take k).flatMap fieldsB).length ≤ 400 := fun k => by
          have h1 := take_flat (lns s.data.toList) k
          rw [fields_lns] at h1
          have h2 := fields_len s.data.toList []
          unfold fieldsB at h1 h2 ⊢
          omega
        have hlz : ∀ x ∈ lns s.data.toList, x.length ≤ 1000 := fun x hx => by have := mem_join hx; omega
        have hll : (lns s.data.toList).length ≤ 1000 := by have := len_join (lns s.data.toList); omega
        have hfz : ∀ f ∈ fieldsB s.data.toList, f.length ≤ 1000 := fun f hf => by have := fields_size _ _ f hf; simp only [List.length_nil] at this; omega
        have hfll : (fieldsB s.data.toList).length ≤ 1000 := by have := fields_len s.data.toList []; unfold fieldsB; omega
        by_cases h10 : c = 10
        · subst h10
          exact lines_n l v s w hT hv (by omega) hs (fun k => (l.take k).all fun x => x.data.toList.all (· != 10)) HP UL (str_ne hse) hsi hs1 10 (fun h => byte_at hc h) rfl _ _ LS (UL2 s (by rw [lns_join, if_neg hse, if_pos hlast])) FS hlz htot (Lib.hid (fields_lns _)) (fields_fact _ [] (by simp)) hfz hll hfll
        · have f10 : ((c.toNat : Int) == 10) = false := beq_false_of_ne fun h => h10 (UInt8.toNat_inj.1 (show c.toNat = 10 by omega))
          exact lines_o l v s w hT hv (by omega) hs (fun k => (l.take k).all fun x => x.data.toList.all (· != 10)) HP UL (str_ne hse) hsi hs1 c (fun h => byte_at hc h) f10 (by unfold bne; rw [f10]; rfl) _ _ LS (UL2 (s ++ ⟨#[10]⟩) (by rw [lns_join, if_neg hse, if_neg (by rw [hlast]; simpa using h10)]; simp)) FS hlz htot (Lib.hid (fields_lns _)) (fields_fact _ [] (by simp)) hfz hll hfll
    · exact lines_long2 l v s w hT hv hl hs
  · exact lines_long1 l v s w hT hv hl

end Go.Proofs.YtjkohbecmaegmaaDoor

