import Derived.Test.YtedifjdhdhcbhaaDoorProg
import Derived.WalkKit
import Derived.Handy
import Derived.Deep.Light
import Derived.WalkSmall
import Derived.StillTailTactics
import Derived.Lib.Hide
import Derived.Test.YtedifjdhdhcbhaaDoorW0
import Derived.Test.YtedifjdhdhcbhaaDoorIt
import Derived.Test.YtedifjdhdhcbhaaDoorW5
import Derived.Test.YtedifjdhdhcbhaaDoorRow
namespace Go.Proofs.YtedifjdhdhcbhaaDoor
open Go Go.RowKit
set_option linter.unusedSimpArgs false
set_option linter.unusedVariables false

theorem row_ext {B : Nat} {e : TypeId} {z : Nat} {v : Value} {n : Nat} {xs : List Value} {w w' : World} (h : w.ownsRowF B e z v n xs) (k : Below w.heap.size w w') : w'.ownsRowF B e z v n xs := by
  obtain ⟨hl, h | ⟨g, cap, cur, fz, e1, e2, e3, e4⟩⟩ := h
  · exact ⟨hl, .inl h⟩
  · exact ⟨hl, .inr ⟨g, cap, cur, fz, e1, e2, (k.block g (lt_of_has e3)).trans e3, e4⟩⟩
theorem at_ext {T e : TypeId} {B b : Nat} {p : Value} {bs : List Value} {w w' : World} (h : Lib.BuilderAtF T e B b p bs w) (k : Below w.heap.size w w') : Lib.BuilderAtF T e B b p bs w' := by
  have hlt := h.lt
  obtain ⟨hB, v, hb, hown, hne⟩ := h
  exact ⟨hB, v, (k.block b hlt).trans hb, row_ext hown k, hne⟩
theorem is_ext {T e : TypeId} {B b : Nat} {bs : List Value} {w w' : World} (h : Lib.IsBuilderF T e B b bs w) (k : Below w.heap.size w w') : Lib.IsBuilderF T e B b bs w' :=
  h.elim (fun x => .inl (at_ext x k)) fun x => .inr (at_ext x k)
theorem is_fresh {T e : TypeId} {b : Nat} {w : World} (h : w.heap[b]? = some (.cells #[.pointer none, .slice none 0 0] T (0, 0))) : Lib.IsBuilderF T e b b [] w :=
  .inl ⟨Nat.le_refl _, _, h, World.ownsRowF_nil _ _ _ _, by simp [Value.ownBlock]⟩
theorem Itoa_t (n : Int) (h0 : minInt ≤ n) (h1 : n ≤ maxInt) (w : World) (hT : Tab w) (t : ByteArray) (ht : t.data.toList = Lib.itoa n) :
    Calls Tryd.prog 44 #[.int .i64 n] w fun e w' => e = .returned (.string t) ∧ Below w.heap.size w w' := by
  refine (Itoa_any n h0 h1 w hT).mono ?_
  rintro e w' ⟨rfl, h⟩
  exact ⟨by congr 2; exact ba_ext ht.symm, h⟩
theorem tobtain (n : Int) (h0 : minInt ≤ n) (h1 : n ≤ maxInt) : ∃ t : ByteArray, t.data.toList = Lib.itoa n ∧ t.size ≤ 20 :=
  ⟨⟨(Lib.itoa n).toArray⟩, rfl, by show (Lib.itoa n).toArray.size ≤ 20; rw [List.size_toArray]; exact itoa_len h0 h1⟩
theorem Int_enc (n : Int) (h0 : minInt ≤ n) (h1 : n ≤ maxInt) (w : World) (hT : Tab w) :
    Calls Tryd.prog 13 #[.int .i64 n] w fun e w' => e = .returned (.string ⟨(encInt n).toArray⟩) ∧ Below w.heap.size w w' := by
  obtain ⟨t, ht, hts⟩ := tobtain n h0 h1
  have hL : Kn [] w w [] := Kn.refl [] w; (try simp only [List.setIfInBounds_toArray, List.set_cons_zero, List.set_cons_succ, List.cons_append, List.nil_append] at hL); have hF := hL.facts; (try simp only [Facts, Dist, List.map_cons, List.map_nil, List.forall_mem_cons, false_implies, ne_eq, not_false_eq_true, List.not_mem_nil, not_false_eq_true, true_implies, forall_const, List.mem_cons, or_false, implies_true, and_true, true_and, Nat.le_refl, List.setIfInBounds_toArray, List.set_cons_zero, List.set_cons_succ] at hF); go_enter Tryd.func13, Tryd.ntmps13
  go_wp2_with (first | ((with_reducible refine kn_list_set ?_); (try clear hF); clear hL; intro W hL; (try simp only [List.setIfInBounds_toArray, List.set_cons_zero, List.set_cons_succ, List.cons_append, List.nil_append] at hL); have hF := hL.facts; (try simp only [Facts, Dist, List.map_cons, List.map_nil, List.forall_mem_cons, false_implies, ne_eq, not_false_eq_true, List.not_mem_nil, not_false_eq_true, true_implies, forall_const, List.mem_cons, or_false, implies_true, and_true, true_and, Nat.le_refl, List.setIfInBounds_toArray, List.set_cons_zero, List.set_cons_succ] at hF)) | (go_at_call 44; refine kn_calls ?_; (try clear hF); clear hL; intro W hL; (try simp only [List.setIfInBounds_toArray, List.set_cons_zero, List.set_cons_succ, List.cons_append, List.nil_append] at hL); have hF := hL.facts; (try simp only [Facts, Dist, List.map_cons, List.map_nil, List.forall_mem_cons, false_implies, ne_eq, not_false_eq_true, List.not_mem_nil, not_false_eq_true, true_implies, forall_const, List.mem_cons, or_false, implies_true, and_true, true_and, Nat.le_refl, List.setIfInBounds_toArray, List.set_cons_zero, List.set_cons_succ] at hF); (with_reducible refine (Itoa_t _ h0 h1 _ (hT.kn hL (by simp)) _ ht).mono ?_); rintro e W ⟨rfl, hb⟩; replace hL := hL.below hb; clear hb; (try clear hF); (try simp only [List.setIfInBounds_toArray, List.set_cons_zero, List.set_cons_succ, List.cons_append, List.nil_append] at hL); have hF := hL.facts; (try simp only [Facts, Dist, List.map_cons, List.map_nil, List.forall_mem_cons, false_implies, ne_eq, not_false_eq_true, List.not_mem_nil, not_false_eq_true, true_implies, forall_const, List.mem_cons, or_false, implies_true, and_true, true_and, Nat.le_refl, List.setIfInBounds_toArray, List.set_cons_zero, List.set_cons_succ] at hF)))
  (try simp only [Exit.inBlock, Exit.then]); refine bodyPost_ret (by simp [results, Tryd.results13, go_sem, *]; try rfl) rfl ?_
  refine ⟨?_, hL.below0⟩
  congr 2
  apply ba_ext
  simp [encInt, ht]
theorem Num_enc (n : Int) (h0 : minInt ≤ n) (h1 : n ≤ maxInt) (w : World) (hT : Tab w) :
    Calls Tryd.prog 11 #[.int .i64 n] w fun e w' => e = .returned (.string ⟨(encNum n).toArray⟩) ∧ Below w.heap.size w w' := by
  by_cases hn : n < 0
  · unfold encNum; rw [if_pos hn]
    have hL : Kn [] w w [] := Kn.refl [] w; (try simp only [List.setIfInBounds_toArray, List.set_cons_zero, List.set_cons_succ, List.cons_append, List.nil_append] at hL); have hF := hL.facts; (try simp only [Facts, Dist, List.map_cons, List.map_nil, List.forall_mem_cons, false_implies, ne_eq, not_false_eq_true, List.not_mem_nil, not_false_eq_true, true_implies, forall_const, List.mem_cons, or_false, implies_true, and_true, true_and, Nat.le_refl, List.setIfInBounds_toArray, List.set_cons_zero, List.set_cons_succ] at hF); go_enter Tryd.func11, Tryd.ntmps11
    go_wp2_with (first | ((with_reducible refine kn_list_set ?_); (try clear hF); clear hL; intro W hL; (try simp only [List.setIfInBounds_toArray, List.set_cons_zero, List.set_cons_succ, List.cons_append, List.nil_append] at hL); have hF := hL.facts; (try simp only [Facts, Dist, List.map_cons, List.map_nil, List.forall_mem_cons, false_implies, ne_eq, not_false_eq_true, List.not_mem_nil, not_false_eq_true, true_implies, forall_const, List.mem_cons, or_false, implies_true, and_true, true_and, Nat.le_refl, List.setIfInBounds_toArray, List.set_cons_zero, List.set_cons_succ] at hF)) | (go_at_call 13; refine kn_calls ?_; (try clear hF); clear hL; intro W hL; (try simp only [List.setIfInBounds_toArray, List.set_cons_zero, List.set_cons_succ, List.cons_append, List.nil_append] at hL); have hF := hL.facts; (try simp only [Facts, Dist, List.map_cons, List.map_nil, List.forall_mem_cons, false_implies, ne_eq, not_false_eq_true, List.not_mem_nil, not_false_eq_true, true_implies, forall_const, List.mem_cons, or_false, implies_true, and_true, true_and, Nat.le_refl, List.setIfInBounds_toArray, List.set_cons_zero, List.set_cons_succ] at hF); (with_reducible refine (Int_enc _ h0 h1 _ (hT.kn hL (by simp))).mono ?_); rintro e W ⟨rfl, hb⟩; replace hL := hL.below hb; clear hb; (try clear hF); (try simp only [List.setIfInBounds_toArray, List.set_cons_zero, List.set_cons_succ, List.cons_append, List.nil_append] at hL); have hF := hL.facts; (try simp only [Facts, Dist, List.map_cons, List.map_nil, List.forall_mem_cons, false_implies, ne_eq, not_false_eq_true, List.not_mem_nil, not_false_eq_true, true_implies, forall_const, List.mem_cons, or_false, implies_true, and_true, true_and, Nat.le_refl, List.setIfInBounds_toArray, List.set_cons_zero, List.set_cons_succ] at hF)))
    (try simp only [Exit.inBlock, Exit.then]); refine bodyPost_ret (by simp [results, Tryd.results11, go_sem, *]; try rfl) rfl ?_
    exact ⟨rfl, hL.below0⟩
  · unfold encNum; rw [if_neg hn]
    have hL : Kn [] w w [] := Kn.refl [] w; (try simp only [List.setIfInBounds_toArray, List.set_cons_zero, List.set_cons_succ, List.cons_append, List.nil_append] at hL); have hF := hL.facts; (try simp only [Facts, Dist, List.map_cons, List.map_nil, List.forall_mem_cons, false_implies, ne_eq, not_false_eq_true, List.not_mem_nil, not_false_eq_true, true_implies, forall_const, List.mem_cons, or_false, implies_true, and_true, true_and, Nat.le_refl, List.setIfInBounds_toArray, List.set_cons_zero, List.set_cons_succ] at hF); go_enter Tryd.func11, Tryd.ntmps11
    go_wp2_with (first | ((with_reducible refine kn_list_set ?_); (try clear hF); clear hL; intro W hL; (try simp only [List.setIfInBounds_toArray, List.set_cons_zero, List.set_cons_succ, List.cons_append, List.nil_append] at hL); have hF := hL.facts; (try simp only [Facts, Dist, List.map_cons, List.map_nil, List.forall_mem_cons, false_implies, ne_eq, not_false_eq_true, List.not_mem_nil, not_false_eq_true, true_implies, forall_const, List.mem_cons, or_false, implies_true, and_true, true_and, Nat.le_refl, List.setIfInBounds_toArray, List.set_cons_zero, List.set_cons_succ] at hF)) | (go_at_call 13; refine kn_calls ?_; (try clear hF); clear hL; intro W hL; (try simp only [List.setIfInBounds_toArray, List.set_cons_zero, List.set_cons_succ, List.cons_append, List.nil_append] at hL); have hF := hL.facts; (try simp only [Facts, Dist, List.map_cons, List.map_nil, List.forall_mem_cons, false_implies, ne_eq, not_false_eq_true, List.not_mem_nil, not_false_eq_true, true_implies, forall_const, List.mem_cons, or_false, implies_true, and_true, true_and, Nat.le_refl, List.setIfInBounds_toArray, List.set_cons_zero, List.set_cons_succ] at hF); (with_reducible refine (Int_enc _ h0 h1 _ (hT.kn hL (by simp))).mono ?_); rintro e W ⟨rfl, hb⟩; replace hL := hL.below hb; clear hb; (try clear hF); (try simp only [List.setIfInBounds_toArray, List.set_cons_zero, List.set_cons_succ, List.cons_append, List.nil_append] at hL); have hF := hL.facts; (try simp only [Facts, Dist, List.map_cons, List.map_nil, List.forall_mem_cons, false_implies, ne_eq, not_false_eq_true, List.not_mem_nil, not_false_eq_true, true_implies, forall_const, List.mem_cons, or_false, implies_true, and_true, true_and, Nat.le_refl, List.setIfInBounds_toArray, List.set_cons_zero, List.set_cons_succ] at hF)))
    (try simp only [Exit.inBlock, Exit.then]); refine bodyPost_ret (by simp [results, Tryd.results11, go_sem, *]; try rfl) rfl ?_
    exact ⟨rfl, hL.below0⟩
def encT (x : ByteArray) : Bytes := encText x.data.toList
theorem Text_enc (s : ByteArray) (h1 : s.size ≤ 100000000) (w : World) (hT : Tab w) :
    Calls Tryd.prog 15 #[.string s] w fun e w' => e = .returned (.string ⟨(encT s).toArray⟩) ∧ Below w.heap.size w w' := by
  have h2 : minInt ≤ (s.size : Int) := by unfold minInt; omega
  have h3 : (s.size : Int) ≤ maxInt := by unfold maxInt; omega
  obtain ⟨t, ht, hts⟩ := tobtain _ h2 h3
  have hL : Kn [] w w [] := Kn.refl [] w; (try simp only [List.setIfInBounds_toArray, List.set_cons_zero, List.set_cons_succ, List.cons_append, List.nil_append] at hL); have hF := hL.facts; (try simp only [Facts, Dist, List.map_cons, List.map_nil, List.forall_mem_cons, false_implies, ne_eq, not_false_eq_true, List.not_mem_nil, not_false_eq_true, true_implies, forall_const, List.mem_cons, or_false, implies_true, and_true, true_and, Nat.le_refl, List.setIfInBounds_toArray, List.set_cons_zero, List.set_cons_succ] at hF); go_enter Tryd.func15, Tryd.ntmps15
  go_wp2_with (first | ((with_reducible refine kn_list_set ?_); (try clear hF); clear hL; intro W hL; (try simp only [List.setIfInBounds_toArray, List.set_cons_zero, List.set_cons_succ, List.cons_append, List.nil_append] at hL); have hF := hL.facts; (try simp only [Facts, Dist, List.map_cons, List.map_nil, List.forall_mem_cons, false_implies, ne_eq, not_false_eq_true, List.not_mem_nil, not_false_eq_true, true_implies, forall_const, List.mem_cons, or_false, implies_true, and_true, true_and, Nat.le_refl, List.setIfInBounds_toArray, List.set_cons_zero, List.set_cons_succ] at hF)) | (go_at_call 44; refine kn_calls ?_; (try clear hF); clear hL; intro W hL; (try simp only [List.setIfInBounds_toArray, List.set_cons_zero, List.set_cons_succ, List.cons_append, List.nil_append] at hL); have hF := hL.facts; (try simp only [Facts, Dist, List.map_cons, List.map_nil, List.forall_mem_cons, false_implies, ne_eq, not_false_eq_true, List.not_mem_nil, not_false_eq_true, true_implies, forall_const, List.mem_cons, or_false, implies_true, and_true, true_and, Nat.le_refl, List.setIfInBounds_toArray, List.set_cons_zero, List.set_cons_succ] at hF); (with_reducible refine (Itoa_t _ h2 h3 _ (hT.kn hL (by simp)) _ ht).mono ?_); rintro e W ⟨rfl, hb⟩; replace hL := hL.below hb; clear hb; (try clear hF); (try simp only [List.setIfInBounds_toArray, List.set_cons_zero, List.set_cons_succ, List.cons_append, List.nil_append] at hL); have hF := hL.facts; (try simp only [Facts, Dist, List.map_cons, List.map_nil, List.forall_mem_cons, false_implies, ne_eq, not_false_eq_true, List.not_mem_nil, not_false_eq_true, true_implies, forall_const, List.mem_cons, or_false, implies_true, and_true, true_and, Nat.le_refl, List.setIfInBounds_toArray, List.set_cons_zero, List.set_cons_succ] at hF)))
  (try simp only [Exit.inBlock, Exit.then]); refine bodyPost_ret (by simp [results, Tryd.results15, go_sem, *]; try rfl) rfl ?_
  refine ⟨?_, hL.below0⟩
  congr 2
  apply ba_ext
  simp [encT, encText, ht]

end Go.Proofs.YtedifjdhdhcbhaaDoor
