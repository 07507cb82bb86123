import Derived.Test.YtjkohbecmaegmaaDoorProg
import Derived.WalkKit
import Derived.Handy
import Derived.Deep.Light
import Derived.WalkSmall
import Derived.StillTailTactics
import Derived.Lib.Hide
import Derived.Test.YtjkohbecmaegmaaDoorT0
import Derived.Test.YtjkohbecmaegmaaDoorIt
import Derived.Test.YtjkohbecmaegmaaDoorTaM
import Derived.Test.YtjkohbecmaegmaaDoorPatM
namespace Go.Proofs.YtjkohbecmaegmaaDoor
open Go Go.RowKit
set_option linter.unusedSimpArgs false
set_option linter.unusedVariables false

theorem nb93 : ((93 : UInt8).toNat : Int) = 93 := rfl
theorem Index_93 (s : ByteArray) (r : Int) (hr : Lib.indexByte s.data.toList 93 = r) (w : World) :
    Calls Tryd.prog 40 #[.string s, .int .u8 93] w fun x w' => x = .returned (.int .i64 r) ∧ w' = w := Index_any s 93 r hr 93 nb93 w
theorem closing_short (p : ByteArray) (first : Nat) (h : ((first : Int) + 1 > p.size)) (hf : first ≤ 200000000) (w : World) :
    Calls Tryd.prog 57 #[.string p, .int .i64 first] w fun e w' => e = .returned (.int .i64 (-1)) ∧ w' = w := by
  go_enter Tryd.func57, Tryd.ntmps57
  go_wp2
  (try simp only [Exit.inBlock, Exit.then]); refine bodyPost_ret (by simp [results, Tryd.results57, go_sem, *]; try rfl) rfl ?_
  exact ⟨rfl, rfl⟩
theorem closing_walk (p : ByteArray) (first : Nat) (h : ¬ ((first : Int) + 1 > p.size)) (hp : p.size ≤ 100000000) (u : ByteArray) (hu : p.extract (min ((first : Int) + 1) p.size).toNat p.size = u) (r : Int) (hr : Lib.indexByte u.data.toList 93 = r) (hr0 : r < 0) (w : World) :
    Calls Tryd.prog 57 #[.string p, .int .i64 first] w fun e w' => e = .returned (.int .i64 (-1)) ∧ w' = w := by
  go_enter Tryd.func57, Tryd.ntmps57
  go_wp2_with (first | ((with_reducible refine kn_list_set ?_); (try clear hF); clear hL; intro W hL; (try simp only [List.setIfInBounds_toArray, List.set_cons_zero, List.set_cons_succ, List.cons_append, List.nil_append] at hL); have hF := hL.facts; (try simp only [Facts, Dist, List.map_cons, List.map_nil, List.forall_mem_cons, false_implies, ne_eq, not_false_eq_true, List.not_mem_nil, not_false_eq_true, true_implies, forall_const, List.mem_cons, or_false, implies_true, and_true, true_and, Nat.le_refl, List.setIfInBounds_toArray, List.set_cons_zero, List.set_cons_succ] at hF)) | (go_at_call 40; (with_reducible refine (Index_93 u r hr _).mono ?_); rintro e w' ⟨rfl, rfl⟩))
  (try simp only [Exit.inBlock, Exit.then]); refine bodyPost_ret (by simp [results, Tryd.results57, go_sem, *]; try rfl) rfl ?_
  exact ⟨rfl, rfl⟩
theorem closing_hit (p : ByteArray) (first : Nat) (h : ¬ ((first : Int) + 1 > p.size)) (hp : p.size ≤ 100000000) (u : ByteArray) (hu : p.extract (min ((first : Int) + 1) p.size).toNat p.size = u) (n : Nat) (hr : Lib.indexByte u.data.toList 93 = (n : Int)) (hn : n ≤ 100000000) (w : World) :
    Calls Tryd.prog 57 #[.string p, .int .i64 first] w fun e w' => e = .returned (.int .i64 ((first + 1 + n : Nat) : Int)) ∧ w' = w := by
  go_enter Tryd.func57, Tryd.ntmps57
  go_wp2_with (first | ((with_reducible refine kn_list_set ?_); (try clear hF); clear hL; intro W hL; (try simp only [List.setIfInBounds_toArray, List.set_cons_zero, List.set_cons_succ, List.cons_append, List.nil_append] at hL); have hF := hL.facts; (try simp only [Facts, Dist, List.map_cons, List.map_nil, List.forall_mem_cons, false_implies, ne_eq, not_false_eq_true, List.not_mem_nil, not_false_eq_true, true_implies, forall_const, List.mem_cons, or_false, implies_true, and_true, true_and, Nat.le_refl, List.setIfInBounds_toArray, List.set_cons_zero, List.set_cons_succ] at hF)) | (go_at_call 40; (with_reducible refine (Index_93 u n hr _).mono ?_); rintro e w' ⟨rfl, rfl⟩))
  (try simp only [Exit.inBlock, Exit.then]); refine bodyPost_ret (by simp [results, Tryd.results57, go_sem, *]; try rfl) rfl ?_
  exact ⟨by simp, rfl⟩
/-- Where the class that begins here ends: behind its set. -/
theorem closing_is (p : ByteArray) (first : Nat) (hp : p.size ≤ 100000000) (hf : first ≤ 100000002) (w : World) :
    Calls Tryd.prog 57 #[.string p, .int .i64 first] w fun e w' => e = .returned (.int .i64 (match setOf (p.data.toList.drop first) with | some (a, _) => (first : Int) + a.length | none => -1)) ∧ w' = w := by
  have hpl := szl p
  by_cases h : ((first : Int) + 1 > p.size)
  · have e : setOf (p.data.toList.drop first) = none := by unfold setOf; rw [if_pos (List.drop_eq_nil_of_le (by omega))]
    rw [e]
    exact closing_short p first h (by omega) w
  · have hne : p.data.toList.drop first ≠ [] := fun e => by
      have := congrArg List.length e
      rw [List.length_drop] at this
      simp only [List.length_nil] at this; omega
    obtain ⟨u, hu⟩ : ∃ u, p.extract (min ((first : Int) + 1) p.size).toNat p.size = u := ⟨_, rfl⟩
    have hul : u.data.toList = (p.data.toList.drop first).drop 1 := by
      rw [← hu, ext_list, List.take_of_length_le (by omega), List.drop_drop]
      congr 1; omega
    have hlt := index_lt ((p.data.toList.drop first).drop 1) 93
    rw [List.length_drop, List.length_drop] at hlt
    by_cases hi : Lib.indexByte ((p.data.toList.drop first).drop 1) 93 < 0
    · have e : setOf (p.data.toList.drop first) = none := by unfold setOf; rw [if_neg hne, if_pos hi]
      rw [e]
      exact closing_walk p first h hp u hu _ (by rw [hul]) hi w
    · obtain ⟨n, hn⟩ := Int.eq_ofNat_of_zero_le (show 0 ≤ Lib.indexByte ((p.data.toList.drop first).drop 1) 93 by omega)
      have e : setOf (p.data.toList.drop first) = some ((p.data.toList.drop first).take (n + 1), (p.data.toList.drop first).drop (n + 2)) := by
        unfold setOf; rw [if_neg hne, if_neg hi, hn]; rfl
      rw [e]
      rw [hn] at hlt
      refine (closing_hit p first h hp u hu n (by rw [hul]; exact hn) (by omega) w).mono ?_
      rintro x w' ⟨rfl, h2⟩
      refine ⟨?_, h2⟩
      congr 2
      simp only [List.length_take, List.length_drop]
      omega

end Go.Proofs.YtjkohbecmaegmaaDoor

namespace Go.Proofs.YtjkohbecmaegmaaDoor
open Go Go.RowKit
set_option linter.unusedSimpArgs false
set_option linter.unusedVariables false

set_option maxRecDepth 20000 in
theorem class_a (p : ByteArray) (i : Nat) (hp : p.size ≤ 100000000) (hi : i ≤ 100000000) (hlt : (i : Int) + 1 < p.size) (hb : ∀ h, p[i + 1]'h = 33) (n : Nat) (he : 0 < n) (he1 : (i : Int) + 1 + 1 ≤ n) (he2 : (n : Int) ≤ p.size) (C2 : Hid (∀ W, Calls Tryd.prog 57 #[.string p, .int .i64 ((i : Int) + 1 + 1)] W fun e w' => e = .returned (.int .i64 n) ∧ w' = W)) (a : ByteArray) (ha : p.extract (i + 1 + 1) n = a) (w : World) :
    Calls Tryd.prog 44 #[.string p, .int .i64 i] w fun e w' => e = .returned (.tuple #[.int .i64 n, .bool true, .string a, .bool true]) ∧ Below w.heap.size w w' := by
  have hL : Kn [] w w [] := Kn.refl [] w; (try simp only [List.setIfInBounds_toArray, List.set_cons_zero, List.set_cons_succ, List.cons_append, List.nil_append] at hL); have hF := hL.facts; (try simp only [Facts, Dist, List.map_cons, List.map_nil, List.forall_mem_cons, false_implies, ne_eq, not_false_eq_true, List.not_mem_nil, not_false_eq_true, true_implies, forall_const, List.mem_cons, or_false, implies_true, and_true, true_and, Nat.le_refl, List.setIfInBounds_toArray, List.set_cons_zero, List.set_cons_succ] at hF); go_enter Tryd.func44, Tryd.ntmps44
  go_wp2_with (first | ((with_reducible refine kn_list_set ?_); (try clear hF); clear hL; intro W hL; (try simp only [List.setIfInBounds_toArray, List.set_cons_zero, List.set_cons_succ, List.cons_append, List.nil_append] at hL); have hF := hL.facts; (try simp only [Facts, Dist, List.map_cons, List.map_nil, List.forall_mem_cons, false_implies, ne_eq, not_false_eq_true, List.not_mem_nil, not_false_eq_true, true_implies, forall_const, List.mem_cons, or_false, implies_true, and_true, true_and, Nat.le_refl, List.setIfInBounds_toArray, List.set_cons_zero, List.set_cons_succ] at hF)) | (go_at_call 57; (first | (with_reducible refine (C2.out _).mono ?_)); rintro e w' ⟨rfl, rfl⟩) | ((with_reducible refine at_region 5 ?_); refine kn_wp ?_; (try clear hF); clear hL; intro W hL; (try simp only [List.setIfInBounds_toArray, List.set_cons_zero, List.set_cons_succ, List.cons_append, List.nil_append] at hL); have hF := hL.facts; (try simp only [Facts, Dist, List.map_cons, List.map_nil, List.forall_mem_cons, false_implies, ne_eq, not_false_eq_true, List.not_mem_nil, not_false_eq_true, true_implies, forall_const, List.mem_cons, or_false, implies_true, and_true, true_and, Nat.le_refl, List.setIfInBounds_toArray, List.set_cons_zero, List.set_cons_succ] at hF); refine kn_region [0, 1, 2, 3, 4, 5, 6, 7, 8, 9] [0, 1, 2, 3, 4, 5, 6, 7, 8, 9] [] [0, 1, 2, 3, 4, 5, 6, 7, 8, 9] (by kernel_rfl) (by kernel_rfl) (List.Sublist.refl _) ?_; (try clear hF); clear hL; intro ι F hne hC hFF; have hG := fun n => (hFF n).facts; clear hFF; (try simp only [Facts, Dist, List.map_cons, List.map_nil, List.forall_mem_cons, false_implies, ne_eq, not_false_eq_true, List.not_mem_nil, not_false_eq_true, true_implies, forall_const, List.mem_cons, or_false, implies_true, and_true, true_and, Nat.le_refl, List.setIfInBounds_toArray, List.set_cons_zero, List.set_cons_succ] at hG); (repeat (first | (refine cwk_skip rfl (by rfl) ?_; (try simp only [Act.put, List.setIfInBounds_toArray, List.set_cons_zero, List.set_cons_succ])) | (refine cwk_float rfl rfl (by rfl) (by rfl) (by rfl) hC ?_; intro K hK; go_big_quiet_op; go_big_quiet_on) | (refine cwk_pure rfl rfl (by rfl) (by rfl) ?_; intro K hK; go_big_quiet_op; go_big_quiet_on) | (refine cwk_anch rfl rfl (by rfl) (by rfl) ?_; intro W hL; (try simp only [List.setIfInBounds_toArray, List.set_cons_zero, List.set_cons_succ, List.cons_append, List.nil_append] at hL); have hF := hL.facts; (try simp only [Facts, Dist, List.map_cons, List.map_nil, List.forall_mem_cons, false_implies, ne_eq, not_false_eq_true, List.not_mem_nil, not_false_eq_true, true_implies, forall_const, List.mem_cons, or_false, implies_true, and_true, true_and, Nat.le_refl, List.setIfInBounds_toArray, List.set_cons_zero, List.set_cons_succ] at hF); go_wp2; refine anchQ_normal ?_; (first | (refine owedB _ (by rfl) ?_; clear hL; (try clear hF); clear hC hG; intro ι F hne hC hFF; have hG := fun n => (hFF n).facts; clear hFF; (try simp only [Facts, Dist, List.map_cons, List.map_nil, List.forall_mem_cons, false_implies, ne_eq, not_false_eq_true, List.not_mem_nil, not_false_eq_true, true_implies, forall_const, List.mem_cons, or_false, implies_true, and_true, true_and, Nat.le_refl, List.setIfInBounds_toArray, List.set_cons_zero, List.set_cons_succ] at hG)) | (refine owed0 _ (by repeat' (first | (with_reducible exact List.Sublist.refl _) | (with_reducible apply List.Sublist.cons_cons) | (with_reducible apply List.Sublist.cons))) ?_; clear hL; (try clear hF)))))); refine cwk_nil ?_; clear hC hG; intro W hL; (try simp only [List.setIfInBounds_toArray, List.set_cons_zero, List.set_cons_succ, List.cons_append, List.nil_append] at hL); have hF := hL.facts; (try simp only [Facts, Dist, List.map_cons, List.map_nil, List.forall_mem_cons, false_implies, ne_eq, not_false_eq_true, List.not_mem_nil, not_false_eq_true, true_implies, forall_const, List.mem_cons, or_false, implies_true, and_true, true_and, Nat.le_refl, List.setIfInBounds_toArray, List.set_cons_zero, List.set_cons_succ] at hF)))
  (try simp only [Exit.inBlock, Exit.then]); refine bodyPost_ret (by simp [results, Tryd.results44, go_sem, *]; try rfl) rfl ?_
  exact ⟨rfl, kn_here.below0⟩

set_option maxRecDepth 20000 in
theorem class_b (p : ByteArray) (i : Nat) (hp : p.size ≤ 100000000) (hi : i ≤ 100000000) (hlt : (i : Int) + 1 < p.size) (hb : ∀ h, p[i + 1]'h = 33) (C2 : Hid (∀ W, Calls Tryd.prog 57 #[.string p, .int .i64 ((i : Int) + 1 + 1)] W fun e w' => e = .returned (.int .i64 (-1)) ∧ w' = W)) (n : Nat) (he : 0 < n) (he1 : (i : Int) + 1 ≤ n) (he2 : (n : Int) ≤ p.size) (C1 : Hid (∀ W, Calls Tryd.prog 57 #[.string p, .int .i64 ((i : Int) + 1)] W fun e w' => e = .returned (.int .i64 n) ∧ w' = W)) (a : ByteArray) (ha : p.extract (i + 1) n = a) (w : World) :
    Calls Tryd.prog 44 #[.string p, .int .i64 i] w fun e w' => e = .returned (.tuple #[.int .i64 n, .bool false, .string a, .bool true]) ∧ Below w.heap.size w w' := by
  have hL : Kn [] w w [] := Kn.refl [] w; (try simp only [List.setIfInBounds_toArray, List.set_cons_zero, List.set_cons_succ, List.cons_append, List.nil_append] at hL); have hF := hL.facts; (try simp only [Facts, Dist, List.map_cons, List.map_nil, List.forall_mem_cons, false_implies, ne_eq, not_false_eq_true, List.not_mem_nil, not_false_eq_true, true_implies, forall_const, List.mem_cons, or_false, implies_true, and_true, true_and, Nat.le_refl, List.setIfInBounds_toArray, List.set_cons_zero, List.set_cons_succ] at hF); go_enter Tryd.func44, Tryd.ntmps44
  go_wp2_with (first | ((with_reducible refine kn_list_set ?_); (try clear hF); clear hL; intro W hL; (try simp only [List.setIfInBounds_toArray, List.set_cons_zero, List.set_cons_succ, List.cons_append, List.nil_append] at hL); have hF := hL.facts; (try simp only [Facts, Dist, List.map_cons, List.map_nil, List.forall_mem_cons, false_implies, ne_eq, not_false_eq_true, List.not_mem_nil, not_false_eq_true, true_implies, forall_const, List.mem_cons, or_false, implies_true, and_true, true_and, Nat.le_refl, List.setIfInBounds_toArray, List.set_cons_zero, List.set_cons_succ] at hF)) | (go_at_call 57; (first | (with_reducible refine (C2.out _).mono ?_) | (with_reducible refine (C1.out _).mono ?_)); rintro e w' ⟨rfl, rfl⟩) | ((with_reducible refine at_region 9 ?_); refine kn_wp ?_; (try clear hF); clear hL; intro W hL; (try simp only [List.setIfInBounds_toArray, List.set_cons_zero, List.set_cons_succ, List.cons_append, List.nil_append] at hL); have hF := hL.facts; (try simp only [Facts, Dist, List.map_cons, List.map_nil, List.forall_mem_cons, false_implies, ne_eq, not_false_eq_true, List.not_mem_nil, not_false_eq_true, true_implies, forall_const, List.mem_cons, or_false, implies_true, and_true, true_and, Nat.le_refl, List.setIfInBounds_toArray, List.set_cons_zero, List.set_cons_succ] at hF); refine kn_region [0, 1, 2, 3, 4, 5, 6, 7, 8] [0, 1, 2, 3, 4, 5, 6, 7, 8] [] [0, 1, 2, 3, 4, 5, 6, 7, 8] (by kernel_rfl) (by kernel_rfl) (List.Sublist.refl _) ?_; (try clear hF); clear hL; intro ι F hne hC hFF; have hG := fun n => (hFF n).facts; clear hFF; (try simp only [Facts, Dist, List.map_cons, List.map_nil, List.forall_mem_cons, false_implies, ne_eq, not_false_eq_true, List.not_mem_nil, not_false_eq_true, true_implies, forall_const, List.mem_cons, or_false, implies_true, and_true, true_and, Nat.le_refl, List.setIfInBounds_toArray, List.set_cons_zero, List.set_cons_succ] at hG); (repeat (first | (refine cwk_skip rfl (by rfl) ?_; (try simp only [Act.put, List.setIfInBounds_toArray, List.set_cons_zero, List.set_cons_succ])) | (refine cwk_float rfl rfl (by rfl) (by rfl) (by rfl) hC ?_; intro K hK; go_big_quiet_op; go_big_quiet_on) | (refine cwk_pure rfl rfl (by rfl) (by rfl) ?_; intro K hK; go_big_quiet_op; go_big_quiet_on) | (refine cwk_anch rfl rfl (by rfl) (by rfl) ?_; intro W hL; (try simp only [List.setIfInBounds_toArray, List.set_cons_zero, List.set_cons_succ, List.cons_append, List.nil_append] at hL); have hF := hL.facts; (try simp only [Facts, Dist, List.map_cons, List.map_nil, List.forall_mem_cons, false_implies, ne_eq, not_false_eq_true, List.not_mem_nil, not_false_eq_true, true_implies, forall_const, List.mem_cons, or_false, implies_true, and_true, true_and, Nat.le_refl, List.setIfInBounds_toArray, List.set_cons_zero, List.set_cons_succ] at hF); go_wp2; refine anchQ_normal ?_; (first | (refine owedB _ (by rfl) ?_; clear hL; (try clear hF); clear hC hG; intro ι F hne hC hFF; have hG := fun n => (hFF n).facts; clear hFF; (try simp only [Facts, Dist, List.map_cons, List.map_nil, List.forall_mem_cons, false_implies, ne_eq, not_false_eq_true, List.not_mem_nil, not_false_eq_true, true_implies, forall_const, List.mem_cons, or_false, implies_true, and_true, true_and, Nat.le_refl, List.setIfInBounds_toArray, List.set_cons_zero, List.set_cons_succ] at hG)) | (refine owed0 _ (by repeat' (first | (with_reducible exact List.Sublist.refl _) | (with_reducible apply List.Sublist.cons_cons) | (with_reducible apply List.Sublist.cons))) ?_; clear hL; (try clear hF)))))); refine cwk_nil ?_; clear hC hG; intro W hL; (try simp only [List.setIfInBounds_toArray, List.set_cons_zero, List.set_cons_succ, List.cons_append, List.nil_append] at hL); have hF := hL.facts; (try simp only [Facts, Dist, List.map_cons, List.map_nil, List.forall_mem_cons, false_implies, ne_eq, not_false_eq_true, List.not_mem_nil, not_false_eq_true, true_implies, forall_const, List.mem_cons, or_false, implies_true, and_true, true_and, Nat.le_refl, List.setIfInBounds_toArray, List.set_cons_zero, List.set_cons_succ] at hF)))
  (try simp only [Exit.inBlock, Exit.then]); refine bodyPost_ret (by simp [results, Tryd.results44, go_sem, *]; try rfl) rfl ?_
  exact ⟨rfl, kn_here.below0⟩

set_option maxRecDepth 20000 in
theorem class_c (p : ByteArray) (i : Nat) (hp : p.size ≤ 100000000) (hi : i ≤ 100000000) (hlt : (i : Int) + 1 < p.size) (hb : ∀ h, p[i + 1]'h = 33) (C2 : Hid (∀ W, Calls Tryd.prog 57 #[.string p, .int .i64 ((i : Int) + 1 + 1)] W fun e w' => e = .returned (.int .i64 (-1)) ∧ w' = W)) (C1 : Hid (∀ W, Calls Tryd.prog 57 #[.string p, .int .i64 ((i : Int) + 1)] W fun e w' => e = .returned (.int .i64 (-1)) ∧ w' = W)) (w : World) :
    Calls Tryd.prog 44 #[.string p, .int .i64 i] w fun e w' => e = .returned (.tuple #[.int .i64 0, .bool false, .string ⟨#[]⟩, .bool false]) ∧ Below w.heap.size w w' := by
  have hL : Kn [] w w [] := Kn.refl [] w; (try simp only [List.setIfInBounds_toArray, List.set_cons_zero, List.set_cons_succ, List.cons_append, List.nil_append] at hL); have hF := hL.facts; (try simp only [Facts, Dist, List.map_cons, List.map_nil, List.forall_mem_cons, false_implies, ne_eq, not_false_eq_true, List.not_mem_nil, not_false_eq_true, true_implies, forall_const, List.mem_cons, or_false, implies_true, and_true, true_and, Nat.le_refl, List.setIfInBounds_toArray, List.set_cons_zero, List.set_cons_succ] at hF); go_enter Tryd.func44, Tryd.ntmps44
  go_wp2_with (first | ((with_reducible refine kn_list_set ?_); (try clear hF); clear hL; intro W hL; (try simp only [List.setIfInBounds_toArray, List.set_cons_zero, List.set_cons_succ, List.cons_append, List.nil_append] at hL); have hF := hL.facts; (try simp only [Facts, Dist, List.map_cons, List.map_nil, List.forall_mem_cons, false_implies, ne_eq, not_false_eq_true, List.not_mem_nil, not_false_eq_true, true_implies, forall_const, List.mem_cons, or_false, implies_true, and_true, true_and, Nat.le_refl, List.setIfInBounds_toArray, List.set_cons_zero, List.set_cons_succ] at hF)) | (go_at_call 57; (first | (with_reducible refine (C2.out _).mono ?_) | (with_reducible refine (C1.out _).mono ?_)); rintro e w' ⟨rfl, rfl⟩))
  (try simp only [Exit.inBlock, Exit.then]); refine bodyPost_ret (by simp [results, Tryd.results44, go_sem, *]; try rfl) rfl ?_
  exact ⟨rfl, kn_here.below0⟩

set_option maxRecDepth 20000 in
theorem class_d (p : ByteArray) (i : Nat) (hp : p.size ≤ 100000000) (hi : i ≤ 100000000) (hlt : (i : Int) + 1 < p.size) (c : UInt8) (hb : ∀ h, p[i + 1]'h = c) (hc : ((c.toNat : Int) == 33) = false) (n : Nat) (he : 0 < n) (he1 : (i : Int) + 1 ≤ n) (he2 : (n : Int) ≤ p.size) (C1 : Hid (∀ W, Calls Tryd.prog 57 #[.string p, .int .i64 ((i : Int) + 1)] W fun e w' => e = .returned (.int .i64 n) ∧ w' = W)) (a : ByteArray) (ha : p.extract (i + 1) n = a) (w : World) :
    Calls Tryd.prog 44 #[.string p, .int .i64 i] w fun e w' => e = .returned (.tuple #[.int .i64 n, .bool false, .string a, .bool true]) ∧ Below w.heap.size w w' := by
  have hL : Kn [] w w [] := Kn.refl [] w; (try simp only [List.setIfInBounds_toArray, List.set_cons_zero, List.set_cons_succ, List.cons_append, List.nil_append] at hL); have hF := hL.facts; (try simp only [Facts, Dist, List.map_cons, List.map_nil, List.forall_mem_cons, false_implies, ne_eq, not_false_eq_true, List.not_mem_nil, not_false_eq_true, true_implies, forall_const, List.mem_cons, or_false, implies_true, and_true, true_and, Nat.le_refl, List.setIfInBounds_toArray, List.set_cons_zero, List.set_cons_succ] at hF); go_enter Tryd.func44, Tryd.ntmps44
  go_wp2_with (first | ((with_reducible refine kn_list_set ?_); (try clear hF); clear hL; intro W hL; (try simp only [List.setIfInBounds_toArray, List.set_cons_zero, List.set_cons_succ, List.cons_append, List.nil_append] at hL); have hF := hL.facts; (try simp only [Facts, Dist, List.map_cons, List.map_nil, List.forall_mem_cons, false_implies, ne_eq, not_false_eq_true, List.not_mem_nil, not_false_eq_true, true_implies, forall_const, List.mem_cons, or_false, implies_true, and_true, true_and, Nat.le_refl, List.setIfInBounds_toArray, List.set_cons_zero, List.set_cons_succ] at hF)) | (go_at_call 57; (first | (with_reducible refine (C1.out _).mono ?_)); rintro e w' ⟨rfl, rfl⟩) | ((with_reducible refine at_region 9 ?_); refine kn_wp ?_; (try clear hF); clear hL; intro W hL; (try simp only [List.setIfInBounds_toArray, List.set_cons_zero, List.set_cons_succ, List.cons_append, List.nil_append] at hL); have hF := hL.facts; (try simp only [Facts, Dist, List.map_cons, List.map_nil, List.forall_mem_cons, false_implies, ne_eq, not_false_eq_true, List.not_mem_nil, not_false_eq_true, true_implies, forall_const, List.mem_cons, or_false, implies_true, and_true, true_and, Nat.le_refl, List.setIfInBounds_toArray, List.set_cons_zero, List.set_cons_succ] at hF); refine kn_region [0, 1, 2, 3, 4, 5, 6, 7, 8] [0, 1, 2, 3, 4, 5, 6, 7, 8] [] [0, 1, 2, 3, 4, 5, 6, 7, 8] (by kernel_rfl) (by kernel_rfl) (List.Sublist.refl _) ?_; (try clear hF); clear hL; intro ι F hne hC hFF; have hG := fun n => (hFF n).facts; clear hFF; (try simp only [Facts, Dist, List.map_cons, List.map_nil, List.forall_mem_cons, false_implies, ne_eq, not_false_eq_true, List.not_mem_nil, not_false_eq_true, true_implies, forall_const, List.mem_cons, or_false, implies_true, and_true, true_and, Nat.le_refl, List.setIfInBounds_toArray, List.set_cons_zero, List.set_cons_succ] at hG); (repeat (first | (refine cwk_skip rfl (by rfl) ?_; (try simp only [Act.put, List.setIfInBounds_toArray, List.set_cons_zero, List.set_cons_succ])) | (refine cwk_float rfl rfl (by rfl) (by rfl) (by rfl) hC ?_; intro K hK; go_big_quiet_op; go_big_quiet_on) | (refine cwk_pure rfl rfl (by rfl) (by rfl) ?_; intro K hK; go_big_quiet_op; go_big_quiet_on) | (refine cwk_anch rfl rfl (by rfl) (by rfl) ?_; intro W hL; (try simp only [List.setIfInBounds_toArray, List.set_cons_zero, List.set_cons_succ, List.cons_append, List.nil_append] at hL); have hF := hL.facts; (try simp only [Facts, Dist, List.map_cons, List.map_nil, List.forall_mem_cons, false_implies, ne_eq, not_false_eq_true, List.not_mem_nil, not_false_eq_true, true_implies, forall_const, List.mem_cons, or_false, implies_true, and_true, true_and, Nat.le_refl, List.setIfInBounds_toArray, List.set_cons_zero, List.set_cons_succ] at hF); go_wp2; refine anchQ_normal ?_; (first | (refine owedB _ (by rfl) ?_; clear hL; (try clear hF); clear hC hG; intro ι F hne hC hFF; have hG := fun n => (hFF n).facts; clear hFF; (try simp only [Facts, Dist, List.map_cons, List.map_nil, List.forall_mem_cons, false_implies, ne_eq, not_false_eq_true, List.not_mem_nil, not_false_eq_true, true_implies, forall_const, List.mem_cons, or_false, implies_true, and_true, true_and, Nat.le_refl, List.setIfInBounds_toArray, List.set_cons_zero, List.set_cons_succ] at hG)) | (refine owed0 _ (by repeat' (first | (with_reducible exact List.Sublist.refl _) | (with_reducible apply List.Sublist.cons_cons) | (with_reducible apply List.Sublist.cons))) ?_; clear hL; (try clear hF)))))); refine cwk_nil ?_; clear hC hG; intro W hL; (try simp only [List.setIfInBounds_toArray, List.set_cons_zero, List.set_cons_succ, List.cons_append, List.nil_append] at hL); have hF := hL.facts; (try simp only [Facts, Dist, List.map_cons, List.map_nil, List.forall_mem_cons, false_implies, ne_eq, not_false_eq_true, List.not_mem_nil, not_false_eq_true, true_implies, forall_const, List.mem_cons, or_false, implies_true, and_true, true_and, Nat.le_refl, List.setIfInBounds_toArray, List.set_cons_zero, List.set_cons_succ] at hF)))
  (try simp only [Exit.inBlock, Exit.then]); refine bodyPost_ret (by simp [results, Tryd.results44, go_sem, *]; try rfl) rfl ?_
  exact ⟨rfl, kn_here.below0⟩

set_option maxRecDepth 20000 in
theorem class_e (p : ByteArray) (i : Nat) (hp : p.size ≤ 100000000) (hi : i ≤ 100000000) (hlt : (i : Int) + 1 < p.size) (c : UInt8) (hb : ∀ h, p[i + 1]'h = c) (hc : ((c.toNat : Int) == 33) = false) (C1 : Hid (∀ W, Calls Tryd.prog 57 #[.string p, .int .i64 ((i : Int) + 1)] W fun e w' => e = .returned (.int .i64 (-1)) ∧ w' = W)) (w : World) :
    Calls Tryd.prog 44 #[.string p, .int .i64 i] w fun e w' => e = .returned (.tuple #[.int .i64 0, .bool false, .string ⟨#[]⟩, .bool false]) ∧ Below w.heap.size w w' := by
  have hL : Kn [] w w [] := Kn.refl [] w; (try simp only [List.setIfInBounds_toArray, List.set_cons_zero, List.set_cons_succ, List.cons_append, List.nil_append] at hL); have hF := hL.facts; (try simp only [Facts, Dist, List.map_cons, List.map_nil, List.forall_mem_cons, false_implies, ne_eq, not_false_eq_true, List.not_mem_nil, not_false_eq_true, true_implies, forall_const, List.mem_cons, or_false, implies_true, and_true, true_and, Nat.le_refl, List.setIfInBounds_toArray, List.set_cons_zero, List.set_cons_succ] at hF); go_enter Tryd.func44, Tryd.ntmps44
  go_wp2_with (first | ((with_reducible refine kn_list_set ?_); (try clear hF); clear hL; intro W hL; (try simp only [List.setIfInBounds_toArray, List.set_cons_zero, List.set_cons_succ, List.cons_append, List.nil_append] at hL); have hF := hL.facts; (try simp only [Facts, Dist, List.map_cons, List.map_nil, List.forall_mem_cons, false_implies, ne_eq, not_false_eq_true, List.not_mem_nil, not_false_eq_true, true_implies, forall_const, List.mem_cons, or_false, implies_true, and_true, true_and, Nat.le_refl, List.setIfInBounds_toArray, List.set_cons_zero, List.set_cons_succ] at hF)) | (go_at_call 57; (first | (with_reducible refine (C1.out _).mono ?_)); rintro e w' ⟨rfl, rfl⟩))
  (try simp only [Exit.inBlock, Exit.then]); refine bodyPost_ret (by simp [results, Tryd.results44, go_sem, *]; try rfl) rfl ?_
  exact ⟨rfl, kn_here.below0⟩

set_option maxRecDepth 20000 in
theorem class_f (p : ByteArray) (i : Nat) (hp : p.size ≤ 100000000) (hi : i ≤ 100000000) (hlt : ¬ (i : Int) + 1 < p.size) (C1 : Hid (∀ W, Calls Tryd.prog 57 #[.string p, .int .i64 ((i : Int) + 1)] W fun e w' => e = .returned (.int .i64 (-1)) ∧ w' = W)) (w : World) :
    Calls Tryd.prog 44 #[.string p, .int .i64 i] w fun e w' => e = .returned (.tuple #[.int .i64 0, .bool false, .string ⟨#[]⟩, .bool false]) ∧ Below w.heap.size w w' := by
  have hL : Kn [] w w [] := Kn.refl [] w; (try simp only [List.setIfInBounds_toArray, List.set_cons_zero, List.set_cons_succ, List.cons_append, List.nil_append] at hL); have hF := hL.facts; (try simp only [Facts, Dist, List.map_cons, List.map_nil, List.forall_mem_cons, false_implies, ne_eq, not_false_eq_true, List.not_mem_nil, not_false_eq_true, true_implies, forall_const, List.mem_cons, or_false, implies_true, and_true, true_and, Nat.le_refl, List.setIfInBounds_toArray, List.set_cons_zero, List.set_cons_succ] at hF); go_enter Tryd.func44, Tryd.ntmps44
  go_wp2_with (first | ((with_reducible refine kn_list_set ?_); (try clear hF); clear hL; intro W hL; (try simp only [List.setIfInBounds_toArray, List.set_cons_zero, List.set_cons_succ, List.cons_append, List.nil_append] at hL); have hF := hL.facts; (try simp only [Facts, Dist, List.map_cons, List.map_nil, List.forall_mem_cons, false_implies, ne_eq, not_false_eq_true, List.not_mem_nil, not_false_eq_true, true_implies, forall_const, List.mem_cons, or_false, implies_true, and_true, true_and, Nat.le_refl, List.setIfInBounds_toArray, List.set_cons_zero, List.set_cons_succ] at hF)) | (go_at_call 57; (first | (with_reducible refine (C1.out _).mono ?_)); rintro e w' ⟨rfl, rfl⟩))
  (try simp only [Exit.inBlock, Exit.then]); refine bodyPost_ret (by simp [results, Tryd.results44, go_sem, *]; try rfl) rfl ?_
  exact ⟨rfl, kn_here.below0⟩

end Go.Proofs.YtjkohbecmaegmaaDoor

namespace Go.Proofs.YtjkohbecmaegmaaDoor
open Go Go.RowKit
set_option linter.unusedSimpArgs false
set_option linter.unusedVariables false

theorem closing_c (p : ByteArray) (first : Nat) (hp : p.size ≤ 100000000) (hf : first ≤ 100000002) (n : Int) (hn : (first : Int) = n) (v : Int) (hv : (match setOf (p.data.toList.drop first) with | some (a, _) => (first : Int) + a.length | none => -1) = v) (w : World) :
    Calls Tryd.prog 57 #[.string p, .int .i64 n] w fun e w' => e = .returned (.int .i64 v) ∧ w' = w := by
  subst hn; subst hv; exact closing_is p first hp hf w
/-- What 'class' says of a place: the end, whether it is turned, the set. -/
def classV (i : Nat) : Option (Bool × Bytes × Bytes) → Array Value
  | some (n, a, _) => #[.int .i64 ((i : Int) + 1 + (if n then 1 else 0) + a.length), .bool n, .string ⟨a.toArray⟩, .bool true]
  | none => #[.int .i64 0, .bool false, .string ⟨#[]⟩, .bool false]
theorem class_is (p : ByteArray) (i : Nat) (hp : p.size ≤ 100000000) (hi : i ≤ 100000000) (w : World) :
    Calls Tryd.prog 44 #[.string p, .int .i64 i] w fun e w' => e = .returned (.tuple (classV i (classR (p.data.toList.drop (i + 1))))) ∧ Below w.heap.size w w' := by
  have hpl := szl p
  have sub : ∀ (k : Nat) (a b : Bytes), setOf (p.data.toList.drop k) = some (a, b) → (⟨a.toArray⟩ : ByteArray) = p.extract k (k + a.length) ∧ k + a.length + 1 ≤ p.size := fun k a b h => by
    obtain ⟨h1, _, h3, h4⟩ := setOf_cut h
    rw [List.length_drop] at h4
    refine ⟨ba_ext ?_, by omega⟩
    rw [ext_list]
    conv => lhs; rw [h1]
    simp only
    rw [List.take_drop]
  have c1 : ∀ v : Int, (match setOf (p.data.toList.drop (i + 1)) with | some (a, _) => ((i + 1 : Nat) : Int) + a.length | none => -1) = v → Hid (∀ W, Calls Tryd.prog 57 #[.string p, .int .i64 ((i : Int) + 1)] W fun e w' => e = .returned (.int .i64 v) ∧ w' = W) := fun v hv =>
    Lib.hid fun W => closing_c p (i + 1) hp (by omega) _ (by simp) v hv W
  have c2 : ∀ v : Int, (match setOf (p.data.toList.drop (i + 2)) with | some (a, _) => ((i + 2 : Nat) : Int) + a.length | none => -1) = v → Hid (∀ W, Calls Tryd.prog 57 #[.string p, .int .i64 ((i : Int) + 1 + 1)] W fun e w' => e = .returned (.int .i64 v) ∧ w' = W) := fun v hv =>
    Lib.hid fun W => closing_c p (i + 2) hp (by omega) _ (by simp; omega) v hv W
  by_cases hlt : i + 1 < p.size
  · obtain ⟨c, hc⟩ : ∃ c, p.data.toList[i + 1]? = some c := ⟨_, List.getElem?_eq_getElem (by omega)⟩
    have hb : ∀ h, p[i + 1]'h = c := fun h => byte_at hc h
    have hh : (p.data.toList.drop (i + 1)).head? = some c := by rw [List.head?_drop]; exact hc
    by_cases h33 : c = 33
    · subst h33
      have hbang : bangOf (p.data.toList.drop (i + 1)) = setOf (p.data.toList.drop (i + 2)) := by
        unfold bangOf; rw [if_pos hh, List.drop_drop]
      cases h2 : setOf (p.data.toList.drop (i + 2)) with
      | some x =>
        obtain ⟨a, b⟩ := x
        obtain ⟨s1, s2⟩ := sub _ a b h2
        have e : classR (p.data.toList.drop (i + 1)) = some (true, a, b) := by unfold classR; rw [hbang, h2]
        rw [e]
        have := class_a p i hp hi (by omega) hb (i + 2 + a.length) (by omega) (by omega) (by omega) (c2 _ (by rw [h2]; simp)) _ rfl w
        rw [show i + 1 + 1 = i + 2 by omega, ← s1] at this
        refine this.mono ?_
        rintro x w' ⟨rfl, hbw⟩
        refine ⟨?_, hbw⟩
        simp only [classV, if_true]
        congr 4
      | none =>
        cases h1 : setOf (p.data.toList.drop (i + 1)) with
        | some x =>
          obtain ⟨a, b⟩ := x
          obtain ⟨s1, s2⟩ := sub _ a b h1
          have e : classR (p.data.toList.drop (i + 1)) = some (false, a, b) := by unfold classR; rw [hbang, h2]; simp only; rw [h1]; rfl
          rw [e]
          have := class_b p i hp hi (by omega) hb (c2 _ (by rw [h2])) (i + 1 + a.length) (by omega) (by omega) (by omega) (c1 _ (by rw [h1]; simp)) _ rfl w
          rw [← s1] at this
          refine this.mono ?_
          rintro x w' ⟨rfl, hbw⟩
          exact ⟨by simp [classV], hbw⟩
        | none =>
          have e : classR (p.data.toList.drop (i + 1)) = none := by unfold classR; rw [hbang, h2]; simp only; rw [h1]; rfl
          rw [e]
          exact class_c p i hp hi (by omega) hb (c2 _ (by rw [h2])) (c1 _ (by rw [h1])) w
    · have hcn : ((c.toNat : Int) == 33) = false := beq_false_of_ne fun h => h33 (UInt8.toNat_inj.1 (show c.toNat = 33 by omega))
      have hbang : bangOf (p.data.toList.drop (i + 1)) = none := by unfold bangOf; rw [hh, if_neg (by simpa using h33)]
      cases h1 : setOf (p.data.toList.drop (i + 1)) with
      | some x =>
        obtain ⟨a, b⟩ := x
        obtain ⟨s1, s2⟩ := sub _ a b h1
        have e : classR (p.data.toList.drop (i + 1)) = some (false, a, b) := by unfold classR; rw [hbang]; simp only; rw [h1]; rfl
        rw [e]
        have := class_d p i hp hi (by omega) c hb hcn (i + 1 + a.length) (by omega) (by omega) (by omega) (c1 _ (by rw [h1]; simp)) _ rfl w
        rw [← s1] at this
        refine this.mono ?_
        rintro x w' ⟨rfl, hbw⟩
        exact ⟨by simp [classV], hbw⟩
      | none =>
        have e : classR (p.data.toList.drop (i + 1)) = none := by unfold classR; rw [hbang]; simp only; rw [h1]; rfl
        rw [e]
        exact class_e p i hp hi (by omega) c hb hcn (c1 _ (by rw [h1])) w
  · have hn : p.data.toList.drop (i + 1) = [] := List.drop_eq_nil_of_le (by omega)
    have h1 : setOf (p.data.toList.drop (i + 1)) = none := by rw [hn]; rfl
    have e : classR (p.data.toList.drop (i + 1)) = none := by rw [hn]; rfl
    rw [e]
    exact class_f p i hp hi (by omega) (c1 _ (by rw [h1])) w

end Go.Proofs.YtjkohbecmaegmaaDoor

