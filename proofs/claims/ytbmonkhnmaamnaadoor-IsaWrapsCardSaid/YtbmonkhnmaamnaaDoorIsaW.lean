import Derived.Test.YtbmonkhnmaamnaaDoorProg
import Derived.WalkKit
import Derived.Handy
import Derived.Deep.Light
import Derived.WalkSmall
import Derived.StillTailTactics
import Derived.Lib.Hide
import Derived.Test.YtbmonkhnmaamnaaDoorReg
import Derived.Test.YtbmonkhnmaamnaaDoorIsa0
import Derived.Test.YtbmonkhnmaamnaaDoorIsaS
namespace Go.Proofs.YtbmonkhnmaamnaaDoor
open Go Go.RowKit
set_option linter.unusedSimpArgs false
set_option linter.unusedVariables false

theorem wrap_add (a b : Int) : wrap32 (wrap64 (a + b)) = wrap32 (wrap64 (wrap32 a + wrap32 b)) := by unfold wrap32 wrap64; omega
theorem wrap_sub (a b : Int) : wrap32 (wrap64 (a - b)) = wrap32 (wrap64 (wrap32 a - wrap32 b)) := by unfold wrap32 wrap64; omega
theorem wrap_mod (n : Int) : wrap32 (wrap64 n) = wrap32 n := by unfold wrap32 wrap64; omega
theorem wrap32_emod (n m : Int) (h : n % 4294967296 = m % 4294967296) : wrap32 n = wrap32 m := by unfold wrap32; omega
theorem wrap32_mod (n : Int) : wrap32 n % 4294967296 = n % 4294967296 := by unfold wrap32; omega
theorem wrap_mul (a b : Int) : wrap32 (wrap64 (a * b)) = wrap32 (wrap64 (wrap32 a * wrap32 b)) := by
  rw [wrap_mod, wrap_mod]
  apply wrap32_emod
  rw [Int.mul_emod a b, Int.mul_emod (wrap32 a), wrap32_mod, wrap32_mod]

set_option maxRecDepth 20000 in
set_option maxHeartbeats 4000000 in
theorem wraps_in (a b : Int) (w : World) (hT : Tab w) (hr : -2147483648 ≤ a ∧ a < 2147483648) :
    Calls Tryd.prog 5 #[.int .i64 a, .int .i64 b] w fun e w' => e = .returned (.bool true) ∧ Below w.heap.size w w' := by
  have hand := and32
  obtain ⟨x, hx⟩ : ∃ x, wrap32 a = x := ⟨_, rfl⟩
  obtain ⟨y, hy⟩ : ∃ x, wrap32 b = x := ⟨_, rfl⟩
  obtain ⟨s, hs⟩ : ∃ x, wrap32 (wrap64 (a + b)) = x := ⟨_, rfl⟩
  obtain ⟨d, hd⟩ : ∃ x, wrap32 (wrap64 (a - b)) = x := ⟨_, rfl⟩
  obtain ⟨p, hp⟩ : ∃ x, wrap32 (wrap64 (a * b)) = x := ⟨_, rfl⟩
  have hs2 : wrap32 (wrap64 (x + y)) = s := by rw [← hx, ← hy, ← hs]; exact (wrap_add a b).symm
  have hd2 : wrap32 (wrap64 (x - y)) = d := by rw [← hx, ← hy, ← hd]; exact (wrap_sub a b).symm
  have hp2 : wrap32 (wrap64 (x * y)) = p := by rw [← hx, ← hy, ← hp]; exact (wrap_mul a b).symm
  have W1 : Hid (∀ W, Calls Tryd.prog 13 #[.int .i64 a] W fun e w' => e = .returned (.int .i64 x) ∧ W = w') := Lib.hid fun W => hx ▸ Wrap_any a W
  have W2 : Hid (∀ W, Calls Tryd.prog 13 #[.int .i64 b] W fun e w' => e = .returned (.int .i64 y) ∧ W = w') := Lib.hid fun W => hy ▸ Wrap_any b W
  have W3 : Hid (∀ W, Calls Tryd.prog 13 #[.int .i64 (wrap64 (a + b))] W fun e w' => e = .returned (.int .i64 s) ∧ W = w') := Lib.hid fun W => hs ▸ Wrap_any _ W
  have W4 : Hid (∀ W, Calls Tryd.prog 13 #[.int .i64 (wrap64 (x + y))] W fun e w' => e = .returned (.int .i64 s) ∧ W = w') := Lib.hid fun W => hs2 ▸ Wrap_any _ W
  have W5 : Hid (∀ W, Calls Tryd.prog 13 #[.int .i64 (wrap64 (a - b))] W fun e w' => e = .returned (.int .i64 d) ∧ W = w') := Lib.hid fun W => hd ▸ Wrap_any _ W
  have W6 : Hid (∀ W, Calls Tryd.prog 13 #[.int .i64 (wrap64 (x - y))] W fun e w' => e = .returned (.int .i64 d) ∧ W = w') := Lib.hid fun W => hd2 ▸ Wrap_any _ W
  have W7 : Hid (∀ W, Calls Tryd.prog 13 #[.int .i64 (wrap64 (a * b))] W fun e w' => e = .returned (.int .i64 p) ∧ W = w') := Lib.hid fun W => hp ▸ Wrap_any _ W
  have W8 : Hid (∀ W, Calls Tryd.prog 13 #[.int .i64 (wrap64 (x * y))] W fun e w' => e = .returned (.int .i64 p) ∧ W = w') := Lib.hid fun W => hp2 ▸ Wrap_any _ W
  have f1 : (x < -2147483648) = False := eq_false (by rw [← hx]; unfold wrap32; omega)
  have f2 : (2147483648 ≤ x) = False := eq_false (by rw [← hx]; unfold wrap32; omega)
  have f3 : (wrap64 (x - a) % 4294967296 != 0) = false := by rw [← hx]; simp; unfold wrap64 wrap32; omega
  have f4 : (-2147483648 ≤ a) = True := eq_true hr.1
  have f5 : (a < 2147483648) = True := eq_true hr.2
  have f6 : (x != a) = false := by rw [← hx]; simp; unfold wrap32; omega
  clear hx hy hs hd hp hs2 hd2 hp2 hr
  have hL : Kn [] w w [] := Kn.refl [] w; (try simp only [List.setIfInBounds_toArray, List.set_cons_zero, List.set_cons_succ, List.cons_append, List.nil_append] at hL); have hF := hL.facts; (try simp only [Facts, Dist, List.map_cons, List.map_nil, List.forall_mem_cons, false_implies, ne_eq, not_false_eq_true, List.not_mem_nil, not_false_eq_true, true_implies, forall_const, List.mem_cons, or_false, implies_true, and_true, true_and, Nat.le_refl, List.setIfInBounds_toArray, List.set_cons_zero, List.set_cons_succ] at hF); go_enter Tryd.func5, Tryd.ntmps5
  go_wp2_with (first | ((with_reducible refine kn_list_set ?_); (try clear hF); clear hL; intro W hL; (try simp only [List.setIfInBounds_toArray, List.set_cons_zero, List.set_cons_succ, List.cons_append, List.nil_append] at hL); have hF := hL.facts; (try simp only [Facts, Dist, List.map_cons, List.map_nil, List.forall_mem_cons, false_implies, ne_eq, not_false_eq_true, List.not_mem_nil, not_false_eq_true, true_implies, forall_const, List.mem_cons, or_false, implies_true, and_true, true_and, Nat.le_refl, List.setIfInBounds_toArray, List.set_cons_zero, List.set_cons_succ] at hF)) | (go_at_call 8; refine kn_calls ?_; (try clear hF); clear hL; intro W hL; (try simp only [List.setIfInBounds_toArray, List.set_cons_zero, List.set_cons_succ, List.cons_append, List.nil_append] at hL); have hF := hL.facts; (try simp only [Facts, Dist, List.map_cons, List.map_nil, List.forall_mem_cons, false_implies, ne_eq, not_false_eq_true, List.not_mem_nil, not_false_eq_true, true_implies, forall_const, List.mem_cons, or_false, implies_true, and_true, true_and, Nat.le_refl, List.setIfInBounds_toArray, List.set_cons_zero, List.set_cons_succ] at hF); (with_reducible refine (small_any _ (hT.ext hL.below0)).mono ?_); rintro e W ⟨rfl, hb⟩; replace hL := hL.below hb; clear hb; (try clear hF); (try simp only [List.setIfInBounds_toArray, List.set_cons_zero, List.set_cons_succ, List.cons_append, List.nil_append] at hL); have hF := hL.facts; (try simp only [Facts, Dist, List.map_cons, List.map_nil, List.forall_mem_cons, false_implies, ne_eq, not_false_eq_true, List.not_mem_nil, not_false_eq_true, true_implies, forall_const, List.mem_cons, or_false, implies_true, and_true, true_and, Nat.le_refl, List.setIfInBounds_toArray, List.set_cons_zero, List.set_cons_succ] at hF)) | (go_at_call 13; first | ((with_reducible refine (W1.out _).mono ?_); rintro e w' ⟨rfl, rfl⟩) | ((with_reducible refine (W2.out _).mono ?_); rintro e w' ⟨rfl, rfl⟩) | ((with_reducible refine (W3.out _).mono ?_); rintro e w' ⟨rfl, rfl⟩) | ((with_reducible refine (W4.out _).mono ?_); rintro e w' ⟨rfl, rfl⟩) | ((with_reducible refine (W5.out _).mono ?_); rintro e w' ⟨rfl, rfl⟩) | ((with_reducible refine (W6.out _).mono ?_); rintro e w' ⟨rfl, rfl⟩) | ((with_reducible refine (W7.out _).mono ?_); rintro e w' ⟨rfl, rfl⟩) | ((with_reducible refine (W8.out _).mono ?_); rintro e w' ⟨rfl, rfl⟩)))
  (try simp only [Exit.inBlock, Exit.then]); refine bodyPost_ret (by simp [results, Tryd.results5, go_sem, *]; try rfl) rfl ?_
  exact ⟨rfl, kn_here.below0⟩

set_option maxRecDepth 20000 in
set_option maxHeartbeats 4000000 in
theorem wraps_out (a b : Int) (w : World) (hT : Tab w) (hr : a < -2147483648 ∨ 2147483648 ≤ a) :
    Calls Tryd.prog 5 #[.int .i64 a, .int .i64 b] w fun e w' => e = .returned (.bool true) ∧ Below w.heap.size w w' := by
  have hand := and32
  obtain ⟨x, hx⟩ : ∃ x, wrap32 a = x := ⟨_, rfl⟩
  obtain ⟨y, hy⟩ : ∃ x, wrap32 b = x := ⟨_, rfl⟩
  obtain ⟨s, hs⟩ : ∃ x, wrap32 (wrap64 (a + b)) = x := ⟨_, rfl⟩
  obtain ⟨d, hd⟩ : ∃ x, wrap32 (wrap64 (a - b)) = x := ⟨_, rfl⟩
  obtain ⟨p, hp⟩ : ∃ x, wrap32 (wrap64 (a * b)) = x := ⟨_, rfl⟩
  have hs2 : wrap32 (wrap64 (x + y)) = s := by rw [← hx, ← hy, ← hs]; exact (wrap_add a b).symm
  have hd2 : wrap32 (wrap64 (x - y)) = d := by rw [← hx, ← hy, ← hd]; exact (wrap_sub a b).symm
  have hp2 : wrap32 (wrap64 (x * y)) = p := by rw [← hx, ← hy, ← hp]; exact (wrap_mul a b).symm
  have W1 : Hid (∀ W, Calls Tryd.prog 13 #[.int .i64 a] W fun e w' => e = .returned (.int .i64 x) ∧ W = w') := Lib.hid fun W => hx ▸ Wrap_any a W
  have W2 : Hid (∀ W, Calls Tryd.prog 13 #[.int .i64 b] W fun e w' => e = .returned (.int .i64 y) ∧ W = w') := Lib.hid fun W => hy ▸ Wrap_any b W
  have W3 : Hid (∀ W, Calls Tryd.prog 13 #[.int .i64 (wrap64 (a + b))] W fun e w' => e = .returned (.int .i64 s) ∧ W = w') := Lib.hid fun W => hs ▸ Wrap_any _ W
  have W4 : Hid (∀ W, Calls Tryd.prog 13 #[.int .i64 (wrap64 (x + y))] W fun e w' => e = .returned (.int .i64 s) ∧ W = w') := Lib.hid fun W => hs2 ▸ Wrap_any _ W
  have W5 : Hid (∀ W, Calls Tryd.prog 13 #[.int .i64 (wrap64 (a - b))] W fun e w' => e = .returned (.int .i64 d) ∧ W = w') := Lib.hid fun W => hd ▸ Wrap_any _ W
  have W6 : Hid (∀ W, Calls Tryd.prog 13 #[.int .i64 (wrap64 (x - y))] W fun e w' => e = .returned (.int .i64 d) ∧ W = w') := Lib.hid fun W => hd2 ▸ Wrap_any _ W
  have W7 : Hid (∀ W, Calls Tryd.prog 13 #[.int .i64 (wrap64 (a * b))] W fun e w' => e = .returned (.int .i64 p) ∧ W = w') := Lib.hid fun W => hp ▸ Wrap_any _ W
  have W8 : Hid (∀ W, Calls Tryd.prog 13 #[.int .i64 (wrap64 (x * y))] W fun e w' => e = .returned (.int .i64 p) ∧ W = w') := Lib.hid fun W => hp2 ▸ Wrap_any _ W
  have f1 : (x < -2147483648) = False := eq_false (by rw [← hx]; unfold wrap32; omega)
  have f2 : (2147483648 ≤ x) = False := eq_false (by rw [← hx]; unfold wrap32; omega)
  have f3 : (wrap64 (x - a) % 4294967296 != 0) = false := by rw [← hx]; simp; unfold wrap64 wrap32; omega
  clear hx hy hs hd hp hs2 hd2 hp2
  rcases hr with hr | hr
  · have hL : Kn [] w w [] := Kn.refl [] w; (try simp only [List.setIfInBounds_toArray, List.set_cons_zero, List.set_cons_succ, List.cons_append, List.nil_append] at hL); have hF := hL.facts; (try simp only [Facts, Dist, List.map_cons, List.map_nil, List.forall_mem_cons, false_implies, ne_eq, not_false_eq_true, List.not_mem_nil, not_false_eq_true, true_implies, forall_const, List.mem_cons, or_false, implies_true, and_true, true_and, Nat.le_refl, List.setIfInBounds_toArray, List.set_cons_zero, List.set_cons_succ] at hF); go_enter Tryd.func5, Tryd.ntmps5
    go_wp2_with (first | ((with_reducible refine kn_list_set ?_); (try clear hF); clear hL; intro W hL; (try simp only [List.setIfInBounds_toArray, List.set_cons_zero, List.set_cons_succ, List.cons_append, List.nil_append] at hL); have hF := hL.facts; (try simp only [Facts, Dist, List.map_cons, List.map_nil, List.forall_mem_cons, false_implies, ne_eq, not_false_eq_true, List.not_mem_nil, not_false_eq_true, true_implies, forall_const, List.mem_cons, or_false, implies_true, and_true, true_and, Nat.le_refl, List.setIfInBounds_toArray, List.set_cons_zero, List.set_cons_succ] at hF)) | (go_at_call 8; refine kn_calls ?_; (try clear hF); clear hL; intro W hL; (try simp only [List.setIfInBounds_toArray, List.set_cons_zero, List.set_cons_succ, List.cons_append, List.nil_append] at hL); have hF := hL.facts; (try simp only [Facts, Dist, List.map_cons, List.map_nil, List.forall_mem_cons, false_implies, ne_eq, not_false_eq_true, List.not_mem_nil, not_false_eq_true, true_implies, forall_const, List.mem_cons, or_false, implies_true, and_true, true_and, Nat.le_refl, List.setIfInBounds_toArray, List.set_cons_zero, List.set_cons_succ] at hF); (with_reducible refine (small_any _ (hT.ext hL.below0)).mono ?_); rintro e W ⟨rfl, hb⟩; replace hL := hL.below hb; clear hb; (try clear hF); (try simp only [List.setIfInBounds_toArray, List.set_cons_zero, List.set_cons_succ, List.cons_append, List.nil_append] at hL); have hF := hL.facts; (try simp only [Facts, Dist, List.map_cons, List.map_nil, List.forall_mem_cons, false_implies, ne_eq, not_false_eq_true, List.not_mem_nil, not_false_eq_true, true_implies, forall_const, List.mem_cons, or_false, implies_true, and_true, true_and, Nat.le_refl, List.setIfInBounds_toArray, List.set_cons_zero, List.set_cons_succ] at hF)) | (go_at_call 13; first | ((with_reducible refine (W1.out _).mono ?_); rintro e w' ⟨rfl, rfl⟩) | ((with_reducible refine (W2.out _).mono ?_); rintro e w' ⟨rfl, rfl⟩) | ((with_reducible refine (W3.out _).mono ?_); rintro e w' ⟨rfl, rfl⟩) | ((with_reducible refine (W4.out _).mono ?_); rintro e w' ⟨rfl, rfl⟩) | ((with_reducible refine (W5.out _).mono ?_); rintro e w' ⟨rfl, rfl⟩) | ((with_reducible refine (W6.out _).mono ?_); rintro e w' ⟨rfl, rfl⟩) | ((with_reducible refine (W7.out _).mono ?_); rintro e w' ⟨rfl, rfl⟩) | ((with_reducible refine (W8.out _).mono ?_); rintro e w' ⟨rfl, rfl⟩)))
    (try simp only [Exit.inBlock, Exit.then]); refine bodyPost_ret (by simp [results, Tryd.results5, go_sem, *]; try rfl) rfl ?_
    exact ⟨rfl, kn_here.below0⟩
  · have hL : Kn [] w w [] := Kn.refl [] w; (try simp only [List.setIfInBounds_toArray, List.set_cons_zero, List.set_cons_succ, List.cons_append, List.nil_append] at hL); have hF := hL.facts; (try simp only [Facts, Dist, List.map_cons, List.map_nil, List.forall_mem_cons, false_implies, ne_eq, not_false_eq_true, List.not_mem_nil, not_false_eq_true, true_implies, forall_const, List.mem_cons, or_false, implies_true, and_true, true_and, Nat.le_refl, List.setIfInBounds_toArray, List.set_cons_zero, List.set_cons_succ] at hF); go_enter Tryd.func5, Tryd.ntmps5
    go_wp2_with (first | ((with_reducible refine kn_list_set ?_); (try clear hF); clear hL; intro W hL; (try simp only [List.setIfInBounds_toArray, List.set_cons_zero, List.set_cons_succ, List.cons_append, List.nil_append] at hL); have hF := hL.facts; (try simp only [Facts, Dist, List.map_cons, List.map_nil, List.forall_mem_cons, false_implies, ne_eq, not_false_eq_true, List.not_mem_nil, not_false_eq_true, true_implies, forall_const, List.mem_cons, or_false, implies_true, and_true, true_and, Nat.le_refl, List.setIfInBounds_toArray, List.set_cons_zero, List.set_cons_succ] at hF)) | (go_at_call 8; refine kn_calls ?_; (try clear hF); clear hL; intro W hL; (try simp only [List.setIfInBounds_toArray, List.set_cons_zero, List.set_cons_succ, List.cons_append, List.nil_append] at hL); have hF := hL.facts; (try simp only [Facts, Dist, List.map_cons, List.map_nil, List.forall_mem_cons, false_implies, ne_eq, not_false_eq_true, List.not_mem_nil, not_false_eq_true, true_implies, forall_const, List.mem_cons, or_false, implies_true, and_true, true_and, Nat.le_refl, List.setIfInBounds_toArray, List.set_cons_zero, List.set_cons_succ] at hF); (with_reducible refine (small_any _ (hT.ext hL.below0)).mono ?_); rintro e W ⟨rfl, hb⟩; replace hL := hL.below hb; clear hb; (try clear hF); (try simp only [List.setIfInBounds_toArray, List.set_cons_zero, List.set_cons_succ, List.cons_append, List.nil_append] at hL); have hF := hL.facts; (try simp only [Facts, Dist, List.map_cons, List.map_nil, List.forall_mem_cons, false_implies, ne_eq, not_false_eq_true, List.not_mem_nil, not_false_eq_true, true_implies, forall_const, List.mem_cons, or_false, implies_true, and_true, true_and, Nat.le_refl, List.setIfInBounds_toArray, List.set_cons_zero, List.set_cons_succ] at hF)) | (go_at_call 13; first | ((with_reducible refine (W1.out _).mono ?_); rintro e w' ⟨rfl, rfl⟩) | ((with_reducible refine (W2.out _).mono ?_); rintro e w' ⟨rfl, rfl⟩) | ((with_reducible refine (W3.out _).mono ?_); rintro e w' ⟨rfl, rfl⟩) | ((with_reducible refine (W4.out _).mono ?_); rintro e w' ⟨rfl, rfl⟩) | ((with_reducible refine (W5.out _).mono ?_); rintro e w' ⟨rfl, rfl⟩) | ((with_reducible refine (W6.out _).mono ?_); rintro e w' ⟨rfl, rfl⟩) | ((with_reducible refine (W7.out _).mono ?_); rintro e w' ⟨rfl, rfl⟩) | ((with_reducible refine (W8.out _).mono ?_); rintro e w' ⟨rfl, rfl⟩)))
    (try simp only [Exit.inBlock, Exit.then]); refine bodyPost_ret (by simp [results, Tryd.results5, go_sem, *]; try rfl) rfl ?_
    exact ⟨rfl, kn_here.below0⟩

end Go.Proofs.YtbmonkhnmaamnaaDoor
