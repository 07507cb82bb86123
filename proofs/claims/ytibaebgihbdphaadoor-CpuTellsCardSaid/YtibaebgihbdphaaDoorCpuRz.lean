import Derived.Test.YtibaebgihbdphaaDoorProg
import Derived.WalkKit
import Derived.Handy
import Derived.Deep.Light
import Derived.WalkSmall
import Derived.Lib.Hide
import Derived.Test.YtibaebgihbdphaaDoorSt
import Derived.Test.YtibaebgihbdphaaDoorCpu0
import Derived.Test.YtibaebgihbdphaaDoorCpuX
import Derived.Test.YtibaebgihbdphaaDoorCpuL
import Derived.Test.YtibaebgihbdphaaDoorCpuW
import Derived.Deep.Cut
import Derived.Deep.CutBlock
import Derived.Test.YtibaebgihbdphaaDoorCpuRa
import Derived.Test.YtibaebgihbdphaaDoorCpuP
namespace Go.Proofs.YtibaebgihbdphaaDoor
open Go Go.RowKit
set_option linter.unusedSimpArgs false
set_option linter.unusedVariables false

set_option maxRecDepth 20000 in
set_option maxHeartbeats 4000000 in
theorem RefExec_zero7 (r : Rg) (op a b c : Int) (w : World) (hv : valid op a b c = true) (hf : form op = 3) (h78 : op = 7) (hA : 0 ≤ a ∧ a ≤ 7) (hC : 0 ≤ c ∧ c ≤ 7) (hk0 : calcOk op (r.wrap.sel c) = false) :
    Calls Tryd.prog 14 #[.agg #[.int .i64 r.r0, .int .i64 r.r1, .int .i64 r.r2, .int .i64 r.r3, .int .i64 r.r4, .int .i64 r.r5, .int .i64 r.r6, .int .i64 r.r7, .int .i64 r.pc], .agg #[.int .i64 op, .int .i64 a, .int .i64 b, .int .i64 c]] w fun e w' => e = .returned (.tuple #[.agg #[.int .i64 (execS op a b c r).1.r0, .int .i64 (execS op a b c r).1.r1, .int .i64 (execS op a b c r).1.r2, .int .i64 (execS op a b c r).1.r3, .int .i64 (execS op a b c r).1.r4, .int .i64 (execS op a b c r).1.r5, .int .i64 (execS op a b c r).1.r6, .int .i64 (execS op a b c r).1.r7, .int .i64 (execS op a b c r).1.pc], .agg #[.int .i64 (execS op a b c r).2.kind, .int .i64 (execS op a b c r).2.at_, .int .i64 (execS op a b c r).2.size, .int .i64 (execS op a b c r).2.reg, .int .i64 (execS op a b c r).2.value, .int .i64 (execS op a b c r).2.n]]) ∧ Below w.heap.size w w' := by
  obtain ⟨ha, ha'⟩ := hA
  obtain ⟨hc, hc'⟩ := hC
  obtain ⟨va, hva⟩ : ∃ x, Rg.sel r.wrap a = x := ⟨_, rfl⟩
  have hga : (#[Value.int .i64 (wrap32 r.r0), Value.int .i64 (wrap32 r.r1), Value.int .i64 (wrap32 r.r2), Value.int .i64 (wrap32 r.r3), Value.int .i64 (wrap32 r.r4), Value.int .i64 (wrap32 r.r5), Value.int .i64 (wrap32 r.r6), Value.int .i64 (wrap32 r.r7), .int .i64 (wrap32 r.pc)] : Array Value)[a.toNat]? = some (.int .i64 va) := by rw [← hva]; exact sel_get a _ _ _ _ _ _ _ _ _ ha ha'
  have HVa := Lib.hid hva
  clear hva
  obtain ⟨vc, hvc⟩ : ∃ x, Rg.sel r.wrap c = x := ⟨_, rfl⟩
  have hgc : (#[Value.int .i64 (wrap32 r.r0), Value.int .i64 (wrap32 r.r1), Value.int .i64 (wrap32 r.r2), Value.int .i64 (wrap32 r.r3), Value.int .i64 (wrap32 r.r4), Value.int .i64 (wrap32 r.r5), Value.int .i64 (wrap32 r.r6), Value.int .i64 (wrap32 r.r7), .int .i64 (wrap32 r.pc)] : Array Value)[c.toNat]? = some (.int .i64 vc) := by rw [← hvc]; exact sel_get c _ _ _ _ _ _ _ _ _ hc hc'
  have HVc := Lib.hid hvc
  clear hvc
  have m1 : op ≠ 31 := by omega
  have HX := Lib.hid (ex_zero (r := r) hv m1 hf hk0)
  have hk : calcOk op vc = false := by rw [← HVc.out]; exact hk0
  clear hk0
  have n0 : (op == 0) = false := by simp; omega
  have n1 : (op == 1) = false := by simp; omega
  have n2 : (op == 2) = false := by simp; omega
  have n3 : (op == 3) = false := by simp; omega
  have n18 : (op == 18) = false := by simp; omega
  have n19 : (op == 19) = false := by simp; omega
  have n20 : (op == 20) = false := by simp; omega
  have n21 : (op == 21) = false := by simp; omega
  have n22 : (op == 22) = false := by simp; omega
  have n23 : (op == 23) = false := by simp; omega
  have n24 : (op == 24) = false := by simp; omega
  have n25 : (op == 25) = false := by simp; omega
  have n26 : (op == 26) = false := by simp; omega
  have n27 : (op == 27) = false := by simp; omega
  have n28 : (op == 28) = false := by simp; omega
  have n29 : (op == 29) = false := by simp; omega
  have n30 : (op == 30) = false := by simp; omega
  have n31 : (op == 31) = false := by simp; omega
  have hz : (vc == 0) = true := by simp only [calcOk] at hk; revert hk; cases (op == 7) <;> cases (op == 8) <;> cases (vc == 0) <;> simp
  have hd : (op == 7) = true := by simpa using h78
  clear h78
  have hL : Kn [] w w [] := Kn.refl [] w; (try simp only [List.setIfInBounds_toArray, List.set_cons_zero, List.set_cons_succ] at hL); have hF := hL.facts; (try simp only [Facts, Dist, List.map_cons, List.map_nil, List.forall_mem_cons, false_implies, ne_eq, not_false_eq_true, List.not_mem_nil, not_false_eq_true, true_implies, forall_const, List.mem_cons, or_false, implies_true, and_true, true_and, Nat.le_refl, List.setIfInBounds_toArray, List.set_cons_zero, List.set_cons_succ] at hF); go_enter Tryd.func14, Tryd.ntmps14
  go_upto_block 0 with (first | ((with_reducible refine kn_list_set ?_); (try clear hF); clear hL; intro W hL; (try simp only [List.setIfInBounds_toArray, List.set_cons_zero, List.set_cons_succ] at hL); have hF := hL.facts; (try simp only [Facts, Dist, List.map_cons, List.map_nil, List.forall_mem_cons, false_implies, ne_eq, not_false_eq_true, List.not_mem_nil, not_false_eq_true, true_implies, forall_const, List.mem_cons, or_false, implies_true, and_true, true_and, Nat.le_refl, List.setIfInBounds_toArray, List.set_cons_zero, List.set_cons_succ] at hF)) | (go_at_call 25; refine kn_calls ?_; (try clear hF); clear hL; intro W hL; (try simp only [List.setIfInBounds_toArray, List.set_cons_zero, List.set_cons_succ] at hL); have hF := hL.facts; (try simp only [Facts, Dist, List.map_cons, List.map_nil, List.forall_mem_cons, false_implies, ne_eq, not_false_eq_true, List.not_mem_nil, not_false_eq_true, true_implies, forall_const, List.mem_cons, or_false, implies_true, and_true, true_and, Nat.le_refl, List.setIfInBounds_toArray, List.set_cons_zero, List.set_cons_succ] at hF); (with_reducible refine (clean_any _ _ _ _ _ _ _ _ _ _).mono ?_); rintro e W ⟨rfl, hb⟩; replace hL := hL.below hb; clear hb; (try clear hF); (try simp only [List.setIfInBounds_toArray, List.set_cons_zero, List.set_cons_succ] at hL); have hF := hL.facts; (try simp only [Facts, Dist, List.map_cons, List.map_nil, List.forall_mem_cons, false_implies, ne_eq, not_false_eq_true, List.not_mem_nil, not_false_eq_true, true_implies, forall_const, List.mem_cons, or_false, implies_true, and_true, true_and, Nat.le_refl, List.setIfInBounds_toArray, List.set_cons_zero, List.set_cons_succ] at hF)) | (go_at_call 26; refine kn_calls ?_; (try clear hF); clear hL; intro W hL; (try simp only [List.setIfInBounds_toArray, List.set_cons_zero, List.set_cons_succ] at hL); have hF := hL.facts; (try simp only [Facts, Dist, List.map_cons, List.map_nil, List.forall_mem_cons, false_implies, ne_eq, not_false_eq_true, List.not_mem_nil, not_false_eq_true, true_implies, forall_const, List.mem_cons, or_false, implies_true, and_true, true_and, Nat.le_refl, List.setIfInBounds_toArray, List.set_cons_zero, List.set_cons_succ] at hF); (with_reducible refine (refValid_any _ _ _ _ _).mono ?_); rintro e W ⟨rfl, hb⟩; replace hL := hL.below hb; clear hb; (try clear hF); (try simp only [List.setIfInBounds_toArray, List.set_cons_zero, List.set_cons_succ] at hL); have hF := hL.facts; (try simp only [Facts, Dist, List.map_cons, List.map_nil, List.forall_mem_cons, false_implies, ne_eq, not_false_eq_true, List.not_mem_nil, not_false_eq_true, true_implies, forall_const, List.mem_cons, or_false, implies_true, and_true, true_and, Nat.le_refl, List.setIfInBounds_toArray, List.set_cons_zero, List.set_cons_succ] at hF)) | (go_at_call 29; (with_reducible refine (refWrap_any _ _).mono ?_); rintro e w' ⟨rfl, rfl⟩))
  refine kn_wp ?_; (try clear hF); clear hL; intro W hL; (try simp only [List.setIfInBounds_toArray, List.set_cons_zero, List.set_cons_succ] at hL); have hF := hL.facts; (try simp only [Facts, Dist, List.map_cons, List.map_nil, List.forall_mem_cons, false_implies, ne_eq, not_false_eq_true, List.not_mem_nil, not_false_eq_true, true_implies, forall_const, List.mem_cons, or_false, implies_true, and_true, true_and, Nat.le_refl, List.setIfInBounds_toArray, List.set_cons_zero, List.set_cons_succ] at hF)
  go_wp2_with (first | ((with_reducible refine kn_list_set ?_); (try clear hF); clear hL; intro W hL; (try simp only [List.setIfInBounds_toArray, List.set_cons_zero, List.set_cons_succ] at hL); have hF := hL.facts; (try simp only [Facts, Dist, List.map_cons, List.map_nil, List.forall_mem_cons, false_implies, ne_eq, not_false_eq_true, List.not_mem_nil, not_false_eq_true, true_implies, forall_const, List.mem_cons, or_false, implies_true, and_true, true_and, Nat.le_refl, List.setIfInBounds_toArray, List.set_cons_zero, List.set_cons_succ] at hF)) | (go_at_call 25; refine kn_calls ?_; (try clear hF); clear hL; intro W hL; (try simp only [List.setIfInBounds_toArray, List.set_cons_zero, List.set_cons_succ] at hL); have hF := hL.facts; (try simp only [Facts, Dist, List.map_cons, List.map_nil, List.forall_mem_cons, false_implies, ne_eq, not_false_eq_true, List.not_mem_nil, not_false_eq_true, true_implies, forall_const, List.mem_cons, or_false, implies_true, and_true, true_and, Nat.le_refl, List.setIfInBounds_toArray, List.set_cons_zero, List.set_cons_succ] at hF); (with_reducible refine (clean_any _ _ _ _ _ _ _ _ _ _).mono ?_); rintro e W ⟨rfl, hb⟩; replace hL := hL.below hb; clear hb; (try clear hF); (try simp only [List.setIfInBounds_toArray, List.set_cons_zero, List.set_cons_succ] at hL); have hF := hL.facts; (try simp only [Facts, Dist, List.map_cons, List.map_nil, List.forall_mem_cons, false_implies, ne_eq, not_false_eq_true, List.not_mem_nil, not_false_eq_true, true_implies, forall_const, List.mem_cons, or_false, implies_true, and_true, true_and, Nat.le_refl, List.setIfInBounds_toArray, List.set_cons_zero, List.set_cons_succ] at hF)) | (go_at_call 26; refine kn_calls ?_; (try clear hF); clear hL; intro W hL; (try simp only [List.setIfInBounds_toArray, List.set_cons_zero, List.set_cons_succ] at hL); have hF := hL.facts; (try simp only [Facts, Dist, List.map_cons, List.map_nil, List.forall_mem_cons, false_implies, ne_eq, not_false_eq_true, List.not_mem_nil, not_false_eq_true, true_implies, forall_const, List.mem_cons, or_false, implies_true, and_true, true_and, Nat.le_refl, List.setIfInBounds_toArray, List.set_cons_zero, List.set_cons_succ] at hF); (with_reducible refine (refValid_any _ _ _ _ _).mono ?_); rintro e W ⟨rfl, hb⟩; replace hL := hL.below hb; clear hb; (try clear hF); (try simp only [List.setIfInBounds_toArray, List.set_cons_zero, List.set_cons_succ] at hL); have hF := hL.facts; (try simp only [Facts, Dist, List.map_cons, List.map_nil, List.forall_mem_cons, false_implies, ne_eq, not_false_eq_true, List.not_mem_nil, not_false_eq_true, true_implies, forall_const, List.mem_cons, or_false, implies_true, and_true, true_and, Nat.le_refl, List.setIfInBounds_toArray, List.set_cons_zero, List.set_cons_succ] at hF)) | (go_at_call 29; (with_reducible refine (refWrap_any _ _).mono ?_); rintro e w' ⟨rfl, rfl⟩))
  all_goals (try simp only [Exit.inBlock, Exit.then]); refine bodyPost_ret (by simp [results, Tryd.results14, go_sem, *]; try rfl) rfl ?_
  all_goals refine ⟨?_, kn_here.below0⟩
  all_goals (try simp only [w0])
  all_goals rw [HX.out]
  all_goals rfl

set_option maxRecDepth 20000 in
set_option maxHeartbeats 4000000 in
theorem RefExec_zero8 (r : Rg) (op a b c : Int) (w : World) (hv : valid op a b c = true) (hf : form op = 3) (h78 : op = 8) (hA : 0 ≤ a ∧ a ≤ 7) (hC : 0 ≤ c ∧ c ≤ 7) (hk0 : calcOk op (r.wrap.sel c) = false) :
    Calls Tryd.prog 14 #[.agg #[.int .i64 r.r0, .int .i64 r.r1, .int .i64 r.r2, .int .i64 r.r3, .int .i64 r.r4, .int .i64 r.r5, .int .i64 r.r6, .int .i64 r.r7, .int .i64 r.pc], .agg #[.int .i64 op, .int .i64 a, .int .i64 b, .int .i64 c]] w fun e w' => e = .returned (.tuple #[.agg #[.int .i64 (execS op a b c r).1.r0, .int .i64 (execS op a b c r).1.r1, .int .i64 (execS op a b c r).1.r2, .int .i64 (execS op a b c r).1.r3, .int .i64 (execS op a b c r).1.r4, .int .i64 (execS op a b c r).1.r5, .int .i64 (execS op a b c r).1.r6, .int .i64 (execS op a b c r).1.r7, .int .i64 (execS op a b c r).1.pc], .agg #[.int .i64 (execS op a b c r).2.kind, .int .i64 (execS op a b c r).2.at_, .int .i64 (execS op a b c r).2.size, .int .i64 (execS op a b c r).2.reg, .int .i64 (execS op a b c r).2.value, .int .i64 (execS op a b c r).2.n]]) ∧ Below w.heap.size w w' := by
  obtain ⟨ha, ha'⟩ := hA
  obtain ⟨hc, hc'⟩ := hC
  obtain ⟨va, hva⟩ : ∃ x, Rg.sel r.wrap a = x := ⟨_, rfl⟩
  have hga : (#[Value.int .i64 (wrap32 r.r0), Value.int .i64 (wrap32 r.r1), Value.int .i64 (wrap32 r.r2), Value.int .i64 (wrap32 r.r3), Value.int .i64 (wrap32 r.r4), Value.int .i64 (wrap32 r.r5), Value.int .i64 (wrap32 r.r6), Value.int .i64 (wrap32 r.r7), .int .i64 (wrap32 r.pc)] : Array Value)[a.toNat]? = some (.int .i64 va) := by rw [← hva]; exact sel_get a _ _ _ _ _ _ _ _ _ ha ha'
  have HVa := Lib.hid hva
  clear hva
  obtain ⟨vc, hvc⟩ : ∃ x, Rg.sel r.wrap c = x := ⟨_, rfl⟩
  have hgc : (#[Value.int .i64 (wrap32 r.r0), Value.int .i64 (wrap32 r.r1), Value.int .i64 (wrap32 r.r2), Value.int .i64 (wrap32 r.r3), Value.int .i64 (wrap32 r.r4), Value.int .i64 (wrap32 r.r5), Value.int .i64 (wrap32 r.r6), Value.int .i64 (wrap32 r.r7), .int .i64 (wrap32 r.pc)] : Array Value)[c.toNat]? = some (.int .i64 vc) := by rw [← hvc]; exact sel_get c _ _ _ _ _ _ _ _ _ hc hc'
  have HVc := Lib.hid hvc
  clear hvc
  have m1 : op ≠ 31 := by omega
  have HX := Lib.hid (ex_zero (r := r) hv m1 hf hk0)
  have hk : calcOk op vc = false := by rw [← HVc.out]; exact hk0
  clear hk0
  have n0 : (op == 0) = false := by simp; omega
  have n1 : (op == 1) = false := by simp; omega
  have n2 : (op == 2) = false := by simp; omega
  have n3 : (op == 3) = false := by simp; omega
  have n18 : (op == 18) = false := by simp; omega
  have n19 : (op == 19) = false := by simp; omega
  have n20 : (op == 20) = false := by simp; omega
  have n21 : (op == 21) = false := by simp; omega
  have n22 : (op == 22) = false := by simp; omega
  have n23 : (op == 23) = false := by simp; omega
  have n24 : (op == 24) = false := by simp; omega
  have n25 : (op == 25) = false := by simp; omega
  have n26 : (op == 26) = false := by simp; omega
  have n27 : (op == 27) = false := by simp; omega
  have n28 : (op == 28) = false := by simp; omega
  have n29 : (op == 29) = false := by simp; omega
  have n30 : (op == 30) = false := by simp; omega
  have n31 : (op == 31) = false := by simp; omega
  have hz : (vc == 0) = true := by simp only [calcOk] at hk; revert hk; cases (op == 7) <;> cases (op == 8) <;> cases (vc == 0) <;> simp
  have hd : (op == 7) = false := by simp; omega
  have hd2 : (op == 8) = true := by simpa using h78
  clear h78
  have hL : Kn [] w w [] := Kn.refl [] w; (try simp only [List.setIfInBounds_toArray, List.set_cons_zero, List.set_cons_succ] at hL); have hF := hL.facts; (try simp only [Facts, Dist, List.map_cons, List.map_nil, List.forall_mem_cons, false_implies, ne_eq, not_false_eq_true, List.not_mem_nil, not_false_eq_true, true_implies, forall_const, List.mem_cons, or_false, implies_true, and_true, true_and, Nat.le_refl, List.setIfInBounds_toArray, List.set_cons_zero, List.set_cons_succ] at hF); go_enter Tryd.func14, Tryd.ntmps14
  go_upto_block 0 with (first | ((with_reducible refine kn_list_set ?_); (try clear hF); clear hL; intro W hL; (try simp only [List.setIfInBounds_toArray, List.set_cons_zero, List.set_cons_succ] at hL); have hF := hL.facts; (try simp only [Facts, Dist, List.map_cons, List.map_nil, List.forall_mem_cons, false_implies, ne_eq, not_false_eq_true, List.not_mem_nil, not_false_eq_true, true_implies, forall_const, List.mem_cons, or_false, implies_true, and_true, true_and, Nat.le_refl, List.setIfInBounds_toArray, List.set_cons_zero, List.set_cons_succ] at hF)) | (go_at_call 25; refine kn_calls ?_; (try clear hF); clear hL; intro W hL; (try simp only [List.setIfInBounds_toArray, List.set_cons_zero, List.set_cons_succ] at hL); have hF := hL.facts; (try simp only [Facts, Dist, List.map_cons, List.map_nil, List.forall_mem_cons, false_implies, ne_eq, not_false_eq_true, List.not_mem_nil, not_false_eq_true, true_implies, forall_const, List.mem_cons, or_false, implies_true, and_true, true_and, Nat.le_refl, List.setIfInBounds_toArray, List.set_cons_zero, List.set_cons_succ] at hF); (with_reducible refine (clean_any _ _ _ _ _ _ _ _ _ _).mono ?_); rintro e W ⟨rfl, hb⟩; replace hL := hL.below hb; clear hb; (try clear hF); (try simp only [List.setIfInBounds_toArray, List.set_cons_zero, List.set_cons_succ] at hL); have hF := hL.facts; (try simp only [Facts, Dist, List.map_cons, List.map_nil, List.forall_mem_cons, false_implies, ne_eq, not_false_eq_true, List.not_mem_nil, not_false_eq_true, true_implies, forall_const, List.mem_cons, or_false, implies_true, and_true, true_and, Nat.le_refl, List.setIfInBounds_toArray, List.set_cons_zero, List.set_cons_succ] at hF)) | (go_at_call 26; refine kn_calls ?_; (try clear hF); clear hL; intro W hL; (try simp only [List.setIfInBounds_toArray, List.set_cons_zero, List.set_cons_succ] at hL); have hF := hL.facts; (try simp only [Facts, Dist, List.map_cons, List.map_nil, List.forall_mem_cons, false_implies, ne_eq, not_false_eq_true, List.not_mem_nil, not_false_eq_true, true_implies, forall_const, List.mem_cons, or_false, implies_true, and_true, true_and, Nat.le_refl, List.setIfInBounds_toArray, List.set_cons_zero, List.set_cons_succ] at hF); (with_reducible refine (refValid_any _ _ _ _ _).mono ?_); rintro e W ⟨rfl, hb⟩; replace hL := hL.below hb; clear hb; (try clear hF); (try simp only [List.setIfInBounds_toArray, List.set_cons_zero, List.set_cons_succ] at hL); have hF := hL.facts; (try simp only [Facts, Dist, List.map_cons, List.map_nil, List.forall_mem_cons, false_implies, ne_eq, not_false_eq_true, List.not_mem_nil, not_false_eq_true, true_implies, forall_const, List.mem_cons, or_false, implies_true, and_true, true_and, Nat.le_refl, List.setIfInBounds_toArray, List.set_cons_zero, List.set_cons_succ] at hF)) | (go_at_call 29; (with_reducible refine (refWrap_any _ _).mono ?_); rintro e w' ⟨rfl, rfl⟩))
  refine kn_wp ?_; (try clear hF); clear hL; intro W hL; (try simp only [List.setIfInBounds_toArray, List.set_cons_zero, List.set_cons_succ] at hL); have hF := hL.facts; (try simp only [Facts, Dist, List.map_cons, List.map_nil, List.forall_mem_cons, false_implies, ne_eq, not_false_eq_true, List.not_mem_nil, not_false_eq_true, true_implies, forall_const, List.mem_cons, or_false, implies_true, and_true, true_and, Nat.le_refl, List.setIfInBounds_toArray, List.set_cons_zero, List.set_cons_succ] at hF)
  go_wp2_with (first | ((with_reducible refine kn_list_set ?_); (try clear hF); clear hL; intro W hL; (try simp only [List.setIfInBounds_toArray, List.set_cons_zero, List.set_cons_succ] at hL); have hF := hL.facts; (try simp only [Facts, Dist, List.map_cons, List.map_nil, List.forall_mem_cons, false_implies, ne_eq, not_false_eq_true, List.not_mem_nil, not_false_eq_true, true_implies, forall_const, List.mem_cons, or_false, implies_true, and_true, true_and, Nat.le_refl, List.setIfInBounds_toArray, List.set_cons_zero, List.set_cons_succ] at hF)) | (go_at_call 25; refine kn_calls ?_; (try clear hF); clear hL; intro W hL; (try simp only [List.setIfInBounds_toArray, List.set_cons_zero, List.set_cons_succ] at hL); have hF := hL.facts; (try simp only [Facts, Dist, List.map_cons, List.map_nil, List.forall_mem_cons, false_implies, ne_eq, not_false_eq_true, List.not_mem_nil, not_false_eq_true, true_implies, forall_const, List.mem_cons, or_false, implies_true, and_true, true_and, Nat.le_refl, List.setIfInBounds_toArray, List.set_cons_zero, List.set_cons_succ] at hF); (with_reducible refine (clean_any _ _ _ _ _ _ _ _ _ _).mono ?_); rintro e W ⟨rfl, hb⟩; replace hL := hL.below hb; clear hb; (try clear hF); (try simp only [List.setIfInBounds_toArray, List.set_cons_zero, List.set_cons_succ] at hL); have hF := hL.facts; (try simp only [Facts, Dist, List.map_cons, List.map_nil, List.forall_mem_cons, false_implies, ne_eq, not_false_eq_true, List.not_mem_nil, not_false_eq_true, true_implies, forall_const, List.mem_cons, or_false, implies_true, and_true, true_and, Nat.le_refl, List.setIfInBounds_toArray, List.set_cons_zero, List.set_cons_succ] at hF)) | (go_at_call 26; refine kn_calls ?_; (try clear hF); clear hL; intro W hL; (try simp only [List.setIfInBounds_toArray, List.set_cons_zero, List.set_cons_succ] at hL); have hF := hL.facts; (try simp only [Facts, Dist, List.map_cons, List.map_nil, List.forall_mem_cons, false_implies, ne_eq, not_false_eq_true, List.not_mem_nil, not_false_eq_true, true_implies, forall_const, List.mem_cons, or_false, implies_true, and_true, true_and, Nat.le_refl, List.setIfInBounds_toArray, List.set_cons_zero, List.set_cons_succ] at hF); (with_reducible refine (refValid_any _ _ _ _ _).mono ?_); rintro e W ⟨rfl, hb⟩; replace hL := hL.below hb; clear hb; (try clear hF); (try simp only [List.setIfInBounds_toArray, List.set_cons_zero, List.set_cons_succ] at hL); have hF := hL.facts; (try simp only [Facts, Dist, List.map_cons, List.map_nil, List.forall_mem_cons, false_implies, ne_eq, not_false_eq_true, List.not_mem_nil, not_false_eq_true, true_implies, forall_const, List.mem_cons, or_false, implies_true, and_true, true_and, Nat.le_refl, List.setIfInBounds_toArray, List.set_cons_zero, List.set_cons_succ] at hF)) | (go_at_call 29; (with_reducible refine (refWrap_any _ _).mono ?_); rintro e w' ⟨rfl, rfl⟩))
  all_goals (try simp only [Exit.inBlock, Exit.then]); refine bodyPost_ret (by simp [results, Tryd.results14, go_sem, *]; try rfl) rfl ?_
  all_goals refine ⟨?_, kn_here.below0⟩
  all_goals (try simp only [w0])
  all_goals rw [HX.out]
  all_goals rfl

end Go.Proofs.YtibaebgihbdphaaDoor
