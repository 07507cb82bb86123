import Derived.Test.YtibaebgihbdphaaDoorProg
import Derived.WalkKit
import Derived.Handy
import Derived.Deep.Light
import Derived.WalkSmall
import Derived.Lib.Hide
import Derived.Test.YtibaebgihbdphaaDoorSt
import Derived.Test.YtibaebgihbdphaaDoorCpu0
import Derived.Test.YtibaebgihbdphaaDoorCpuX
import Derived.Test.YtibaebgihbdphaaDoorCpuL
import Derived.Test.YtibaebgihbdphaaDoorCpuW
import Derived.Test.YtibaebgihbdphaaDoorCpuE
import Derived.Test.YtibaebgihbdphaaDoorCpuQ
import Derived.Test.YtibaebgihbdphaaDoorCpuS
import Derived.Test.YtibaebgihbdphaaDoorCpuP
import Derived.Test.YtibaebgihbdphaaDoorCpuV
import Derived.Test.YtibaebgihbdphaaDoorCpuPb
import Derived.Test.YtibaebgihbdphaaDoorCpuPc
namespace Go.Proofs.YtibaebgihbdphaaDoor
open Go Go.RowKit
set_option linter.unusedSimpArgs false
set_option linter.unusedVariables false

set_option maxRecDepth 20000 in
set_option maxHeartbeats 4000000 in
theorem num_divA (a b : Int) (r : Rg) (w : World) (hT : Tab w) (ha : isW a = true) (hb : isW b = true) (h0 : b ≠ 0) (h1 : a ≠ -2147483648) :
    Calls Tryd.prog 3 #[.int .i64 a, .int .i64 b, .agg #[.int .i64 r.r0, .int .i64 r.r1, .int .i64 r.r2, .int .i64 r.r3, .int .i64 r.r4, .int .i64 r.r5, .int .i64 r.r6, .int .i64 r.r7, .int .i64 r.pc]] w fun e w' => e = .returned (.bool true) ∧ Below w.heap.size w w' := by
  have hg := @get_sel
  have hx := @and31
  have hy := @and32
  have hbd : -2147483648 ≤ a ∧ a < 2147483648 := by simpa [isW] using ha
  have hbd2 : -2147483648 ≤ b ∧ b < 2147483648 := by simpa [isW] using hb
  have hk0 : 0 ≤ b % 32 := by omega
  have hk1 : b % 32 < 32 := by omega
  obtain ⟨s1, Hs1⟩ : ∃ s, (execS 17 6 2 1 (execS 16 5 1 2 (execS 11 4 4 2 (execS 11 4 1 2 (execS 5 3 3 2 (execS 4 3 1 2 (withAB r a b)).1).1).1).1).1).1 = s := ⟨_, rfl⟩
  obtain ⟨p1, p2, p3⟩ := numbers_plain r a b ha hb s1 Hs1
  obtain ⟨s2, Hs2⟩ : ∃ s, (execS 13 3 3 2 (execS 12 3 1 2 (withAB r a b)).1).1 = s := ⟨_, rfl⟩
  have p4 := shift_plain r a b ha hb s2 Hs2
  have R1 : Hid (∀ W, Tab W → ∀ sb, W.heap[sb]? = some (.cells #[.int .i64 4, .int .i64 3, .int .i64 1, .int .i64 2, .int .i64 5, .int .i64 3, .int .i64 3, .int .i64 2, .int .i64 11, .int .i64 4, .int .i64 1, .int .i64 2, .int .i64 11, .int .i64 4, .int .i64 4, .int .i64 2, .int .i64 16, .int .i64 5, .int .i64 1, .int .i64 2, .int .i64 17, .int .i64 6, .int .i64 2, .int .i64 1] 29 (0, 0)) → Calls Tryd.prog 10 #[.agg #[.int .i64 r.r0, .int .i64 a, .int .i64 b, .int .i64 r.r3, .int .i64 r.r4, .int .i64 r.r5, .int .i64 r.r6, .int .i64 r.r7, .int .i64 r.pc], .slice (some ⟨sb, 0, none⟩) 6 6] W fun e w' => e = .returned (.agg #[.int .i64 s1.r0, .int .i64 s1.r1, .int .i64 s1.r2, .int .i64 s1.r3, .int .i64 s1.r4, .int .i64 s1.r5, .int .i64 s1.r6, .int .i64 s1.r7, .int .i64 s1.pc]) ∧ Below W.heap.size W w') :=
    fun W h sb hs => (run6_any (withAB r a b) _ _ _ _ _ _ _ _ _ _ _ _ _ _ _ _ _ _ _ _ _ _ _ _ sb W h hs).mono fun e w' ⟨s, h1, h2, h3⟩ => by rw [Hs1] at h1; subst h1; exact ⟨h2, h3⟩
  have R2 : Hid (∀ W, Tab W → ∀ sb, W.heap[sb]? = some (.cells #[.int .i64 12, .int .i64 3, .int .i64 1, .int .i64 2, .int .i64 13, .int .i64 3, .int .i64 3, .int .i64 2] 29 (0, 0)) → Calls Tryd.prog 10 #[.agg #[.int .i64 r.r0, .int .i64 a, .int .i64 b, .int .i64 r.r3, .int .i64 r.r4, .int .i64 r.r5, .int .i64 r.r6, .int .i64 r.r7, .int .i64 r.pc], .slice (some ⟨sb, 0, none⟩) 2 2] W fun e w' => e = .returned (.agg #[.int .i64 s2.r0, .int .i64 s2.r1, .int .i64 s2.r2, .int .i64 s2.r3, .int .i64 s2.r4, .int .i64 s2.r5, .int .i64 s2.r6, .int .i64 s2.r7, .int .i64 s2.pc]) ∧ Below W.heap.size W w') :=
    fun W h sb hs => (run2_any (withAB r a b) _ _ _ _ _ _ _ _ sb W h hs).mono fun e w' ⟨s, h1, h2, h3⟩ => by rw [Hs2] at h1; subst h1; exact ⟨h2, h3⟩
  have q1 : (s1.r3 != a) = false := by rw [p1]; simp
  have q2 : (s1.r4 != a) = false := by rw [p2]; simp
  have q3 : (wrap64 (s1.r5 + s1.r6) != 1) = false := by rw [p3]; simp [wrap64]
  have q4 : (s2.r3 % 4294967296 != bits .and .i64 (a % 4294967296) (wrap64 (wrap64 (2 ^ (32 - b % 32).toNat) - 1))) = false := by rw [p4]; simp
  clear p1 p2 p3 p4 Hs1 Hs2
  obtain ⟨s3, Hs3⟩ : ∃ s, (execS 8 4 1 2 (execS 7 3 1 2 (withAB r a b)).1).1 = s := ⟨_, rfl⟩
  obtain ⟨p5, p6⟩ := div_plain r a b ha hb h0 (fun h => h1 h.1) s3 Hs3
  have R3 : Hid (∀ W, Tab W → ∀ sb, W.heap[sb]? = some (.cells #[.int .i64 7, .int .i64 3, .int .i64 1, .int .i64 2, .int .i64 8, .int .i64 4, .int .i64 1, .int .i64 2] 29 (0, 0)) → Calls Tryd.prog 10 #[.agg #[.int .i64 r.r0, .int .i64 a, .int .i64 b, .int .i64 r.r3, .int .i64 r.r4, .int .i64 r.r5, .int .i64 r.r6, .int .i64 r.r7, .int .i64 r.pc], .slice (some ⟨sb, 0, none⟩) 2 2] W fun e w' => e = .returned (.agg #[.int .i64 s3.r0, .int .i64 s3.r1, .int .i64 s3.r2, .int .i64 s3.r3, .int .i64 s3.r4, .int .i64 s3.r5, .int .i64 s3.r6, .int .i64 s3.r7, .int .i64 s3.pc]) ∧ Below W.heap.size W w') :=
    fun W h sb hs => (run2_any (withAB r a b) _ _ _ _ _ _ _ _ sb W h hs).mono fun e w' ⟨s, h1, h2, h3⟩ => by rw [Hs3] at h1; subst h1; exact ⟨h2, h3⟩
  have hsum : s3.r3 * b + s3.r4 = a := by rw [p5, p6, Int.mul_comm]; exact Int.mul_tdiv_add_tmod a b
  have hr := Int.natAbs_tmod a b
  have hbp : 0 < b.natAbs := Int.natAbs_pos.2 h0
  have hrl : (a.tmod b).natAbs < b.natAbs := by rw [hr]; exact Nat.mod_lt _ hbp
  have hrs : (a.tmod b = 0 ∨ 0 < a.tmod b ∧ 0 < a ∨ a.tmod b < 0 ∧ a < 0) := by
    by_cases e : 0 ≤ a
    · have h5 := Int.tmod_nonneg b e
      by_cases e0 : a = 0
      · left; rw [e0]; exact Int.zero_tmod b
      · omega
    · have h5 := Int.tmod_nonneg b (show 0 ≤ -a by omega)
      rw [Int.neg_tmod] at h5; omega
  rw [← p6] at hrl hrs
  have q5 : (wrap64 (wrap64 (s3.r3 * b) + s3.r4) == a) = true := by
    have e : s3.r3 * b = a - s3.r4 := by omega
    rw [e, beq_iff_eq]; unfold wrap64; omega
  clear p5 p6 Hs3 hsum hr
  have z1 : (b == 0) = false := by simpa using h0
  have z2 : (a == -2147483648) = false := by simpa using h1
  have hL : Kn [] w w [] := Kn.refl [] w; (try simp only [List.setIfInBounds_toArray, List.set_cons_zero, List.set_cons_succ] at hL); have hF := hL.facts; (try simp only [Facts, Dist, List.map_cons, List.map_nil, List.forall_mem_cons, false_implies, ne_eq, not_false_eq_true, List.not_mem_nil, not_false_eq_true, true_implies, forall_const, List.mem_cons, or_false, implies_true, and_true, true_and, Nat.le_refl, List.setIfInBounds_toArray, List.set_cons_zero, List.set_cons_succ] at hF); go_enter Tryd.func3, Tryd.ntmps3
  go_wp2_with (first | ((with_reducible refine kn_list_set ?_); (try clear hF); clear hL; intro W hL; (try simp only [List.setIfInBounds_toArray, List.set_cons_zero, List.set_cons_succ] at hL); have hF := hL.facts; (try simp only [Facts, Dist, List.map_cons, List.map_nil, List.forall_mem_cons, false_implies, ne_eq, not_false_eq_true, List.not_mem_nil, not_false_eq_true, true_implies, forall_const, List.mem_cons, or_false, implies_true, and_true, true_and, Nat.le_refl, List.setIfInBounds_toArray, List.set_cons_zero, List.set_cons_succ] at hF)) | (go_at_call 8; refine kn_calls ?_; (try clear hF); clear hL; intro W hL; (try simp only [List.setIfInBounds_toArray, List.set_cons_zero, List.set_cons_succ] at hL); have hF := hL.facts; (try simp only [Facts, Dist, List.map_cons, List.map_nil, List.forall_mem_cons, false_implies, ne_eq, not_false_eq_true, List.not_mem_nil, not_false_eq_true, true_implies, forall_const, List.mem_cons, or_false, implies_true, and_true, true_and, Nat.le_refl, List.setIfInBounds_toArray, List.set_cons_zero, List.set_cons_succ] at hF); (with_reducible refine (small_any _ (hT.ext hL.below0)).mono ?_); rintro e W ⟨rfl, hb⟩; replace hL := hL.below hb; clear hb; (try clear hF); (try simp only [List.setIfInBounds_toArray, List.set_cons_zero, List.set_cons_succ] at hL); have hF := hL.facts; (try simp only [Facts, Dist, List.map_cons, List.map_nil, List.forall_mem_cons, false_implies, ne_eq, not_false_eq_true, List.not_mem_nil, not_false_eq_true, true_implies, forall_const, List.mem_cons, or_false, implies_true, and_true, true_and, Nat.le_refl, List.setIfInBounds_toArray, List.set_cons_zero, List.set_cons_succ] at hF)) | (go_at_call 9; (with_reducible refine (word_any _ _).mono ?_); rintro e w' ⟨rfl, rfl⟩))
  (go_at_call 10; refine kn_calls ?_; (try clear hF); clear hL; intro W hL; (try simp only [List.setIfInBounds_toArray, List.set_cons_zero, List.set_cons_succ] at hL); have hF := hL.facts; (try simp only [Facts, Dist, List.map_cons, List.map_nil, List.forall_mem_cons, false_implies, ne_eq, not_false_eq_true, List.not_mem_nil, not_false_eq_true, true_implies, forall_const, List.mem_cons, or_false, implies_true, and_true, true_and, Nat.le_refl, List.setIfInBounds_toArray, List.set_cons_zero, List.set_cons_succ] at hF); (with_reducible refine Calls.mono (R1.out _ (hT.ext hL.below0) _ (kn_at hL ?_)) ?_); (· (repeat (first | (with_reducible exact List.mem_cons_self) | (with_reducible apply List.mem_cons_of_mem)))); rintro e W ⟨rfl, hb⟩; replace hL := hL.below hb; clear hb; (try clear hF); (try simp only [List.setIfInBounds_toArray, List.set_cons_zero, List.set_cons_succ] at hL); have hF := hL.facts; (try simp only [Facts, Dist, List.map_cons, List.map_nil, List.forall_mem_cons, false_implies, ne_eq, not_false_eq_true, List.not_mem_nil, not_false_eq_true, true_implies, forall_const, List.mem_cons, or_false, implies_true, and_true, true_and, Nat.le_refl, List.setIfInBounds_toArray, List.set_cons_zero, List.set_cons_succ] at hF))
  go_wp2_with (first | ((with_reducible refine kn_list_set ?_); (try clear hF); clear hL; intro W hL; (try simp only [List.setIfInBounds_toArray, List.set_cons_zero, List.set_cons_succ] at hL); have hF := hL.facts; (try simp only [Facts, Dist, List.map_cons, List.map_nil, List.forall_mem_cons, false_implies, ne_eq, not_false_eq_true, List.not_mem_nil, not_false_eq_true, true_implies, forall_const, List.mem_cons, or_false, implies_true, and_true, true_and, Nat.le_refl, List.setIfInBounds_toArray, List.set_cons_zero, List.set_cons_succ] at hF)) | fail)
  (go_at_call 10; refine kn_calls ?_; (try clear hF); clear hL; intro W hL; (try simp only [List.setIfInBounds_toArray, List.set_cons_zero, List.set_cons_succ] at hL); have hF := hL.facts; (try simp only [Facts, Dist, List.map_cons, List.map_nil, List.forall_mem_cons, false_implies, ne_eq, not_false_eq_true, List.not_mem_nil, not_false_eq_true, true_implies, forall_const, List.mem_cons, or_false, implies_true, and_true, true_and, Nat.le_refl, List.setIfInBounds_toArray, List.set_cons_zero, List.set_cons_succ] at hF); (with_reducible refine Calls.mono (R2.out _ (hT.ext hL.below0) _ (kn_at hL ?_)) ?_); (· (repeat (first | (with_reducible exact List.mem_cons_self) | (with_reducible apply List.mem_cons_of_mem)))); rintro e W ⟨rfl, hb⟩; replace hL := hL.below hb; clear hb; (try clear hF); (try simp only [List.setIfInBounds_toArray, List.set_cons_zero, List.set_cons_succ] at hL); have hF := hL.facts; (try simp only [Facts, Dist, List.map_cons, List.map_nil, List.forall_mem_cons, false_implies, ne_eq, not_false_eq_true, List.not_mem_nil, not_false_eq_true, true_implies, forall_const, List.mem_cons, or_false, implies_true, and_true, true_and, Nat.le_refl, List.setIfInBounds_toArray, List.set_cons_zero, List.set_cons_succ] at hF))
  go_wp2_with (first | ((with_reducible refine kn_list_set ?_); (try clear hF); clear hL; intro W hL; (try simp only [List.setIfInBounds_toArray, List.set_cons_zero, List.set_cons_succ] at hL); have hF := hL.facts; (try simp only [Facts, Dist, List.map_cons, List.map_nil, List.forall_mem_cons, false_implies, ne_eq, not_false_eq_true, List.not_mem_nil, not_false_eq_true, true_implies, forall_const, List.mem_cons, or_false, implies_true, and_true, true_and, Nat.le_refl, List.setIfInBounds_toArray, List.set_cons_zero, List.set_cons_succ] at hF)) | fail)
  go_quiet (fail)
  go_wp2_with (first | ((with_reducible refine kn_list_set ?_); (try clear hF); clear hL; intro W hL; (try simp only [List.setIfInBounds_toArray, List.set_cons_zero, List.set_cons_succ] at hL); have hF := hL.facts; (try simp only [Facts, Dist, List.map_cons, List.map_nil, List.forall_mem_cons, false_implies, ne_eq, not_false_eq_true, List.not_mem_nil, not_false_eq_true, true_implies, forall_const, List.mem_cons, or_false, implies_true, and_true, true_and, Nat.le_refl, List.setIfInBounds_toArray, List.set_cons_zero, List.set_cons_succ] at hF)) | fail)
  (go_at_call 10; refine kn_calls ?_; (try clear hF); clear hL; intro W hL; (try simp only [List.setIfInBounds_toArray, List.set_cons_zero, List.set_cons_succ] at hL); have hF := hL.facts; (try simp only [Facts, Dist, List.map_cons, List.map_nil, List.forall_mem_cons, false_implies, ne_eq, not_false_eq_true, List.not_mem_nil, not_false_eq_true, true_implies, forall_const, List.mem_cons, or_false, implies_true, and_true, true_and, Nat.le_refl, List.setIfInBounds_toArray, List.set_cons_zero, List.set_cons_succ] at hF); (with_reducible refine Calls.mono (R3.out _ (hT.ext hL.below0) _ (kn_at hL ?_)) ?_); (· (repeat (first | (with_reducible exact List.mem_cons_self) | (with_reducible apply List.mem_cons_of_mem)))); rintro e W ⟨rfl, hb⟩; replace hL := hL.below hb; clear hb; (try clear hF); (try simp only [List.setIfInBounds_toArray, List.set_cons_zero, List.set_cons_succ] at hL); have hF := hL.facts; (try simp only [Facts, Dist, List.map_cons, List.map_nil, List.forall_mem_cons, false_implies, ne_eq, not_false_eq_true, List.not_mem_nil, not_false_eq_true, true_implies, forall_const, List.mem_cons, or_false, implies_true, and_true, true_and, Nat.le_refl, List.setIfInBounds_toArray, List.set_cons_zero, List.set_cons_succ] at hF))
  rcases hrs with hrs | ⟨hrs, hra⟩ | ⟨hrs, hra⟩
  · have n1 : (s3.r4 == 0) = true := by rw [hrs]; rfl
    have n2 : ¬ s3.r4 < 0 := by omega
    have n3 : s3.r4 ≤ 0 := by omega
    clear hrs
    by_cases hbs : b < 0
    all_goals
      go_wp2_with (first | ((with_reducible refine kn_list_set ?_); (try clear hF); clear hL; intro W hL; (try simp only [List.setIfInBounds_toArray, List.set_cons_zero, List.set_cons_succ] at hL); have hF := hL.facts; (try simp only [Facts, Dist, List.map_cons, List.map_nil, List.forall_mem_cons, false_implies, ne_eq, not_false_eq_true, List.not_mem_nil, not_false_eq_true, true_implies, forall_const, List.mem_cons, or_false, implies_true, and_true, true_and, Nat.le_refl, List.setIfInBounds_toArray, List.set_cons_zero, List.set_cons_succ] at hF)) | fail)
      go_returns
      refine ⟨?_, kn_here.below0⟩
      first | rfl | (simp_all; done) | (simp; done) | (simp; omega)
  · have n1 : (s3.r4 == 0) = false := by simp; omega
    by_cases hbs : b < 0
    all_goals
      go_wp2_with (first | ((with_reducible refine kn_list_set ?_); (try clear hF); clear hL; intro W hL; (try simp only [List.setIfInBounds_toArray, List.set_cons_zero, List.set_cons_succ] at hL); have hF := hL.facts; (try simp only [Facts, Dist, List.map_cons, List.map_nil, List.forall_mem_cons, false_implies, ne_eq, not_false_eq_true, List.not_mem_nil, not_false_eq_true, true_implies, forall_const, List.mem_cons, or_false, implies_true, and_true, true_and, Nat.le_refl, List.setIfInBounds_toArray, List.set_cons_zero, List.set_cons_succ] at hF)) | fail)
      go_returns
      refine ⟨?_, kn_here.below0⟩
      first | rfl | (simp_all; done) | (simp; done) | (simp; omega)
  · have n1 : (s3.r4 == 0) = false := by simp; omega
    by_cases hbs : b < 0
    all_goals
      go_wp2_with (first | ((with_reducible refine kn_list_set ?_); (try clear hF); clear hL; intro W hL; (try simp only [List.setIfInBounds_toArray, List.set_cons_zero, List.set_cons_succ] at hL); have hF := hL.facts; (try simp only [Facts, Dist, List.map_cons, List.map_nil, List.forall_mem_cons, false_implies, ne_eq, not_false_eq_true, List.not_mem_nil, not_false_eq_true, true_implies, forall_const, List.mem_cons, or_false, implies_true, and_true, true_and, Nat.le_refl, List.setIfInBounds_toArray, List.set_cons_zero, List.set_cons_succ] at hF)) | fail)
      go_returns
      refine ⟨?_, kn_here.below0⟩
      first | rfl | (simp_all; done) | (simp; done) | (simp; omega)

end Go.Proofs.YtibaebgihbdphaaDoor
