import Derived.Test.YtbmonkhnmaamnaaDoorProg
import Derived.WalkKit
import Derived.Handy
import Derived.Deep.Light
import Derived.WalkSmall
import Derived.StillTailTactics
import Derived.Lib.Hide
import Derived.Test.YtbmonkhnmaamnaaDoorReg
import Derived.Test.YtbmonkhnmaamnaaDoorIsa0
import Derived.Test.YtbmonkhnmaamnaaDoorIsa7b
import Derived.Test.YtbmonkhnmaamnaaDoorIt
import Derived.Laws.BytesArg
import Derived.Deep.Cut
namespace Go.Proofs.YtbmonkhnmaamnaaDoor
open Go Go.RowKit
set_option linter.unusedSimpArgs false
set_option linter.unusedVariables false

theorem conv1 (w : World) (x : Int) : (convert 40 9 (.slice (some ⟨w.heap.size, 0, none⟩) 1 1)).run Tryd.prog (w.alloc (.cells #[.int .u8 x] 5)) =
    .ok (.string ⟨#[UInt8.ofNat x.toNat]⟩) (w.alloc (.cells #[.int .u8 x] 5)) :=
  run_convert_bytes_arg (P := Tryd.prog) _ 40 5 Tryd.underlying40 Tryd.underlying5 w.heap.size 0 1 1 [x] rfl (fun i hi => by
    have : i = 0 := by omega
    subst this; rw [World.cell?_alloc_new]; rfl) 9 Tryd.underlying9
theorem refDec_small (n : Int) (h0 : 0 ≤ n) (h1 : n < 10) (w : World) :
    Calls Tryd.prog 31 #[.int .i64 n] w fun e w' => e = .returned (.string (numS n)) ∧ Below w.heap.size w w' := by
  have hcv := conv1
  have hL : Kn [] w w [] := Kn.refl [] w; (try simp only [List.setIfInBounds_toArray, List.set_cons_zero, List.set_cons_succ, List.cons_append, List.nil_append] at hL); have hF := hL.facts; (try simp only [Facts, Dist, List.map_cons, List.map_nil, List.forall_mem_cons, false_implies, ne_eq, not_false_eq_true, List.not_mem_nil, not_false_eq_true, true_implies, forall_const, List.mem_cons, or_false, implies_true, and_true, true_and, Nat.le_refl, List.setIfInBounds_toArray, List.set_cons_zero, List.set_cons_succ] at hF); go_enter Tryd.func31, Tryd.ntmps31
  go_wp2
  (try simp only [Exit.inBlock, Exit.then]); refine bodyPost_ret (by simp [results, Tryd.results31, go_sem, *]; try rfl) rfl ?_
  refine ⟨?_, kn_here.below0⟩
  have e : numS n = ⟨#[UInt8.ofNat ((48 + n).toNat)]⟩ := by
    obtain ⟨k, rfl⟩ := Int.eq_ofNat_of_zero_le h0
    unfold numS Lib.itoa
    rw [if_neg (by omega), Lib.decDigits, dif_pos (by simp; omega)]
    rfl
  rw [e]
theorem toList_app (x y : ByteArray) : (x ++ y).data.toList = x.data.toList ++ y.data.toList := by simp
theorem ba_ext {x y : ByteArray} (h : x.data.toList = y.data.toList) : x = y := by
  cases x; cases y; congr 1; exact Array.toList_inj.1 h
theorem digits_step (k : Nat) (h : 10 ≤ k) : Lib.decDigits k = Lib.decDigits (k / 10) ++ Lib.decDigits (k % 10) := by
  rw [Lib.decDigits, dif_neg (by omega)]
  congr 1
  rw [Lib.decDigits, dif_pos (by omega)]
theorem numS_list (n : Int) : (numS n).data.toList = Lib.itoa n := rfl
theorem numS_pos (n : Int) (h : 10 ≤ n) : numS n = numS (n / 10) ++ numS (n % 10) := by
  apply ba_ext
  rw [toList_app, numS_list, numS_list, numS_list]
  obtain ⟨k, rfl⟩ := Int.eq_ofNat_of_zero_le (show 0 ≤ n by omega)
  unfold Lib.itoa
  rw [if_neg (by omega), if_neg (by omega), if_neg (by omega)]
  have e1 : ((k : Int) / 10).toNat = k / 10 := by omega
  have e2 : ((k : Int) % 10).toNat = k % 10 := by omega
  rw [e1, e2, Int.toNat_natCast]
  exact digits_step k (by omega)
theorem numS_low (n : Int) (h : n < 0) : numS n = (⟨#[45]⟩ : ByteArray) ++ numS (-n) := by
  apply ba_ext
  rw [toList_app, numS_list, numS_list]
  unfold Lib.itoa
  rw [if_pos h, if_neg (by omega)]
  have e1 : (-n).toNat = n.natAbs := by omega
  rw [e1]; rfl
theorem tdiv_low (n : Int) (h : n ≤ 0) : n.tdiv 10 = -((-n) / 10) := by
  have := Int.neg_tdiv (-n) 10
  rw [Int.neg_neg] at this
  rw [this, Int.tdiv_eq_ediv_of_nonneg (by omega)]
theorem tmod_low (n : Int) (h : n ≤ 0) : n.tmod 10 = -((-n) % 10) := by
  have := Int.neg_tmod (-n) 10
  rw [Int.neg_neg] at this
  rw [this, Int.tmod_eq_emod_of_nonneg (by omega)]
theorem numS_neg (n : Int) (h : n ≤ -10) : numS n = numS (n.tdiv 10) ++ numS (-(n.tmod 10)) := by
  obtain ⟨k, rfl⟩ : ∃ k : Nat, n = -(k : Int) := ⟨n.natAbs, by omega⟩
  have e0 : (-(k : Int)).tdiv 10 = -((k / 10 : Nat) : Int) := by rw [Int.neg_tdiv]; simp [Int.tdiv_eq_ediv]
  have e1 : -((-(k : Int)).tmod 10) = ((k % 10 : Nat) : Int) := by rw [Int.neg_tmod]; simp [Int.tmod_eq_emod]
  rw [e0, e1]
  apply ba_ext
  rw [toList_app, numS_list, numS_list, numS_list]
  unfold Lib.itoa
  rw [if_pos (by omega), if_pos (by omega), if_neg (by omega)]
  have a1 : (-(k : Int)).natAbs = k := by omega
  have a2 : (-((k / 10 : Nat) : Int)).natAbs = k / 10 := by omega
  rw [a1, a2, Int.toNat_natCast, digits_step k (by omega)]
  rfl
theorem refDec_pos (n : Int) (h10 : 10 ≤ n) (h0 : -9223372036854775808 ≤ n) (h1 : n ≤ 9223372036854775807) (w : World)
    (H0 : ∀ W, Calls Tryd.prog 31 #[.int .i64 (n / 10)] W fun e w' => e = .returned (.string (numS (n / 10))) ∧ Below W.heap.size W w')
    (H1 : ∀ W, Calls Tryd.prog 31 #[.int .i64 (n % 10)] W fun e w' => e = .returned (.string (numS (n % 10))) ∧ Below W.heap.size W w') :
    Calls Tryd.prog 31 #[.int .i64 n] w fun e w' => e = .returned (.string (numS n)) ∧ Below w.heap.size w w' := by
  obtain ⟨s0, hs0⟩ : ∃ x, numS (n / 10) = x := ⟨_, rfl⟩
  have hz0 : s0.size ≤ 22 := by rw [← hs0]; exact num_sz (n / 10) ⟨by omega, by omega⟩
  have K0 := Lib.hid (hs0 ▸ H0)
  obtain ⟨s1, hs1⟩ : ∃ x, numS (n % 10) = x := ⟨_, rfl⟩
  have hz1 : s1.size ≤ 22 := by rw [← hs1]; exact num_sz (n % 10) ⟨by omega, by omega⟩
  have K1 := Lib.hid (hs1 ▸ H1)
  have HE : Hid (numS n = s0 ++ s1) := Lib.hid (by rw [← hs0, ← hs1]; exact numS_pos n h10)
  clear hs0 H0 hs1 H1
  have hL : Kn [] w w [] := Kn.refl [] w; (try simp only [List.setIfInBounds_toArray, List.set_cons_zero, List.set_cons_succ, List.cons_append, List.nil_append] at hL); have hF := hL.facts; (try simp only [Facts, Dist, List.map_cons, List.map_nil, List.forall_mem_cons, false_implies, ne_eq, not_false_eq_true, List.not_mem_nil, not_false_eq_true, true_implies, forall_const, List.mem_cons, or_false, implies_true, and_true, true_and, Nat.le_refl, List.setIfInBounds_toArray, List.set_cons_zero, List.set_cons_succ] at hF); go_enter Tryd.func31, Tryd.ntmps31
  go_wp2_with (first | ((with_reducible refine kn_list_set ?_); (try clear hF); clear hL; intro W hL; (try simp only [List.setIfInBounds_toArray, List.set_cons_zero, List.set_cons_succ, List.cons_append, List.nil_append] at hL); have hF := hL.facts; (try simp only [Facts, Dist, List.map_cons, List.map_nil, List.forall_mem_cons, false_implies, ne_eq, not_false_eq_true, List.not_mem_nil, not_false_eq_true, true_implies, forall_const, List.mem_cons, or_false, implies_true, and_true, true_and, Nat.le_refl, List.setIfInBounds_toArray, List.set_cons_zero, List.set_cons_succ] at hF)) | (go_at_call 31; refine kn_calls ?_; (try clear hF); clear hL; intro W hL; (try simp only [List.setIfInBounds_toArray, List.set_cons_zero, List.set_cons_succ, List.cons_append, List.nil_append] at hL); have hF := hL.facts; (try simp only [Facts, Dist, List.map_cons, List.map_nil, List.forall_mem_cons, false_implies, ne_eq, not_false_eq_true, List.not_mem_nil, not_false_eq_true, true_implies, forall_const, List.mem_cons, or_false, implies_true, and_true, true_and, Nat.le_refl, List.setIfInBounds_toArray, List.set_cons_zero, List.set_cons_succ] at hF); (with_reducible refine (K0.out _).mono ?_); rintro e W ⟨rfl, hb⟩; replace hL := hL.below hb; clear hb; (try clear hF); (try simp only [List.setIfInBounds_toArray, List.set_cons_zero, List.set_cons_succ, List.cons_append, List.nil_append] at hL); have hF := hL.facts; (try simp only [Facts, Dist, List.map_cons, List.map_nil, List.forall_mem_cons, false_implies, ne_eq, not_false_eq_true, List.not_mem_nil, not_false_eq_true, true_implies, forall_const, List.mem_cons, or_false, implies_true, and_true, true_and, Nat.le_refl, List.setIfInBounds_toArray, List.set_cons_zero, List.set_cons_succ] at hF)) | (go_at_call 31; refine kn_calls ?_; (try clear hF); clear hL; intro W hL; (try simp only [List.setIfInBounds_toArray, List.set_cons_zero, List.set_cons_succ, List.cons_append, List.nil_append] at hL); have hF := hL.facts; (try simp only [Facts, Dist, List.map_cons, List.map_nil, List.forall_mem_cons, false_implies, ne_eq, not_false_eq_true, List.not_mem_nil, not_false_eq_true, true_implies, forall_const, List.mem_cons, or_false, implies_true, and_true, true_and, Nat.le_refl, List.setIfInBounds_toArray, List.set_cons_zero, List.set_cons_succ] at hF); (with_reducible refine (K1.out _).mono ?_); rintro e W ⟨rfl, hb⟩; replace hL := hL.below hb; clear hb; (try clear hF); (try simp only [List.setIfInBounds_toArray, List.set_cons_zero, List.set_cons_succ, List.cons_append, List.nil_append] at hL); have hF := hL.facts; (try simp only [Facts, Dist, List.map_cons, List.map_nil, List.forall_mem_cons, false_implies, ne_eq, not_false_eq_true, List.not_mem_nil, not_false_eq_true, true_implies, forall_const, List.mem_cons, or_false, implies_true, and_true, true_and, Nat.le_refl, List.setIfInBounds_toArray, List.set_cons_zero, List.set_cons_succ] at hF)))
  (try simp only [Exit.inBlock, Exit.then]); refine bodyPost_ret (by simp [results, Tryd.results31, go_sem, *]; try rfl) rfl ?_
  exact ⟨by rw [HE.out], kn_here.below0⟩
theorem refDec_neg (n : Int) (h10 : n ≤ -10) (h0 : -9223372036854775808 ≤ n) (h1 : n ≤ 9223372036854775807) (w : World)
    (H0 : ∀ W, Calls Tryd.prog 31 #[.int .i64 (n.tdiv 10)] W fun e w' => e = .returned (.string (numS (n.tdiv 10))) ∧ Below W.heap.size W w')
    (H1 : ∀ W, Calls Tryd.prog 31 #[.int .i64 (-(n.tmod 10))] W fun e w' => e = .returned (.string (numS (-(n.tmod 10)))) ∧ Below W.heap.size W w') :
    Calls Tryd.prog 31 #[.int .i64 n] w fun e w' => e = .returned (.string (numS n)) ∧ Below w.heap.size w w' := by
  have d1 := tdiv_low n (by omega)
  have d2 := tmod_low n (by omega)
  obtain ⟨s0, hs0⟩ : ∃ x, numS (n.tdiv 10) = x := ⟨_, rfl⟩
  have hz0 : s0.size ≤ 22 := by rw [← hs0]; exact num_sz (n.tdiv 10) ⟨by omega, by omega⟩
  have K0 := Lib.hid (hs0 ▸ H0)
  obtain ⟨s1, hs1⟩ : ∃ x, numS (-(n.tmod 10)) = x := ⟨_, rfl⟩
  have hz1 : s1.size ≤ 22 := by rw [← hs1]; exact num_sz (-(n.tmod 10)) ⟨by omega, by omega⟩
  have K1 := Lib.hid (hs1 ▸ H1)
  have HE : Hid (numS n = s0 ++ s1) := Lib.hid (by rw [← hs0, ← hs1]; exact numS_neg n h10)
  have hw : wrap64 (-(n.tmod 10)) = -(n.tmod 10) := by unfold wrap64; omega
  clear d1 d2 hs0 H0 hs1 H1
  have hL : Kn [] w w [] := Kn.refl [] w; (try simp only [List.setIfInBounds_toArray, List.set_cons_zero, List.set_cons_succ, List.cons_append, List.nil_append] at hL); have hF := hL.facts; (try simp only [Facts, Dist, List.map_cons, List.map_nil, List.forall_mem_cons, false_implies, ne_eq, not_false_eq_true, List.not_mem_nil, not_false_eq_true, true_implies, forall_const, List.mem_cons, or_false, implies_true, and_true, true_and, Nat.le_refl, List.setIfInBounds_toArray, List.set_cons_zero, List.set_cons_succ] at hF); go_enter Tryd.func31, Tryd.ntmps31
  go_wp2_with (first | ((with_reducible refine kn_list_set ?_); (try clear hF); clear hL; intro W hL; (try simp only [List.setIfInBounds_toArray, List.set_cons_zero, List.set_cons_succ, List.cons_append, List.nil_append] at hL); have hF := hL.facts; (try simp only [Facts, Dist, List.map_cons, List.map_nil, List.forall_mem_cons, false_implies, ne_eq, not_false_eq_true, List.not_mem_nil, not_false_eq_true, true_implies, forall_const, List.mem_cons, or_false, implies_true, and_true, true_and, Nat.le_refl, List.setIfInBounds_toArray, List.set_cons_zero, List.set_cons_succ] at hF)) | (go_at_call 31; refine kn_calls ?_; (try clear hF); clear hL; intro W hL; (try simp only [List.setIfInBounds_toArray, List.set_cons_zero, List.set_cons_succ, List.cons_append, List.nil_append] at hL); have hF := hL.facts; (try simp only [Facts, Dist, List.map_cons, List.map_nil, List.forall_mem_cons, false_implies, ne_eq, not_false_eq_true, List.not_mem_nil, not_false_eq_true, true_implies, forall_const, List.mem_cons, or_false, implies_true, and_true, true_and, Nat.le_refl, List.setIfInBounds_toArray, List.set_cons_zero, List.set_cons_succ] at hF); (with_reducible refine (K0.out _).mono ?_); rintro e W ⟨rfl, hb⟩; replace hL := hL.below hb; clear hb; (try clear hF); (try simp only [List.setIfInBounds_toArray, List.set_cons_zero, List.set_cons_succ, List.cons_append, List.nil_append] at hL); have hF := hL.facts; (try simp only [Facts, Dist, List.map_cons, List.map_nil, List.forall_mem_cons, false_implies, ne_eq, not_false_eq_true, List.not_mem_nil, not_false_eq_true, true_implies, forall_const, List.mem_cons, or_false, implies_true, and_true, true_and, Nat.le_refl, List.setIfInBounds_toArray, List.set_cons_zero, List.set_cons_succ] at hF)) | (go_at_call 31; refine kn_calls ?_; (try clear hF); clear hL; intro W hL; (try simp only [List.setIfInBounds_toArray, List.set_cons_zero, List.set_cons_succ, List.cons_append, List.nil_append] at hL); have hF := hL.facts; (try simp only [Facts, Dist, List.map_cons, List.map_nil, List.forall_mem_cons, false_implies, ne_eq, not_false_eq_true, List.not_mem_nil, not_false_eq_true, true_implies, forall_const, List.mem_cons, or_false, implies_true, and_true, true_and, Nat.le_refl, List.setIfInBounds_toArray, List.set_cons_zero, List.set_cons_succ] at hF); (with_reducible refine (K1.out _).mono ?_); rintro e W ⟨rfl, hb⟩; replace hL := hL.below hb; clear hb; (try clear hF); (try simp only [List.setIfInBounds_toArray, List.set_cons_zero, List.set_cons_succ, List.cons_append, List.nil_append] at hL); have hF := hL.facts; (try simp only [Facts, Dist, List.map_cons, List.map_nil, List.forall_mem_cons, false_implies, ne_eq, not_false_eq_true, List.not_mem_nil, not_false_eq_true, true_implies, forall_const, List.mem_cons, or_false, implies_true, and_true, true_and, Nat.le_refl, List.setIfInBounds_toArray, List.set_cons_zero, List.set_cons_succ] at hF)))
  (try simp only [Exit.inBlock, Exit.then]); refine bodyPost_ret (by simp [results, Tryd.results31, go_sem, *]; try rfl) rfl ?_
  exact ⟨by rw [HE.out], kn_here.below0⟩
theorem refDec_low (n : Int) (h10 : -10 < n) (h11 : n < 0) (h0 : -9223372036854775808 ≤ n) (h1 : n ≤ 9223372036854775807) (w : World)
    (H0 : ∀ W, Calls Tryd.prog 31 #[.int .i64 (-n)] W fun e w' => e = .returned (.string (numS (-n))) ∧ Below W.heap.size W w') :
    Calls Tryd.prog 31 #[.int .i64 n] w fun e w' => e = .returned (.string (numS n)) ∧ Below w.heap.size w w' := by
  obtain ⟨s0, hs0⟩ : ∃ x, numS (-n) = x := ⟨_, rfl⟩
  have hz0 : s0.size ≤ 22 := by rw [← hs0]; exact num_sz (-n) ⟨by omega, by omega⟩
  have K0 := Lib.hid (hs0 ▸ H0)
  have HE : Hid (numS n = (⟨#[45]⟩ : ByteArray) ++ s0) := Lib.hid (by rw [← hs0]; exact numS_low n h11)
  clear hs0 H0
  have hL : Kn [] w w [] := Kn.refl [] w; (try simp only [List.setIfInBounds_toArray, List.set_cons_zero, List.set_cons_succ, List.cons_append, List.nil_append] at hL); have hF := hL.facts; (try simp only [Facts, Dist, List.map_cons, List.map_nil, List.forall_mem_cons, false_implies, ne_eq, not_false_eq_true, List.not_mem_nil, not_false_eq_true, true_implies, forall_const, List.mem_cons, or_false, implies_true, and_true, true_and, Nat.le_refl, List.setIfInBounds_toArray, List.set_cons_zero, List.set_cons_succ] at hF); go_enter Tryd.func31, Tryd.ntmps31
  go_wp2_with (first | ((with_reducible refine kn_list_set ?_); (try clear hF); clear hL; intro W hL; (try simp only [List.setIfInBounds_toArray, List.set_cons_zero, List.set_cons_succ, List.cons_append, List.nil_append] at hL); have hF := hL.facts; (try simp only [Facts, Dist, List.map_cons, List.map_nil, List.forall_mem_cons, false_implies, ne_eq, not_false_eq_true, List.not_mem_nil, not_false_eq_true, true_implies, forall_const, List.mem_cons, or_false, implies_true, and_true, true_and, Nat.le_refl, List.setIfInBounds_toArray, List.set_cons_zero, List.set_cons_succ] at hF)) | (go_at_call 31; refine kn_calls ?_; (try clear hF); clear hL; intro W hL; (try simp only [List.setIfInBounds_toArray, List.set_cons_zero, List.set_cons_succ, List.cons_append, List.nil_append] at hL); have hF := hL.facts; (try simp only [Facts, Dist, List.map_cons, List.map_nil, List.forall_mem_cons, false_implies, ne_eq, not_false_eq_true, List.not_mem_nil, not_false_eq_true, true_implies, forall_const, List.mem_cons, or_false, implies_true, and_true, true_and, Nat.le_refl, List.setIfInBounds_toArray, List.set_cons_zero, List.set_cons_succ] at hF); (with_reducible refine (K0.out _).mono ?_); rintro e W ⟨rfl, hb⟩; replace hL := hL.below hb; clear hb; (try clear hF); (try simp only [List.setIfInBounds_toArray, List.set_cons_zero, List.set_cons_succ, List.cons_append, List.nil_append] at hL); have hF := hL.facts; (try simp only [Facts, Dist, List.map_cons, List.map_nil, List.forall_mem_cons, false_implies, ne_eq, not_false_eq_true, List.not_mem_nil, not_false_eq_true, true_implies, forall_const, List.mem_cons, or_false, implies_true, and_true, true_and, Nat.le_refl, List.setIfInBounds_toArray, List.set_cons_zero, List.set_cons_succ] at hF)))
  (try simp only [Exit.inBlock, Exit.then]); refine bodyPost_ret (by simp [results, Tryd.results31, go_sem, *]; try rfl) rfl ?_
  exact ⟨by rw [HE.out], kn_here.below0⟩
theorem refDec_any : ∀ (m : Nat) (n : Int), n.natAbs ≤ m → -9223372036854775808 ≤ n → n ≤ 9223372036854775807 → ∀ w : World,
    Calls Tryd.prog 31 #[.int .i64 n] w fun e w' => e = .returned (.string (numS n)) ∧ Below w.heap.size w w' := by
  intro m
  induction m with
  | zero => intro n hm h0 h1 w; exact refDec_small n (by omega) (by omega) w
  | succ m ih =>
    intro n hm h0 h1 w
    by_cases c1 : 0 ≤ n ∧ n < 10
    · exact refDec_small n c1.1 c1.2 w
    · by_cases c2 : 10 ≤ n
      · exact refDec_pos n c2 h0 h1 w (fun W => ih (n / 10) (by omega) (by omega) (by omega) W) (fun W => refDec_small (n % 10) (by omega) (by omega) W)
      · by_cases c3 : n ≤ -10
        · have d1 := tdiv_low n (by omega)
          have d2 := tmod_low n (by omega)
          exact refDec_neg n c3 h0 h1 w (fun W => ih (n.tdiv 10) (by omega) (by omega) (by omega) W) (fun W => refDec_small (-(n.tmod 10)) (by omega) (by omega) W)
        · exact refDec_low n (by omega) (by omega) h0 h1 w (fun W => refDec_small (-n) (by omega) (by omega) W)
theorem refDecimal_any (n : Int) (h : -9223372036854775808 ≤ n ∧ n ≤ 9223372036854775807) (w : World) :
    Calls Tryd.prog 31 #[.int .i64 n] w fun e w' => e = .returned (.string (numS n)) ∧ Below w.heap.size w w' := refDec_any n.natAbs n (Nat.le_refl _) h.1 h.2 w

end Go.Proofs.YtbmonkhnmaamnaaDoor
