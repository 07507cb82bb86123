import Derived.Test.YtjkohbecmaegmaaDoorProg
import Derived.WalkKit
import Derived.Handy
import Derived.Deep.Light
import Derived.WalkSmall
import Derived.StillTailTactics
import Derived.Lib.Hide
import Derived.Test.YtjkohbecmaegmaaDoorT0
import Derived.Test.YtjkohbecmaegmaaDoorIt
import Derived.Test.YtjkohbecmaegmaaDoorR10X
import Derived.Laws.BytesArg
namespace Go.Proofs.YtjkohbecmaegmaaDoor
open Go Go.RowKit
set_option linter.unusedSimpArgs false
set_option linter.unusedVariables false

theorem num_sz (n : Int) (h : -9223372036854775808 ≤ n ∧ n ≤ 9223372036854775807) : (numS n).size ≤ 22 := by
  have := Lib.itoa_length_le n h.1 h.2
  have e : (numS n).size = (Lib.itoa n).length := by rw [← szl]; rfl
  omega

theorem conv1 (w : World) (x : Int) : (convert 42 9 (.slice (some ⟨w.heap.size, 0, none⟩) 1 1)).run Tryd.prog (w.alloc (.cells #[.int .u8 x] 5)) =
    .ok (.string ⟨#[UInt8.ofNat x.toNat]⟩) (w.alloc (.cells #[.int .u8 x] 5)) :=
  run_convert_bytes_arg (P := Tryd.prog) _ 42 5 Tryd.underlying42 Tryd.underlying5 w.heap.size 0 1 1 [x] rfl (fun i hi => by
    have : i = 0 := by omega
    subst this; rw [World.cell?_alloc_new]; rfl) 9 Tryd.underlying9
theorem refDec_small (n : Int) (h0 : 0 ≤ n) (h1 : n < 10) (w : World) :
    Calls Tryd.prog 23 #[.int .i64 n] w fun e w' => e = .returned (.string (numS n)) ∧ Below w.heap.size w w' := by
  have hcv := conv1
  have hL : Kn [] w w [] := Kn.refl [] w; (try simp only [List.setIfInBounds_toArray, List.set_cons_zero, List.set_cons_succ, List.cons_append, List.nil_append] at hL); have hF := hL.facts; (try simp only [Facts, Dist, List.map_cons, List.map_nil, List.forall_mem_cons, false_implies, ne_eq, not_false_eq_true, List.not_mem_nil, not_false_eq_true, true_implies, forall_const, List.mem_cons, or_false, implies_true, and_true, true_and, Nat.le_refl, List.setIfInBounds_toArray, List.set_cons_zero, List.set_cons_succ] at hF); go_enter Tryd.func23, Tryd.ntmps23
  go_wp2
  (try simp only [Exit.inBlock, Exit.then]); refine bodyPost_ret (by simp [results, Tryd.results23, go_sem, *]; try rfl) rfl ?_
  refine ⟨?_, kn_here.below0⟩
  have e : numS n = ⟨#[UInt8.ofNat ((48 + n).toNat)]⟩ := by
    obtain ⟨k, rfl⟩ := Int.eq_ofNat_of_zero_le h0
    unfold numS Lib.itoa
    rw [if_neg (by omega), Lib.decDigits, dif_pos (by simp; omega)]
    rfl
  rw [e]
theorem toList_app (x y : ByteArray) : (x ++ y).data.toList = x.data.toList ++ y.data.toList := by simp
theorem digits_step (k : Nat) (h : 10 ≤ k) : Lib.decDigits k = Lib.decDigits (k / 10) ++ Lib.decDigits (k % 10) := by
  rw [Lib.decDigits, dif_neg (by omega)]
  congr 1
  rw [Lib.decDigits, dif_pos (by omega)]
theorem numS_list (n : Int) : (numS n).data.toList = Lib.itoa n := rfl
theorem numS_pos (n : Int) (h : 10 ≤ n) : numS n = numS (n / 10) ++ numS (n % 10) := by
  apply ba_ext
  rw [toList_app, numS_list, numS_list, numS_list]
  obtain ⟨k, rfl⟩ := Int.eq_ofNat_of_zero_le (show 0 ≤ n by omega)
  unfold Lib.itoa
  rw [if_neg (by omega), if_neg (by omega), if_neg (by omega)]
  have e1 : ((k : Int) / 10).toNat = k / 10 := by omega
  have e2 : ((k : Int) % 10).toNat = k % 10 := by omega
  rw [e1, e2, Int.toNat_natCast]
  exact digits_step k (by omega)
theorem numS_low (n : Int) (h : n < 0) : numS n = (⟨#[45]⟩ : ByteArray) ++ numS (-n) := by
  apply ba_ext
  rw [toList_app, numS_list, numS_list]
  unfold Lib.itoa
  rw [if_pos h, if_neg (by omega)]
  have e1 : (-n).toNat = n.natAbs := by omega
  rw [e1]; rfl
theorem tdiv_low (n : Int) (h : n ≤ 0) : n.tdiv 10 = -((-n) / 10) := by
  have := Int.neg_tdiv (-n) 10
  rw [Int.neg_neg] at this
  rw [this, Int.tdiv_eq_ediv_of_nonneg (by omega)]
theorem tmod_low (n : Int) (h : n ≤ 0) : n.tmod 10 = -((-n) % 10) := by
  have := Int.neg_tmod (-n) 10
  rw [Int.neg_neg] at this
  rw [this, Int.tmod_eq_emod_of_nonneg (by omega)]
theorem numS_neg (n : Int) (h : n ≤ -10) : numS n = numS (n.tdiv 10) ++ numS (-(n.tmod 10)) := by
  obtain ⟨k, rfl⟩ : ∃ k : Nat, n = -(k : Int) := ⟨n.natAbs, by omega⟩
  have e0 : (-(k : Int)).tdiv 10 = -((k / 10 : Nat) : Int) := by rw [Int.neg_tdiv]; simp [Int.tdiv_eq_ediv]
  have e1 : -((-(k : Int)).tmod 10) = ((k % 10 : Nat) : Int) := by rw [Int.neg_tmod]; simp [Int.tmod_eq_emod]
  rw [e0, e1]
  apply ba_ext
  rw [toList_app, numS_list, numS_list, numS_list]
  unfold Lib.itoa
  rw [if_pos (by omega), if_pos (by omega), if_neg (by omega)]
  have a1 : (-(k : Int)).natAbs = k := by omega
  have a2 : (-((k / 10 : Nat) : Int)).natAbs = k / 10 := by omega
  rw [a1, a2, Int.toNat_natCast, digits_step k (by omega)]
  rfl
theorem refDec_pos (n : Int) (h10 : 10 ≤ n) (h0 : -9223372036854775808 ≤ n) (h1 : n ≤ 9223372036854775807) (w : World)
    (H0 : ∀ W, Calls Tryd.prog 23 #[.int .i64 (n / 10)] W fun e w' => e = .returned (.string (numS (n / 10))) ∧ Below W.heap.size W w')
    (H1 : ∀ W, Calls Tryd.prog 23 #[.int .i64 (n % 10)] W fun e w' => e = .returned (.string (numS (n % 10))) ∧ Below W.heap.size W w') :
    Calls Tryd.prog 23 #[.int .i64 n] w fun e w' => e = .returned (.string (numS n)) ∧ Below w.heap.size w w' := by
  obtain ⟨s0, hs0⟩ : ∃ x, numS (n / 10) = x := ⟨_, rfl⟩
  have hz0 : s0.size ≤ 22 := by rw [← hs0]; exact num_sz (n / 10) ⟨by omega, by omega⟩
  have K0 := Lib.hid (hs0 ▸ H0)
  obtain ⟨s1, hs1⟩ : ∃ x, numS (n % 10) = x := ⟨_, rfl⟩
  have hz1 : s1.size ≤ 22 := by rw [← hs1]; exact num_sz (n % 10) ⟨by omega, by omega⟩
  have K1 := Lib.hid (hs1 ▸ H1)
  have HE : Hid (numS n = s0 ++ s1) := Lib.hid (by rw [← hs0, ← hs1]; exact numS_pos n h10)
  clear hs0 H0 hs1 H1
  have hL : Kn [] w w [] := Kn.refl [] w; (try simp only [List.setIfInBounds_toArray, List.set_cons_zero, List.set_cons_succ, List.cons_append, List.nil_append] at hL); have hF := hL.facts; (try simp only [Facts, Dist, List.map_cons, List.map_nil, List.forall_mem_cons, false_implies, ne_eq, not_false_eq_true, List.not_mem_nil, not_false_eq_true, true_implies, forall_const, List.mem_cons, or_false, implies_true, and_true, true_and, Nat.le_refl, List.setIfInBounds_toArray, List.set_cons_zero, List.set_cons_succ] at hF); go_enter Tryd.func23, Tryd.ntmps23
  go_wp2_with (first | ((with_reducible refine kn_list_set ?_); (try clear hF); clear hL; intro W hL; (try simp only [List.setIfInBounds_toArray, List.set_cons_zero, List.set_cons_succ, List.cons_append, List.nil_append] at hL); have hF := hL.facts; (try simp only [Facts, Dist, List.map_cons, List.map_nil, List.forall_mem_cons, false_implies, ne_eq, not_false_eq_true, List.not_mem_nil, not_false_eq_true, true_implies, forall_const, List.mem_cons, or_false, implies_true, and_true, true_and, Nat.le_refl, List.setIfInBounds_toArray, List.set_cons_zero, List.set_cons_succ] at hF)) | (go_at_call 23; refine kn_calls ?_; (try clear hF); clear hL; intro W hL; (try simp only [List.setIfInBounds_toArray, List.set_cons_zero, List.set_cons_succ, List.cons_append, List.nil_append] at hL); have hF := hL.facts; (try simp only [Facts, Dist, List.map_cons, List.map_nil, List.forall_mem_cons, false_implies, ne_eq, not_false_eq_true, List.not_mem_nil, not_false_eq_true, true_implies, forall_const, List.mem_cons, or_false, implies_true, and_true, true_and, Nat.le_refl, List.setIfInBounds_toArray, List.set_cons_zero, List.set_cons_succ] at hF); (with_reducible refine (K0.out _).mono ?_); rintro e W ⟨rfl, hb⟩; replace hL := hL.below hb; clear hb; (try clear hF); (try simp only [List.setIfInBounds_toArray, List.set_cons_zero, List.set_cons_succ, List.cons_append, List.nil_append] at hL); have hF := hL.facts; (try simp only [Facts, Dist, List.map_cons, List.map_nil, List.forall_mem_cons, false_implies, ne_eq, not_false_eq_true, List.not_mem_nil, not_false_eq_true, true_implies, forall_const, List.mem_cons, or_false, implies_true, and_true, true_and, Nat.le_refl, List.setIfInBounds_toArray, List.set_cons_zero, List.set_cons_succ] at hF)) | (go_at_call 23; refine kn_calls ?_; (try clear hF); clear hL; intro W hL; (try simp only [List.setIfInBounds_toArray, List.set_cons_zero, List.set_cons_succ, List.cons_append, List.nil_append] at hL); have hF := hL.facts; (try simp only [Facts, Dist, List.map_cons, List.map_nil, List.forall_mem_cons, false_implies, ne_eq, not_false_eq_true, List.not_mem_nil, not_false_eq_true, true_implies, forall_const, List.mem_cons, or_false, implies_true, and_true, true_and, Nat.le_refl, List.setIfInBounds_toArray, List.set_cons_zero, List.set_cons_succ] at hF); (with_reducible refine (K1.out _).mono ?_); rintro e W ⟨rfl, hb⟩; replace hL := hL.below hb; clear hb; (try clear hF); (try simp only [List.setIfInBounds_toArray, List.set_cons_zero, List.set_cons_succ, List.cons_append, List.nil_append] at hL); have hF := hL.facts; (try simp only [Facts, Dist, List.map_cons, List.map_nil, List.forall_mem_cons, false_implies, ne_eq, not_false_eq_true, List.not_mem_nil, not_false_eq_true, true_implies, forall_const, List.mem_cons, or_false, implies_true, and_true, true_and, Nat.le_refl, List.setIfInBounds_toArray, List.set_cons_zero, List.set_cons_succ] at hF)))
  (try simp only [Exit.inBlock, Exit.then]); refine bodyPost_ret (by simp [results, Tryd.results23, go_sem, *]; try rfl) rfl ?_
  exact ⟨by rw [HE.out], kn_here.below0⟩
theorem refDec_neg (n : Int) (h10 : n ≤ -10) (h0 : -9223372036854775808 ≤ n) (h1 : n ≤ 9223372036854775807) (w : World)
    (H0 : ∀ W, Calls Tryd.prog 23 #[.int .i64 (n.tdiv 10)] W fun e w' => e = .returned (.string (numS (n.tdiv 10))) ∧ Below W.heap.size W w')
    (H1 : ∀ W, Calls Tryd.prog 23 #[.int .i64 (-(n.tmod 10))] W fun e w' => e = .returned (.string (numS (-(n.tmod 10)))) ∧ Below W.heap.size W w') :
    Calls Tryd.prog 23 #[.int .i64 n] w fun e w' => e = .returned (.string (numS n)) ∧ Below w.heap.size w w' := by
  have d1 := tdiv_low n (by omega)
  have d2 := tmod_low n (by omega)
  obtain ⟨s0, hs0⟩ : ∃ x, numS (n.tdiv 10) = x := ⟨_, rfl⟩
  have hz0 : s0.size ≤ 22 := by rw [← hs0]; exact num_sz (n.tdiv 10) ⟨by omega, by omega⟩
  have K0 := Lib.hid (hs0 ▸ H0)
  obtain ⟨s1, hs1⟩ : ∃ x, numS (-(n.tmod 10)) = x := ⟨_, rfl⟩
  have hz1 : s1.size ≤ 22 := by rw [← hs1]; exact num_sz (-(n.tmod 10)) ⟨by omega, by omega⟩
  have K1 := Lib.hid (hs1 ▸ H1)
  have HE : Hid (numS n = s0 ++ s1) := Lib.hid (by rw [← hs0, ← hs1]; exact numS_neg n h10)
  have hw : wrap64 (-(n.tmod 10)) = -(n.tmod 10) := by unfold wrap64; omega
  clear d1 d2 hs0 H0 hs1 H1
  have hL : Kn [] w w [] := Kn.refl [] w; (try simp only [List.setIfInBounds_toArray, List.set_cons_zero, List.set_cons_succ, List.cons_append, List.nil_append] at hL); have hF := hL.facts; (try simp only [Facts, Dist, List.map_cons, List.map_nil, List.forall_mem_cons, false_implies, ne_eq, not_false_eq_true, List.not_mem_nil, not_false_eq_true, true_implies, forall_const, List.mem_cons, or_false, implies_true, and_true, true_and, Nat.le_refl, List.setIfInBounds_toArray, List.set_cons_zero, List.set_cons_succ] at hF); go_enter Tryd.func23, Tryd.ntmps23
  go_wp2_with (first | ((with_reducible refine kn_list_set ?_); (try clear hF); clear hL; intro W hL; (try simp only [List.setIfInBounds_toArray, List.set_cons_zero, List.set_cons_succ, List.cons_append, List.nil_append] at hL); have hF := hL.facts; (try simp only [Facts, Dist, List.map_cons, List.map_nil, List.forall_mem_cons, false_implies, ne_eq, not_false_eq_true, List.not_mem_nil, not_false_eq_true, true_implies, forall_const, List.mem_cons, or_false, implies_true, and_true, true_and, Nat.le_refl, List.setIfInBounds_toArray, List.set_cons_zero, List.set_cons_succ] at hF)) | (go_at_call 23; refine kn_calls ?_; (try clear hF); clear hL; intro W hL; (try simp only [List.setIfInBounds_toArray, List.set_cons_zero, List.set_cons_succ, List.cons_append, List.nil_append] at hL); have hF := hL.facts; (try simp only [Facts, Dist, List.map_cons, List.map_nil, List.forall_mem_cons, false_implies, ne_eq, not_false_eq_true, List.not_mem_nil, not_false_eq_true, true_implies, forall_const, List.mem_cons, or_false, implies_true, and_true, true_and, Nat.le_refl, List.setIfInBounds_toArray, List.set_cons_zero, List.set_cons_succ] at hF); (with_reducible refine (K0.out _).mono ?_); rintro e W ⟨rfl, hb⟩; replace hL := hL.below hb; clear hb; (try clear hF); (try simp only [List.setIfInBounds_toArray, List.set_cons_zero, List.set_cons_succ, List.cons_append, List.nil_append] at hL); have hF := hL.facts; (try simp only [Facts, Dist, List.map_cons, List.map_nil, List.forall_mem_cons, false_implies, ne_eq, not_false_eq_true, List.not_mem_nil, not_false_eq_true, true_implies, forall_const, List.mem_cons, or_false, implies_true, and_true, true_and, Nat.le_refl, List.setIfInBounds_toArray, List.set_cons_zero, List.set_cons_succ] at hF)) | (go_at_call 23; refine kn_calls ?_; (try clear hF); clear hL; intro W hL; (try simp only [List.setIfInBounds_toArray, List.set_cons_zero, List.set_cons_succ, List.cons_append, List.nil_append] at hL); have hF := hL.facts; (try simp only [Facts, Dist, List.map_cons, List.map_nil, List.forall_mem_cons, false_implies, ne_eq, not_false_eq_true, List.not_mem_nil, not_false_eq_true, true_implies, forall_const, List.mem_cons, or_false, implies_true, and_true, true_and, Nat.le_refl, List.setIfInBounds_toArray, List.set_cons_zero, List.set_cons_succ] at hF); (with_reducible refine (K1.out _).mono ?_); rintro e W ⟨rfl, hb⟩; replace hL := hL.below hb; clear hb; (try clear hF); (try simp only [List.setIfInBounds_toArray, List.set_cons_zero, List.set_cons_succ, List.cons_append, List.nil_append] at hL); have hF := hL.facts; (try simp only [Facts, Dist, List.map_cons, List.map_nil, List.forall_mem_cons, false_implies, ne_eq, not_false_eq_true, List.not_mem_nil, not_false_eq_true, true_implies, forall_const, List.mem_cons, or_false, implies_true, and_true, true_and, Nat.le_refl, List.setIfInBounds_toArray, List.set_cons_zero, List.set_cons_succ] at hF)))
  (try simp only [Exit.inBlock, Exit.then]); refine bodyPost_ret (by simp [results, Tryd.results23, go_sem, *]; try rfl) rfl ?_
  exact ⟨by rw [HE.out], kn_here.below0⟩
theorem refDec_low (n : Int) (h10 : -10 < n) (h11 : n < 0) (h0 : -9223372036854775808 ≤ n) (h1 : n ≤ 9223372036854775807) (w : World)
    (H0 : ∀ W, Calls Tryd.prog 23 #[.int .i64 (-n)] W fun e w' => e = .returned (.string (numS (-n))) ∧ Below W.heap.size W w') :
    Calls Tryd.prog 23 #[.int .i64 n] w fun e w' => e = .returned (.string (numS n)) ∧ Below w.heap.size w w' := by
  obtain ⟨s0, hs0⟩ : ∃ x, numS (-n) = x := ⟨_, rfl⟩
  have hz0 : s0.size ≤ 22 := by rw [← hs0]; exact num_sz (-n) ⟨by omega, by omega⟩
  have K0 := Lib.hid (hs0 ▸ H0)
  have HE : Hid (numS n = (⟨#[45]⟩ : ByteArray) ++ s0) := Lib.hid (by rw [← hs0]; exact numS_low n h11)
  clear hs0 H0
  have hL : Kn [] w w [] := Kn.refl [] w; (try simp only [List.setIfInBounds_toArray, List.set_cons_zero, List.set_cons_succ, List.cons_append, List.nil_append] at hL); have hF := hL.facts; (try simp only [Facts, Dist, List.map_cons, List.map_nil, List.forall_mem_cons, false_implies, ne_eq, not_false_eq_true, List.not_mem_nil, not_false_eq_true, true_implies, forall_const, List.mem_cons, or_false, implies_true, and_true, true_and, Nat.le_refl, List.setIfInBounds_toArray, List.set_cons_zero, List.set_cons_succ] at hF); go_enter Tryd.func23, Tryd.ntmps23
  go_wp2_with (first | ((with_reducible refine kn_list_set ?_); (try clear hF); clear hL; intro W hL; (try simp only [List.setIfInBounds_toArray, List.set_cons_zero, List.set_cons_succ, List.cons_append, List.nil_append] at hL); have hF := hL.facts; (try simp only [Facts, Dist, List.map_cons, List.map_nil, List.forall_mem_cons, false_implies, ne_eq, not_false_eq_true, List.not_mem_nil, not_false_eq_true, true_implies, forall_const, List.mem_cons, or_false, implies_true, and_true, true_and, Nat.le_refl, List.setIfInBounds_toArray, List.set_cons_zero, List.set_cons_succ] at hF)) | (go_at_call 23; refine kn_calls ?_; (try clear hF); clear hL; intro W hL; (try simp only [List.setIfInBounds_toArray, List.set_cons_zero, List.set_cons_succ, List.cons_append, List.nil_append] at hL); have hF := hL.facts; (try simp only [Facts, Dist, List.map_cons, List.map_nil, List.forall_mem_cons, false_implies, ne_eq, not_false_eq_true, List.not_mem_nil, not_false_eq_true, true_implies, forall_const, List.mem_cons, or_false, implies_true, and_true, true_and, Nat.le_refl, List.setIfInBounds_toArray, List.set_cons_zero, List.set_cons_succ] at hF); (with_reducible refine (K0.out _).mono ?_); rintro e W ⟨rfl, hb⟩; replace hL := hL.below hb; clear hb; (try clear hF); (try simp only [List.setIfInBounds_toArray, List.set_cons_zero, List.set_cons_succ, List.cons_append, List.nil_append] at hL); have hF := hL.facts; (try simp only [Facts, Dist, List.map_cons, List.map_nil, List.forall_mem_cons, false_implies, ne_eq, not_false_eq_true, List.not_mem_nil, not_false_eq_true, true_implies, forall_const, List.mem_cons, or_false, implies_true, and_true, true_and, Nat.le_refl, List.setIfInBounds_toArray, List.set_cons_zero, List.set_cons_succ] at hF)))
  (try simp only [Exit.inBlock, Exit.then]); refine bodyPost_ret (by simp [results, Tryd.results23, go_sem, *]; try rfl) rfl ?_
  exact ⟨by rw [HE.out], kn_here.below0⟩
theorem refDec_any : ∀ (m : Nat) (n : Int), n.natAbs ≤ m → -9223372036854775808 ≤ n → n ≤ 9223372036854775807 → ∀ w : World,
    Calls Tryd.prog 23 #[.int .i64 n] w fun e w' => e = .returned (.string (numS n)) ∧ Below w.heap.size w w' := by
  intro m
  induction m with
  | zero => intro n hm h0 h1 w; exact refDec_small n (by omega) (by omega) w
  | succ m ih =>
    intro n hm h0 h1 w
    by_cases c1 : 0 ≤ n ∧ n < 10
    · exact refDec_small n c1.1 c1.2 w
    · by_cases c2 : 10 ≤ n
      · exact refDec_pos n c2 h0 h1 w (fun W => ih (n / 10) (by omega) (by omega) (by omega) W) (fun W => refDec_small (n % 10) (by omega) (by omega) W)
      · by_cases c3 : n ≤ -10
        · have d1 := tdiv_low n (by omega)
          have d2 := tmod_low n (by omega)
          exact refDec_neg n c3 h0 h1 w (fun W => ih (n.tdiv 10) (by omega) (by omega) (by omega) W) (fun W => refDec_small (-(n.tmod 10)) (by omega) (by omega) W)
        · exact refDec_low n (by omega) (by omega) h0 h1 w (fun W => refDec_small (-n) (by omega) (by omega) W)
theorem refDecimal_any (n : Int) (h : -9223372036854775808 ≤ n ∧ n ≤ 9223372036854775807) (w : World) :
    Calls Tryd.prog 23 #[.int .i64 n] w fun e w' => e = .returned (.string (numS n)) ∧ Below w.heap.size w w' := refDec_any n.natAbs n (Nat.le_refl _) h.1 h.2 w

end Go.Proofs.YtjkohbecmaegmaaDoor

namespace Go.Proofs.YtjkohbecmaegmaaDoor
open Go Go.RowKit
set_option linter.unusedSimpArgs false
set_option linter.unusedVariables false

theorem dec_len : ∀ (n k : Nat), 1 ≤ n → k < 10 ^ n → (Lib.decDigits k).length ≤ n
  | 0, k, h, _ => by omega
  | n + 1, k, _, hk => by
    by_cases h10 : k < 10
    · rw [Lib.decDigits, dif_pos h10]; simp
    · rw [digits_step k (by omega), List.length_append]
      have h1 : (Lib.decDigits (k % 10)).length = 1 := by rw [Lib.decDigits, dif_pos (by omega)]; rfl
      have h2 : k / 10 < 10 ^ n := by rw [Nat.pow_succ] at hk; omega
      have hn : 1 ≤ n := by
        rcases Nat.eq_zero_or_pos n with h | h
        · subst h; simp at h2; omega
        · exact h
      have := dec_len n (k / 10) hn h2
      omega
theorem itoa_20 (m : Int) (h0 : -9223372036854775808 ≤ m) (h1 : m ≤ 9223372036854775807) : 1 ≤ (Lib.itoa m).length ∧ (Lib.itoa m).length ≤ 20 := by
  have h2 := dec_len 19 m.natAbs (by omega) (by omega)
  have h3 : (Lib.decDigits m.natAbs) ≠ [] := digits_ne _
  have h4 := List.length_pos_iff.2 h3
  unfold Lib.itoa
  split
  · rw [List.length_cons]; omega
  · have : m.toNat = m.natAbs := by omega
    rw [this]; omega
def stripM (l : Bytes) : Bytes := if l.head? = some 45 then l.drop 1 else l
theorem strip_snoc (l : Bytes) (c : UInt8) (h : l ≠ [] ∨ c ≠ 45) : stripM (l ++ [c]) = stripM l ++ [c] := by
  cases l with
  | nil =>
    have hc : c ≠ 45 := by rcases h with h | h; exact absurd rfl h; exact h
    unfold stripM
    simp [hc]
  | cons a l =>
    unfold stripM
    simp only [List.cons_append, List.head?_cons]
    by_cases h45 : a = 45
    · subst h45; simp
    · simp [h45]
def finalN (s : Bytes) : Int := if s.head? = some 45 then wrap64 (-(val (stripM s) : Int)) else wrap64 (-(wrap64 (-(val (stripM s) : Int))))
theorem final_itoa {m : Int} (h0 : -9223372036854775808 ≤ m) (h1 : m ≤ 9223372036854775807) : finalN (Lib.itoa m) = m := by
  have hd : ∀ k, (Lib.decDigits k).head? ≠ some 45 := fun k e => by
    have hm : (45 : UInt8) ∈ Lib.decDigits k := List.mem_of_head? e
    have := digits_in k 45 hm
    have e45 : (45 : UInt8).toNat = 45 := rfl
    omega
  unfold finalN stripM Lib.itoa
  by_cases hm : m < 0
  · rw [if_pos hm]
    simp only [List.head?_cons, if_true, List.drop_succ_cons, List.drop_zero]
    rw [val_digits]
    unfold wrap64; omega
  · rw [if_neg hm, if_neg (hd _), if_neg (hd _), val_digits]
    unfold wrap64; omega
theorem itoa_chars {m : Int} {k : Nat} {c : UInt8} (h : (Lib.itoa m)[k]? = some c) : (k = 0 ∧ c = 45) ∨ (48 ≤ c.toNat ∧ c.toNat ≤ 57) := by
  unfold Lib.itoa at h
  split at h
  · cases k with
    | zero => left; simp at h; exact ⟨rfl, h.symm⟩
    | succ k => right; exact digits_in _ c (List.mem_of_getElem? (by simpa using h))
  · right; exact digits_in _ c (List.mem_of_getElem? h)
def IntPost (s : ByteArray) (w : World) (e : Ending) (w' : World) : Prop := e = (match canon s.data.toList with | some m => Ending.returned (.tuple #[.int .i64 m, .bool true]) | none => Ending.returned (.tuple #[.int .i64 0, .bool false])) ∧ Below w.heap.size w w'
theorem int_no {s : ByteArray} {w w' : World} (h : ∀ m, canon s.data.toList ≠ some m) (hb : Below w.heap.size w w') : IntPost s w (.returned (.tuple #[.int .i64 0, .bool false])) w' := by
  unfold IntPost
  cases hc : canon s.data.toList with
  | some m => exact absurd hc (h m)
  | none => exact ⟨rfl, hb⟩
theorem int_yes {s : ByteArray} {w w' : World} {m : Int} (h : canon s.data.toList = some m) (hb : Below w.heap.size w w') : IntPost s w (.returned (.tuple #[.int .i64 m, .bool true])) w' := by
  unfold IntPost; rw [h]; exact ⟨rfl, hb⟩
set_option maxRecDepth 20000 in
set_option maxHeartbeats 4000000 in
theorem refInt_is (s : ByteArray) (hs : s.size ≤ 1000000) (w : World) : Calls Tryd.prog 21 #[.string s] w (IntPost s w) := by
  have hsl := szl s
  have hcan : Hid (∀ m, canon s.data.toList = some m → Lib.itoa m = s.data.toList ∧ -9223372036854775808 ≤ m ∧ m ≤ 9223372036854775807) := Lib.hid fun m h => canon_some h
  by_cases h0 : s.size = 0
  · have hno : Hid (∀ m, canon s.data.toList ≠ some m) := Lib.hid fun m h => by
      obtain ⟨h1, h2, h3⟩ := hcan.out m h
      have := itoa_20 m h2 h3
      rw [h1] at this; omega
    have h0i : ((s.size : Int) == 0) = true := by rw [h0]; rfl
    have hL : Kn [] w w [] := Kn.refl [] w; (try simp only [List.setIfInBounds_toArray, List.set_cons_zero, List.set_cons_succ, List.cons_append, List.nil_append] at hL); have hF := hL.facts; (try simp only [Facts, Dist, List.map_cons, List.map_nil, List.forall_mem_cons, false_implies, ne_eq, not_false_eq_true, List.not_mem_nil, not_false_eq_true, true_implies, forall_const, List.mem_cons, or_false, implies_true, and_true, true_and, Nat.le_refl, List.setIfInBounds_toArray, List.set_cons_zero, List.set_cons_succ] at hF); go_enter Tryd.func21, Tryd.ntmps21
    go_wp2
    go_ret2
    exact int_no hno.out hL.below0
  have h0i : ((s.size : Int) == 0) = false := beq_false_of_ne (by omega)
  by_cases h20 : (s.size : Int) > 20
  · have hno : Hid (∀ m, canon s.data.toList ≠ some m) := Lib.hid fun m h => by
      obtain ⟨h1, h2, h3⟩ := hcan.out m h
      have := itoa_20 m h2 h3
      rw [h1] at this; omega
    have hL : Kn [] w w [] := Kn.refl [] w; (try simp only [List.setIfInBounds_toArray, List.set_cons_zero, List.set_cons_succ, List.cons_append, List.nil_append] at hL); have hF := hL.facts; (try simp only [Facts, Dist, List.map_cons, List.map_nil, List.forall_mem_cons, false_implies, ne_eq, not_false_eq_true, List.not_mem_nil, not_false_eq_true, true_implies, forall_const, List.mem_cons, or_false, implies_true, and_true, true_and, Nat.le_refl, List.setIfInBounds_toArray, List.set_cons_zero, List.set_cons_succ] at hF); go_enter Tryd.func21, Tryd.ntmps21
    go_wp2
    go_ret2
    exact int_no hno.out hL.below0
  obtain ⟨c0, hc0⟩ : ∃ c, s.data.toList[0]? = some c := ⟨_, List.getElem?_eq_getElem (by omega)⟩
  have hs0 : 0 < s.size := by omega
  have eb0 := byte_at hc0 hs0
  have hhd : s.data.toList.head? = some c0 := by rw [List.head?_eq_getElem?]; exact hc0
  have HHD := Lib.hid hhd
  have HC0 := Lib.hid hc0
  clear hhd hc0
  have hL : Kn [] w w [] := Kn.refl [] w; (try simp only [List.setIfInBounds_toArray, List.set_cons_zero, List.set_cons_succ, List.cons_append, List.nil_append] at hL); have hF := hL.facts; (try simp only [Facts, Dist, List.map_cons, List.map_nil, List.forall_mem_cons, false_implies, ne_eq, not_false_eq_true, List.not_mem_nil, not_false_eq_true, true_implies, forall_const, List.mem_cons, or_false, implies_true, and_true, true_and, Nat.le_refl, List.setIfInBounds_toArray, List.set_cons_zero, List.set_cons_succ] at hF); go_enter Tryd.func21, Tryd.ntmps21
  go_wp2
  go_loopw [4, 5] (fun n i wr => ∃ (k : Nat) (z : Int), k ≤ s.size ∧ i = .int .i64 k ∧ n = .int .i64 z ∧ -9223372036854775808 ≤ z ∧ z ≤ 9223372036854775807 ∧ Kn [] w wr [] ∧ Hid (z = wrap64 (-(val (stripM (s.data.toList.take k)) : Int)))) (fun _ i _ => s.size - (intOf i).toNat)
  case atStart => exact ⟨0, 0, by omega, rfl, rfl, by omega, by omega, hL, Lib.hid (by simp [stripM, val, wrap64])⟩
  case round =>
    obtain ⟨k, z, hk, rfl, rfl, hz0, hz1, hK, hz⟩ := hrel
    clear hL hF
    have hL := hK
    clear hK
    (try simp only [List.setIfInBounds_toArray, List.set_cons_zero, List.set_cons_succ, List.cons_append, List.nil_append] at hL); have hF := hL.facts; (try simp only [Facts, Dist, List.map_cons, List.map_nil, List.forall_mem_cons, false_implies, ne_eq, not_false_eq_true, List.not_mem_nil, not_false_eq_true, true_implies, forall_const, List.mem_cons, or_false, implies_true, and_true, true_and, Nat.le_refl, List.setIfInBounds_toArray, List.set_cons_zero, List.set_cons_succ] at hF)
    by_cases hlt : k < s.size
    · obtain ⟨c, hck⟩ : ∃ c, s.data.toList[k]? = some c := ⟨_, List.getElem?_eq_getElem (by omega)⟩
      have eb := byte_at hck hlt
      have htk : s.data.toList.take (k + 1) = s.data.toList.take k ++ [c] := by rw [List.take_add_one, hck]; rfl
      by_cases hsg : k = 0 ∧ c0 = 45
      · obtain ⟨rfl, rfl⟩ := hsg
        have hc45 : c = 45 := by rw [HC0.out] at hck; injection hck with h; exact h.symm
        have hz2 : Hid (z = wrap64 (-(val (stripM (s.data.toList.take 1)) : Int))) := Lib.hid (by rw [hz.out, htk, hc45]; rfl)
        clear htk hck
        go_wp2
        go_roundw
        case rel => exact ⟨0 + 1, z, by omega, by go_num, rfl, by omega, by omega, hL, hz2⟩
        case measure => simp [intOf]; omega
      · have hsn : stripM (s.data.toList.take (k + 1)) = stripM (s.data.toList.take k) ++ [c] := by
          rw [htk]
          refine strip_snoc _ _ ?_
          by_cases hk0 : k = 0
          · right; rintro rfl
            subst hk0
            rw [HC0.out] at hck; injection hck with h
            exact hsg ⟨rfl, h⟩
          · left; intro e
            have := congrArg List.length e
            rw [List.length_take] at this
            simp only [List.length_nil] at this; omega
        have hgd : ((k : Int) == 0) = false ∨ (k = 0 ∧ c = c0 ∧ ((c0.toNat : Int) == 45) = false) := by
          by_cases hk0 : k = 0
          · right; exact ⟨hk0, by subst hk0; rw [HC0.out] at hck; injection hck with h; exact h.symm, beq_false_of_ne fun h => hsg ⟨hk0, UInt8.toNat_inj.1 (show c0.toNat = 45 by omega)⟩⟩
          · left; exact beq_false_of_ne (by omega)
        by_cases hdg : 48 ≤ (c.toNat : Int) ∧ (c.toNat : Int) ≤ 57
        · obtain ⟨hd1, hd2⟩ := hdg
          obtain ⟨z2, hz2⟩ : ∃ z2 : Int, wrap64 (wrap64 (z * 10) - ((c.toNat : Int) - 48)) = z2 := ⟨_, rfl⟩
          have hzn : Hid (z2 = wrap64 (-(val (stripM (s.data.toList.take (k + 1))) : Int))) := Lib.hid (by
            rw [hsn, val_snoc, ← hz2, hz.out]
            have e : (((val (stripM (s.data.toList.take k)) * 10 + (c.toNat - 48) : Nat)) : Int) = (val (stripM (s.data.toList.take k)) : Int) * 10 + ((c.toNat : Int) - 48) := by omega
            rw [e]
            generalize (val (stripM (s.data.toList.take k)) : Int) = q
            unfold wrap64; omega)
          have hzr : -9223372036854775808 ≤ z2 ∧ z2 ≤ 9223372036854775807 := by rw [← hz2]; unfold wrap64; omega
          clear hsn htk hck hsg
          rcases hgd with hgd | ⟨rfl, rfl, hgd⟩
          all_goals
            go_wp2
            go_roundw
            case rel => exact ⟨_, z2, by omega, by go_num, by first | rfl | rw [← hz2], by omega, by omega, hL, hzn⟩
            case measure => simp [intOf]; omega
        · have hno : Hid (∀ m, canon s.data.toList ≠ some m) := Lib.hid fun m h => by
            obtain ⟨h1, h2, h3⟩ := hcan.out m h
            rw [← h1] at hck
            rcases itoa_chars hck with ⟨h4, h5⟩ | ⟨h4, h5⟩
            · subst h4
              rw [h1, HC0.out] at hck
              injection hck with h6
              exact hsg ⟨rfl, by rw [h6, h5]⟩
            · exact hdg ⟨by omega, by omega⟩
          clear hsn htk hck hsg
          rcases hgd with hgd | ⟨rfl, rfl, hgd⟩
          all_goals
            by_cases hd1 : (c.toNat : Int) < 48
            · go_wp2
              go_ret2
              exact int_no hno.out hL.below0
            · have hd2 : (c.toNat : Int) > 57 := by omega
              go_wp2
              go_ret2
              exact int_no hno.out hL.below0
    · obtain rfl : k = s.size := by omega
      obtain ⟨m, hm⟩ : ∃ m, finalN s.data.toList = m := ⟨_, rfl⟩
      have hzs : z = wrap64 (-(val (stripM s.data.toList) : Int)) := by rw [hz.out, List.take_of_length_le (by omega)]
      have hmr : -9223372036854775808 ≤ m ∧ m ≤ 9223372036854775807 := by
        rw [← hm]; unfold finalN
        split <;> (unfold wrap64; omega)
      have hmz : (c0 = 45 → m = z) ∧ (c0 ≠ 45 → m = wrap64 (-z)) := by
        rw [← hm]
        unfold finalN
        rw [HHD.out, hzs]
        constructor
        · intro h; rw [h, if_pos rfl]
        · intro h; rw [if_neg (by simpa using h)]
      have DEC := Lib.hid (fun W => refDecimal_any m hmr W)
      obtain ⟨q, hq⟩ : ∃ q, numS m = q := ⟨_, rfl⟩
      rw [hq] at DEC
      have hql : q.data.toList = Lib.itoa m := by rw [← hq]; rfl
      by_cases heq : q = s
      · subst heq
        have hyes := Lib.hid (show canon q.data.toList = some m by rw [hql]; exact canon_itoa hmr.1 hmr.2)
        have hqq : (q.toList == q.toList) = true := beq_self_eq_true _
        clear hm hzs hq hql hz
        by_cases h45 : c0 = 45
        · have e1 := hmz.1 h45
          subst e1
          subst h45
          clear hmz
          go_wp2_with (first | ((with_reducible refine kn_list_set ?_); (try clear hF); clear hL; intro W hL; (try simp only [List.setIfInBounds_toArray, List.set_cons_zero, List.set_cons_succ, List.cons_append, List.nil_append] at hL); have hF := hL.facts; (try simp only [Facts, Dist, List.map_cons, List.map_nil, List.forall_mem_cons, false_implies, ne_eq, not_false_eq_true, List.not_mem_nil, not_false_eq_true, true_implies, forall_const, List.mem_cons, or_false, implies_true, and_true, true_and, Nat.le_refl, List.setIfInBounds_toArray, List.set_cons_zero, List.set_cons_succ] at hF)) | (go_at_call 23; refine kn_calls ?_; (try clear hF); clear hL; intro W hL; (try simp only [List.setIfInBounds_toArray, List.set_cons_zero, List.set_cons_succ, List.cons_append, List.nil_append] at hL); have hF := hL.facts; (try simp only [Facts, Dist, List.map_cons, List.map_nil, List.forall_mem_cons, false_implies, ne_eq, not_false_eq_true, List.not_mem_nil, not_false_eq_true, true_implies, forall_const, List.mem_cons, or_false, implies_true, and_true, true_and, Nat.le_refl, List.setIfInBounds_toArray, List.set_cons_zero, List.set_cons_succ] at hF); (with_reducible refine (DEC.out _).mono ?_); rintro e W ⟨rfl, hb⟩; replace hL := hL.below hb; clear hb; (try clear hF); (try simp only [List.setIfInBounds_toArray, List.set_cons_zero, List.set_cons_succ, List.cons_append, List.nil_append] at hL); have hF := hL.facts; (try simp only [Facts, Dist, List.map_cons, List.map_nil, List.forall_mem_cons, false_implies, ne_eq, not_false_eq_true, List.not_mem_nil, not_false_eq_true, true_implies, forall_const, List.mem_cons, or_false, implies_true, and_true, true_and, Nat.le_refl, List.setIfInBounds_toArray, List.set_cons_zero, List.set_cons_succ] at hF)))
          go_ret2
          exact int_yes hyes.out hL.below0
        · have e1 := hmz.2 h45
          have f45 : ((c0.toNat : Int) != 45) = true := by
            unfold bne
            rw [beq_false_of_ne fun h => h45 (UInt8.toNat_inj.1 (show c0.toNat = 45 by omega))]; rfl
          have e2 : wrap64 (-z) = m := e1.symm
          clear hmz e1 h45
          go_wp2_with (first | ((with_reducible refine kn_list_set ?_); (try clear hF); clear hL; intro W hL; (try simp only [List.setIfInBounds_toArray, List.set_cons_zero, List.set_cons_succ, List.cons_append, List.nil_append] at hL); have hF := hL.facts; (try simp only [Facts, Dist, List.map_cons, List.map_nil, List.forall_mem_cons, false_implies, ne_eq, not_false_eq_true, List.not_mem_nil, not_false_eq_true, true_implies, forall_const, List.mem_cons, or_false, implies_true, and_true, true_and, Nat.le_refl, List.setIfInBounds_toArray, List.set_cons_zero, List.set_cons_succ] at hF)) | (go_at_call 23; refine kn_calls ?_; (try clear hF); clear hL; intro W hL; (try simp only [List.setIfInBounds_toArray, List.set_cons_zero, List.set_cons_succ, List.cons_append, List.nil_append] at hL); have hF := hL.facts; (try simp only [Facts, Dist, List.map_cons, List.map_nil, List.forall_mem_cons, false_implies, ne_eq, not_false_eq_true, List.not_mem_nil, not_false_eq_true, true_implies, forall_const, List.mem_cons, or_false, implies_true, and_true, true_and, Nat.le_refl, List.setIfInBounds_toArray, List.set_cons_zero, List.set_cons_succ] at hF); (with_reducible refine (DEC.out _).mono ?_); rintro e W ⟨rfl, hb⟩; replace hL := hL.below hb; clear hb; (try clear hF); (try simp only [List.setIfInBounds_toArray, List.set_cons_zero, List.set_cons_succ, List.cons_append, List.nil_append] at hL); have hF := hL.facts; (try simp only [Facts, Dist, List.map_cons, List.map_nil, List.forall_mem_cons, false_implies, ne_eq, not_false_eq_true, List.not_mem_nil, not_false_eq_true, true_implies, forall_const, List.mem_cons, or_false, implies_true, and_true, true_and, Nat.le_refl, List.setIfInBounds_toArray, List.set_cons_zero, List.set_cons_succ] at hF)))
          go_ret2
          exact int_yes hyes.out hL.below0
      · have hne : (q.toList == s.toList) = false := str_ne fun e => heq (ba_ext e)
        have hne2 : (q.toList != s.toList) = true := by unfold bne; rw [hne]; rfl
        have hno : Hid (∀ j, canon s.data.toList ≠ some j) := Lib.hid fun j h => by
          obtain ⟨h1, h2, h3⟩ := hcan.out j h
          have h4 := final_itoa h2 h3
          rw [h1, hm] at h4
          subst h4
          exact heq (ba_ext (by rw [hql, h1]))
        clear hm hzs hq hql hz heq
        by_cases h45 : c0 = 45
        · have e1 := hmz.1 h45
          subst e1
          subst h45
          clear hmz
          go_wp2_with (first | ((with_reducible refine kn_list_set ?_); (try clear hF); clear hL; intro W hL; (try simp only [List.setIfInBounds_toArray, List.set_cons_zero, List.set_cons_succ, List.cons_append, List.nil_append] at hL); have hF := hL.facts; (try simp only [Facts, Dist, List.map_cons, List.map_nil, List.forall_mem_cons, false_implies, ne_eq, not_false_eq_true, List.not_mem_nil, not_false_eq_true, true_implies, forall_const, List.mem_cons, or_false, implies_true, and_true, true_and, Nat.le_refl, List.setIfInBounds_toArray, List.set_cons_zero, List.set_cons_succ] at hF)) | (go_at_call 23; refine kn_calls ?_; (try clear hF); clear hL; intro W hL; (try simp only [List.setIfInBounds_toArray, List.set_cons_zero, List.set_cons_succ, List.cons_append, List.nil_append] at hL); have hF := hL.facts; (try simp only [Facts, Dist, List.map_cons, List.map_nil, List.forall_mem_cons, false_implies, ne_eq, not_false_eq_true, List.not_mem_nil, not_false_eq_true, true_implies, forall_const, List.mem_cons, or_false, implies_true, and_true, true_and, Nat.le_refl, List.setIfInBounds_toArray, List.set_cons_zero, List.set_cons_succ] at hF); (with_reducible refine (DEC.out _).mono ?_); rintro e W ⟨rfl, hb⟩; replace hL := hL.below hb; clear hb; (try clear hF); (try simp only [List.setIfInBounds_toArray, List.set_cons_zero, List.set_cons_succ, List.cons_append, List.nil_append] at hL); have hF := hL.facts; (try simp only [Facts, Dist, List.map_cons, List.map_nil, List.forall_mem_cons, false_implies, ne_eq, not_false_eq_true, List.not_mem_nil, not_false_eq_true, true_implies, forall_const, List.mem_cons, or_false, implies_true, and_true, true_and, Nat.le_refl, List.setIfInBounds_toArray, List.set_cons_zero, List.set_cons_succ] at hF)))
          go_ret2
          exact int_no hno.out hL.below0
        · have e1 := hmz.2 h45
          have f45 : ((c0.toNat : Int) != 45) = true := by
            unfold bne
            rw [beq_false_of_ne fun h => h45 (UInt8.toNat_inj.1 (show c0.toNat = 45 by omega))]; rfl
          have e2 : wrap64 (-z) = m := e1.symm
          clear hmz e1 h45
          go_wp2_with (first | ((with_reducible refine kn_list_set ?_); (try clear hF); clear hL; intro W hL; (try simp only [List.setIfInBounds_toArray, List.set_cons_zero, List.set_cons_succ, List.cons_append, List.nil_append] at hL); have hF := hL.facts; (try simp only [Facts, Dist, List.map_cons, List.map_nil, List.forall_mem_cons, false_implies, ne_eq, not_false_eq_true, List.not_mem_nil, not_false_eq_true, true_implies, forall_const, List.mem_cons, or_false, implies_true, and_true, true_and, Nat.le_refl, List.setIfInBounds_toArray, List.set_cons_zero, List.set_cons_succ] at hF)) | (go_at_call 23; refine kn_calls ?_; (try clear hF); clear hL; intro W hL; (try simp only [List.setIfInBounds_toArray, List.set_cons_zero, List.set_cons_succ, List.cons_append, List.nil_append] at hL); have hF := hL.facts; (try simp only [Facts, Dist, List.map_cons, List.map_nil, List.forall_mem_cons, false_implies, ne_eq, not_false_eq_true, List.not_mem_nil, not_false_eq_true, true_implies, forall_const, List.mem_cons, or_false, implies_true, and_true, true_and, Nat.le_refl, List.setIfInBounds_toArray, List.set_cons_zero, List.set_cons_succ] at hF); (with_reducible refine (DEC.out _).mono ?_); rintro e W ⟨rfl, hb⟩; replace hL := hL.below hb; clear hb; (try clear hF); (try simp only [List.setIfInBounds_toArray, List.set_cons_zero, List.set_cons_succ, List.cons_append, List.nil_append] at hL); have hF := hL.facts; (try simp only [Facts, Dist, List.map_cons, List.map_nil, List.forall_mem_cons, false_implies, ne_eq, not_false_eq_true, List.not_mem_nil, not_false_eq_true, true_implies, forall_const, List.mem_cons, or_false, implies_true, and_true, true_and, Nat.le_refl, List.setIfInBounds_toArray, List.set_cons_zero, List.set_cons_succ] at hF)))
          go_ret2
          exact int_no hno.out hL.below0

end Go.Proofs.YtjkohbecmaegmaaDoor

