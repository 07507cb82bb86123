import Derived.Test.YtjkohbecmaegmaaDoorProg
import Derived.WalkKit
import Derived.Handy
import Derived.Deep.Light
import Derived.WalkSmall
import Derived.StillTailTactics
import Derived.Lib.Hide
import Derived.Test.YtjkohbecmaegmaaDoorT0
import Derived.Test.YtjkohbecmaegmaaDoorIt
import Derived.Test.YtjkohbecmaegmaaDoorT20X
namespace Go.Proofs.YtjkohbecmaegmaaDoor
open Go Go.RowKit
set_option linter.unusedSimpArgs false
set_option linter.unusedVariables false
set_option maxRecDepth 20000 in
set_option maxHeartbeats 4000000 in
theorem stars_02 (p s t : ByteArray) (hp : (p.size : Int) ≤ 60) (hs : (s.size : Int) ≤ 100) (ht : (t.size : Int) ≤ 100) (F G f g : Nat → Bool) (HF : Hid (F 0 = false ∧ ∀ k, F (k + 1) = (F k || f k))) (HG : Hid (G 0 = false ∧ ∀ k, G (k + 1) = (G k || g k))) (CF : Hid (∀ k, k ≤ s.size → ∀ W, Calls Tryd.prog 13 #[.string p, .string (s.extract k s.size)] W fun e w' => e = .returned (.bool (f k)) ∧ Below W.heap.size W w')) (CG : Hid (∀ k, k ≤ s.size → ∀ W, Calls Tryd.prog 13 #[.string p, .string (s.extract 0 k)] W fun e w' => e = .returned (.bool (g k)) ∧ Below W.heap.size W w')) (ev bv av pv : Bool) (HEV : Hid (F (s.size + 1) = ev)) (HBV : Hid (G (s.size + 1) = bv)) (S1 : Hid (∀ W, Calls Tryd.prog 13 #[.string (⟨#[42]⟩ ++ p), .string s] W fun e w' => e = .returned (.bool ev) ∧ Below W.heap.size W w')) (A1 : Hid (∀ W, Calls Tryd.prog 13 #[.string (⟨#[63]⟩ ++ p), .string s] W fun e w' => e = .returned (.bool av) ∧ Below W.heap.size W w')) (q : ByteArray) (b1 : q.size + p.size ≤ 1000) (b2 : t.size + s.size ≤ 1000) (E1 : Hid (∀ W, Calls Tryd.prog 14 #[.string t] W fun e w' => e = .returned (.string q) ∧ Below W.heap.size W w')) (X1 : Hid (∀ W, Calls Tryd.prog 13 #[.string (q ++ p), .string (t ++ s)] W fun e w' => e = .returned (.bool pv) ∧ Below W.heap.size W w')) (Y1 : Hid (∀ W, Calls Tryd.prog 13 #[.string p, .string s] W fun e w' => e = .returned (.bool pv) ∧ Below W.heap.size W w')) (hse : (s.toList == (⟨#[]⟩ : ByteArray).toList) = false) (hse2 : s.toList.isEmpty = false) (u : ByteArray) (hu : s.extract (min (1 : Int) s.size).toNat s.size = u) (B1 : Hid (∀ W, Calls Tryd.prog 13 #[.string p, .string u] W fun e w' => e = .returned (.bool av) ∧ Below W.heap.size W w')) (hpe : (p.toList == (⟨#[]⟩ : ByteArray).toList) = false) (hpe2 : p.toList.isEmpty = false) (hp0 : 1 ≤ p.size) (c : UInt8) (hb : ∀ h, p[p.size - 1]'h = c) (hc92 : ((c.toNat : Int) == 92) = false) (Z1 : Hid (∀ W, Calls Tryd.prog 13 #[.string (p ++ ⟨#[42]⟩), .string s] W fun e w' => e = .returned (.bool bv) ∧ Below W.heap.size W w')) (w : World) (hT : Tab w) : Calls Tryd.prog 4 #[.string p, .string s, .string t] w fun e w' => e = .returned (.bool true) ∧ Below w.heap.size w w' := by
  have hL : Kn [] w w [] := Kn.refl [] w; (try simp only [List.setIfInBounds_toArray, List.set_cons_zero, List.set_cons_succ, List.cons_append, List.nil_append] at hL); have hF := hL.facts; (try simp only [Facts, Dist, List.map_cons, List.map_nil, List.forall_mem_cons, false_implies, ne_eq, not_false_eq_true, List.not_mem_nil, not_false_eq_true, true_implies, forall_const, List.mem_cons, or_false, implies_true, and_true, true_and, Nat.le_refl, List.setIfInBounds_toArray, List.set_cons_zero, List.set_cons_succ] at hF); go_enter Tryd.func4, Tryd.ntmps4
  go_wp2_with (first | ((with_reducible refine kn_list_set ?_); (try clear hF); clear hL; intro W hL; (try simp only [List.setIfInBounds_toArray, List.set_cons_zero, List.set_cons_succ, List.cons_append, List.nil_append] at hL); have hF := hL.facts; (try simp only [Facts, Dist, List.map_cons, List.map_nil, List.forall_mem_cons, false_implies, ne_eq, not_false_eq_true, List.not_mem_nil, not_false_eq_true, true_implies, forall_const, List.mem_cons, or_false, implies_true, and_true, true_and, Nat.le_refl, List.setIfInBounds_toArray, List.set_cons_zero, List.set_cons_succ] at hF)) | (go_at_call 8; refine kn_calls ?_; (try clear hF); clear hL; intro W hL; (try simp only [List.setIfInBounds_toArray, List.set_cons_zero, List.set_cons_succ, List.cons_append, List.nil_append] at hL); have hF := hL.facts; (try simp only [Facts, Dist, List.map_cons, List.map_nil, List.forall_mem_cons, false_implies, ne_eq, not_false_eq_true, List.not_mem_nil, not_false_eq_true, true_implies, forall_const, List.mem_cons, or_false, implies_true, and_true, true_and, Nat.le_refl, List.setIfInBounds_toArray, List.set_cons_zero, List.set_cons_succ] at hF); (with_reducible refine (small_any _ (hT.kn hL (by simp))).mono ?_); rintro e W ⟨rfl, hb⟩; replace hL := hL.below hb; clear hb; (try clear hF); (try simp only [List.setIfInBounds_toArray, List.set_cons_zero, List.set_cons_succ, List.cons_append, List.nil_append] at hL); have hF := hL.facts; (try simp only [Facts, Dist, List.map_cons, List.map_nil, List.forall_mem_cons, false_implies, ne_eq, not_false_eq_true, List.not_mem_nil, not_false_eq_true, true_implies, forall_const, List.mem_cons, or_false, implies_true, and_true, true_and, Nat.le_refl, List.setIfInBounds_toArray, List.set_cons_zero, List.set_cons_succ] at hF)))
  go_loopw [8, 9, 10] (fun x y i wr => ∃ k : Nat, k ≤ s.size + 1 ∧ i = .int .i64 k ∧ x = .bool (F k) ∧ y = .bool (G k) ∧ Kn [] w wr []) (fun _ _ i _ => s.size + 1 - (intOf i).toNat)
  case atStart => exact ⟨0, by omega, rfl, by rw [HF.out.1], by rw [HG.out.1], hL⟩
  case round =>
    obtain ⟨k, hk, rfl, rfl, rfl, hK⟩ := hrel
    clear hL hF
    have hL := hK
    clear hK
    (try simp only [List.setIfInBounds_toArray, List.set_cons_zero, List.set_cons_succ, List.cons_append, List.nil_append] at hL); have hF := hL.facts; (try simp only [Facts, Dist, List.map_cons, List.map_nil, List.forall_mem_cons, false_implies, ne_eq, not_false_eq_true, List.not_mem_nil, not_false_eq_true, true_implies, forall_const, List.mem_cons, or_false, implies_true, and_true, true_and, Nat.le_refl, List.setIfInBounds_toArray, List.set_cons_zero, List.set_cons_succ] at hF)
    by_cases hlt : (k : Int) ≤ s.size
    · have C1 := Lib.hid (CF.out k (by omega))
      have C2 := Lib.hid (CG.out k (by omega))
      have n1 := HF.out.2 k
      have n2 := HG.out.2 k
      obtain ⟨f1, hf1⟩ : ∃ b, f k = b := ⟨_, rfl⟩
      obtain ⟨g1, hg1⟩ : ∃ b, g k = b := ⟨_, rfl⟩
      obtain ⟨x1, hx1⟩ : ∃ b, F k = b := ⟨_, rfl⟩
      obtain ⟨y1, hy1⟩ : ∃ b, G k = b := ⟨_, rfl⟩
      rw [hf1] at C1 n1
      rw [hg1] at C2 n2
      rw [hx1] at n1 ⊢
      rw [hy1] at n2 ⊢
      have N1 := Lib.hid n1
      have N2 := Lib.hid n2
      have hk1 : k ≤ s.size := by omega
      clear hf1 hg1 hx1 hy1 n1 n2
      cases x1 <;> cases y1
      all_goals
        go_wp2_with (first | ((with_reducible refine kn_list_set ?_); (try clear hF); clear hL; intro W hL; (try simp only [List.setIfInBounds_toArray, List.set_cons_zero, List.set_cons_succ, List.cons_append, List.nil_append] at hL); have hF := hL.facts; (try simp only [Facts, Dist, List.map_cons, List.map_nil, List.forall_mem_cons, false_implies, ne_eq, not_false_eq_true, List.not_mem_nil, not_false_eq_true, true_implies, forall_const, List.mem_cons, or_false, implies_true, and_true, true_and, Nat.le_refl, List.setIfInBounds_toArray, List.set_cons_zero, List.set_cons_succ] at hF)) | (go_at_call 13; refine kn_calls ?_; (try clear hF); clear hL; intro W hL; (try simp only [List.setIfInBounds_toArray, List.set_cons_zero, List.set_cons_succ, List.cons_append, List.nil_append] at hL); have hF := hL.facts; (try simp only [Facts, Dist, List.map_cons, List.map_nil, List.forall_mem_cons, false_implies, ne_eq, not_false_eq_true, List.not_mem_nil, not_false_eq_true, true_implies, forall_const, List.mem_cons, or_false, implies_true, and_true, true_and, Nat.le_refl, List.setIfInBounds_toArray, List.set_cons_zero, List.set_cons_succ] at hF); (first | (with_reducible refine (C1.out _).mono ?_) | (with_reducible refine (C2.out _).mono ?_)); rintro e W ⟨rfl, hb⟩; replace hL := hL.below hb; clear hb; (try clear hF); (try simp only [List.setIfInBounds_toArray, List.set_cons_zero, List.set_cons_succ, List.cons_append, List.nil_append] at hL); have hF := hL.facts; (try simp only [Facts, Dist, List.map_cons, List.map_nil, List.forall_mem_cons, false_implies, ne_eq, not_false_eq_true, List.not_mem_nil, not_false_eq_true, true_implies, forall_const, List.mem_cons, or_false, implies_true, and_true, true_and, Nat.le_refl, List.setIfInBounds_toArray, List.set_cons_zero, List.set_cons_succ] at hF)))
        go_roundw
        case rel => exact ⟨k + 1, by omega, by go_num, by rw [N1.out]; first | rfl | simp, by rw [N2.out]; first | rfl | simp, hL⟩
        case measure => simp [intOf]; omega
    · obtain rfl : k = s.size + 1 := by omega
      have e1 := HEV.out
      have e2 := HBV.out
      rw [e1, e2]
      clear e1 e2
      go_wp2_with (first | ((with_reducible refine kn_list_set ?_); (try clear hF); clear hL; intro W hL; (try simp only [List.setIfInBounds_toArray, List.set_cons_zero, List.set_cons_succ, List.cons_append, List.nil_append] at hL); have hF := hL.facts; (try simp only [Facts, Dist, List.map_cons, List.map_nil, List.forall_mem_cons, false_implies, ne_eq, not_false_eq_true, List.not_mem_nil, not_false_eq_true, true_implies, forall_const, List.mem_cons, or_false, implies_true, and_true, true_and, Nat.le_refl, List.setIfInBounds_toArray, List.set_cons_zero, List.set_cons_succ] at hF)) | (go_at_call 14; refine kn_calls ?_; (try clear hF); clear hL; intro W hL; (try simp only [List.setIfInBounds_toArray, List.set_cons_zero, List.set_cons_succ, List.cons_append, List.nil_append] at hL); have hF := hL.facts; (try simp only [Facts, Dist, List.map_cons, List.map_nil, List.forall_mem_cons, false_implies, ne_eq, not_false_eq_true, List.not_mem_nil, not_false_eq_true, true_implies, forall_const, List.mem_cons, or_false, implies_true, and_true, true_and, Nat.le_refl, List.setIfInBounds_toArray, List.set_cons_zero, List.set_cons_succ] at hF); (with_reducible refine (E1.out _).mono ?_); rintro e W ⟨rfl, hb⟩; replace hL := hL.below hb; clear hb; (try clear hF); (try simp only [List.setIfInBounds_toArray, List.set_cons_zero, List.set_cons_succ, List.cons_append, List.nil_append] at hL); have hF := hL.facts; (try simp only [Facts, Dist, List.map_cons, List.map_nil, List.forall_mem_cons, false_implies, ne_eq, not_false_eq_true, List.not_mem_nil, not_false_eq_true, true_implies, forall_const, List.mem_cons, or_false, implies_true, and_true, true_and, Nat.le_refl, List.setIfInBounds_toArray, List.set_cons_zero, List.set_cons_succ] at hF)) | (go_at_call 13; refine kn_calls ?_; (try clear hF); clear hL; intro W hL; (try simp only [List.setIfInBounds_toArray, List.set_cons_zero, List.set_cons_succ, List.cons_append, List.nil_append] at hL); have hF := hL.facts; (try simp only [Facts, Dist, List.map_cons, List.map_nil, List.forall_mem_cons, false_implies, ne_eq, not_false_eq_true, List.not_mem_nil, not_false_eq_true, true_implies, forall_const, List.mem_cons, or_false, implies_true, and_true, true_and, Nat.le_refl, List.setIfInBounds_toArray, List.set_cons_zero, List.set_cons_succ] at hF); (first | (with_reducible refine (S1.out _).mono ?_) | (with_reducible refine (A1.out _).mono ?_) | (with_reducible refine (B1.out _).mono ?_) | (with_reducible refine (X1.out _).mono ?_) | (with_reducible refine (Y1.out _).mono ?_) | (with_reducible refine (Z1.out _).mono ?_)); rintro e W ⟨rfl, hb⟩; replace hL := hL.below hb; clear hb; (try clear hF); (try simp only [List.setIfInBounds_toArray, List.set_cons_zero, List.set_cons_succ, List.cons_append, List.nil_append] at hL); have hF := hL.facts; (try simp only [Facts, Dist, List.map_cons, List.map_nil, List.forall_mem_cons, false_implies, ne_eq, not_false_eq_true, List.not_mem_nil, not_false_eq_true, true_implies, forall_const, List.mem_cons, or_false, implies_true, and_true, true_and, Nat.le_refl, List.setIfInBounds_toArray, List.set_cons_zero, List.set_cons_succ] at hF)))
      (try simp only [Exit.inBlock, Exit.then]); refine bodyPost_ret (by simp [results, Tryd.results4, go_sem, *]; try rfl) rfl ?_
      exact ⟨by first | rfl | simp, hL.below0⟩

end Go.Proofs.YtjkohbecmaegmaaDoor

