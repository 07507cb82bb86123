import Derived.Test.YtjkohbecmaegmaaDoorProg
import Derived.WalkKit
import Derived.Handy
import Derived.Deep.Light
import Derived.WalkSmall
import Derived.StillTailTactics
import Derived.Lib.Hide
import Derived.Test.YtjkohbecmaegmaaDoorT0
import Derived.Test.YtjkohbecmaegmaaDoorIt
import Derived.Test.YtjkohbecmaegmaaDoorTbM
namespace Go.Proofs.YtjkohbecmaegmaaDoor
open Go Go.RowKit
set_option linter.unusedSimpArgs false
set_option linter.unusedVariables false

theorem in_range (a b c : UInt8) (t : Bytes) : inSet (a :: 45 :: b :: t) c = ((decide (a.toNat ≤ c.toNat) && decide (c.toNat ≤ b.toNat)) || inSet t c) := by rw [inSet]
theorem in_plain (a c : UInt8) (t : Bytes) (h : t.length < 2 ∨ t.head? ≠ some 45) : inSet (a :: t) c = (a == c || inSet t c) := by
  match t, h with
  | [], _ => simp [inSet]
  | [d], _ => simp [inSet]
  | d :: b :: t, h =>
    have hd : d ≠ 45 := by
      rcases h with h | h
      · simp at h; omega
      · simpa using h
    rw [inSet]
    intro x y z
    injection z with z1 z2; exact hd z1
set_option maxRecDepth 20000 in
set_option maxHeartbeats 4000000 in
theorem in_is (s : ByteArray) (hs : s.size ≤ 100000000) (c : UInt8) (w : World) :
    Calls Tryd.prog 51 #[.string s, .int .u8 c.toNat] w fun e w' => e = .returned (.bool (inSet s.data.toList c)) ∧ Below w.heap.size w w' := by
  have hsl := szl s
  obtain ⟨v, hv⟩ : ∃ v, inSet s.data.toList c = v := ⟨_, rfl⟩
  rw [hv]
  have hv := Lib.hid hv
  have hL : Kn [] w w [] := Kn.refl [] w; (try simp only [List.setIfInBounds_toArray, List.set_cons_zero, List.set_cons_succ, List.cons_append, List.nil_append] at hL); have hF := hL.facts; (try simp only [Facts, Dist, List.map_cons, List.map_nil, List.forall_mem_cons, false_implies, ne_eq, not_false_eq_true, List.not_mem_nil, not_false_eq_true, true_implies, forall_const, List.mem_cons, or_false, implies_true, and_true, true_and, Nat.le_refl, List.setIfInBounds_toArray, List.set_cons_zero, List.set_cons_succ] at hF); go_enter Tryd.func51, Tryd.ntmps51
  go_wp2
  go_loopw [5] (fun i wr => ∃ k : Nat, k ≤ s.size ∧ i = .int .i64 k ∧ Kn [] w wr [] ∧ Hid (inSet (s.data.toList.drop k) c = v)) (fun i _ => s.size - (intOf i).toNat)
  case atStart => exact ⟨0, by omega, rfl, hL, Lib.hid hv.out⟩
  case round =>
    obtain ⟨k, hk, rfl, hK, hinv⟩ := hrel
    clear hL hF
    have hL := hK
    clear hK
    (try simp only [List.setIfInBounds_toArray, List.set_cons_zero, List.set_cons_succ, List.cons_append, List.nil_append] at hL); have hF := hL.facts; (try simp only [Facts, Dist, List.map_cons, List.map_nil, List.forall_mem_cons, false_implies, ne_eq, not_false_eq_true, List.not_mem_nil, not_false_eq_true, true_implies, forall_const, List.mem_cons, or_false, implies_true, and_true, true_and, Nat.le_refl, List.setIfInBounds_toArray, List.set_cons_zero, List.set_cons_succ] at hF)
    by_cases hlt : k < s.size
    · obtain ⟨a, hka⟩ : ∃ a, s.data.toList[k]? = some a := ⟨_, List.getElem?_eq_getElem (by omega)⟩
      have e0 := byte_at hka hlt
      have hd : s.data.toList.drop k = a :: s.data.toList.drop (k + 1) := by
        obtain ⟨h1, h2⟩ := List.getElem?_eq_some_iff.1 hka
        rw [List.drop_eq_getElem_cons h1, h2]
      have hc256 := c.toNat_lt
      by_cases hr : ∃ b, k + 2 < s.size ∧ s.data.toList[k + 1]? = some 45 ∧ s.data.toList[k + 2]? = some b
      · obtain ⟨b, hk2, h45, hkb⟩ := hr
        have e1 := byte_at h45 (by omega)
        have e2 := byte_at hkb hk2
        have hd3 : s.data.toList.drop k = a :: 45 :: b :: s.data.toList.drop (k + 3) := by
          rw [hd]
          obtain ⟨h1, h2⟩ := List.getElem?_eq_some_iff.1 h45
          obtain ⟨h3, h4⟩ := List.getElem?_eq_some_iff.1 hkb
          rw [List.drop_eq_getElem_cons h1, h2, List.drop_eq_getElem_cons h3, h4]
        have hk2i : (k : Int) + 2 < s.size := by omega
        have hin := hinv.out
        rw [hd3, in_range] at hin
        by_cases h1 : (a.toNat : Int) ≤ c.toNat
        · by_cases h2 : (c.toNat : Int) ≤ b.toNat
          · have hvt : v = true := by rw [← hin]; simp; left; omega
            go_wp2
            (try simp only [Exit.inBlock, Exit.then]); refine bodyPost_ret (by simp [results, Tryd.results51, go_sem, *]; try rfl) rfl ?_
            exact ⟨by first | rfl | rw [hvt], hL.below0⟩
          · have hin2 : Hid (inSet (s.data.toList.drop (k + 3)) c = v) := Lib.hid (by rw [← hin, decide_eq_false (p := c.toNat ≤ b.toNat) (by omega)]; simp)
            clear hin hinv
            go_wp2
            go_roundw
            case rel => exact ⟨k + 3, by omega, by go_num, hL, hin2⟩
            case measure => simp [intOf]; omega
        · have hin2 : Hid (inSet (s.data.toList.drop (k + 3)) c = v) := Lib.hid (by rw [← hin, decide_eq_false (p := a.toNat ≤ c.toNat) (by omega)]; simp)
          clear hin hinv
          go_wp2
          go_roundw
          case rel => exact ⟨k + 3, by omega, by go_num, hL, hin2⟩
          case measure => simp [intOf]; omega
      · have hpl : (s.data.toList.drop (k + 1)).length < 2 ∨ (s.data.toList.drop (k + 1)).head? ≠ some 45 := by
          by_cases hk2 : k + 2 < s.size
          · right
            rw [List.head?_drop]
            intro h45
            obtain ⟨b, hkb⟩ : ∃ b, s.data.toList[k + 2]? = some b := ⟨_, List.getElem?_eq_getElem (by omega)⟩
            exact hr ⟨b, hk2, h45, hkb⟩
          · left; rw [List.length_drop]; omega
        have hin := hinv.out
        rw [hd, in_plain a c _ hpl] at hin
        by_cases hk2 : k + 2 < s.size
        · obtain ⟨d, hkd⟩ : ∃ d, s.data.toList[k + 1]? = some d := ⟨_, List.getElem?_eq_getElem (by omega)⟩
          have e1 := byte_at hkd (by omega)
          have hd45 : ((d.toNat : Int) == 45) = false := beq_false_of_ne fun h => by
            have : d = 45 := UInt8.toNat_inj.1 (show d.toNat = 45 by omega)
            subst this
            obtain ⟨b, hkb⟩ : ∃ b, s.data.toList[k + 2]? = some b := ⟨_, List.getElem?_eq_getElem (by omega)⟩
            exact hr ⟨b, hk2, hkd, hkb⟩
          have hk2i : (k : Int) + 2 < s.size := by omega
          by_cases hac : a = c
          · have hvt : v = true := by rw [← hin, hac]; simp
            subst hac
            clear hr hin hinv hpl
            go_wp2
            (try simp only [Exit.inBlock, Exit.then]); refine bodyPost_ret (by simp [results, Tryd.results51, go_sem, *]; try rfl) rfl ?_
            exact ⟨by first | rfl | rw [hvt], hL.below0⟩
          · have hin2 : Hid (inSet (s.data.toList.drop (k + 1)) c = v) := Lib.hid (by rw [← hin, beq_false_of_ne hac]; simp)
            have hacn : ((a.toNat : Int) == (c.toNat : Int)) = false := beq_false_of_ne fun h => hac (UInt8.toNat_inj.1 (by omega))
            clear hr hin hinv hpl hac
            go_wp2
            go_roundw
            case rel => exact ⟨k + 1, by omega, by go_num, hL, hin2⟩
            case measure => simp [intOf]; omega
        · have hk2i : ¬ (k : Int) + 2 < s.size := by omega
          by_cases hac : a = c
          · have hvt : v = true := by rw [← hin, hac]; simp
            subst hac
            clear hr hin hinv hpl
            go_wp2
            (try simp only [Exit.inBlock, Exit.then]); refine bodyPost_ret (by simp [results, Tryd.results51, go_sem, *]; try rfl) rfl ?_
            exact ⟨by first | rfl | rw [hvt], hL.below0⟩
          · have hin2 : Hid (inSet (s.data.toList.drop (k + 1)) c = v) := Lib.hid (by rw [← hin, beq_false_of_ne hac]; simp)
            have hacn : ((a.toNat : Int) == (c.toNat : Int)) = false := beq_false_of_ne fun h => hac (UInt8.toNat_inj.1 (by omega))
            clear hr hin hinv hpl hac
            go_wp2
            go_roundw
            case rel => exact ⟨k + 1, by omega, by go_num, hL, hin2⟩
            case measure => simp [intOf]; omega
    · obtain rfl : k = s.size := by omega
      have hvf : v = false := by rw [← hinv.out, List.drop_eq_nil_of_le (by omega)]; rfl
      go_wp2
      (try simp only [Exit.inBlock, Exit.then]); refine bodyPost_ret (by simp [results, Tryd.results51, go_sem, *]; try rfl) rfl ?_
      exact ⟨by rw [hvf], hL.below0⟩

end Go.Proofs.YtjkohbecmaegmaaDoor

namespace Go.Proofs.YtjkohbecmaegmaaDoor
open Go Go.RowKit
set_option linter.unusedSimpArgs false
set_option linter.unusedVariables false

set_option maxRecDepth 20000 in
theorem one_esc (p : ByteArray) (i : Nat) (c : UInt8) (hp : p.size ≤ 100000000) (hlt : i < p.size) (hb0 : ∀ h, p[i]'h = 92) (h1 : (i : Int) + 1 < p.size) (d : UInt8) (hb1 : ∀ h, p[i + 1]'h = d) (v : Bool) (hv : ((d.toNat : Int) == (c.toNat : Int)) = v) (w : World) :
    Calls Tryd.prog 39 #[.string p, .int .i64 i, .int .u8 c.toNat] w fun e w' => e = .returned (.tuple #[.int .i64 2, .bool v]) ∧ Below w.heap.size w w' := by
  have hlt1 : (i : Int) < p.size := by omega
  have hL : Kn [] w w [] := Kn.refl [] w; (try simp only [List.setIfInBounds_toArray, List.set_cons_zero, List.set_cons_succ, List.cons_append, List.nil_append] at hL); have hF := hL.facts; (try simp only [Facts, Dist, List.map_cons, List.map_nil, List.forall_mem_cons, false_implies, ne_eq, not_false_eq_true, List.not_mem_nil, not_false_eq_true, true_implies, forall_const, List.mem_cons, or_false, implies_true, and_true, true_and, Nat.le_refl, List.setIfInBounds_toArray, List.set_cons_zero, List.set_cons_succ] at hF); go_enter Tryd.func39, Tryd.ntmps39
  go_wp2_with (first | ((with_reducible refine kn_list_set ?_); (try clear hF); clear hL; intro W hL; (try simp only [List.setIfInBounds_toArray, List.set_cons_zero, List.set_cons_succ, List.cons_append, List.nil_append] at hL); have hF := hL.facts; (try simp only [Facts, Dist, List.map_cons, List.map_nil, List.forall_mem_cons, false_implies, ne_eq, not_false_eq_true, List.not_mem_nil, not_false_eq_true, true_implies, forall_const, List.mem_cons, or_false, implies_true, and_true, true_and, Nat.le_refl, List.setIfInBounds_toArray, List.set_cons_zero, List.set_cons_succ] at hF)) | ((with_reducible refine at_region 2 ?_); refine kn_wp ?_; (try clear hF); clear hL; intro W hL; (try simp only [List.setIfInBounds_toArray, List.set_cons_zero, List.set_cons_succ, List.cons_append, List.nil_append] at hL); have hF := hL.facts; (try simp only [Facts, Dist, List.map_cons, List.map_nil, List.forall_mem_cons, false_implies, ne_eq, not_false_eq_true, List.not_mem_nil, not_false_eq_true, true_implies, forall_const, List.mem_cons, or_false, implies_true, and_true, true_and, Nat.le_refl, List.setIfInBounds_toArray, List.set_cons_zero, List.set_cons_succ] at hF); refine kn_region [0, 1, 2, 3, 4, 5, 6, 7] [0, 1, 2, 3, 4, 5, 6, 7] [] [0, 1, 2, 3, 4, 5, 6, 7] (by kernel_rfl) (by kernel_rfl) (List.Sublist.refl _) ?_; (try clear hF); clear hL; intro ι F hne hC hFF; have hG := fun n => (hFF n).facts; clear hFF; (try simp only [Facts, Dist, List.map_cons, List.map_nil, List.forall_mem_cons, false_implies, ne_eq, not_false_eq_true, List.not_mem_nil, not_false_eq_true, true_implies, forall_const, List.mem_cons, or_false, implies_true, and_true, true_and, Nat.le_refl, List.setIfInBounds_toArray, List.set_cons_zero, List.set_cons_succ] at hG); (repeat (first | (refine cwk_skip rfl (by rfl) ?_; (try simp only [Act.put, List.setIfInBounds_toArray, List.set_cons_zero, List.set_cons_succ])) | (refine cwk_float rfl rfl (by rfl) (by rfl) (by rfl) hC ?_; intro K hK; go_big_quiet_op; go_big_quiet_on) | (refine cwk_pure rfl rfl (by rfl) (by rfl) ?_; intro K hK; go_big_quiet_op; go_big_quiet_on) | (refine cwk_anch rfl rfl (by rfl) (by rfl) ?_; intro W hL; (try simp only [List.setIfInBounds_toArray, List.set_cons_zero, List.set_cons_succ, List.cons_append, List.nil_append] at hL); have hF := hL.facts; (try simp only [Facts, Dist, List.map_cons, List.map_nil, List.forall_mem_cons, false_implies, ne_eq, not_false_eq_true, List.not_mem_nil, not_false_eq_true, true_implies, forall_const, List.mem_cons, or_false, implies_true, and_true, true_and, Nat.le_refl, List.setIfInBounds_toArray, List.set_cons_zero, List.set_cons_succ] at hF); go_wp2; refine anchQ_normal ?_; (first | (refine owedB _ (by rfl) ?_; clear hL; (try clear hF); clear hC hG; intro ι F hne hC hFF; have hG := fun n => (hFF n).facts; clear hFF; (try simp only [Facts, Dist, List.map_cons, List.map_nil, List.forall_mem_cons, false_implies, ne_eq, not_false_eq_true, List.not_mem_nil, not_false_eq_true, true_implies, forall_const, List.mem_cons, or_false, implies_true, and_true, true_and, Nat.le_refl, List.setIfInBounds_toArray, List.set_cons_zero, List.set_cons_succ] at hG)) | (refine owed0 _ (by repeat' (first | (with_reducible exact List.Sublist.refl _) | (with_reducible apply List.Sublist.cons_cons) | (with_reducible apply List.Sublist.cons))) ?_; clear hL; (try clear hF)))))); refine cwk_nil ?_; clear hC hG; intro W hL; (try simp only [List.setIfInBounds_toArray, List.set_cons_zero, List.set_cons_succ, List.cons_append, List.nil_append] at hL); have hF := hL.facts; (try simp only [Facts, Dist, List.map_cons, List.map_nil, List.forall_mem_cons, false_implies, ne_eq, not_false_eq_true, List.not_mem_nil, not_false_eq_true, true_implies, forall_const, List.mem_cons, or_false, implies_true, and_true, true_and, Nat.le_refl, List.setIfInBounds_toArray, List.set_cons_zero, List.set_cons_succ] at hF)))
  (try simp only [Exit.inBlock, Exit.then]); refine bodyPost_ret (by simp [results, Tryd.results39, go_sem, *]; try rfl) rfl ?_
  exact ⟨rfl, kn_here.below0⟩

set_option maxRecDepth 20000 in
theorem one_last (p : ByteArray) (i : Nat) (c : UInt8) (hp : p.size ≤ 100000000) (hlt : i < p.size) (hb0 : ∀ h, p[i]'h = 92) (h1 : ¬ (i : Int) + 1 < p.size) (v : Bool) (hv : ((92 : Int) == (c.toNat : Int)) = v) (w : World) :
    Calls Tryd.prog 39 #[.string p, .int .i64 i, .int .u8 c.toNat] w fun e w' => e = .returned (.tuple #[.int .i64 1, .bool v]) ∧ Below w.heap.size w w' := by
  have hlt1 : (i : Int) < p.size := by omega
  have hL : Kn [] w w [] := Kn.refl [] w; (try simp only [List.setIfInBounds_toArray, List.set_cons_zero, List.set_cons_succ, List.cons_append, List.nil_append] at hL); have hF := hL.facts; (try simp only [Facts, Dist, List.map_cons, List.map_nil, List.forall_mem_cons, false_implies, ne_eq, not_false_eq_true, List.not_mem_nil, not_false_eq_true, true_implies, forall_const, List.mem_cons, or_false, implies_true, and_true, true_and, Nat.le_refl, List.setIfInBounds_toArray, List.set_cons_zero, List.set_cons_succ] at hF); go_enter Tryd.func39, Tryd.ntmps39
  go_wp2_with (first | ((with_reducible refine kn_list_set ?_); (try clear hF); clear hL; intro W hL; (try simp only [List.setIfInBounds_toArray, List.set_cons_zero, List.set_cons_succ, List.cons_append, List.nil_append] at hL); have hF := hL.facts; (try simp only [Facts, Dist, List.map_cons, List.map_nil, List.forall_mem_cons, false_implies, ne_eq, not_false_eq_true, List.not_mem_nil, not_false_eq_true, true_implies, forall_const, List.mem_cons, or_false, implies_true, and_true, true_and, Nat.le_refl, List.setIfInBounds_toArray, List.set_cons_zero, List.set_cons_succ] at hF)) | ((with_reducible refine at_region 9 ?_); refine kn_wp ?_; (try clear hF); clear hL; intro W hL; (try simp only [List.setIfInBounds_toArray, List.set_cons_zero, List.set_cons_succ, List.cons_append, List.nil_append] at hL); have hF := hL.facts; (try simp only [Facts, Dist, List.map_cons, List.map_nil, List.forall_mem_cons, false_implies, ne_eq, not_false_eq_true, List.not_mem_nil, not_false_eq_true, true_implies, forall_const, List.mem_cons, or_false, implies_true, and_true, true_and, Nat.le_refl, List.setIfInBounds_toArray, List.set_cons_zero, List.set_cons_succ] at hF); refine kn_region [0, 1, 2, 3, 4, 5, 6] [0, 1, 2, 3, 4, 5, 6] [] [0, 1, 2, 3, 4, 5, 6] (by kernel_rfl) (by kernel_rfl) (List.Sublist.refl _) ?_; (try clear hF); clear hL; intro ι F hne hC hFF; have hG := fun n => (hFF n).facts; clear hFF; (try simp only [Facts, Dist, List.map_cons, List.map_nil, List.forall_mem_cons, false_implies, ne_eq, not_false_eq_true, List.not_mem_nil, not_false_eq_true, true_implies, forall_const, List.mem_cons, or_false, implies_true, and_true, true_and, Nat.le_refl, List.setIfInBounds_toArray, List.set_cons_zero, List.set_cons_succ] at hG); (repeat (first | (refine cwk_skip rfl (by rfl) ?_; (try simp only [Act.put, List.setIfInBounds_toArray, List.set_cons_zero, List.set_cons_succ])) | (refine cwk_float rfl rfl (by rfl) (by rfl) (by rfl) hC ?_; intro K hK; go_big_quiet_op; go_big_quiet_on) | (refine cwk_pure rfl rfl (by rfl) (by rfl) ?_; intro K hK; go_big_quiet_op; go_big_quiet_on) | (refine cwk_anch rfl rfl (by rfl) (by rfl) ?_; intro W hL; (try simp only [List.setIfInBounds_toArray, List.set_cons_zero, List.set_cons_succ, List.cons_append, List.nil_append] at hL); have hF := hL.facts; (try simp only [Facts, Dist, List.map_cons, List.map_nil, List.forall_mem_cons, false_implies, ne_eq, not_false_eq_true, List.not_mem_nil, not_false_eq_true, true_implies, forall_const, List.mem_cons, or_false, implies_true, and_true, true_and, Nat.le_refl, List.setIfInBounds_toArray, List.set_cons_zero, List.set_cons_succ] at hF); go_wp2; refine anchQ_normal ?_; (first | (refine owedB _ (by rfl) ?_; clear hL; (try clear hF); clear hC hG; intro ι F hne hC hFF; have hG := fun n => (hFF n).facts; clear hFF; (try simp only [Facts, Dist, List.map_cons, List.map_nil, List.forall_mem_cons, false_implies, ne_eq, not_false_eq_true, List.not_mem_nil, not_false_eq_true, true_implies, forall_const, List.mem_cons, or_false, implies_true, and_true, true_and, Nat.le_refl, List.setIfInBounds_toArray, List.set_cons_zero, List.set_cons_succ] at hG)) | (refine owed0 _ (by repeat' (first | (with_reducible exact List.Sublist.refl _) | (with_reducible apply List.Sublist.cons_cons) | (with_reducible apply List.Sublist.cons))) ?_; clear hL; (try clear hF)))))); refine cwk_nil ?_; clear hC hG; intro W hL; (try simp only [List.setIfInBounds_toArray, List.set_cons_zero, List.set_cons_succ, List.cons_append, List.nil_append] at hL); have hF := hL.facts; (try simp only [Facts, Dist, List.map_cons, List.map_nil, List.forall_mem_cons, false_implies, ne_eq, not_false_eq_true, List.not_mem_nil, not_false_eq_true, true_implies, forall_const, List.mem_cons, or_false, implies_true, and_true, true_and, Nat.le_refl, List.setIfInBounds_toArray, List.set_cons_zero, List.set_cons_succ] at hF)))
  (try simp only [Exit.inBlock, Exit.then]); refine bodyPost_ret (by simp [results, Tryd.results39, go_sem, *]; try rfl) rfl ?_
  exact ⟨rfl, kn_here.below0⟩

set_option maxRecDepth 20000 in
theorem one_any (p : ByteArray) (i : Nat) (c : UInt8) (hp : p.size ≤ 100000000) (hlt : i < p.size) (hb0 : ∀ h, p[i]'h = 63)  (w : World) :
    Calls Tryd.prog 39 #[.string p, .int .i64 i, .int .u8 c.toNat] w fun e w' => e = .returned (.tuple #[.int .i64 1, .bool true]) ∧ Below w.heap.size w w' := by
  have hlt1 : (i : Int) < p.size := by omega
  have hL : Kn [] w w [] := Kn.refl [] w; (try simp only [List.setIfInBounds_toArray, List.set_cons_zero, List.set_cons_succ, List.cons_append, List.nil_append] at hL); have hF := hL.facts; (try simp only [Facts, Dist, List.map_cons, List.map_nil, List.forall_mem_cons, false_implies, ne_eq, not_false_eq_true, List.not_mem_nil, not_false_eq_true, true_implies, forall_const, List.mem_cons, or_false, implies_true, and_true, true_and, Nat.le_refl, List.setIfInBounds_toArray, List.set_cons_zero, List.set_cons_succ] at hF); go_enter Tryd.func39, Tryd.ntmps39
  go_wp2
  (try simp only [Exit.inBlock, Exit.then]); refine bodyPost_ret (by simp [results, Tryd.results39, go_sem, *]; try rfl) rfl ?_
  exact ⟨rfl, kn_here.below0⟩

set_option maxRecDepth 20000 in
theorem one_byte (p : ByteArray) (i : Nat) (c d : UInt8) (hp : p.size ≤ 100000000) (hlt : i < p.size) (hb0 : ∀ h, p[i]'h = d) (d92 : ((d.toNat : Int) == 92) = false) (d63 : ((d.toNat : Int) == 63) = false) (d91 : ((d.toNat : Int) == 91) = false) (v : Bool) (hv : ((d.toNat : Int) == (c.toNat : Int)) = v) (w : World) :
    Calls Tryd.prog 39 #[.string p, .int .i64 i, .int .u8 c.toNat] w fun e w' => e = .returned (.tuple #[.int .i64 1, .bool v]) ∧ Below w.heap.size w w' := by
  have hlt1 : (i : Int) < p.size := by omega
  have hL : Kn [] w w [] := Kn.refl [] w; (try simp only [List.setIfInBounds_toArray, List.set_cons_zero, List.set_cons_succ, List.cons_append, List.nil_append] at hL); have hF := hL.facts; (try simp only [Facts, Dist, List.map_cons, List.map_nil, List.forall_mem_cons, false_implies, ne_eq, not_false_eq_true, List.not_mem_nil, not_false_eq_true, true_implies, forall_const, List.mem_cons, or_false, implies_true, and_true, true_and, Nat.le_refl, List.setIfInBounds_toArray, List.set_cons_zero, List.set_cons_succ] at hF); go_enter Tryd.func39, Tryd.ntmps39
  go_wp2_with (first | ((with_reducible refine kn_list_set ?_); (try clear hF); clear hL; intro W hL; (try simp only [List.setIfInBounds_toArray, List.set_cons_zero, List.set_cons_succ, List.cons_append, List.nil_append] at hL); have hF := hL.facts; (try simp only [Facts, Dist, List.map_cons, List.map_nil, List.forall_mem_cons, false_implies, ne_eq, not_false_eq_true, List.not_mem_nil, not_false_eq_true, true_implies, forall_const, List.mem_cons, or_false, implies_true, and_true, true_and, Nat.le_refl, List.setIfInBounds_toArray, List.set_cons_zero, List.set_cons_succ] at hF)) | ((with_reducible refine at_region 9 ?_); refine kn_wp ?_; (try clear hF); clear hL; intro W hL; (try simp only [List.setIfInBounds_toArray, List.set_cons_zero, List.set_cons_succ, List.cons_append, List.nil_append] at hL); have hF := hL.facts; (try simp only [Facts, Dist, List.map_cons, List.map_nil, List.forall_mem_cons, false_implies, ne_eq, not_false_eq_true, List.not_mem_nil, not_false_eq_true, true_implies, forall_const, List.mem_cons, or_false, implies_true, and_true, true_and, Nat.le_refl, List.setIfInBounds_toArray, List.set_cons_zero, List.set_cons_succ] at hF); refine kn_region [0, 1, 2, 3, 4, 5, 6] [0, 1, 2, 3, 4, 5, 6] [] [0, 1, 2, 3, 4, 5, 6] (by kernel_rfl) (by kernel_rfl) (List.Sublist.refl _) ?_; (try clear hF); clear hL; intro ι F hne hC hFF; have hG := fun n => (hFF n).facts; clear hFF; (try simp only [Facts, Dist, List.map_cons, List.map_nil, List.forall_mem_cons, false_implies, ne_eq, not_false_eq_true, List.not_mem_nil, not_false_eq_true, true_implies, forall_const, List.mem_cons, or_false, implies_true, and_true, true_and, Nat.le_refl, List.setIfInBounds_toArray, List.set_cons_zero, List.set_cons_succ] at hG); (repeat (first | (refine cwk_skip rfl (by rfl) ?_; (try simp only [Act.put, List.setIfInBounds_toArray, List.set_cons_zero, List.set_cons_succ])) | (refine cwk_float rfl rfl (by rfl) (by rfl) (by rfl) hC ?_; intro K hK; go_big_quiet_op; go_big_quiet_on) | (refine cwk_pure rfl rfl (by rfl) (by rfl) ?_; intro K hK; go_big_quiet_op; go_big_quiet_on) | (refine cwk_anch rfl rfl (by rfl) (by rfl) ?_; intro W hL; (try simp only [List.setIfInBounds_toArray, List.set_cons_zero, List.set_cons_succ, List.cons_append, List.nil_append] at hL); have hF := hL.facts; (try simp only [Facts, Dist, List.map_cons, List.map_nil, List.forall_mem_cons, false_implies, ne_eq, not_false_eq_true, List.not_mem_nil, not_false_eq_true, true_implies, forall_const, List.mem_cons, or_false, implies_true, and_true, true_and, Nat.le_refl, List.setIfInBounds_toArray, List.set_cons_zero, List.set_cons_succ] at hF); go_wp2; refine anchQ_normal ?_; (first | (refine owedB _ (by rfl) ?_; clear hL; (try clear hF); clear hC hG; intro ι F hne hC hFF; have hG := fun n => (hFF n).facts; clear hFF; (try simp only [Facts, Dist, List.map_cons, List.map_nil, List.forall_mem_cons, false_implies, ne_eq, not_false_eq_true, List.not_mem_nil, not_false_eq_true, true_implies, forall_const, List.mem_cons, or_false, implies_true, and_true, true_and, Nat.le_refl, List.setIfInBounds_toArray, List.set_cons_zero, List.set_cons_succ] at hG)) | (refine owed0 _ (by repeat' (first | (with_reducible exact List.Sublist.refl _) | (with_reducible apply List.Sublist.cons_cons) | (with_reducible apply List.Sublist.cons))) ?_; clear hL; (try clear hF)))))); refine cwk_nil ?_; clear hC hG; intro W hL; (try simp only [List.setIfInBounds_toArray, List.set_cons_zero, List.set_cons_succ, List.cons_append, List.nil_append] at hL); have hF := hL.facts; (try simp only [Facts, Dist, List.map_cons, List.map_nil, List.forall_mem_cons, false_implies, ne_eq, not_false_eq_true, List.not_mem_nil, not_false_eq_true, true_implies, forall_const, List.mem_cons, or_false, implies_true, and_true, true_and, Nat.le_refl, List.setIfInBounds_toArray, List.set_cons_zero, List.set_cons_succ] at hF)))
  (try simp only [Exit.inBlock, Exit.then]); refine bodyPost_ret (by simp [results, Tryd.results39, go_sem, *]; try rfl) rfl ?_
  exact ⟨rfl, kn_here.below0⟩

set_option maxRecDepth 20000 in
theorem one_cls (p : ByteArray) (i : Nat) (c : UInt8) (hp : p.size ≤ 100000000) (hlt : i < p.size) (hb0 : ∀ h, p[i]'h = 91) (n : Int) (neg : Bool) (a : ByteArray) (CLS : Hid (∀ W, Calls Tryd.prog 44 #[.string p, .int .i64 i] W fun e w' => e = .returned (.tuple #[.int .i64 n, .bool neg, .string a, .bool true]) ∧ Below W.heap.size W w')) (has : a.size ≤ 100000000) (v : Bool) (hv : (!inSet a.data.toList c == neg) = v) (k : Int) (hk : wrap64 (wrap64 (n + 1) - i) = k) (w : World) :
    Calls Tryd.prog 39 #[.string p, .int .i64 i, .int .u8 c.toNat] w fun e w' => e = .returned (.tuple #[.int .i64 k, .bool v]) ∧ Below w.heap.size w w' := by
  have hlt1 : (i : Int) < p.size := by omega
  have hL : Kn [] w w [] := Kn.refl [] w; (try simp only [List.setIfInBounds_toArray, List.set_cons_zero, List.set_cons_succ, List.cons_append, List.nil_append] at hL); have hF := hL.facts; (try simp only [Facts, Dist, List.map_cons, List.map_nil, List.forall_mem_cons, false_implies, ne_eq, not_false_eq_true, List.not_mem_nil, not_false_eq_true, true_implies, forall_const, List.mem_cons, or_false, implies_true, and_true, true_and, Nat.le_refl, List.setIfInBounds_toArray, List.set_cons_zero, List.set_cons_succ] at hF); go_enter Tryd.func39, Tryd.ntmps39
  go_wp2_with (first | ((with_reducible refine kn_list_set ?_); (try clear hF); clear hL; intro W hL; (try simp only [List.setIfInBounds_toArray, List.set_cons_zero, List.set_cons_succ, List.cons_append, List.nil_append] at hL); have hF := hL.facts; (try simp only [Facts, Dist, List.map_cons, List.map_nil, List.forall_mem_cons, false_implies, ne_eq, not_false_eq_true, List.not_mem_nil, not_false_eq_true, true_implies, forall_const, List.mem_cons, or_false, implies_true, and_true, true_and, Nat.le_refl, List.setIfInBounds_toArray, List.set_cons_zero, List.set_cons_succ] at hF)) | (go_at_call 44; refine kn_calls ?_; (try clear hF); clear hL; intro W hL; (try simp only [List.setIfInBounds_toArray, List.set_cons_zero, List.set_cons_succ, List.cons_append, List.nil_append] at hL); have hF := hL.facts; (try simp only [Facts, Dist, List.map_cons, List.map_nil, List.forall_mem_cons, false_implies, ne_eq, not_false_eq_true, List.not_mem_nil, not_false_eq_true, true_implies, forall_const, List.mem_cons, or_false, implies_true, and_true, true_and, Nat.le_refl, List.setIfInBounds_toArray, List.set_cons_zero, List.set_cons_succ] at hF); (with_reducible refine (CLS.out _).mono ?_); rintro e W ⟨rfl, hb⟩; replace hL := hL.below hb; clear hb; (try clear hF); (try simp only [List.setIfInBounds_toArray, List.set_cons_zero, List.set_cons_succ, List.cons_append, List.nil_append] at hL); have hF := hL.facts; (try simp only [Facts, Dist, List.map_cons, List.map_nil, List.forall_mem_cons, false_implies, ne_eq, not_false_eq_true, List.not_mem_nil, not_false_eq_true, true_implies, forall_const, List.mem_cons, or_false, implies_true, and_true, true_and, Nat.le_refl, List.setIfInBounds_toArray, List.set_cons_zero, List.set_cons_succ] at hF)) | (go_at_call 51; refine kn_calls ?_; (try clear hF); clear hL; intro W hL; (try simp only [List.setIfInBounds_toArray, List.set_cons_zero, List.set_cons_succ, List.cons_append, List.nil_append] at hL); have hF := hL.facts; (try simp only [Facts, Dist, List.map_cons, List.map_nil, List.forall_mem_cons, false_implies, ne_eq, not_false_eq_true, List.not_mem_nil, not_false_eq_true, true_implies, forall_const, List.mem_cons, or_false, implies_true, and_true, true_and, Nat.le_refl, List.setIfInBounds_toArray, List.set_cons_zero, List.set_cons_succ] at hF); (with_reducible refine (in_is a has c _).mono ?_); rintro e W ⟨rfl, hb⟩; replace hL := hL.below hb; clear hb; (try clear hF); (try simp only [List.setIfInBounds_toArray, List.set_cons_zero, List.set_cons_succ, List.cons_append, List.nil_append] at hL); have hF := hL.facts; (try simp only [Facts, Dist, List.map_cons, List.map_nil, List.forall_mem_cons, false_implies, ne_eq, not_false_eq_true, List.not_mem_nil, not_false_eq_true, true_implies, forall_const, List.mem_cons, or_false, implies_true, and_true, true_and, Nat.le_refl, List.setIfInBounds_toArray, List.set_cons_zero, List.set_cons_succ] at hF)))
  (try simp only [Exit.inBlock, Exit.then]); refine bodyPost_ret (by simp [results, Tryd.results39, go_sem, *]; try rfl) rfl ?_
  exact ⟨rfl, kn_here.below0⟩

set_option maxRecDepth 20000 in
theorem one_open (p : ByteArray) (i : Nat) (c : UInt8) (hp : p.size ≤ 100000000) (hlt : i < p.size) (hb0 : ∀ h, p[i]'h = 91) (CLS : Hid (∀ W, Calls Tryd.prog 44 #[.string p, .int .i64 i] W fun e w' => e = .returned (.tuple #[.int .i64 0, .bool false, .string ⟨#[]⟩, .bool false]) ∧ Below W.heap.size W w')) (v : Bool) (hv : ((91 : Int) == (c.toNat : Int)) = v) (w : World) :
    Calls Tryd.prog 39 #[.string p, .int .i64 i, .int .u8 c.toNat] w fun e w' => e = .returned (.tuple #[.int .i64 1, .bool v]) ∧ Below w.heap.size w w' := by
  have hlt1 : (i : Int) < p.size := by omega
  have hL : Kn [] w w [] := Kn.refl [] w; (try simp only [List.setIfInBounds_toArray, List.set_cons_zero, List.set_cons_succ, List.cons_append, List.nil_append] at hL); have hF := hL.facts; (try simp only [Facts, Dist, List.map_cons, List.map_nil, List.forall_mem_cons, false_implies, ne_eq, not_false_eq_true, List.not_mem_nil, not_false_eq_true, true_implies, forall_const, List.mem_cons, or_false, implies_true, and_true, true_and, Nat.le_refl, List.setIfInBounds_toArray, List.set_cons_zero, List.set_cons_succ] at hF); go_enter Tryd.func39, Tryd.ntmps39
  go_wp2_with (first | ((with_reducible refine kn_list_set ?_); (try clear hF); clear hL; intro W hL; (try simp only [List.setIfInBounds_toArray, List.set_cons_zero, List.set_cons_succ, List.cons_append, List.nil_append] at hL); have hF := hL.facts; (try simp only [Facts, Dist, List.map_cons, List.map_nil, List.forall_mem_cons, false_implies, ne_eq, not_false_eq_true, List.not_mem_nil, not_false_eq_true, true_implies, forall_const, List.mem_cons, or_false, implies_true, and_true, true_and, Nat.le_refl, List.setIfInBounds_toArray, List.set_cons_zero, List.set_cons_succ] at hF)) | (go_at_call 44; refine kn_calls ?_; (try clear hF); clear hL; intro W hL; (try simp only [List.setIfInBounds_toArray, List.set_cons_zero, List.set_cons_succ, List.cons_append, List.nil_append] at hL); have hF := hL.facts; (try simp only [Facts, Dist, List.map_cons, List.map_nil, List.forall_mem_cons, false_implies, ne_eq, not_false_eq_true, List.not_mem_nil, not_false_eq_true, true_implies, forall_const, List.mem_cons, or_false, implies_true, and_true, true_and, Nat.le_refl, List.setIfInBounds_toArray, List.set_cons_zero, List.set_cons_succ] at hF); (with_reducible refine (CLS.out _).mono ?_); rintro e W ⟨rfl, hb⟩; replace hL := hL.below hb; clear hb; (try clear hF); (try simp only [List.setIfInBounds_toArray, List.set_cons_zero, List.set_cons_succ, List.cons_append, List.nil_append] at hL); have hF := hL.facts; (try simp only [Facts, Dist, List.map_cons, List.map_nil, List.forall_mem_cons, false_implies, ne_eq, not_false_eq_true, List.not_mem_nil, not_false_eq_true, true_implies, forall_const, List.mem_cons, or_false, implies_true, and_true, true_and, Nat.le_refl, List.setIfInBounds_toArray, List.set_cons_zero, List.set_cons_succ] at hF)) | ((with_reducible refine at_region 9 ?_); refine kn_wp ?_; (try clear hF); clear hL; intro W hL; (try simp only [List.setIfInBounds_toArray, List.set_cons_zero, List.set_cons_succ, List.cons_append, List.nil_append] at hL); have hF := hL.facts; (try simp only [Facts, Dist, List.map_cons, List.map_nil, List.forall_mem_cons, false_implies, ne_eq, not_false_eq_true, List.not_mem_nil, not_false_eq_true, true_implies, forall_const, List.mem_cons, or_false, implies_true, and_true, true_and, Nat.le_refl, List.setIfInBounds_toArray, List.set_cons_zero, List.set_cons_succ] at hF); refine kn_region [0, 1, 2, 3, 4, 5, 6] [0, 1, 2, 3, 4, 5, 6] [] [0, 1, 2, 3, 4, 5, 6] (by kernel_rfl) (by kernel_rfl) (List.Sublist.refl _) ?_; (try clear hF); clear hL; intro ι F hne hC hFF; have hG := fun n => (hFF n).facts; clear hFF; (try simp only [Facts, Dist, List.map_cons, List.map_nil, List.forall_mem_cons, false_implies, ne_eq, not_false_eq_true, List.not_mem_nil, not_false_eq_true, true_implies, forall_const, List.mem_cons, or_false, implies_true, and_true, true_and, Nat.le_refl, List.setIfInBounds_toArray, List.set_cons_zero, List.set_cons_succ] at hG); (repeat (first | (refine cwk_skip rfl (by rfl) ?_; (try simp only [Act.put, List.setIfInBounds_toArray, List.set_cons_zero, List.set_cons_succ])) | (refine cwk_float rfl rfl (by rfl) (by rfl) (by rfl) hC ?_; intro K hK; go_big_quiet_op; go_big_quiet_on) | (refine cwk_pure rfl rfl (by rfl) (by rfl) ?_; intro K hK; go_big_quiet_op; go_big_quiet_on) | (refine cwk_anch rfl rfl (by rfl) (by rfl) ?_; intro W hL; (try simp only [List.setIfInBounds_toArray, List.set_cons_zero, List.set_cons_succ, List.cons_append, List.nil_append] at hL); have hF := hL.facts; (try simp only [Facts, Dist, List.map_cons, List.map_nil, List.forall_mem_cons, false_implies, ne_eq, not_false_eq_true, List.not_mem_nil, not_false_eq_true, true_implies, forall_const, List.mem_cons, or_false, implies_true, and_true, true_and, Nat.le_refl, List.setIfInBounds_toArray, List.set_cons_zero, List.set_cons_succ] at hF); go_wp2; refine anchQ_normal ?_; (first | (refine owedB _ (by rfl) ?_; clear hL; (try clear hF); clear hC hG; intro ι F hne hC hFF; have hG := fun n => (hFF n).facts; clear hFF; (try simp only [Facts, Dist, List.map_cons, List.map_nil, List.forall_mem_cons, false_implies, ne_eq, not_false_eq_true, List.not_mem_nil, not_false_eq_true, true_implies, forall_const, List.mem_cons, or_false, implies_true, and_true, true_and, Nat.le_refl, List.setIfInBounds_toArray, List.set_cons_zero, List.set_cons_succ] at hG)) | (refine owed0 _ (by repeat' (first | (with_reducible exact List.Sublist.refl _) | (with_reducible apply List.Sublist.cons_cons) | (with_reducible apply List.Sublist.cons))) ?_; clear hL; (try clear hF)))))); refine cwk_nil ?_; clear hC hG; intro W hL; (try simp only [List.setIfInBounds_toArray, List.set_cons_zero, List.set_cons_succ, List.cons_append, List.nil_append] at hL); have hF := hL.facts; (try simp only [Facts, Dist, List.map_cons, List.map_nil, List.forall_mem_cons, false_implies, ne_eq, not_false_eq_true, List.not_mem_nil, not_false_eq_true, true_implies, forall_const, List.mem_cons, or_false, implies_true, and_true, true_and, Nat.le_refl, List.setIfInBounds_toArray, List.set_cons_zero, List.set_cons_succ] at hF)))
  (try simp only [Exit.inBlock, Exit.then]); refine bodyPost_ret (by simp [results, Tryd.results39, go_sem, *]; try rfl) rfl ?_
  exact ⟨rfl, kn_here.below0⟩

end Go.Proofs.YtjkohbecmaegmaaDoor

namespace Go.Proofs.YtjkohbecmaegmaaDoor
open Go Go.RowKit
set_option linter.unusedSimpArgs false
set_option linter.unusedVariables false

theorem beq_bytes (d c : UInt8) : ((d.toNat : Int) == (c.toNat : Int)) = (d == c) := by
  by_cases h : d = c
  · subst h; simp
  · rw [beq_false_of_ne h, beq_false_of_ne (fun e => h (UInt8.toNat_inj.1 (by omega)))]
theorem classR_size {t : Bytes} {n : Bool} {a b : Bytes} (h : classR t = some (n, a, b)) : t.length = (if n then 1 else 0) + a.length + 1 + b.length := by
  have one : ∀ {r x y : Bytes}, setOf r = some (x, y) → r.length = x.length + 1 + y.length := fun h => by
    obtain ⟨_, h2, _, h4⟩ := setOf_cut h
    have := congrArg List.length h2
    rw [List.length_drop] at this; omega
  unfold classR at h
  split at h
  · rename_i x hx
    injection h with h
    injection h with h1 h2
    subst h1; subst h2
    unfold bangOf at hx
    split at hx
    · rename_i h33
      have h5 := one hx
      cases t with
      | nil => simp at h33
      | cons q t => simp only [List.drop_succ_cons, List.drop_zero] at h5; simp only [List.length_cons, if_true]; omega
    · cases hx
  · cases hs : setOf t with
    | none => rw [hs] at h; cases h
    | some x =>
      obtain ⟨x, y⟩ := x
      rw [hs] at h
      simp only [Option.map_some, Option.some.injEq, Prod.mk.injEq] at h
      obtain ⟨rfl, rfl, rfl⟩ := h
      have := one hs
      simp only [Bool.false_eq_true, if_false]; omega
/-- The part at a place of a pattern that is no star: how long it is, and whether it matches a byte. -/
theorem one_is (p : ByteArray) (i : Nat) (c : UInt8) (hp : p.size ≤ 100000000) (hlt : i < p.size) (x : Pt) (r : Bytes) (hx : part (p.data.toList.drop i) = some (x, r)) (hs : x ≠ .star) (w : World) :
    Calls Tryd.prog 39 #[.string p, .int .i64 i, .int .u8 c.toNat] w fun e w' => e = .returned (.tuple #[.int .i64 ((p.size - i - r.length : Nat) : Int), .bool (fit x c)]) ∧ Below w.heap.size w w' := by
  have hpl := szl p
  obtain ⟨c0, hc0⟩ : ∃ a, p.data.toList[i]? = some a := ⟨_, List.getElem?_eq_getElem (by omega)⟩
  have hb0 : ∀ h, p[i]'h = c0 := fun h => byte_at hc0 h
  have hd : p.data.toList.drop i = c0 :: p.data.toList.drop (i + 1) := by
    obtain ⟨h1, h2⟩ := List.getElem?_eq_some_iff.1 hc0
    rw [List.drop_eq_getElem_cons h1, h2]
  have hrl : (p.data.toList.drop (i + 1)).length = p.size - (i + 1) := by rw [List.length_drop, hpl]
  rw [hd] at hx
  unfold part at hx
  simp only at hx
  by_cases h92 : c0 = 92
  · subst h92
    rw [if_pos rfl] at hx
    by_cases h1 : i + 1 < p.size
    · obtain ⟨d, hdd⟩ : ∃ a, p.data.toList[i + 1]? = some a := ⟨_, List.getElem?_eq_getElem (by omega)⟩
      have hd2 : p.data.toList.drop (i + 1) = d :: p.data.toList.drop (i + 2) := by
        obtain ⟨h3, h4⟩ := List.getElem?_eq_some_iff.1 hdd
        rw [List.drop_eq_getElem_cons h3, h4]
      rw [hd2] at hx
      simp only [Option.some.injEq, Prod.mk.injEq] at hx
      obtain ⟨rfl, rfl⟩ := hx
      have := one_esc p i c hp hlt hb0 (by omega) d (fun h => byte_at hdd h) _ (beq_bytes d c) w
      refine this.mono ?_
      rintro e w' ⟨rfl, hb⟩
      refine ⟨?_, hb⟩
      rw [List.length_drop, hpl, show p.size - i - (p.size - (i + 2)) = 2 by omega]; rfl
    · have hd2 : p.data.toList.drop (i + 1) = [] := List.drop_eq_nil_of_le (by omega)
      rw [hd2] at hx
      simp only [Option.some.injEq, Prod.mk.injEq] at hx
      obtain ⟨rfl, rfl⟩ := hx
      have := one_last p i c hp hlt hb0 (by omega) _ (beq_bytes 92 c) w
      refine this.mono ?_
      rintro e w' ⟨rfl, hb⟩
      refine ⟨?_, hb⟩
      rw [List.length_nil, show p.size - i - 0 = 1 by omega]; rfl
  rw [if_neg h92] at hx
  by_cases h42 : c0 = 42
  · subst h42
    rw [if_pos rfl] at hx
    simp only [Option.some.injEq, Prod.mk.injEq] at hx
    exact absurd hx.1.symm hs
  rw [if_neg h42] at hx
  by_cases h63 : c0 = 63
  · subst h63
    rw [if_pos rfl] at hx
    simp only [Option.some.injEq, Prod.mk.injEq] at hx
    obtain ⟨rfl, rfl⟩ := hx
    refine (one_any p i c hp hlt hb0 w).mono ?_
    rintro e w' ⟨rfl, hb⟩
    refine ⟨?_, hb⟩
    rw [hrl, show p.size - i - (p.size - (i + 1)) = 1 by omega]; rfl
  rw [if_neg h63] at hx
  by_cases h91 : c0 = 91
  · subst h91
    rw [if_pos rfl] at hx
    have hcl := fun W => class_is p i hp (by omega) W
    cases hk : classR (p.data.toList.drop (i + 1)) with
    | some q =>
      obtain ⟨n, a, b⟩ := q
      rw [hk] at hx hcl
      simp only [Option.some.injEq, Prod.mk.injEq] at hx
      obtain ⟨rfl, rfl⟩ := hx
      have hz := classR_size hk
      rw [hrl] at hz
      have hn2 : (if n then 1 else 0 : Nat) ≤ 1 := by split <;> omega
      have hni : ((if n then 1 else 0 : Int)) = (((if n then 1 else 0 : Nat)) : Int) := by cases n <;> rfl
      have haz : (⟨a.toArray⟩ : ByteArray).size = a.length := by rw [← szl]
      obtain ⟨e1, he1⟩ : ∃ z : Int, (i : Int) + 1 + (if n then 1 else 0) + a.length = z := ⟨_, rfl⟩
      have hcl2 : Hid (∀ W, Calls Tryd.prog 44 #[.string p, .int .i64 i] W fun e w' => e = .returned (.tuple #[.int .i64 e1, .bool n, .string ⟨a.toArray⟩, .bool true]) ∧ Below W.heap.size W w') := Lib.hid fun W => by
        have := hcl W
        have hcv : classV i (some (n, a, b)) = #[.int .i64 e1, .bool n, .string ⟨a.toArray⟩, .bool true] := by rw [← he1]; rfl
        rw [hcv] at this; exact this
      have hk2 : wrap64 (wrap64 (e1 + 1) - i) = ((p.size - i - b.length : Nat) : Int) := by
        rw [hni] at he1
        unfold wrap64; omega
      have has : (⟨a.toArray⟩ : ByteArray).size ≤ 100000000 := by rw [haz]; omega
      exact one_cls p i c hp hlt hb0 e1 n ⟨a.toArray⟩ hcl2 has _ rfl _ hk2 w
    | none =>
      rw [hk] at hx hcl
      simp only [Option.some.injEq, Prod.mk.injEq] at hx
      obtain ⟨rfl, rfl⟩ := hx
      refine (one_open p i c hp hlt hb0 (Lib.hid hcl) _ (beq_bytes 91 c) w).mono ?_
      rintro e w' ⟨rfl, hb⟩
      refine ⟨?_, hb⟩
      rw [hrl, show p.size - i - (p.size - (i + 1)) = 1 by omega]; rfl
  · rw [if_neg h91] at hx
    simp only [Option.some.injEq, Prod.mk.injEq] at hx
    obtain ⟨rfl, rfl⟩ := hx
    have f : ∀ k : UInt8, c0 ≠ k → ((c0.toNat : Int) == (k.toNat : Int)) = false := fun k h => by rw [beq_bytes]; exact beq_false_of_ne h
    refine (one_byte p i c c0 hp hlt hb0 (f 92 h92) (f 63 h63) (f 91 h91) _ (beq_bytes c0 c) w).mono ?_
    rintro e w' ⟨rfl, hb⟩
    refine ⟨?_, hb⟩
    rw [hrl, show p.size - i - (p.size - (i + 1)) = 1 by omega]; rfl

end Go.Proofs.YtjkohbecmaegmaaDoor

