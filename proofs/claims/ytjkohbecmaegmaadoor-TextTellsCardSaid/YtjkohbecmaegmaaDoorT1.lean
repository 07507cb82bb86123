import Derived.Test.YtjkohbecmaegmaaDoorProg
import Derived.WalkKit
import Derived.Handy
import Derived.Deep.Light
import Derived.WalkSmall
import Derived.StillTailTactics
import Derived.Lib.Hide
import Derived.Test.YtjkohbecmaegmaaDoorT0
import Derived.Test.YtjkohbecmaegmaaDoorIt
import Derived.Test.YtjkohbecmaegmaaDoorText
import Derived.Test.YtjkohbecmaegmaaDoorBld
namespace Go.Proofs.YtjkohbecmaegmaaDoor
open Go Go.RowKit
set_option linter.unusedSimpArgs false
set_option linter.unusedVariables false
set_option maxRecDepth 20000 in
set_option maxHeartbeats 4000000 in
theorem Quote_any (s : ByteArray) (hs : s.size ≤ 1000000) (w : World) : Calls Tryd.prog 18 #[.string s] w fun e w' => e = .returned (.string ⟨(quoteB s.data.toList).toArray⟩) ∧ Below w.heap.size w w' := by
  have hI : BIs w.heap.size w.heap.size [] (w.alloc (.cells #[.pointer none, .slice none 0 0] 44)) := BIs.fresh (heap_alloc_new w _)
  have hW : Below w.heap.size w (w.alloc (.cells #[.pointer none, .slice none 0 0] 44)) := (Below.refl _ _).alloc (Nat.le_refl _) _
  go_enter Tryd.func18, Tryd.ntmps18
  go_wp2_with (first | ((with_reducible refine kn_list_set ?_); (try clear hF); clear hL; intro W hL; (try simp only [List.setIfInBounds_toArray, List.set_cons_zero, List.set_cons_succ, List.cons_append, List.nil_append] at hL); have hF := hL.facts; (try simp only [Facts, Dist, List.map_cons, List.map_nil, List.forall_mem_cons, false_implies, ne_eq, not_false_eq_true, List.not_mem_nil, not_false_eq_true, true_implies, forall_const, List.mem_cons, or_false, implies_true, and_true, true_and, Nat.le_refl, List.setIfInBounds_toArray, List.set_cons_zero, List.set_cons_succ] at hF)) | (go_at_call 35; (first | (with_reducible refine (WB _ _ _ 34 34 nb34 _ hI (by (try simp only [List.length_append, List.length_cons, List.length_nil]); omega) hW.size).mono ?_)); rintro e W1 ⟨rfl, hI1, hb1⟩; (try clear hb0); replace hW := hW.trans hb1; clear hb1 hI; have hI := hI1; clear hI1))
  go_loopw [9] (fun i wr => ∃ k : Nat, k ≤ s.size ∧ i = .int .i64 k ∧ BIs w.heap.size w.heap.size (34 :: (s.data.toList.take k).flatMap qb) wr ∧ Below w.heap.size w wr) (fun i _ => s.size - (intOf i).toNat)
  case atStart => exact ⟨0, by omega, rfl, hI, hW⟩
  case round =>
    obtain ⟨k, hk, rfl, hI1, hW1⟩ := hrel
    clear hI hW
    have hI := hI1
    have hW := hW1
    clear hI1 hW1
    have hlen : ((s.data.toList.take k).flatMap qb).length ≤ 4000000 := by
      have h1 := flat_le qb 4 (s.data.toList.take k) (fun c _ => qb_len c)
      have h2 : (s.data.toList.take k).length * 4 ≤ 1000000 * 4 := Nat.mul_le_mul_right _ (by rw [List.length_take, szl]; omega)
      omega
    by_cases hlt : k < s.size
    · obtain ⟨c, hck⟩ : ∃ c, s.data.toList[k]? = some c := ⟨_, List.getElem?_eq_getElem (by rw [szl]; omega)⟩
      have eb := byte_at hck hlt
      have hft := flat_take qb hck
      have hc256 := c.toNat_lt
      by_cases hA : c = 34
      · subst hA
        go_wp2_with (first | ((with_reducible refine kn_list_set ?_); (try clear hF); clear hL; intro W hL; (try simp only [List.setIfInBounds_toArray, List.set_cons_zero, List.set_cons_succ, List.cons_append, List.nil_append] at hL); have hF := hL.facts; (try simp only [Facts, Dist, List.map_cons, List.map_nil, List.forall_mem_cons, false_implies, ne_eq, not_false_eq_true, List.not_mem_nil, not_false_eq_true, true_implies, forall_const, List.mem_cons, or_false, implies_true, and_true, true_and, Nat.le_refl, List.setIfInBounds_toArray, List.set_cons_zero, List.set_cons_succ] at hF)) | (go_at_call 35; (first | (with_reducible refine (WB _ _ _ 92 92 nb92 _ hI (by (try simp only [List.length_append, List.length_cons, List.length_nil]); omega) hW.size).mono ?_) | (with_reducible refine (WB _ _ _ 34 34 nb34 _ hI (by (try simp only [List.length_append, List.length_cons, List.length_nil]); omega) hW.size).mono ?_)); rintro e W1 ⟨rfl, hI1, hb1⟩; (try clear hb0); replace hW := hW.trans hb1; clear hb1 hI; have hI := hI1; clear hI1))
        go_roundw
        case rel => exact ⟨k + 1, by omega, by go_num, by rw [hft, show qb 34 = [92, 34] from rfl]; simpa using hI, hW⟩
        case measure => simp [intOf]; omega
      by_cases hB : c = 92
      · subst hB
        go_wp2_with (first | ((with_reducible refine kn_list_set ?_); (try clear hF); clear hL; intro W hL; (try simp only [List.setIfInBounds_toArray, List.set_cons_zero, List.set_cons_succ, List.cons_append, List.nil_append] at hL); have hF := hL.facts; (try simp only [Facts, Dist, List.map_cons, List.map_nil, List.forall_mem_cons, false_implies, ne_eq, not_false_eq_true, List.not_mem_nil, not_false_eq_true, true_implies, forall_const, List.mem_cons, or_false, implies_true, and_true, true_and, Nat.le_refl, List.setIfInBounds_toArray, List.set_cons_zero, List.set_cons_succ] at hF)) | (go_at_call 35; (first | (with_reducible refine (WB _ _ _ 92 92 nb92 _ hI (by (try simp only [List.length_append, List.length_cons, List.length_nil]); omega) hW.size).mono ?_)); rintro e W1 ⟨rfl, hI1, hb1⟩; (try clear hb0); replace hW := hW.trans hb1; clear hb1 hI; have hI := hI1; clear hI1))
        go_roundw
        case rel => exact ⟨k + 1, by omega, by go_num, by rw [hft, show qb 92 = [92, 92] from rfl]; simpa using hI, hW⟩
        case measure => simp [intOf]; omega
      by_cases hC : c = 10
      · subst hC
        go_wp2_with (first | ((with_reducible refine kn_list_set ?_); (try clear hF); clear hL; intro W hL; (try simp only [List.setIfInBounds_toArray, List.set_cons_zero, List.set_cons_succ, List.cons_append, List.nil_append] at hL); have hF := hL.facts; (try simp only [Facts, Dist, List.map_cons, List.map_nil, List.forall_mem_cons, false_implies, ne_eq, not_false_eq_true, List.not_mem_nil, not_false_eq_true, true_implies, forall_const, List.mem_cons, or_false, implies_true, and_true, true_and, Nat.le_refl, List.setIfInBounds_toArray, List.set_cons_zero, List.set_cons_succ] at hF)) | (go_at_call 34; (first | (with_reducible refine (WS _ _ _ ⟨#[92, 110]⟩ _ hI (by (try simp only [ByteArray.size, List.size_toArray, Array.size, List.length_append, List.length_cons, List.length_nil]); omega) hW.size).mono ?_)); rintro e W1 ⟨rfl, hI1, hb1⟩; (try clear hb0); replace hW := hW.trans hb1; clear hb1 hI; have hI := hI1; clear hI1))
        go_roundw
        case rel => exact ⟨k + 1, by omega, by go_num, by rw [hft, show qb 10 = [92, 110] from rfl]; simpa using hI, hW⟩
        case measure => simp [intOf]; omega
      have f1 : ((c.toNat : Int) == 34) = false := beq_false_of_ne fun h => hA (UInt8.toNat_inj.1 (show c.toNat = 34 by omega))
      have f2 : ((c.toNat : Int) == 92) = false := beq_false_of_ne fun h => hB (UInt8.toNat_inj.1 (show c.toNat = 92 by omega))
      have f3 : ((c.toNat : Int) == 10) = false := beq_false_of_ne fun h => hC (UInt8.toNat_inj.1 (show c.toNat = 10 by omega))
      by_cases hD : 32 ≤ (c.toNat : Int) ∧ (c.toNat : Int) ≤ 126
      · have hq : qb c = [c] := by unfold qb; rw [if_neg (by simp [hA, hB]), if_neg hC, if_pos (by omega)]
        obtain ⟨hD1, hD2⟩ := hD
        go_wp2_with (first | ((with_reducible refine kn_list_set ?_); (try clear hF); clear hL; intro W hL; (try simp only [List.setIfInBounds_toArray, List.set_cons_zero, List.set_cons_succ, List.cons_append, List.nil_append] at hL); have hF := hL.facts; (try simp only [Facts, Dist, List.map_cons, List.map_nil, List.forall_mem_cons, false_implies, ne_eq, not_false_eq_true, List.not_mem_nil, not_false_eq_true, true_implies, forall_const, List.mem_cons, or_false, implies_true, and_true, true_and, Nat.le_refl, List.setIfInBounds_toArray, List.set_cons_zero, List.set_cons_succ] at hF)) | (go_at_call 35; (first | (with_reducible refine (WB _ _ _ c _ rfl _ hI (by (try simp only [List.length_append, List.length_cons, List.length_nil]); omega) hW.size).mono ?_)); rintro e W1 ⟨rfl, hI1, hb1⟩; (try clear hb0); replace hW := hW.trans hb1; clear hb1 hI; have hI := hI1; clear hI1))
        go_roundw
        case rel => exact ⟨k + 1, by omega, by go_num, by rw [hft, hq]; simpa using hI, hW⟩
        case measure => simp [intOf]; omega
      · have hq : qb c = [92, 120, hexB (c.toNat / 16), hexB (c.toNat % 16)] := by unfold qb; rw [if_neg (by simp [hA, hB]), if_neg hC, if_neg (by omega)]
        by_cases hD1 : 32 ≤ (c.toNat : Int)
        · have hD2 : ¬ (c.toNat : Int) ≤ 126 := by omega
          go_wp2_with (first | ((with_reducible refine kn_list_set ?_); (try clear hF); clear hL; intro W hL; (try simp only [List.setIfInBounds_toArray, List.set_cons_zero, List.set_cons_succ, List.cons_append, List.nil_append] at hL); have hF := hL.facts; (try simp only [Facts, Dist, List.map_cons, List.map_nil, List.forall_mem_cons, false_implies, ne_eq, not_false_eq_true, List.not_mem_nil, not_false_eq_true, true_implies, forall_const, List.mem_cons, or_false, implies_true, and_true, true_and, Nat.le_refl, List.setIfInBounds_toArray, List.set_cons_zero, List.set_cons_succ] at hF)) | (go_at_call 34; (first | (with_reducible refine (WS _ _ _ ⟨#[92, 120]⟩ _ hI (by (try simp only [ByteArray.size, List.size_toArray, Array.size, List.length_append, List.length_cons, List.length_nil]); omega) hW.size).mono ?_)); rintro e W1 ⟨rfl, hI1, hb1⟩; (try clear hb0); replace hW := hW.trans hb1; clear hb1 hI; have hI := hI1; clear hI1) | (go_at_call 35; (first | (with_reducible refine (WB _ _ _ _ _ rfl _ hI (by (try simp only [List.length_append, List.length_cons, List.length_nil]); omega) hW.size).mono ?_)); rintro e W1 ⟨rfl, hI1, hb1⟩; (try clear hb0); replace hW := hW.trans hb1; clear hb1 hI; have hI := hI1; clear hI1))
          go_roundw
          case rel => exact ⟨k + 1, by omega, by go_num, by rw [hft, hq]; simpa [hex_at] using hI, hW⟩
          case measure => simp [intOf]; omega
        · go_wp2_with (first | ((with_reducible refine kn_list_set ?_); (try clear hF); clear hL; intro W hL; (try simp only [List.setIfInBounds_toArray, List.set_cons_zero, List.set_cons_succ, List.cons_append, List.nil_append] at hL); have hF := hL.facts; (try simp only [Facts, Dist, List.map_cons, List.map_nil, List.forall_mem_cons, false_implies, ne_eq, not_false_eq_true, List.not_mem_nil, not_false_eq_true, true_implies, forall_const, List.mem_cons, or_false, implies_true, and_true, true_and, Nat.le_refl, List.setIfInBounds_toArray, List.set_cons_zero, List.set_cons_succ] at hF)) | (go_at_call 34; (first | (with_reducible refine (WS _ _ _ ⟨#[92, 120]⟩ _ hI (by (try simp only [ByteArray.size, List.size_toArray, Array.size, List.length_append, List.length_cons, List.length_nil]); omega) hW.size).mono ?_)); rintro e W1 ⟨rfl, hI1, hb1⟩; (try clear hb0); replace hW := hW.trans hb1; clear hb1 hI; have hI := hI1; clear hI1) | (go_at_call 35; (first | (with_reducible refine (WB _ _ _ _ _ rfl _ hI (by (try simp only [List.length_append, List.length_cons, List.length_nil]); omega) hW.size).mono ?_)); rintro e W1 ⟨rfl, hI1, hb1⟩; (try clear hb0); replace hW := hW.trans hb1; clear hb1 hI; have hI := hI1; clear hI1))
          go_roundw
          case rel => exact ⟨k + 1, by omega, by go_num, by rw [hft, hq]; simpa [hex_at] using hI, hW⟩
          case measure => simp [intOf]; omega
    · obtain rfl : k = s.size := by omega
      rw [List.take_of_length_le (by rw [szl]; omega)] at hI hlen
      obtain ⟨t, ht⟩ : ∃ t : ByteArray, t.data.toList = 34 :: s.data.toList.flatMap qb ++ [34] := ⟨⟨(34 :: s.data.toList.flatMap qb ++ [34]).toArray⟩, by simp⟩
      go_wp2_with (first | ((with_reducible refine kn_list_set ?_); (try clear hF); clear hL; intro W hL; (try simp only [List.setIfInBounds_toArray, List.set_cons_zero, List.set_cons_succ, List.cons_append, List.nil_append] at hL); have hF := hL.facts; (try simp only [Facts, Dist, List.map_cons, List.map_nil, List.forall_mem_cons, false_implies, ne_eq, not_false_eq_true, List.not_mem_nil, not_false_eq_true, true_implies, forall_const, List.mem_cons, or_false, implies_true, and_true, true_and, Nat.le_refl, List.setIfInBounds_toArray, List.set_cons_zero, List.set_cons_succ] at hF)) | (go_at_call 35; (first | (with_reducible refine (WB _ _ _ 34 34 nb34 _ hI (by (try simp only [List.length_append, List.length_cons, List.length_nil]); omega) hW.size).mono ?_)); rintro e W1 ⟨rfl, hI1, hb1⟩; (try clear hb0); replace hW := hW.trans hb1; clear hb1 hI; have hI := hI1; clear hI1) | (go_at_call 36; (with_reducible refine (BS _ _ _ _ hI hW.size t ht).mono ?_); rintro e W1 ⟨rfl, hI1, hb1⟩; (try clear hb0); replace hW := hW.trans hb1; clear hb1 hI; have hI := hI1; clear hI1))
      (try simp only [Exit.inBlock, Exit.then]); refine bodyPost_ret (by simp [results, Tryd.results18, go_sem, *]; try rfl) rfl ?_
      refine ⟨?_, hW⟩
      congr 2
      apply ba_ext
      rw [ht]; simp [quoteB]

end Go.Proofs.YtjkohbecmaegmaaDoor
