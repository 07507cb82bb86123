import Derived.Test.YtjkohbecmaegmaaDoorProg
import Derived.WalkKit
import Derived.Handy
import Derived.Deep.Light
import Derived.WalkSmall
import Derived.StillTailTactics
import Derived.Lib.Hide
import Derived.Test.YtjkohbecmaegmaaDoorT0
import Derived.Test.YtjkohbecmaegmaaDoorIt
import Derived.Test.YtjkohbecmaegmaaDoorT1
namespace Go.Proofs.YtjkohbecmaegmaaDoor
open Go Go.RowKit
set_option linter.unusedSimpArgs false
set_option linter.unusedVariables false

theorem magic_index (c : UInt8) : (0 ≤ Lib.indexByte [42, 63, 91, 92] c) = (magicB c = true) := by
  by_cases h1 : c = 42
  · subst h1; decide
  by_cases h2 : c = 63
  · subst h2; decide
  by_cases h3 : c = 91
  · subst h3; decide
  by_cases h4 : c = 92
  · subst h4; decide
  have f1 : ((42 : UInt8) == c) = false := beq_false_of_ne (Ne.symm h1)
  have f2 : ((63 : UInt8) == c) = false := beq_false_of_ne (Ne.symm h2)
  have f3 : ((91 : UInt8) == c) = false := beq_false_of_ne (Ne.symm h3)
  have f4 : ((92 : UInt8) == c) = false := beq_false_of_ne (Ne.symm h4)
  simp [Lib.indexByte, f1, f2, f3, f4, magicB, h1, h2, h3, h4]
theorem Index_any (s : ByteArray) (c : UInt8) (r : Int) (hr : Lib.indexByte s.data.toList c = r) (n : Int) (hn : (c.toNat : Int) = n) (w : World) :
    Calls Tryd.prog 40 #[.string s, .int .u8 n] w fun x w' => x = .returned (.int .i64 r) ∧ w' = w :=
  (Tryd.strings_IndexByte s n w).mono fun x w' ⟨h1, h2⟩ => ⟨by rw [h1, ← hr, ← hn]; congr 3; simp, h2⟩
set_option maxRecDepth 20000 in
set_option maxHeartbeats 4000000 in
theorem Escape_any (s : ByteArray) (hs : s.size ≤ 1000000) (w : World) : Calls Tryd.prog 14 #[.string s] w fun e w' => e = .returned (.string ⟨(escB s.data.toList).toArray⟩) ∧ Below w.heap.size w w' := by
  have hI : BIs w.heap.size w.heap.size [] (w.alloc (.cells #[.pointer none, .slice none 0 0] 44)) := BIs.fresh (heap_alloc_new w _)
  have hW : Below w.heap.size w (w.alloc (.cells #[.pointer none, .slice none 0 0] 44)) := (Below.refl _ _).alloc (Nat.le_refl _) _
  go_enter Tryd.func14, Tryd.ntmps14
  go_wp2
  go_loopw [7] (fun i wr => ∃ k : Nat, k ≤ s.size ∧ i = .int .i64 k ∧ BIs w.heap.size w.heap.size ((s.data.toList.take k).flatMap eb) wr ∧ Below w.heap.size w wr) (fun i _ => s.size - (intOf i).toNat)
  case atStart => exact ⟨0, by omega, rfl, hI, hW⟩
  case round =>
    obtain ⟨k, hk, rfl, hI1, hW1⟩ := hrel
    clear hI hW
    have hI := hI1
    have hW := hW1
    clear hI1 hW1
    have hlen : ((s.data.toList.take k).flatMap eb).length ≤ 4000000 := by
      have h1 := flat_le eb 2 (s.data.toList.take k) (fun c _ => eb_len c)
      have h2 : (s.data.toList.take k).length * 2 ≤ 1000000 * 2 := Nat.mul_le_mul_right _ (by rw [List.length_take, szl]; omega)
      omega
    by_cases hlt : k < s.size
    · obtain ⟨c, hck⟩ : ∃ c, s.data.toList[k]? = some c := ⟨_, List.getElem?_eq_getElem (by rw [szl]; omega)⟩
      have ebt := byte_at hck hlt
      have hft := flat_take eb hck
      obtain ⟨r, hr⟩ : ∃ r, Lib.indexByte [42, 63, 91, 92] c = r := ⟨_, rfl⟩
      have hm := magic_index c
      rw [hr] at hm
      cases hmc : magicB c
      · have hq : eb c = [c] := by unfold eb; rw [hmc]; rfl
        have hr0 : ¬ 0 ≤ r := by rw [hm, hmc]; decide
        clear hm hmc
        go_wp2_with (first | ((with_reducible refine kn_list_set ?_); (try clear hF); clear hL; intro W hL; (try simp only [List.setIfInBounds_toArray, List.set_cons_zero, List.set_cons_succ, List.cons_append, List.nil_append] at hL); have hF := hL.facts; (try simp only [Facts, Dist, List.map_cons, List.map_nil, List.forall_mem_cons, false_implies, ne_eq, not_false_eq_true, List.not_mem_nil, not_false_eq_true, true_implies, forall_const, List.mem_cons, or_false, implies_true, and_true, true_and, Nat.le_refl, List.setIfInBounds_toArray, List.set_cons_zero, List.set_cons_succ] at hF)) | (go_at_call 40; (with_reducible refine (Index_any _ c r hr _ rfl _).mono ?_); rintro e w' ⟨rfl, rfl⟩) | (go_at_call 35; (first | (with_reducible refine (WB _ _ _ 92 92 nb92 _ hI (by (try simp only [List.length_append, List.length_cons, List.length_nil]); omega) hW.size).mono ?_) | (with_reducible refine (WB _ _ _ c _ rfl _ hI (by (try simp only [List.length_append, List.length_cons, List.length_nil]); omega) hW.size).mono ?_)); rintro e W1 ⟨rfl, hI1, hb1⟩; (try clear hb0); replace hW := hW.trans hb1; clear hb1 hI; have hI := hI1; clear hI1))
        go_roundw
        case rel => exact ⟨k + 1, by omega, by go_num, by rw [hft, hq]; simpa using hI, hW⟩
        case measure => simp [intOf]; omega
      · have hq : eb c = [92, c] := by unfold eb; rw [hmc]; rfl
        have hr0 : 0 ≤ r := by rw [hm, hmc]
        clear hm hmc
        go_wp2_with (first | ((with_reducible refine kn_list_set ?_); (try clear hF); clear hL; intro W hL; (try simp only [List.setIfInBounds_toArray, List.set_cons_zero, List.set_cons_succ, List.cons_append, List.nil_append] at hL); have hF := hL.facts; (try simp only [Facts, Dist, List.map_cons, List.map_nil, List.forall_mem_cons, false_implies, ne_eq, not_false_eq_true, List.not_mem_nil, not_false_eq_true, true_implies, forall_const, List.mem_cons, or_false, implies_true, and_true, true_and, Nat.le_refl, List.setIfInBounds_toArray, List.set_cons_zero, List.set_cons_succ] at hF)) | (go_at_call 40; (with_reducible refine (Index_any _ c r hr _ rfl _).mono ?_); rintro e w' ⟨rfl, rfl⟩) | (go_at_call 35; (first | (with_reducible refine (WB _ _ _ c _ rfl _ hI (by (try simp only [List.length_append, List.length_cons, List.length_nil]); omega) hW.size).mono ?_) | (with_reducible refine (WB _ _ _ 92 92 nb92 _ hI (by (try simp only [List.length_append, List.length_cons, List.length_nil]); omega) hW.size).mono ?_)); rintro e W1 ⟨rfl, hI1, hb1⟩; (try clear hb0); replace hW := hW.trans hb1; clear hb1 hI; have hI := hI1; clear hI1))
        go_roundw
        case rel => exact ⟨k + 1, by omega, by go_num, by rw [hft, hq]; simpa using hI, hW⟩
        case measure => simp [intOf]; omega
    · obtain rfl : k = s.size := by omega
      rw [List.take_of_length_le (by rw [szl]; omega)] at hI
      obtain ⟨t, ht⟩ : ∃ t : ByteArray, t.data.toList = s.data.toList.flatMap eb := ⟨⟨(s.data.toList.flatMap eb).toArray⟩, by simp⟩
      go_wp2_with (first | ((with_reducible refine kn_list_set ?_); (try clear hF); clear hL; intro W hL; (try simp only [List.setIfInBounds_toArray, List.set_cons_zero, List.set_cons_succ, List.cons_append, List.nil_append] at hL); have hF := hL.facts; (try simp only [Facts, Dist, List.map_cons, List.map_nil, List.forall_mem_cons, false_implies, ne_eq, not_false_eq_true, List.not_mem_nil, not_false_eq_true, true_implies, forall_const, List.mem_cons, or_false, implies_true, and_true, true_and, Nat.le_refl, List.setIfInBounds_toArray, List.set_cons_zero, List.set_cons_succ] at hF)) | (go_at_call 36; (with_reducible refine (BS _ _ _ _ hI hW.size t ht).mono ?_); rintro e W1 ⟨rfl, hI1, hb1⟩; (try clear hb0); replace hW := hW.trans hb1; clear hb1 hI; have hI := hI1; clear hI1))
      (try simp only [Exit.inBlock, Exit.then]); refine bodyPost_ret (by simp [results, Tryd.results14, go_sem, *]; try rfl) rfl ?_
      refine ⟨?_, hW⟩
      congr 2
      apply ba_ext
      rw [ht]; simp [escB]

end Go.Proofs.YtjkohbecmaegmaaDoor
