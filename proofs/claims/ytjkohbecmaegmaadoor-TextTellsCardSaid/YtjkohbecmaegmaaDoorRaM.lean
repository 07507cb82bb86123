import Derived.Test.YtjkohbecmaegmaaDoorProg
import Derived.WalkKit
import Derived.Handy
import Derived.Deep.Light
import Derived.WalkSmall
import Derived.StillTailTactics
import Derived.Lib.Hide
import Derived.Test.YtjkohbecmaegmaaDoorT0
import Derived.Test.YtjkohbecmaegmaaDoorIt
import Derived.Test.YtjkohbecmaegmaaDoorT22X
import Derived.Test.YtjkohbecmaegmaaDoorByt
namespace Go.Proofs.YtjkohbecmaegmaaDoor
open Go Go.RowKit
set_option linter.unusedSimpArgs false
set_option linter.unusedVariables false
set_option maxRecDepth 20000 in
set_option maxHeartbeats 4000000 in
theorem refEscape_any (s : ByteArray) (hs : s.size ≤ 1000000) (w : World) : Calls Tryd.prog 31 #[.string s] w fun e w' => e = .returned (.string ⟨(escB s.data.toList).toArray⟩) ∧ Below w.heap.size w w' := by
  have hB := BOwn.nil w
  go_enter Tryd.func31, Tryd.ntmps31
  go_wp2
  go_loopw [3, 4] (fun o i wr => ∃ (k : Nat) (v : Value), k ≤ s.size ∧ i = .int .i64 k ∧ o = v ∧ BOwn w wr v ((s.data.toList.take k).flatMap eb)) (fun _ i _ => s.size - (intOf i).toNat)
  case atStart => exact ⟨0, _, by omega, rfl, rfl, hB⟩
  case round =>
    obtain ⟨k, v, hk, rfl, rfl, hB1⟩ := hrel
    clear hB
    have hB := hB1
    clear hB1
    have hlen : ((s.data.toList.take k).flatMap eb).length ≤ 4000000 := by
      have h1 := flat_le eb 2 (s.data.toList.take k) (fun c _ => eb_len c)
      have h2 : (s.data.toList.take k).length * 2 ≤ 1000000 * 2 := Nat.mul_le_mul_right _ (by rw [List.length_take, szl]; omega)
      omega
    by_cases hlt : k < s.size
    · obtain ⟨c, hck⟩ : ∃ c, s.data.toList[k]? = some c := ⟨_, List.getElem?_eq_getElem (by rw [szl]; omega)⟩
      have ebt := byte_at hck hlt
      have hft := flat_take eb hck
      have HFT := Lib.hid hft
      clear hft
      cases hmc : magicB c
      · have hq : eb c = [c] := by unfold eb; rw [hmc]; rfl
        have hq2 := Lib.hid hq
        have n42 : c ≠ 42 := by rintro rfl; revert hmc; decide
        have n63 : c ≠ 63 := by rintro rfl; revert hmc; decide
        have n91 : c ≠ 91 := by rintro rfl; revert hmc; decide
        have n92 : c ≠ 92 := by rintro rfl; revert hmc; decide
        have f42 : ((c.toNat : Int) == 42) = false := beq_false_of_ne fun h => n42 (UInt8.toNat_inj.1 (show c.toNat = 42 by omega))
        have f63 : ((c.toNat : Int) == 63) = false := beq_false_of_ne fun h => n63 (UInt8.toNat_inj.1 (show c.toNat = 63 by omega))
        have f91 : ((c.toNat : Int) == 91) = false := beq_false_of_ne fun h => n91 (UInt8.toNat_inj.1 (show c.toNat = 91 by omega))
        have f92 : ((c.toNat : Int) == 92) = false := beq_false_of_ne fun h => n92 (UInt8.toNat_inj.1 (show c.toNat = 92 by omega))
        clear hq hmc n42 n63 n91 n92 hck
        go_wp2_with (first | ((with_reducible refine kn_list_set ?_); (try clear hF); clear hL; intro W hL; (try simp only [List.setIfInBounds_toArray, List.set_cons_zero, List.set_cons_succ, List.cons_append, List.nil_append] at hL); have hF := hL.facts; (try simp only [Facts, Dist, List.map_cons, List.map_nil, List.forall_mem_cons, false_implies, ne_eq, not_false_eq_true, List.not_mem_nil, not_false_eq_true, true_implies, forall_const, List.mem_cons, or_false, implies_true, and_true, true_and, Nat.le_refl, List.setIfInBounds_toArray, List.set_cons_zero, List.set_cons_succ] at hF)) | (at_builtin; (first | (refine wpList_appb rfl _ _ rfl _ [c] hB rfl _ rfl _ rfl rfl (by (try simp only [List.length_append, List.length_cons, List.length_nil]); omega) ?_)); intro v2 W2 hB2; clear hB; have hB := hB2; clear hB2))
        go_roundw
        case rel => exact ⟨k + 1, _, by omega, by go_num, rfl, by rw [HFT.out, hq2.out]; simpa using hB⟩
        case measure => simp [intOf]; omega
      · have hq : eb c = [92, c] := by unfold eb; rw [hmc]; rfl
        have hq2 := Lib.hid hq
        have hor : c = 42 ∨ c = 63 ∨ c = 91 ∨ c = 92 := by
          unfold magicB at hmc
          simp at hmc
          rcases hmc with ((h | h) | h) | h <;> simp [h]
        clear hq hmc hck
        rcases hor with rfl | rfl | rfl | rfl
        all_goals
          go_wp2_with (first | ((with_reducible refine kn_list_set ?_); (try clear hF); clear hL; intro W hL; (try simp only [List.setIfInBounds_toArray, List.set_cons_zero, List.set_cons_succ, List.cons_append, List.nil_append] at hL); have hF := hL.facts; (try simp only [Facts, Dist, List.map_cons, List.map_nil, List.forall_mem_cons, false_implies, ne_eq, not_false_eq_true, List.not_mem_nil, not_false_eq_true, true_implies, forall_const, List.mem_cons, or_false, implies_true, and_true, true_and, Nat.le_refl, List.setIfInBounds_toArray, List.set_cons_zero, List.set_cons_succ] at hF)) | (at_builtin; (first | (refine wpList_appb rfl _ _ rfl _ [92] hB rfl _ rfl _ rfl rfl (by (try simp only [List.length_append, List.length_cons, List.length_nil]); omega) ?_) | (refine wpList_appb rfl _ _ rfl _ [42] hB rfl _ rfl _ rfl rfl (by (try simp only [List.length_append, List.length_cons, List.length_nil]); omega) ?_) | (refine wpList_appb rfl _ _ rfl _ [63] hB rfl _ rfl _ rfl rfl (by (try simp only [List.length_append, List.length_cons, List.length_nil]); omega) ?_) | (refine wpList_appb rfl _ _ rfl _ [91] hB rfl _ rfl _ rfl rfl (by (try simp only [List.length_append, List.length_cons, List.length_nil]); omega) ?_)); intro v2 W2 hB2; clear hB; have hB := hB2; clear hB2))
          go_roundw
          case rel => exact ⟨k + 1, _, by omega, by go_num, rfl, by rw [HFT.out, hq2.out]; simpa using hB⟩
          case measure => simp [intOf]; omega
    · obtain rfl : k = s.size := by omega
      rw [List.take_of_length_le (by rw [szl]; omega)] at hB
      obtain ⟨t, ht⟩ : ∃ t : ByteArray, t.data.toList = s.data.toList.flatMap eb := ⟨⟨(s.data.toList.flatMap eb).toArray⟩, by simp⟩
      have hcv := conv_own hB t ht
      go_wp2
      (try simp only [Exit.inBlock, Exit.then]); refine bodyPost_ret (by simp [results, Tryd.results31, go_sem, *]; try rfl) rfl ?_
      refine ⟨?_, hB.kn.below0⟩
      congr 2
      apply ba_ext
      rw [ht]; simp [escB]

end Go.Proofs.YtjkohbecmaegmaaDoor

namespace Go.Proofs.YtjkohbecmaegmaaDoor
open Go Go.RowKit
set_option linter.unusedSimpArgs false
set_option linter.unusedVariables false

theorem BOwn.blk {w0 w : World} {v : Value} {l : List UInt8} (h : BOwn w0 w v l) (hne : l ≠ []) : ∃ g cap cur, v = .slice (some ⟨g, 0, none⟩) l.length cap ∧ w0.heap.size ≤ g ∧ Kn [] w0 w [(g, .cells cur 5 (0, 0))] ∧ RowB 1 cur cap l.length (bc l) := by
  rcases own_blk h.1 h.2 (fun g _ hm => by simp at hm) with ⟨_, h1, _⟩ | h1
  · exact absurd (List.eq_nil_of_length_eq_zero h1) hne
  · exact h1
theorem BOwn.of_blk {w0 w : World} {l news : List UInt8} {g cap n : Nat} {cur : Array Value} {L : List (Nat × Obj)} (h : Kn [] w0 w ((g, .cells cur 5 (0, 0)) :: L)) (hg : w0.heap.size ≤ g) (hr : RowB 1 cur cap n (bc l ++ bc news)) (hn : n = l.length + news.length) : BOwn w0 w (.slice (some ⟨g, 0, none⟩) n cap) (l ++ news) := by
  obtain ⟨h1, _⟩ := blk_own (i := 0) h rfl hg hr
  refine ⟨h.sub (List.nil_sublist _), ?_⟩
  rw [List.length_append, ← hn]
  unfold bc at h1 ⊢
  rw [List.map_append]; exact h1
set_option maxRecDepth 20000 in
set_option maxHeartbeats 4000000 in
theorem refQuote_any (s : ByteArray) (hs : s.size ≤ 1000000) (w : World) : Calls Tryd.prog 24 #[.string s] w fun e w' => e = .returned (.string ⟨(quoteB s.data.toList).toArray⟩) ∧ Below w.heap.size w w' := by
  have hB := BOwn.new (Kn.refl [] w) [34] #[.int .u8 34] rfl 1 rfl (by decide)
  go_enter Tryd.func24, Tryd.ntmps24
  go_wp2
  go_loopw [3, 4] (fun o i wr => ∃ (k : Nat) (v : Value), k ≤ s.size ∧ i = .int .i64 k ∧ o = v ∧ BOwn w wr v (34 :: (s.data.toList.take k).flatMap qb)) (fun _ i _ => s.size - (intOf i).toNat)
  case atStart => exact ⟨0, _, by omega, rfl, rfl, hB⟩
  case round =>
    obtain ⟨k, v, hk, rfl, rfl, hB1⟩ := hrel
    clear hB
    have hB := hB1
    clear hB1
    have hlen : ((s.data.toList.take k).flatMap qb).length ≤ 4000000 := by
      have h1 := flat_le qb 4 (s.data.toList.take k) (fun c _ => qb_len c)
      have h2 : (s.data.toList.take k).length * 4 ≤ 1000000 * 4 := Nat.mul_le_mul_right _ (by rw [List.length_take, szl]; omega)
      omega
    by_cases hlt : k < s.size
    · obtain ⟨c, hck⟩ : ∃ c, s.data.toList[k]? = some c := ⟨_, List.getElem?_eq_getElem (by rw [szl]; omega)⟩
      have eb := byte_at hck hlt
      have HFT := Lib.hid (flat_take qb hck)
      have hc256 := c.toNat_lt
      by_cases hA : c = 34
      · subst hA
        go_wp2_with (first | ((with_reducible refine kn_list_set ?_); (try clear hF); clear hL; intro W hL; (try simp only [List.setIfInBounds_toArray, List.set_cons_zero, List.set_cons_succ, List.cons_append, List.nil_append] at hL); have hF := hL.facts; (try simp only [Facts, Dist, List.map_cons, List.map_nil, List.forall_mem_cons, false_implies, ne_eq, not_false_eq_true, List.not_mem_nil, not_false_eq_true, true_implies, forall_const, List.mem_cons, or_false, implies_true, and_true, true_and, Nat.le_refl, List.setIfInBounds_toArray, List.set_cons_zero, List.set_cons_succ] at hF)) | (at_builtin; (first | (refine wpList_appb rfl _ _ rfl _ [92, 34] hB rfl _ rfl _ rfl rfl (by (try simp only [List.length_append, List.length_cons, List.length_nil]); omega) ?_)); intro v2 W2 hB2; clear hB; have hB := hB2; clear hB2))
        go_roundw
        case rel => exact ⟨k + 1, _, by omega, by go_num, rfl, by rw [HFT.out, show qb 34 = [92, 34] from rfl]; simpa using hB⟩
        case measure => simp [intOf]; omega
      by_cases hBB : c = 92
      · subst hBB
        go_wp2_with (first | ((with_reducible refine kn_list_set ?_); (try clear hF); clear hL; intro W hL; (try simp only [List.setIfInBounds_toArray, List.set_cons_zero, List.set_cons_succ, List.cons_append, List.nil_append] at hL); have hF := hL.facts; (try simp only [Facts, Dist, List.map_cons, List.map_nil, List.forall_mem_cons, false_implies, ne_eq, not_false_eq_true, List.not_mem_nil, not_false_eq_true, true_implies, forall_const, List.mem_cons, or_false, implies_true, and_true, true_and, Nat.le_refl, List.setIfInBounds_toArray, List.set_cons_zero, List.set_cons_succ] at hF)) | (at_builtin; (first | (refine wpList_appb rfl _ _ rfl _ [92, 92] hB rfl _ rfl _ rfl rfl (by (try simp only [List.length_append, List.length_cons, List.length_nil]); omega) ?_)); intro v2 W2 hB2; clear hB; have hB := hB2; clear hB2))
        go_roundw
        case rel => exact ⟨k + 1, _, by omega, by go_num, rfl, by rw [HFT.out, show qb 92 = [92, 92] from rfl]; simpa using hB⟩
        case measure => simp [intOf]; omega
      have f34 : ((c.toNat : Int) == 34) = false := beq_false_of_ne fun h => hA (UInt8.toNat_inj.1 (show c.toNat = 34 by omega))
      have f92 : ((c.toNat : Int) == 92) = false := beq_false_of_ne fun h => hBB (UInt8.toNat_inj.1 (show c.toNat = 92 by omega))
      by_cases hC : c = 10
      · subst hC
        go_wp2_with (first | ((with_reducible refine kn_list_set ?_); (try clear hF); clear hL; intro W hL; (try simp only [List.setIfInBounds_toArray, List.set_cons_zero, List.set_cons_succ, List.cons_append, List.nil_append] at hL); have hF := hL.facts; (try simp only [Facts, Dist, List.map_cons, List.map_nil, List.forall_mem_cons, false_implies, ne_eq, not_false_eq_true, List.not_mem_nil, not_false_eq_true, true_implies, forall_const, List.mem_cons, or_false, implies_true, and_true, true_and, Nat.le_refl, List.setIfInBounds_toArray, List.set_cons_zero, List.set_cons_succ] at hF)) | (at_builtin; (first | (refine wpList_appb rfl _ _ rfl _ [92, 110] hB rfl _ rfl _ rfl rfl (by (try simp only [List.length_append, List.length_cons, List.length_nil]); omega) ?_)); intro v2 W2 hB2; clear hB; have hB := hB2; clear hB2))
        go_roundw
        case rel => exact ⟨k + 1, _, by omega, by go_num, rfl, by rw [HFT.out, show qb 10 = [92, 110] from rfl]; simpa using hB⟩
        case measure => simp [intOf]; omega
      have f10 : ((c.toNat : Int) == 10) = false := beq_false_of_ne fun h => hC (UInt8.toNat_inj.1 (show c.toNat = 10 by omega))
      by_cases hD : 32 ≤ (c.toNat : Int) ∧ (c.toNat : Int) ≤ 126
      · have hq := Lib.hid (show qb c = [c] by unfold qb; rw [if_neg (by simp [hA, hBB]), if_neg hC, if_pos (by omega)])
        obtain ⟨hD1, hD2⟩ := hD
        go_wp2_with (first | ((with_reducible refine kn_list_set ?_); (try clear hF); clear hL; intro W hL; (try simp only [List.setIfInBounds_toArray, List.set_cons_zero, List.set_cons_succ, List.cons_append, List.nil_append] at hL); have hF := hL.facts; (try simp only [Facts, Dist, List.map_cons, List.map_nil, List.forall_mem_cons, false_implies, ne_eq, not_false_eq_true, List.not_mem_nil, not_false_eq_true, true_implies, forall_const, List.mem_cons, or_false, implies_true, and_true, true_and, Nat.le_refl, List.setIfInBounds_toArray, List.set_cons_zero, List.set_cons_succ] at hF)) | (at_builtin; (first | (refine wpList_appb rfl _ _ rfl _ [c] hB rfl _ rfl _ rfl rfl (by (try simp only [List.length_append, List.length_cons, List.length_nil]); omega) ?_)); intro v2 W2 hB2; clear hB; have hB := hB2; clear hB2))
        go_roundw
        case rel => exact ⟨k + 1, _, by omega, by go_num, rfl, by rw [HFT.out, hq.out]; simpa using hB⟩
        case measure => simp [intOf]; omega
      · have hq := Lib.hid (show qb c = [92, 120, hexB (c.toNat / 16), hexB (c.toNat % 16)] by unfold qb; rw [if_neg (by simp [hA, hBB]), if_neg hC, if_neg (by omega)])
        obtain ⟨i0, hi, hz0, hz1, hz2⟩ := info_parts infoB8
        obtain ⟨g, cap, cur, rfl, hg, hL, hr⟩ := hB.blk (by simp)
        obtain ⟨n, hn⟩ : ∃ n, (34 :: (s.data.toList.take k).flatMap qb).length = n := ⟨_, rfl⟩
        rw [hn] at hr ⊢
        have hn2 : n ≤ 4000001 := by rw [← hn, List.length_cons]; omega
        have HN := Lib.hid hn
        clear hB hn hA hBB hC
        (try simp only [List.setIfInBounds_toArray, List.set_cons_zero, List.set_cons_succ, List.cons_append, List.nil_append] at hL); have hF := hL.facts; (try simp only [Facts, Dist, List.map_cons, List.map_nil, List.forall_mem_cons, false_implies, ne_eq, not_false_eq_true, List.not_mem_nil, not_false_eq_true, true_implies, forall_const, List.mem_cons, or_false, implies_true, and_true, true_and, Nat.le_refl, List.setIfInBounds_toArray, List.set_cons_zero, List.set_cons_succ] at hF)
        have q1 : 0 ≤ (c.toNat : Int) / 16 := by omega
        have q2 : (c.toNat : Int) / 16 < 16 := by omega
        have q3 : ((c.toNat : Int) / 16).toNat = c.toNat / 16 := by omega
        have q4 : 0 ≤ (c.toNat : Int) % 16 := by omega
        have q5 : (c.toNat : Int) % 16 < 16 := by omega
        have q6 : ((c.toNat : Int) % 16).toNat = c.toNat % 16 := by omega
        by_cases hD1 : (c.toNat : Int) < 32
        · go_wp2_with (first | ((with_reducible refine kn_list_set ?_); (try clear hF); clear hL; intro W hL; (try simp only [List.setIfInBounds_toArray, List.set_cons_zero, List.set_cons_succ, List.cons_append, List.nil_append] at hL); have hF := hL.facts; (try simp only [Facts, Dist, List.map_cons, List.map_nil, List.forall_mem_cons, false_implies, ne_eq, not_false_eq_true, List.not_mem_nil, not_false_eq_true, true_implies, forall_const, List.mem_cons, or_false, implies_true, and_true, true_and, Nat.le_refl, List.setIfInBounds_toArray, List.set_cons_zero, List.set_cons_succ] at hF)) | ((with_reducible refine at_region 11 ?_); refine kn_wp ?_; (try clear hF); clear hL; intro W hL; (try simp only [List.setIfInBounds_toArray, List.set_cons_zero, List.set_cons_succ, List.cons_append, List.nil_append] at hL); have hF := hL.facts; (try simp only [Facts, Dist, List.map_cons, List.map_nil, List.forall_mem_cons, false_implies, ne_eq, not_false_eq_true, List.not_mem_nil, not_false_eq_true, true_implies, forall_const, List.mem_cons, or_false, implies_true, and_true, true_and, Nat.le_refl, List.setIfInBounds_toArray, List.set_cons_zero, List.set_cons_succ] at hF); refine kn_region [0, 1, 2, 3, 4, 5, 6, 7, 8, 9] [0, 1, 2, 3, 4, 5, 6, 9] [7, 8] [0, 1, 2, 3, 4, 5, 6, 9] (by kernel_rfl) (by kernel_rfl) (List.Sublist.cons _ (List.Sublist.refl _)) ?_; (try clear hF); clear hL; intro ι F hne hC hFF; have hG := fun n => (hFF n).facts; clear hFF; (try simp only [Facts, Dist, List.map_cons, List.map_nil, List.forall_mem_cons, false_implies, ne_eq, not_false_eq_true, List.not_mem_nil, not_false_eq_true, true_implies, forall_const, List.mem_cons, or_false, implies_true, and_true, true_and, Nat.le_refl, List.setIfInBounds_toArray, List.set_cons_zero, List.set_cons_succ] at hG); (repeat (first | (refine cwk_skip rfl (by rfl) ?_; (try simp only [Act.put, List.setIfInBounds_toArray, List.set_cons_zero, List.set_cons_succ])) | (refine cwk_float rfl rfl (by rfl) (by rfl) (by rfl) hC ?_; intro K hK; go_big_quiet_op; go_big_quiet_on) | (refine cwk_pure rfl rfl (by rfl) (by rfl) ?_; intro K hK; go_big_quiet_op; go_big_quiet_on) | (refine cwk_anch rfl rfl (by rfl) (by rfl) ?_; intro W hL; (try simp only [List.setIfInBounds_toArray, List.set_cons_zero, List.set_cons_succ, List.cons_append, List.nil_append] at hL); have hF := hL.facts; (try simp only [Facts, Dist, List.map_cons, List.map_nil, List.forall_mem_cons, false_implies, ne_eq, not_false_eq_true, List.not_mem_nil, not_false_eq_true, true_implies, forall_const, List.mem_cons, or_false, implies_true, and_true, true_and, Nat.le_refl, List.setIfInBounds_toArray, List.set_cons_zero, List.set_cons_succ] at hF); go_wp2_with (at_builtin; refine wpList_append_blk rfl _ _ 42 rfl 5 i0 _ Tryd.underlying42 hi hz0 (by rw [hz1]; rfl) (by rw [hz1]; decide) hL 1 _ _ _ _ _ rfl hg (by rw [hz1]; exact hr) rfl _ _ _ (bc [92, 120, hexB (c.toNat / 16), hexB (c.toNat % 16)]) rfl (by rw [hz1]; rfl) (fun j u hu => by rw [Go.WideShapes.add_plain, Nat.zero_add, World.cell?, hL.has _ List.mem_cons_self]; simpa [hex_at, bc] using hu) (fun u hu => by obtain ⟨c, _, rfl⟩ := List.mem_map.1 hu; rfl) (by unfold maxLen; omega) (by rw [hz2]; omega) (by omega) ?_); intro g2 cap2 cur2 W2 hL2 hg2 hr2; clear hL; have hL := hL2; clear hL2; go_wp2; refine anchQ_normal ?_; (first | (refine owedB _ (by rfl) ?_; clear hL; (try clear hF); clear hC hG; intro ι F hne hC hFF; have hG := fun n => (hFF n).facts; clear hFF; (try simp only [Facts, Dist, List.map_cons, List.map_nil, List.forall_mem_cons, false_implies, ne_eq, not_false_eq_true, List.not_mem_nil, not_false_eq_true, true_implies, forall_const, List.mem_cons, or_false, implies_true, and_true, true_and, Nat.le_refl, List.setIfInBounds_toArray, List.set_cons_zero, List.set_cons_succ] at hG)) | (refine owed0 _ (by repeat' (first | (with_reducible exact List.Sublist.refl _) | (with_reducible apply List.Sublist.cons_cons) | (with_reducible apply List.Sublist.cons))) ?_; clear hL; (try clear hF)))) | (refine cwk_anch rfl rfl (by rfl) (by rfl) ?_; intro W hL; (try simp only [List.setIfInBounds_toArray, List.set_cons_zero, List.set_cons_succ, List.cons_append, List.nil_append] at hL); have hF := hL.facts; (try simp only [Facts, Dist, List.map_cons, List.map_nil, List.forall_mem_cons, false_implies, ne_eq, not_false_eq_true, List.not_mem_nil, not_false_eq_true, true_implies, forall_const, List.mem_cons, or_false, implies_true, and_true, true_and, Nat.le_refl, List.setIfInBounds_toArray, List.set_cons_zero, List.set_cons_succ] at hF); go_wp2; refine anchQ_normal ?_; (first | (refine owedB _ (by rfl) ?_; clear hL; (try clear hF); clear hC hG; intro ι F hne hC hFF; have hG := fun n => (hFF n).facts; clear hFF; (try simp only [Facts, Dist, List.map_cons, List.map_nil, List.forall_mem_cons, false_implies, ne_eq, not_false_eq_true, List.not_mem_nil, not_false_eq_true, true_implies, forall_const, List.mem_cons, or_false, implies_true, and_true, true_and, Nat.le_refl, List.setIfInBounds_toArray, List.set_cons_zero, List.set_cons_succ] at hG)) | (refine owed0 _ (by repeat' (first | (with_reducible exact List.Sublist.refl _) | (with_reducible apply List.Sublist.cons_cons) | (with_reducible apply List.Sublist.cons))) ?_; clear hL; (try clear hF)))))); refine cwk_nil ?_; clear hC hG; intro W hL; (try simp only [List.setIfInBounds_toArray, List.set_cons_zero, List.set_cons_succ, List.cons_append, List.nil_append] at hL); have hF := hL.facts; (try simp only [Facts, Dist, List.map_cons, List.map_nil, List.forall_mem_cons, false_implies, ne_eq, not_false_eq_true, List.not_mem_nil, not_false_eq_true, true_implies, forall_const, List.mem_cons, or_false, implies_true, and_true, true_and, Nat.le_refl, List.setIfInBounds_toArray, List.set_cons_zero, List.set_cons_succ] at hF)))
          go_roundw
          case rel =>
            refine ⟨k + 1, _, by omega, by go_num, rfl, ?_⟩
            try rw [hz1] at hr2
            have hfin := BOwn.of_blk hL hg2 hr2 (by rw [HN.out]; rfl)
            rw [HFT.out, hq.out]
            simpa using hfin
          case measure => simp [intOf]; omega
        · have hD2 : ¬ (c.toNat : Int) ≤ 126 := by omega
          go_wp2_with (first | ((with_reducible refine kn_list_set ?_); (try clear hF); clear hL; intro W hL; (try simp only [List.setIfInBounds_toArray, List.set_cons_zero, List.set_cons_succ, List.cons_append, List.nil_append] at hL); have hF := hL.facts; (try simp only [Facts, Dist, List.map_cons, List.map_nil, List.forall_mem_cons, false_implies, ne_eq, not_false_eq_true, List.not_mem_nil, not_false_eq_true, true_implies, forall_const, List.mem_cons, or_false, implies_true, and_true, true_and, Nat.le_refl, List.setIfInBounds_toArray, List.set_cons_zero, List.set_cons_succ] at hF)) | ((with_reducible refine at_region 11 ?_); refine kn_wp ?_; (try clear hF); clear hL; intro W hL; (try simp only [List.setIfInBounds_toArray, List.set_cons_zero, List.set_cons_succ, List.cons_append, List.nil_append] at hL); have hF := hL.facts; (try simp only [Facts, Dist, List.map_cons, List.map_nil, List.forall_mem_cons, false_implies, ne_eq, not_false_eq_true, List.not_mem_nil, not_false_eq_true, true_implies, forall_const, List.mem_cons, or_false, implies_true, and_true, true_and, Nat.le_refl, List.setIfInBounds_toArray, List.set_cons_zero, List.set_cons_succ] at hF); refine kn_region [0, 1, 2, 3, 4, 5, 6, 7, 8, 9] [0, 1, 2, 3, 4, 5, 6, 9] [7, 8] [0, 1, 2, 3, 4, 5, 6, 9] (by kernel_rfl) (by kernel_rfl) (List.Sublist.cons _ (List.Sublist.refl _)) ?_; (try clear hF); clear hL; intro ι F hne hC hFF; have hG := fun n => (hFF n).facts; clear hFF; (try simp only [Facts, Dist, List.map_cons, List.map_nil, List.forall_mem_cons, false_implies, ne_eq, not_false_eq_true, List.not_mem_nil, not_false_eq_true, true_implies, forall_const, List.mem_cons, or_false, implies_true, and_true, true_and, Nat.le_refl, List.setIfInBounds_toArray, List.set_cons_zero, List.set_cons_succ] at hG); (repeat (first | (refine cwk_skip rfl (by rfl) ?_; (try simp only [Act.put, List.setIfInBounds_toArray, List.set_cons_zero, List.set_cons_succ])) | (refine cwk_float rfl rfl (by rfl) (by rfl) (by rfl) hC ?_; intro K hK; go_big_quiet_op; go_big_quiet_on) | (refine cwk_pure rfl rfl (by rfl) (by rfl) ?_; intro K hK; go_big_quiet_op; go_big_quiet_on) | (refine cwk_anch rfl rfl (by rfl) (by rfl) ?_; intro W hL; (try simp only [List.setIfInBounds_toArray, List.set_cons_zero, List.set_cons_succ, List.cons_append, List.nil_append] at hL); have hF := hL.facts; (try simp only [Facts, Dist, List.map_cons, List.map_nil, List.forall_mem_cons, false_implies, ne_eq, not_false_eq_true, List.not_mem_nil, not_false_eq_true, true_implies, forall_const, List.mem_cons, or_false, implies_true, and_true, true_and, Nat.le_refl, List.setIfInBounds_toArray, List.set_cons_zero, List.set_cons_succ] at hF); go_wp2_with (at_builtin; refine wpList_append_blk rfl _ _ 42 rfl 5 i0 _ Tryd.underlying42 hi hz0 (by rw [hz1]; rfl) (by rw [hz1]; decide) hL 1 _ _ _ _ _ rfl hg (by rw [hz1]; exact hr) rfl _ _ _ (bc [92, 120, hexB (c.toNat / 16), hexB (c.toNat % 16)]) rfl (by rw [hz1]; rfl) (fun j u hu => by rw [Go.WideShapes.add_plain, Nat.zero_add, World.cell?, hL.has _ List.mem_cons_self]; simpa [hex_at, bc] using hu) (fun u hu => by obtain ⟨c, _, rfl⟩ := List.mem_map.1 hu; rfl) (by unfold maxLen; omega) (by rw [hz2]; omega) (by omega) ?_); intro g2 cap2 cur2 W2 hL2 hg2 hr2; clear hL; have hL := hL2; clear hL2; go_wp2; refine anchQ_normal ?_; (first | (refine owedB _ (by rfl) ?_; clear hL; (try clear hF); clear hC hG; intro ι F hne hC hFF; have hG := fun n => (hFF n).facts; clear hFF; (try simp only [Facts, Dist, List.map_cons, List.map_nil, List.forall_mem_cons, false_implies, ne_eq, not_false_eq_true, List.not_mem_nil, not_false_eq_true, true_implies, forall_const, List.mem_cons, or_false, implies_true, and_true, true_and, Nat.le_refl, List.setIfInBounds_toArray, List.set_cons_zero, List.set_cons_succ] at hG)) | (refine owed0 _ (by repeat' (first | (with_reducible exact List.Sublist.refl _) | (with_reducible apply List.Sublist.cons_cons) | (with_reducible apply List.Sublist.cons))) ?_; clear hL; (try clear hF)))) | (refine cwk_anch rfl rfl (by rfl) (by rfl) ?_; intro W hL; (try simp only [List.setIfInBounds_toArray, List.set_cons_zero, List.set_cons_succ, List.cons_append, List.nil_append] at hL); have hF := hL.facts; (try simp only [Facts, Dist, List.map_cons, List.map_nil, List.forall_mem_cons, false_implies, ne_eq, not_false_eq_true, List.not_mem_nil, not_false_eq_true, true_implies, forall_const, List.mem_cons, or_false, implies_true, and_true, true_and, Nat.le_refl, List.setIfInBounds_toArray, List.set_cons_zero, List.set_cons_succ] at hF); go_wp2; refine anchQ_normal ?_; (first | (refine owedB _ (by rfl) ?_; clear hL; (try clear hF); clear hC hG; intro ι F hne hC hFF; have hG := fun n => (hFF n).facts; clear hFF; (try simp only [Facts, Dist, List.map_cons, List.map_nil, List.forall_mem_cons, false_implies, ne_eq, not_false_eq_true, List.not_mem_nil, not_false_eq_true, true_implies, forall_const, List.mem_cons, or_false, implies_true, and_true, true_and, Nat.le_refl, List.setIfInBounds_toArray, List.set_cons_zero, List.set_cons_succ] at hG)) | (refine owed0 _ (by repeat' (first | (with_reducible exact List.Sublist.refl _) | (with_reducible apply List.Sublist.cons_cons) | (with_reducible apply List.Sublist.cons))) ?_; clear hL; (try clear hF)))))); refine cwk_nil ?_; clear hC hG; intro W hL; (try simp only [List.setIfInBounds_toArray, List.set_cons_zero, List.set_cons_succ, List.cons_append, List.nil_append] at hL); have hF := hL.facts; (try simp only [Facts, Dist, List.map_cons, List.map_nil, List.forall_mem_cons, false_implies, ne_eq, not_false_eq_true, List.not_mem_nil, not_false_eq_true, true_implies, forall_const, List.mem_cons, or_false, implies_true, and_true, true_and, Nat.le_refl, List.setIfInBounds_toArray, List.set_cons_zero, List.set_cons_succ] at hF)))
          go_roundw
          case rel =>
            refine ⟨k + 1, _, by omega, by go_num, rfl, ?_⟩
            try rw [hz1] at hr2
            have hfin := BOwn.of_blk hL hg2 hr2 (by rw [HN.out]; rfl)
            rw [HFT.out, hq.out]
            simpa using hfin
          case measure => simp [intOf]; omega
    · obtain rfl : k = s.size := by omega
      rw [List.take_of_length_le (by rw [szl]; omega)] at hB hlen
      obtain ⟨t, ht⟩ : ∃ t : ByteArray, t.data.toList = 34 :: s.data.toList.flatMap qb ++ [34] := ⟨⟨(34 :: s.data.toList.flatMap qb ++ [34]).toArray⟩, by simp⟩
      go_wp2_with (first | ((with_reducible refine kn_list_set ?_); (try clear hF); clear hL; intro W hL; (try simp only [List.setIfInBounds_toArray, List.set_cons_zero, List.set_cons_succ, List.cons_append, List.nil_append] at hL); have hF := hL.facts; (try simp only [Facts, Dist, List.map_cons, List.map_nil, List.forall_mem_cons, false_implies, ne_eq, not_false_eq_true, List.not_mem_nil, not_false_eq_true, true_implies, forall_const, List.mem_cons, or_false, implies_true, and_true, true_and, Nat.le_refl, List.setIfInBounds_toArray, List.set_cons_zero, List.set_cons_succ] at hF)) | (at_builtin; (first | (refine wpList_appb rfl _ _ rfl _ [34] hB rfl _ rfl _ rfl rfl (by (try simp only [List.length_append, List.length_cons, List.length_nil]); omega) ?_)); intro v2 W2 hB2; clear hB; have hB := hB2; clear hB2; have hcv := conv_own hB t ht))
      (try simp only [Exit.inBlock, Exit.then]); refine bodyPost_ret (by simp [results, Tryd.results24, go_sem, *]; try rfl) rfl ?_
      refine ⟨?_, hB.kn.below0⟩
      congr 2
      apply ba_ext
      rw [ht]; simp [quoteB]

end Go.Proofs.YtjkohbecmaegmaaDoor

