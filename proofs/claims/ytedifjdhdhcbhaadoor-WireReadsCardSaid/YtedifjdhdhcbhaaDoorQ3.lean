import Derived.Test.YtedifjdhdhcbhaaDoorProg
import Derived.WalkKit
import Derived.Handy
import Derived.Deep.Light
import Derived.WalkSmall
import Derived.StillTailTactics
import Derived.Lib.Hide
import Derived.Test.YtedifjdhdhcbhaaDoorW0
import Derived.Test.YtedifjdhdhcbhaaDoorIt
import Derived.Test.YtedifjdhdhcbhaaDoorQ2
namespace Go.Proofs.YtedifjdhdhcbhaaDoor
open Go Go.RowKit
set_option linter.unusedSimpArgs false
set_option linter.unusedVariables false

theorem head45 {l : Bytes} {c : UInt8} (h : l[0]? = some c) (hc : c.toNat = 45) : ∃ r, l = 45 :: r := by
  cases l with
  | nil => simp at h
  | cons x r =>
    simp at h; subst h
    exact ⟨r, by congr 1; exact UInt8.toNat_inj.1 hc⟩

set_option maxRecDepth 20000 in
set_option maxHeartbeats 4000000 in
theorem back_1 (s : ByteArray) (hs : s.size ≤ 21) (c0 : UInt8) (h0 : s.data.toList[0]? = some c0) (hc : c0.toNat = 45) (w : World) :
    Calls Tryd.prog 64 #[.string s] w fun e w' => BackSays s.data.toList e ∧ Below w.heap.size w w' := by
  have hp : 0 < s.size := by
    have := (List.getElem?_eq_some_iff.1 h0).1
    simpa using this
  have e0 := byte_at h0 hp
  have hg : (s.size : Int) > 0 := by omega
  have hcc : ((c0.toNat : Int) = 45) := by omega
  have hL : Kn [] w w [] := Kn.refl [] w; (try simp only [List.setIfInBounds_toArray, List.set_cons_zero, List.set_cons_succ, List.cons_append, List.nil_append] at hL); have hF := hL.facts; (try simp only [Facts, Dist, List.map_cons, List.map_nil, List.forall_mem_cons, false_implies, ne_eq, not_false_eq_true, List.not_mem_nil, not_false_eq_true, true_implies, forall_const, List.mem_cons, or_false, implies_true, and_true, true_and, Nat.le_refl, List.setIfInBounds_toArray, List.set_cons_zero, List.set_cons_succ] at hF); go_enter Tryd.func64, Tryd.ntmps64
  go_wp2
  go_loopw [5, 6] (fun n i wr => ∃ k : Nat, 1 ≤ k ∧ k ≤ s.size ∧ i = .int .i64 k ∧ n = .int .i64 (accW ((s.data.toList.drop 1).take (k - 1))) ∧ Kn [] w wr []) (fun _ i _ => s.size - (intOf i).toNat)
  case atStart => exact ⟨1, by omega, by omega, rfl, by simp [accW], hL⟩
  case round =>
    obtain ⟨k, hk1, hk, rfl, rfl, hK⟩ := hrel
    clear hL hF
    have hL := hK
    clear hK
    (try simp only [List.setIfInBounds_toArray, List.set_cons_zero, List.set_cons_succ, List.cons_append, List.nil_append] at hL); have hF := hL.facts; (try simp only [Facts, Dist, List.map_cons, List.map_nil, List.forall_mem_cons, false_implies, ne_eq, not_false_eq_true, List.not_mem_nil, not_false_eq_true, true_implies, forall_const, List.mem_cons, or_false, implies_true, and_true, true_and, Nat.le_refl, List.setIfInBounds_toArray, List.set_cons_zero, List.set_cons_succ] at hF)
    have hsl : s.data.toList.length = s.size := by simp
    by_cases hlt : k < s.size
    · obtain ⟨c, hck⟩ : ∃ c, s.data.toList[k]? = some c := ⟨_, List.getElem?_eq_getElem (by omega)⟩
      have eb := byte_at hck hlt
      have hk20 : ¬ (k : Int) > 20 := by omega
      have hc256 := c.toNat_lt
      obtain ⟨a, ha⟩ : ∃ a, accW ((s.data.toList.drop 1).take (k - 1)) = a := ⟨_, rfl⟩
      by_cases hd : 48 ≤ (c.toNat : Int) ∧ (c.toNat : Int) ≤ 57
      · obtain ⟨hd1, hd2⟩ := hd
        have hu8 := u8sub c ⟨by omega, by omega⟩
        have hw0 : wrap64 ((c.toNat : Int) - 48) = (c.toNat : Int) - 48 := by unfold wrap64; omega
        have hn : accW ((s.data.toList.drop 1).take (k + 1 - 1)) = wrap64 (wrap64 (10 * a) - ((c.toNat : Int) - 48)) := by
          have e1 : (s.data.toList.drop 1).take (k + 1 - 1) = (s.data.toList.drop 1).take (k - 1) ++ [c] := by
            rw [show k + 1 - 1 = (k - 1) + 1 by omega, List.take_add_one, List.getElem?_drop, show 1 + (k - 1) = k by omega, hck]; simp
          rw [e1, accW_snoc, ha]
        rw [ha]
        clear ha
        go_wp2
        go_roundw
        case rel =>
          first | exact ⟨k + 1, by omega, by omega, by go_num, by rw [hn], hL⟩ | exact ⟨_, _, _, _, ⟨k + 1, by omega, by omega, by go_num, by rw [hn]⟩, rfl, rfl, rfl, rfl⟩
        case measure => simp [intOf]; omega
      · have hnone : canon s.data.toList = none := by
          cases hcn : canon s.data.toList with
          | none => rfl
          | some m =>
            exfalso
            obtain ⟨r, hr⟩ : ∃ r, s.data.toList = 45 :: r := head45 h0 hc
            rw [hr] at hcn
            have := (back_neg r m hcn).2 c (by rw [hr, show k = (k - 1) + 1 by omega, List.getElem?_cons_succ] at hck; exact List.mem_of_getElem? hck)
            exact hd ⟨by have := this.1; omega, by have := this.2; omega⟩
        by_cases hd1 : (c.toNat : Int) < 48
        · go_wp2
          (try simp only [Exit.inBlock, Exit.then]); refine bodyPost_ret (by simp [results, Tryd.results64, go_sem, *]; try rfl) rfl ?_
          exact ⟨⟨0, false, rfl, by simp, fun _ => hnone⟩, hL.below0⟩
        · have hd2 : (c.toNat : Int) > 57 := by omega
          go_wp2
          (try simp only [Exit.inBlock, Exit.then]); refine bodyPost_ret (by simp [results, Tryd.results64, go_sem, *]; try rfl) rfl ?_
          exact ⟨⟨0, false, rfl, by simp, fun _ => hnone⟩, hL.below0⟩
    · obtain rfl : k = s.size := by omega
      have hta : (s.data.toList.drop 1).take (s.size - 1) = s.data.toList.drop 1 := List.take_of_length_le (by rw [List.length_drop]; omega)
      obtain ⟨a, ha⟩ : ∃ a, accW ((s.data.toList.drop 1).take (s.size - 1)) = a := ⟨_, rfl⟩
      have hai := accW_in ((s.data.toList.drop 1).take (s.size - 1))
      rw [ha] at hai
      obtain ⟨n, hn⟩ : ∃ n, a = n := ⟨_, rfl⟩
      have hni : minInt ≤ n ∧ n ≤ maxInt := by rw [← hn]; exact hai
      obtain ⟨u, hu⟩ : ∃ u : ByteArray, u.data.toList = encInt n := ⟨⟨(encInt n).toArray⟩, rfl⟩
      have hsome : ∀ m, canon s.data.toList = some m → n = m := fun m hm => by
        obtain ⟨r, hr⟩ : ∃ r, s.data.toList = 45 :: r := head45 h0 hc
        rw [hr] at hm
        have := (back_neg r m hm).1
        rw [← hn, ← ha, hta]
        rw [hr]; exact this
      have hni1 := hni.1
      have hni2 := hni.2
      rw [ha]
      clear ha hta hai
      subst hn
      by_cases hq : Lib.itoa a = s.data.toList
      · have hb : (u.toList == (s ++ (⟨#[59]⟩ : ByteArray)).toList) = true := by
          rw [show u = s ++ (⟨#[59]⟩ : ByteArray) from ba_ext (by rw [hu]; simp [encInt, hq])]; simp
        go_wp2_with (first | ((with_reducible refine kn_list_set ?_); (try clear hF); clear hL; intro W hL; (try simp only [List.setIfInBounds_toArray, List.set_cons_zero, List.set_cons_succ, List.cons_append, List.nil_append] at hL); have hF := hL.facts; (try simp only [Facts, Dist, List.map_cons, List.map_nil, List.forall_mem_cons, false_implies, ne_eq, not_false_eq_true, List.not_mem_nil, not_false_eq_true, true_implies, forall_const, List.mem_cons, or_false, implies_true, and_true, true_and, Nat.le_refl, List.setIfInBounds_toArray, List.set_cons_zero, List.set_cons_succ] at hF)) | (go_at_call 14; refine kn_calls ?_; (try clear hF); clear hL; intro W hL; (try simp only [List.setIfInBounds_toArray, List.set_cons_zero, List.set_cons_succ, List.cons_append, List.nil_append] at hL); have hF := hL.facts; (try simp only [Facts, Dist, List.map_cons, List.map_nil, List.forall_mem_cons, false_implies, ne_eq, not_false_eq_true, List.not_mem_nil, not_false_eq_true, true_implies, forall_const, List.mem_cons, or_false, implies_true, and_true, true_and, Nat.le_refl, List.setIfInBounds_toArray, List.set_cons_zero, List.set_cons_succ] at hF); (with_reducible refine (refInt_t _ hni1 hni2 u hu _).mono ?_); rintro e W ⟨rfl, hb⟩; replace hL := hL.below hb; clear hb; (try clear hF); (try simp only [List.setIfInBounds_toArray, List.set_cons_zero, List.set_cons_succ, List.cons_append, List.nil_append] at hL); have hF := hL.facts; (try simp only [Facts, Dist, List.map_cons, List.map_nil, List.forall_mem_cons, false_implies, ne_eq, not_false_eq_true, List.not_mem_nil, not_false_eq_true, true_implies, forall_const, List.mem_cons, or_false, implies_true, and_true, true_and, Nat.le_refl, List.setIfInBounds_toArray, List.set_cons_zero, List.set_cons_succ] at hF)))
        (try simp only [Exit.inBlock, Exit.then]); refine bodyPost_ret (by simp [results, Tryd.results64, go_sem, *]; try rfl) rfl ?_
        exact ⟨⟨_, true, rfl, fun _ => by rw [← hq]; exact canon_itoa hni1 hni2, by simp⟩, hL.below0⟩
      · have hb : (u.toList == (s ++ (⟨#[59]⟩ : ByteArray)).toList) = false := (Lib.bytes_beq_false_iff _ _).2 (fun e => hq (by
          have := congrArg (fun x : ByteArray => x.data.toList) e
          simp only [hu, encInt] at this
          simpa using this))
        go_wp2_with (first | ((with_reducible refine kn_list_set ?_); (try clear hF); clear hL; intro W hL; (try simp only [List.setIfInBounds_toArray, List.set_cons_zero, List.set_cons_succ, List.cons_append, List.nil_append] at hL); have hF := hL.facts; (try simp only [Facts, Dist, List.map_cons, List.map_nil, List.forall_mem_cons, false_implies, ne_eq, not_false_eq_true, List.not_mem_nil, not_false_eq_true, true_implies, forall_const, List.mem_cons, or_false, implies_true, and_true, true_and, Nat.le_refl, List.setIfInBounds_toArray, List.set_cons_zero, List.set_cons_succ] at hF)) | (go_at_call 14; refine kn_calls ?_; (try clear hF); clear hL; intro W hL; (try simp only [List.setIfInBounds_toArray, List.set_cons_zero, List.set_cons_succ, List.cons_append, List.nil_append] at hL); have hF := hL.facts; (try simp only [Facts, Dist, List.map_cons, List.map_nil, List.forall_mem_cons, false_implies, ne_eq, not_false_eq_true, List.not_mem_nil, not_false_eq_true, true_implies, forall_const, List.mem_cons, or_false, implies_true, and_true, true_and, Nat.le_refl, List.setIfInBounds_toArray, List.set_cons_zero, List.set_cons_succ] at hF); (with_reducible refine (refInt_t _ hni1 hni2 u hu _).mono ?_); rintro e W ⟨rfl, hb⟩; replace hL := hL.below hb; clear hb; (try clear hF); (try simp only [List.setIfInBounds_toArray, List.set_cons_zero, List.set_cons_succ, List.cons_append, List.nil_append] at hL); have hF := hL.facts; (try simp only [Facts, Dist, List.map_cons, List.map_nil, List.forall_mem_cons, false_implies, ne_eq, not_false_eq_true, List.not_mem_nil, not_false_eq_true, true_implies, forall_const, List.mem_cons, or_false, implies_true, and_true, true_and, Nat.le_refl, List.setIfInBounds_toArray, List.set_cons_zero, List.set_cons_succ] at hF)))
        (try simp only [Exit.inBlock, Exit.then]); refine bodyPost_ret (by simp [results, Tryd.results64, go_sem, *]; try rfl) rfl ?_
        refine ⟨⟨_, false, rfl, by simp, fun _ => ?_⟩, hL.below0⟩
        cases hcn : canon s.data.toList with
        | none => rfl
        | some m => exact absurd (by have := hsome m hcn; subst this; exact (canon_some hcn).1) hq


set_option maxRecDepth 20000 in
set_option maxHeartbeats 4000000 in
theorem back_0 (s : ByteArray) (hs : s.size ≤ 21) (hf : s.data.toList.head? ≠ some 45) (w : World) :
    Calls Tryd.prog 64 #[.string s] w fun e w' => BackSays s.data.toList e ∧ Below w.heap.size w w' := by
  by_cases hs0 : s.size = 0
  · have hnil : s.data.toList = [] := List.eq_nil_of_length_eq_zero (by simp [hs0])
    have hg : ¬ (s.size : Int) > 0 := by omega
    have hL : Kn [] w w [] := Kn.refl [] w; (try simp only [List.setIfInBounds_toArray, List.set_cons_zero, List.set_cons_succ, List.cons_append, List.nil_append] at hL); have hF := hL.facts; (try simp only [Facts, Dist, List.map_cons, List.map_nil, List.forall_mem_cons, false_implies, ne_eq, not_false_eq_true, List.not_mem_nil, not_false_eq_true, true_implies, forall_const, List.mem_cons, or_false, implies_true, and_true, true_and, Nat.le_refl, List.setIfInBounds_toArray, List.set_cons_zero, List.set_cons_succ] at hF); go_enter Tryd.func64, Tryd.ntmps64
    go_wp2
    go_loopw [5, 6] (fun n i wr => ∃ k : Nat, k = s.size ∧ i = .int .i64 k ∧ n = .int .i64 (accW ((s.data.toList).take (s.size))) ∧ Kn [] w wr []) (fun _ i _ => 0)
    case atStart => exact ⟨0, hs0.symm, rfl, by simp [accW, hnil], hL⟩
    case round =>
      obtain ⟨k, hk, rfl, rfl, hK⟩ := hrel
      clear hL hF
      have hL := hK
      clear hK
      (try simp only [List.setIfInBounds_toArray, List.set_cons_zero, List.set_cons_succ, List.cons_append, List.nil_append] at hL); have hF := hL.facts; (try simp only [Facts, Dist, List.map_cons, List.map_nil, List.forall_mem_cons, false_implies, ne_eq, not_false_eq_true, List.not_mem_nil, not_false_eq_true, true_implies, forall_const, List.mem_cons, or_false, implies_true, and_true, true_and, Nat.le_refl, List.setIfInBounds_toArray, List.set_cons_zero, List.set_cons_succ] at hF)
      have hsl : s.data.toList.length = s.size := by simp
      by_cases hlt : k < s.size
      · exfalso; omega
      · obtain rfl : k = s.size := by omega
        have hta : (s.data.toList).take (s.size) = s.data.toList := List.take_of_length_le (by omega)
        obtain ⟨a, ha⟩ : ∃ a, accW ((s.data.toList).take (s.size)) = a := ⟨_, rfl⟩
        have hai := accW_in ((s.data.toList).take (s.size))
        rw [ha] at hai
        obtain ⟨n, hn⟩ : ∃ n, wrap64 (-a) = n := ⟨_, rfl⟩
        have hni : minInt ≤ n ∧ n ≤ maxInt := by rw [← hn]; exact wrap_in _
        obtain ⟨u, hu⟩ : ∃ u : ByteArray, u.data.toList = encInt n := ⟨⟨(encInt n).toArray⟩, rfl⟩
        have hsome : ∀ m, canon s.data.toList = some m → n = m := fun m hm => by
        
        
          have := back_pos _ hf m (canon_some hm).2 hm
          rw [← hn, ← ha, hta]
          exact this
        have hni1 := hni.1
        have hni2 := hni.2
        rw [ha]
        clear ha hta hai
      
        by_cases hq : Lib.itoa n = s.data.toList
        · have hb : (u.toList == (s ++ (⟨#[59]⟩ : ByteArray)).toList) = true := by
            rw [show u = s ++ (⟨#[59]⟩ : ByteArray) from ba_ext (by rw [hu]; simp [encInt, hq])]; simp
          go_wp2_with (first | ((with_reducible refine kn_list_set ?_); (try clear hF); clear hL; intro W hL; (try simp only [List.setIfInBounds_toArray, List.set_cons_zero, List.set_cons_succ, List.cons_append, List.nil_append] at hL); have hF := hL.facts; (try simp only [Facts, Dist, List.map_cons, List.map_nil, List.forall_mem_cons, false_implies, ne_eq, not_false_eq_true, List.not_mem_nil, not_false_eq_true, true_implies, forall_const, List.mem_cons, or_false, implies_true, and_true, true_and, Nat.le_refl, List.setIfInBounds_toArray, List.set_cons_zero, List.set_cons_succ] at hF)) | (go_at_call 14; refine kn_calls ?_; (try clear hF); clear hL; intro W hL; (try simp only [List.setIfInBounds_toArray, List.set_cons_zero, List.set_cons_succ, List.cons_append, List.nil_append] at hL); have hF := hL.facts; (try simp only [Facts, Dist, List.map_cons, List.map_nil, List.forall_mem_cons, false_implies, ne_eq, not_false_eq_true, List.not_mem_nil, not_false_eq_true, true_implies, forall_const, List.mem_cons, or_false, implies_true, and_true, true_and, Nat.le_refl, List.setIfInBounds_toArray, List.set_cons_zero, List.set_cons_succ] at hF); (with_reducible refine (refInt_t _ hni1 hni2 u hu _).mono ?_); rintro e W ⟨rfl, hb⟩; replace hL := hL.below hb; clear hb; (try clear hF); (try simp only [List.setIfInBounds_toArray, List.set_cons_zero, List.set_cons_succ, List.cons_append, List.nil_append] at hL); have hF := hL.facts; (try simp only [Facts, Dist, List.map_cons, List.map_nil, List.forall_mem_cons, false_implies, ne_eq, not_false_eq_true, List.not_mem_nil, not_false_eq_true, true_implies, forall_const, List.mem_cons, or_false, implies_true, and_true, true_and, Nat.le_refl, List.setIfInBounds_toArray, List.set_cons_zero, List.set_cons_succ] at hF)))
          (try simp only [Exit.inBlock, Exit.then]); refine bodyPost_ret (by simp [results, Tryd.results64, go_sem, *]; try rfl) rfl ?_
          exact ⟨⟨_, true, rfl, fun _ => by rw [← hq]; exact canon_itoa hni1 hni2, by simp⟩, hL.below0⟩
        · have hb : (u.toList == (s ++ (⟨#[59]⟩ : ByteArray)).toList) = false := (Lib.bytes_beq_false_iff _ _).2 (fun e => hq (by
            have := congrArg (fun x : ByteArray => x.data.toList) e
            simp only [hu, encInt] at this
            simpa using this))
          go_wp2_with (first | ((with_reducible refine kn_list_set ?_); (try clear hF); clear hL; intro W hL; (try simp only [List.setIfInBounds_toArray, List.set_cons_zero, List.set_cons_succ, List.cons_append, List.nil_append] at hL); have hF := hL.facts; (try simp only [Facts, Dist, List.map_cons, List.map_nil, List.forall_mem_cons, false_implies, ne_eq, not_false_eq_true, List.not_mem_nil, not_false_eq_true, true_implies, forall_const, List.mem_cons, or_false, implies_true, and_true, true_and, Nat.le_refl, List.setIfInBounds_toArray, List.set_cons_zero, List.set_cons_succ] at hF)) | (go_at_call 14; refine kn_calls ?_; (try clear hF); clear hL; intro W hL; (try simp only [List.setIfInBounds_toArray, List.set_cons_zero, List.set_cons_succ, List.cons_append, List.nil_append] at hL); have hF := hL.facts; (try simp only [Facts, Dist, List.map_cons, List.map_nil, List.forall_mem_cons, false_implies, ne_eq, not_false_eq_true, List.not_mem_nil, not_false_eq_true, true_implies, forall_const, List.mem_cons, or_false, implies_true, and_true, true_and, Nat.le_refl, List.setIfInBounds_toArray, List.set_cons_zero, List.set_cons_succ] at hF); (with_reducible refine (refInt_t _ hni1 hni2 u hu _).mono ?_); rintro e W ⟨rfl, hb⟩; replace hL := hL.below hb; clear hb; (try clear hF); (try simp only [List.setIfInBounds_toArray, List.set_cons_zero, List.set_cons_succ, List.cons_append, List.nil_append] at hL); have hF := hL.facts; (try simp only [Facts, Dist, List.map_cons, List.map_nil, List.forall_mem_cons, false_implies, ne_eq, not_false_eq_true, List.not_mem_nil, not_false_eq_true, true_implies, forall_const, List.mem_cons, or_false, implies_true, and_true, true_and, Nat.le_refl, List.setIfInBounds_toArray, List.set_cons_zero, List.set_cons_succ] at hF)))
          (try simp only [Exit.inBlock, Exit.then]); refine bodyPost_ret (by simp [results, Tryd.results64, go_sem, *]; try rfl) rfl ?_
          refine ⟨⟨_, false, rfl, by simp, fun _ => ?_⟩, hL.below0⟩
          cases hcn : canon s.data.toList with
          | none => rfl
          | some m => exact absurd (by have := hsome m hcn; subst this; exact (canon_some hcn).1) hq

  · obtain ⟨c0, h0⟩ : ∃ c, s.data.toList[0]? = some c := ⟨_, List.getElem?_eq_getElem (by simp; omega)⟩
    have hp : 0 < s.size := by omega
    have e0 := byte_at h0 hp
    have hg : (s.size : Int) > 0 := by omega
    have hcc : ¬ ((c0.toNat : Int) = 45) := fun e => hf (by rw [List.head?_eq_getElem?, h0]; congr 1; exact UInt8.toNat_inj.1 (by show c0.toNat = 45; omega))
    have hL : Kn [] w w [] := Kn.refl [] w; (try simp only [List.setIfInBounds_toArray, List.set_cons_zero, List.set_cons_succ, List.cons_append, List.nil_append] at hL); have hF := hL.facts; (try simp only [Facts, Dist, List.map_cons, List.map_nil, List.forall_mem_cons, false_implies, ne_eq, not_false_eq_true, List.not_mem_nil, not_false_eq_true, true_implies, forall_const, List.mem_cons, or_false, implies_true, and_true, true_and, Nat.le_refl, List.setIfInBounds_toArray, List.set_cons_zero, List.set_cons_succ] at hF); go_enter Tryd.func64, Tryd.ntmps64
    go_wp2
    go_loopw [5, 6] (fun n i wr => ∃ k : Nat, k ≤ s.size ∧ i = .int .i64 k ∧ n = .int .i64 (accW ((s.data.toList).take (k))) ∧ Kn [] w wr []) (fun _ i _ => s.size - (intOf i).toNat)
    case atStart => exact ⟨0, by omega, rfl, by simp [accW], hL⟩
    case round =>
      obtain ⟨k, hk, rfl, rfl, hK⟩ := hrel
      clear hL hF
      have hL := hK
      clear hK
      (try simp only [List.setIfInBounds_toArray, List.set_cons_zero, List.set_cons_succ, List.cons_append, List.nil_append] at hL); have hF := hL.facts; (try simp only [Facts, Dist, List.map_cons, List.map_nil, List.forall_mem_cons, false_implies, ne_eq, not_false_eq_true, List.not_mem_nil, not_false_eq_true, true_implies, forall_const, List.mem_cons, or_false, implies_true, and_true, true_and, Nat.le_refl, List.setIfInBounds_toArray, List.set_cons_zero, List.set_cons_succ] at hF)
      have hsl : s.data.toList.length = s.size := by simp
      by_cases hlt : k < s.size
      · obtain ⟨c, hck⟩ : ∃ c, s.data.toList[k]? = some c := ⟨_, List.getElem?_eq_getElem (by omega)⟩
        have eb := byte_at hck hlt
        have hk20 : ¬ (k : Int) > 20 := by omega
        have hc256 := c.toNat_lt
        obtain ⟨a, ha⟩ : ∃ a, accW ((s.data.toList).take (k)) = a := ⟨_, rfl⟩
        by_cases hd : 48 ≤ (c.toNat : Int) ∧ (c.toNat : Int) ≤ 57
        · obtain ⟨hd1, hd2⟩ := hd
          have hu8 := u8sub c ⟨by omega, by omega⟩
          have hw0 : wrap64 ((c.toNat : Int) - 48) = (c.toNat : Int) - 48 := by unfold wrap64; omega
          have hn : accW ((s.data.toList).take (k + 1)) = wrap64 (wrap64 (10 * a) - ((c.toNat : Int) - 48)) := by
            have e1 : (s.data.toList).take (k + 1) = (s.data.toList).take (k) ++ [c] := by
              rw [List.take_add_one, hck]; simp
            rw [e1, accW_snoc, ha]
          rw [ha]
          clear ha
          go_wp2
          go_roundw
          case rel =>
            first | exact ⟨k + 1, by omega, by go_num, by rw [hn], hL⟩ | exact ⟨_, _, _, _, ⟨k + 1, by omega, by go_num, by rw [hn]⟩, rfl, rfl, rfl, rfl⟩
          case measure => simp [intOf]; omega
        · have hnone : canon s.data.toList = none := by
            cases hcn : canon s.data.toList with
            | none => rfl
            | some m =>
              exfalso
            
            
              have := canon_dig hcn hf c (List.mem_of_getElem? hck)
              exact hd ⟨by have := this.1; omega, by have := this.2; omega⟩
          by_cases hd1 : (c.toNat : Int) < 48
          · go_wp2
            (try simp only [Exit.inBlock, Exit.then]); refine bodyPost_ret (by simp [results, Tryd.results64, go_sem, *]; try rfl) rfl ?_
            exact ⟨⟨0, false, rfl, by simp, fun _ => hnone⟩, hL.below0⟩
          · have hd2 : (c.toNat : Int) > 57 := by omega
            go_wp2
            (try simp only [Exit.inBlock, Exit.then]); refine bodyPost_ret (by simp [results, Tryd.results64, go_sem, *]; try rfl) rfl ?_
            exact ⟨⟨0, false, rfl, by simp, fun _ => hnone⟩, hL.below0⟩
      · obtain rfl : k = s.size := by omega
        have hta : (s.data.toList).take (s.size) = s.data.toList := List.take_of_length_le (by omega)
        obtain ⟨a, ha⟩ : ∃ a, accW ((s.data.toList).take (s.size)) = a := ⟨_, rfl⟩
        have hai := accW_in ((s.data.toList).take (s.size))
        rw [ha] at hai
        obtain ⟨n, hn⟩ : ∃ n, wrap64 (-a) = n := ⟨_, rfl⟩
        have hni : minInt ≤ n ∧ n ≤ maxInt := by rw [← hn]; exact wrap_in _
        obtain ⟨u, hu⟩ : ∃ u : ByteArray, u.data.toList = encInt n := ⟨⟨(encInt n).toArray⟩, rfl⟩
        have hsome : ∀ m, canon s.data.toList = some m → n = m := fun m hm => by
        
        
          have := back_pos _ hf m (canon_some hm).2 hm
          rw [← hn, ← ha, hta]
          exact this
        have hni1 := hni.1
        have hni2 := hni.2
        rw [ha]
        clear ha hta hai
      
        by_cases hq : Lib.itoa n = s.data.toList
        · have hb : (u.toList == (s ++ (⟨#[59]⟩ : ByteArray)).toList) = true := by
            rw [show u = s ++ (⟨#[59]⟩ : ByteArray) from ba_ext (by rw [hu]; simp [encInt, hq])]; simp
          go_wp2_with (first | ((with_reducible refine kn_list_set ?_); (try clear hF); clear hL; intro W hL; (try simp only [List.setIfInBounds_toArray, List.set_cons_zero, List.set_cons_succ, List.cons_append, List.nil_append] at hL); have hF := hL.facts; (try simp only [Facts, Dist, List.map_cons, List.map_nil, List.forall_mem_cons, false_implies, ne_eq, not_false_eq_true, List.not_mem_nil, not_false_eq_true, true_implies, forall_const, List.mem_cons, or_false, implies_true, and_true, true_and, Nat.le_refl, List.setIfInBounds_toArray, List.set_cons_zero, List.set_cons_succ] at hF)) | (go_at_call 14; refine kn_calls ?_; (try clear hF); clear hL; intro W hL; (try simp only [List.setIfInBounds_toArray, List.set_cons_zero, List.set_cons_succ, List.cons_append, List.nil_append] at hL); have hF := hL.facts; (try simp only [Facts, Dist, List.map_cons, List.map_nil, List.forall_mem_cons, false_implies, ne_eq, not_false_eq_true, List.not_mem_nil, not_false_eq_true, true_implies, forall_const, List.mem_cons, or_false, implies_true, and_true, true_and, Nat.le_refl, List.setIfInBounds_toArray, List.set_cons_zero, List.set_cons_succ] at hF); (with_reducible refine (refInt_t _ hni1 hni2 u hu _).mono ?_); rintro e W ⟨rfl, hb⟩; replace hL := hL.below hb; clear hb; (try clear hF); (try simp only [List.setIfInBounds_toArray, List.set_cons_zero, List.set_cons_succ, List.cons_append, List.nil_append] at hL); have hF := hL.facts; (try simp only [Facts, Dist, List.map_cons, List.map_nil, List.forall_mem_cons, false_implies, ne_eq, not_false_eq_true, List.not_mem_nil, not_false_eq_true, true_implies, forall_const, List.mem_cons, or_false, implies_true, and_true, true_and, Nat.le_refl, List.setIfInBounds_toArray, List.set_cons_zero, List.set_cons_succ] at hF)))
          (try simp only [Exit.inBlock, Exit.then]); refine bodyPost_ret (by simp [results, Tryd.results64, go_sem, *]; try rfl) rfl ?_
          exact ⟨⟨_, true, rfl, fun _ => by rw [← hq]; exact canon_itoa hni1 hni2, by simp⟩, hL.below0⟩
        · have hb : (u.toList == (s ++ (⟨#[59]⟩ : ByteArray)).toList) = false := (Lib.bytes_beq_false_iff _ _).2 (fun e => hq (by
            have := congrArg (fun x : ByteArray => x.data.toList) e
            simp only [hu, encInt] at this
            simpa using this))
          go_wp2_with (first | ((with_reducible refine kn_list_set ?_); (try clear hF); clear hL; intro W hL; (try simp only [List.setIfInBounds_toArray, List.set_cons_zero, List.set_cons_succ, List.cons_append, List.nil_append] at hL); have hF := hL.facts; (try simp only [Facts, Dist, List.map_cons, List.map_nil, List.forall_mem_cons, false_implies, ne_eq, not_false_eq_true, List.not_mem_nil, not_false_eq_true, true_implies, forall_const, List.mem_cons, or_false, implies_true, and_true, true_and, Nat.le_refl, List.setIfInBounds_toArray, List.set_cons_zero, List.set_cons_succ] at hF)) | (go_at_call 14; refine kn_calls ?_; (try clear hF); clear hL; intro W hL; (try simp only [List.setIfInBounds_toArray, List.set_cons_zero, List.set_cons_succ, List.cons_append, List.nil_append] at hL); have hF := hL.facts; (try simp only [Facts, Dist, List.map_cons, List.map_nil, List.forall_mem_cons, false_implies, ne_eq, not_false_eq_true, List.not_mem_nil, not_false_eq_true, true_implies, forall_const, List.mem_cons, or_false, implies_true, and_true, true_and, Nat.le_refl, List.setIfInBounds_toArray, List.set_cons_zero, List.set_cons_succ] at hF); (with_reducible refine (refInt_t _ hni1 hni2 u hu _).mono ?_); rintro e W ⟨rfl, hb⟩; replace hL := hL.below hb; clear hb; (try clear hF); (try simp only [List.setIfInBounds_toArray, List.set_cons_zero, List.set_cons_succ, List.cons_append, List.nil_append] at hL); have hF := hL.facts; (try simp only [Facts, Dist, List.map_cons, List.map_nil, List.forall_mem_cons, false_implies, ne_eq, not_false_eq_true, List.not_mem_nil, not_false_eq_true, true_implies, forall_const, List.mem_cons, or_false, implies_true, and_true, true_and, Nat.le_refl, List.setIfInBounds_toArray, List.set_cons_zero, List.set_cons_succ] at hF)))
          (try simp only [Exit.inBlock, Exit.then]); refine bodyPost_ret (by simp [results, Tryd.results64, go_sem, *]; try rfl) rfl ?_
          refine ⟨⟨_, false, rfl, by simp, fun _ => ?_⟩, hL.below0⟩
          cases hcn : canon s.data.toList with
          | none => rfl
          | some m => exact absurd (by have := hsome m hcn; subst this; exact (canon_some hcn).1) hq



end Go.Proofs.YtedifjdhdhcbhaaDoor
