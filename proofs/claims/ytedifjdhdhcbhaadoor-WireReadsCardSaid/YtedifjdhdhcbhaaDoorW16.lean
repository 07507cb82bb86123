import Derived.Test.YtedifjdhdhcbhaaDoorProg
import Derived.WalkKit
import Derived.Handy
import Derived.Deep.Light
import Derived.WalkSmall
import Derived.StillTailTactics
import Derived.Lib.Hide
import Derived.Test.YtedifjdhdhcbhaaDoorW0
import Derived.Test.YtedifjdhdhcbhaaDoorIt
import Derived.Test.YtedifjdhdhcbhaaDoorW15
import Derived.Laws.BytesArg
namespace Go.Proofs.YtedifjdhdhcbhaaDoor
open Go Go.RowKit
set_option linter.unusedSimpArgs false
set_option linter.unusedVariables false

theorem conv1 (w : World) (x : Int) : (convert 64 9 (.slice (some ⟨w.heap.size, 0, none⟩) 1 1)).run Tryd.prog (w.alloc (.cells #[.int .u8 x] 5)) =
    .ok (.string ⟨#[UInt8.ofNat x.toNat]⟩) (w.alloc (.cells #[.int .u8 x] 5)) :=
  run_convert_bytes_arg (P := Tryd.prog) _ 64 5 Tryd.underlying64 Tryd.underlying5 w.heap.size 0 1 1 [x] rfl (fun i hi => by
    have : i = 0 := by omega
    subst this; rw [World.cell?_alloc_new]; rfl) 9 Tryd.underlying9
theorem tdiv_neg10 (m : Nat) : (-(m : Int)).tdiv 10 = -((m / 10 : Nat) : Int) := by rw [Int.neg_tdiv]; simp [Int.tdiv_eq_ediv]
theorem tmod_neg10 (m : Nat) : (-(m : Int)).tmod 10 = -((m % 10 : Nat) : Int) := by rw [Int.neg_tmod]; simp [Int.tmod_eq_emod]
theorem neg_len (m : Nat) (h : m ≤ 9223372036854775807) : wrap64 (-(m : Int)) = -(m : Int) := by unfold wrap64; omega
theorem dig_t (m : Nat) (h : m ≤ 9223372036854775808) : ∃ t : ByteArray, t.data.toList = Lib.decDigits m ∧ t.size ≤ 19 :=
  ⟨⟨(Lib.decDigits m).toArray⟩, rfl, by show (Lib.decDigits m).toArray.size ≤ 19; rw [List.size_toArray]; exact digits_len 19 m (by decide) (by omega)⟩
set_option maxRecDepth 20000 in
set_option maxHeartbeats 4000000 in
theorem digits_any : ∀ (m : Nat), m ≤ 9223372036854775808 → ∀ (n : Int) (hn : n = -(m : Int)) (t : ByteArray) (ht : t.data.toList = Lib.decDigits m) (w : World), Calls Tryd.prog 45 #[.int .i64 n] w fun e w' => e = .returned (.string t) ∧ Below w.heap.size w w' := by
  intro m
  induction m using Nat.strongRecOn with
  | ind m ih =>
    intro hm n hn t ht w
    have hr : n.tmod 10 = -((m % 10 : Nat) : Int) := by subst hn; exact tmod_neg10 m
    have hq : n.tdiv 10 = -((m / 10 : Nat) : Int) := by subst hn; exact tdiv_neg10 m
    have hcv := conv1
    by_cases hl : m < 10
    · have hg : n > -10 := by omega
      have hL : Kn [] w w [] := Kn.refl [] w; (try simp only [List.setIfInBounds_toArray, List.set_cons_zero, List.set_cons_succ, List.cons_append, List.nil_append] at hL); have hF := hL.facts; (try simp only [Facts, Dist, List.map_cons, List.map_nil, List.forall_mem_cons, false_implies, ne_eq, not_false_eq_true, List.not_mem_nil, not_false_eq_true, true_implies, forall_const, List.mem_cons, or_false, implies_true, and_true, true_and, Nat.le_refl, List.setIfInBounds_toArray, List.set_cons_zero, List.set_cons_succ] at hF); go_enter Tryd.func45, Tryd.ntmps45
      go_wp2
      (try simp only [Exit.inBlock, Exit.then]); refine bodyPost_ret (by simp [results, Tryd.results45, go_sem, *]; try rfl) rfl ?_
      refine ⟨?_, kn_here.below0⟩
      congr 2
      apply ba_ext
      rw [ht, Lib.decDigits, dif_pos hl]
      have e : ((48 : Int) + (m : Int) % 10).toNat = 48 + m := by omega
      have e2 : m % 10 = m := by omega
      simp [e, e2]
    · have hg : ¬ n > -10 := by omega
      obtain ⟨t2, ht2, hs2⟩ := dig_t (m / 10) (by omega)
      have hL : Kn [] w w [] := Kn.refl [] w; (try simp only [List.setIfInBounds_toArray, List.set_cons_zero, List.set_cons_succ, List.cons_append, List.nil_append] at hL); have hF := hL.facts; (try simp only [Facts, Dist, List.map_cons, List.map_nil, List.forall_mem_cons, false_implies, ne_eq, not_false_eq_true, List.not_mem_nil, not_false_eq_true, true_implies, forall_const, List.mem_cons, or_false, implies_true, and_true, true_and, Nat.le_refl, List.setIfInBounds_toArray, List.set_cons_zero, List.set_cons_succ] at hF); go_enter Tryd.func45, Tryd.ntmps45
      go_wp2_with (first | ((with_reducible refine kn_list_set ?_); (try clear hF); clear hL; intro W hL; (try simp only [List.setIfInBounds_toArray, List.set_cons_zero, List.set_cons_succ, List.cons_append, List.nil_append] at hL); have hF := hL.facts; (try simp only [Facts, Dist, List.map_cons, List.map_nil, List.forall_mem_cons, false_implies, ne_eq, not_false_eq_true, List.not_mem_nil, not_false_eq_true, true_implies, forall_const, List.mem_cons, or_false, implies_true, and_true, true_and, Nat.le_refl, List.setIfInBounds_toArray, List.set_cons_zero, List.set_cons_succ] at hF)) | (go_at_call 45; refine kn_calls ?_; (try clear hF); clear hL; intro W hL; (try simp only [List.setIfInBounds_toArray, List.set_cons_zero, List.set_cons_succ, List.cons_append, List.nil_append] at hL); have hF := hL.facts; (try simp only [Facts, Dist, List.map_cons, List.map_nil, List.forall_mem_cons, false_implies, ne_eq, not_false_eq_true, List.not_mem_nil, not_false_eq_true, true_implies, forall_const, List.mem_cons, or_false, implies_true, and_true, true_and, Nat.le_refl, List.setIfInBounds_toArray, List.set_cons_zero, List.set_cons_succ] at hF); (with_reducible refine (ih (m / 10) (by omega) (by omega) _ (by omega) t2 ht2 _).mono ?_); rintro e W ⟨rfl, hb⟩; replace hL := hL.below hb; clear hb; (try clear hF); (try simp only [List.setIfInBounds_toArray, List.set_cons_zero, List.set_cons_succ, List.cons_append, List.nil_append] at hL); have hF := hL.facts; (try simp only [Facts, Dist, List.map_cons, List.map_nil, List.forall_mem_cons, false_implies, ne_eq, not_false_eq_true, List.not_mem_nil, not_false_eq_true, true_implies, forall_const, List.mem_cons, or_false, implies_true, and_true, true_and, Nat.le_refl, List.setIfInBounds_toArray, List.set_cons_zero, List.set_cons_succ] at hF)))
      (try simp only [Exit.inBlock, Exit.then]); refine bodyPost_ret (by simp [results, Tryd.results45, go_sem, *]; try rfl) rfl ?_
      refine ⟨?_, hL.below0⟩
      congr 2
      apply ba_ext
      rw [ht, Lib.decDigits, dif_neg hl]
      have e : ((48 : Int) + (m : Int) % 10).toNat = 48 + m % 10 := by omega
      simp [e, ht2]
theorem digits_t (n : Int) (m : Nat) (hm : m ≤ 9223372036854775807) (hn : n = -(m : Int)) (t : ByteArray) (ht : t.data.toList = Lib.itoa m) (w : World) : Calls Tryd.prog 45 #[.int .i64 n] w fun e w' => e = .returned (.string t) ∧ Below w.heap.size w w' :=
  digits_any m (by omega) n hn t (by rw [ht]; unfold Lib.itoa; rw [if_neg (by omega)]; simp) w
set_option maxRecDepth 20000 in
theorem refInt_enc (n : Int) (h0 : minInt ≤ n) (h1 : n ≤ maxInt) (w : World) : Calls Tryd.prog 14 #[.int .i64 n] w fun e w' => e = .returned (.string ⟨(encInt n).toArray⟩) ∧ Below w.heap.size w w' := by
  unfold minInt at h0; unfold maxInt at h1
  by_cases hn : n < 0
  · obtain ⟨m, rfl⟩ : ∃ m : Nat, n = -(m : Int) := ⟨n.natAbs, by omega⟩
    have hm0 : 0 < m := by omega
    obtain ⟨t, ht, hts⟩ := dig_t m (by omega)
    have hL : Kn [] w w [] := Kn.refl [] w; (try simp only [List.setIfInBounds_toArray, List.set_cons_zero, List.set_cons_succ, List.cons_append, List.nil_append] at hL); have hF := hL.facts; (try simp only [Facts, Dist, List.map_cons, List.map_nil, List.forall_mem_cons, false_implies, ne_eq, not_false_eq_true, List.not_mem_nil, not_false_eq_true, true_implies, forall_const, List.mem_cons, or_false, implies_true, and_true, true_and, Nat.le_refl, List.setIfInBounds_toArray, List.set_cons_zero, List.set_cons_succ] at hF); go_enter Tryd.func14, Tryd.ntmps14
    go_wp2_with (first | ((with_reducible refine kn_list_set ?_); (try clear hF); clear hL; intro W hL; (try simp only [List.setIfInBounds_toArray, List.set_cons_zero, List.set_cons_succ, List.cons_append, List.nil_append] at hL); have hF := hL.facts; (try simp only [Facts, Dist, List.map_cons, List.map_nil, List.forall_mem_cons, false_implies, ne_eq, not_false_eq_true, List.not_mem_nil, not_false_eq_true, true_implies, forall_const, List.mem_cons, or_false, implies_true, and_true, true_and, Nat.le_refl, List.setIfInBounds_toArray, List.set_cons_zero, List.set_cons_succ] at hF)) | (go_at_call 45; refine kn_calls ?_; (try clear hF); clear hL; intro W hL; (try simp only [List.setIfInBounds_toArray, List.set_cons_zero, List.set_cons_succ, List.cons_append, List.nil_append] at hL); have hF := hL.facts; (try simp only [Facts, Dist, List.map_cons, List.map_nil, List.forall_mem_cons, false_implies, ne_eq, not_false_eq_true, List.not_mem_nil, not_false_eq_true, true_implies, forall_const, List.mem_cons, or_false, implies_true, and_true, true_and, Nat.le_refl, List.setIfInBounds_toArray, List.set_cons_zero, List.set_cons_succ] at hF); (with_reducible refine (digits_any m (by omega) _ rfl t ht _).mono ?_); rintro e W ⟨rfl, hb⟩; replace hL := hL.below hb; clear hb; (try clear hF); (try simp only [List.setIfInBounds_toArray, List.set_cons_zero, List.set_cons_succ, List.cons_append, List.nil_append] at hL); have hF := hL.facts; (try simp only [Facts, Dist, List.map_cons, List.map_nil, List.forall_mem_cons, false_implies, ne_eq, not_false_eq_true, List.not_mem_nil, not_false_eq_true, true_implies, forall_const, List.mem_cons, or_false, implies_true, and_true, true_and, Nat.le_refl, List.setIfInBounds_toArray, List.set_cons_zero, List.set_cons_succ] at hF)))
    (try simp only [Exit.inBlock, Exit.then]); refine bodyPost_ret (by simp [results, Tryd.results14, go_sem, *]; try rfl) rfl ?_
    refine ⟨?_, hL.below0⟩
    congr 2
    apply ba_ext
    simp [encInt, Lib.itoa, ht, hm0]
  · obtain ⟨m, rfl⟩ := Int.eq_ofNat_of_zero_le (show 0 ≤ n by omega)
    have hw := neg_len m (by omega)
    obtain ⟨t, ht, hts⟩ := dig_t m (by omega)
    have hL : Kn [] w w [] := Kn.refl [] w; (try simp only [List.setIfInBounds_toArray, List.set_cons_zero, List.set_cons_succ, List.cons_append, List.nil_append] at hL); have hF := hL.facts; (try simp only [Facts, Dist, List.map_cons, List.map_nil, List.forall_mem_cons, false_implies, ne_eq, not_false_eq_true, List.not_mem_nil, not_false_eq_true, true_implies, forall_const, List.mem_cons, or_false, implies_true, and_true, true_and, Nat.le_refl, List.setIfInBounds_toArray, List.set_cons_zero, List.set_cons_succ] at hF); go_enter Tryd.func14, Tryd.ntmps14
    go_wp2_with (first | ((with_reducible refine kn_list_set ?_); (try clear hF); clear hL; intro W hL; (try simp only [List.setIfInBounds_toArray, List.set_cons_zero, List.set_cons_succ, List.cons_append, List.nil_append] at hL); have hF := hL.facts; (try simp only [Facts, Dist, List.map_cons, List.map_nil, List.forall_mem_cons, false_implies, ne_eq, not_false_eq_true, List.not_mem_nil, not_false_eq_true, true_implies, forall_const, List.mem_cons, or_false, implies_true, and_true, true_and, Nat.le_refl, List.setIfInBounds_toArray, List.set_cons_zero, List.set_cons_succ] at hF)) | (go_at_call 45; refine kn_calls ?_; (try clear hF); clear hL; intro W hL; (try simp only [List.setIfInBounds_toArray, List.set_cons_zero, List.set_cons_succ, List.cons_append, List.nil_append] at hL); have hF := hL.facts; (try simp only [Facts, Dist, List.map_cons, List.map_nil, List.forall_mem_cons, false_implies, ne_eq, not_false_eq_true, List.not_mem_nil, not_false_eq_true, true_implies, forall_const, List.mem_cons, or_false, implies_true, and_true, true_and, Nat.le_refl, List.setIfInBounds_toArray, List.set_cons_zero, List.set_cons_succ] at hF); (with_reducible refine (digits_any m (by omega) _ rfl t ht _).mono ?_); rintro e W ⟨rfl, hb⟩; replace hL := hL.below hb; clear hb; (try clear hF); (try simp only [List.setIfInBounds_toArray, List.set_cons_zero, List.set_cons_succ, List.cons_append, List.nil_append] at hL); have hF := hL.facts; (try simp only [Facts, Dist, List.map_cons, List.map_nil, List.forall_mem_cons, false_implies, ne_eq, not_false_eq_true, List.not_mem_nil, not_false_eq_true, true_implies, forall_const, List.mem_cons, or_false, implies_true, and_true, true_and, Nat.le_refl, List.setIfInBounds_toArray, List.set_cons_zero, List.set_cons_succ] at hF)))
    (try simp only [Exit.inBlock, Exit.then]); refine bodyPost_ret (by simp [results, Tryd.results14, go_sem, *]; try rfl) rfl ?_
    refine ⟨?_, hL.below0⟩
    congr 2
    apply ba_ext
    have e : ¬ (m : Int) < 0 := by omega
    simp [encInt, Lib.itoa, e, ht]
theorem refNum_enc (n : Int) (h0 : minInt ≤ n) (h1 : n ≤ maxInt) (w : World) : Calls Tryd.prog 12 #[.int .i64 n] w fun e w' => e = .returned (.string ⟨(encNum n).toArray⟩) ∧ Below w.heap.size w w' := by
  by_cases hn : n < 0
  · unfold encNum; rw [if_pos hn]
    have hL : Kn [] w w [] := Kn.refl [] w; (try simp only [List.setIfInBounds_toArray, List.set_cons_zero, List.set_cons_succ, List.cons_append, List.nil_append] at hL); have hF := hL.facts; (try simp only [Facts, Dist, List.map_cons, List.map_nil, List.forall_mem_cons, false_implies, ne_eq, not_false_eq_true, List.not_mem_nil, not_false_eq_true, true_implies, forall_const, List.mem_cons, or_false, implies_true, and_true, true_and, Nat.le_refl, List.setIfInBounds_toArray, List.set_cons_zero, List.set_cons_succ] at hF); go_enter Tryd.func12, Tryd.ntmps12
    go_wp2_with (first | ((with_reducible refine kn_list_set ?_); (try clear hF); clear hL; intro W hL; (try simp only [List.setIfInBounds_toArray, List.set_cons_zero, List.set_cons_succ, List.cons_append, List.nil_append] at hL); have hF := hL.facts; (try simp only [Facts, Dist, List.map_cons, List.map_nil, List.forall_mem_cons, false_implies, ne_eq, not_false_eq_true, List.not_mem_nil, not_false_eq_true, true_implies, forall_const, List.mem_cons, or_false, implies_true, and_true, true_and, Nat.le_refl, List.setIfInBounds_toArray, List.set_cons_zero, List.set_cons_succ] at hF)) | (go_at_call 14; refine kn_calls ?_; (try clear hF); clear hL; intro W hL; (try simp only [List.setIfInBounds_toArray, List.set_cons_zero, List.set_cons_succ, List.cons_append, List.nil_append] at hL); have hF := hL.facts; (try simp only [Facts, Dist, List.map_cons, List.map_nil, List.forall_mem_cons, false_implies, ne_eq, not_false_eq_true, List.not_mem_nil, not_false_eq_true, true_implies, forall_const, List.mem_cons, or_false, implies_true, and_true, true_and, Nat.le_refl, List.setIfInBounds_toArray, List.set_cons_zero, List.set_cons_succ] at hF); (with_reducible refine (refInt_enc _ h0 h1 _).mono ?_); rintro e W ⟨rfl, hb⟩; replace hL := hL.below hb; clear hb; (try clear hF); (try simp only [List.setIfInBounds_toArray, List.set_cons_zero, List.set_cons_succ, List.cons_append, List.nil_append] at hL); have hF := hL.facts; (try simp only [Facts, Dist, List.map_cons, List.map_nil, List.forall_mem_cons, false_implies, ne_eq, not_false_eq_true, List.not_mem_nil, not_false_eq_true, true_implies, forall_const, List.mem_cons, or_false, implies_true, and_true, true_and, Nat.le_refl, List.setIfInBounds_toArray, List.set_cons_zero, List.set_cons_succ] at hF)))
    (try simp only [Exit.inBlock, Exit.then]); refine bodyPost_ret (by simp [results, Tryd.results12, go_sem, *]; try rfl) rfl ?_
    exact ⟨rfl, hL.below0⟩
  · unfold encNum; rw [if_neg hn]
    have hL : Kn [] w w [] := Kn.refl [] w; (try simp only [List.setIfInBounds_toArray, List.set_cons_zero, List.set_cons_succ, List.cons_append, List.nil_append] at hL); have hF := hL.facts; (try simp only [Facts, Dist, List.map_cons, List.map_nil, List.forall_mem_cons, false_implies, ne_eq, not_false_eq_true, List.not_mem_nil, not_false_eq_true, true_implies, forall_const, List.mem_cons, or_false, implies_true, and_true, true_and, Nat.le_refl, List.setIfInBounds_toArray, List.set_cons_zero, List.set_cons_succ] at hF); go_enter Tryd.func12, Tryd.ntmps12
    go_wp2_with (first | ((with_reducible refine kn_list_set ?_); (try clear hF); clear hL; intro W hL; (try simp only [List.setIfInBounds_toArray, List.set_cons_zero, List.set_cons_succ, List.cons_append, List.nil_append] at hL); have hF := hL.facts; (try simp only [Facts, Dist, List.map_cons, List.map_nil, List.forall_mem_cons, false_implies, ne_eq, not_false_eq_true, List.not_mem_nil, not_false_eq_true, true_implies, forall_const, List.mem_cons, or_false, implies_true, and_true, true_and, Nat.le_refl, List.setIfInBounds_toArray, List.set_cons_zero, List.set_cons_succ] at hF)) | (go_at_call 14; refine kn_calls ?_; (try clear hF); clear hL; intro W hL; (try simp only [List.setIfInBounds_toArray, List.set_cons_zero, List.set_cons_succ, List.cons_append, List.nil_append] at hL); have hF := hL.facts; (try simp only [Facts, Dist, List.map_cons, List.map_nil, List.forall_mem_cons, false_implies, ne_eq, not_false_eq_true, List.not_mem_nil, not_false_eq_true, true_implies, forall_const, List.mem_cons, or_false, implies_true, and_true, true_and, Nat.le_refl, List.setIfInBounds_toArray, List.set_cons_zero, List.set_cons_succ] at hF); (with_reducible refine (refInt_enc _ h0 h1 _).mono ?_); rintro e W ⟨rfl, hb⟩; replace hL := hL.below hb; clear hb; (try clear hF); (try simp only [List.setIfInBounds_toArray, List.set_cons_zero, List.set_cons_succ, List.cons_append, List.nil_append] at hL); have hF := hL.facts; (try simp only [Facts, Dist, List.map_cons, List.map_nil, List.forall_mem_cons, false_implies, ne_eq, not_false_eq_true, List.not_mem_nil, not_false_eq_true, true_implies, forall_const, List.mem_cons, or_false, implies_true, and_true, true_and, Nat.le_refl, List.setIfInBounds_toArray, List.set_cons_zero, List.set_cons_succ] at hF)))
    (try simp only [Exit.inBlock, Exit.then]); refine bodyPost_ret (by simp [results, Tryd.results12, go_sem, *]; try rfl) rfl ?_
    exact ⟨rfl, hL.below0⟩
theorem refText_enc (s : ByteArray) (h1 : s.size ≤ 100000000) (w : World) : Calls Tryd.prog 16 #[.string s] w fun e w' => e = .returned (.string ⟨(encT s).toArray⟩) ∧ Below w.heap.size w w' := by
  obtain ⟨t, ht, hts⟩ := tobtain s.size (by unfold minInt; omega) (by unfold maxInt; omega)
  have hw := neg_len s.size (by omega)
  have hL : Kn [] w w [] := Kn.refl [] w; (try simp only [List.setIfInBounds_toArray, List.set_cons_zero, List.set_cons_succ, List.cons_append, List.nil_append] at hL); have hF := hL.facts; (try simp only [Facts, Dist, List.map_cons, List.map_nil, List.forall_mem_cons, false_implies, ne_eq, not_false_eq_true, List.not_mem_nil, not_false_eq_true, true_implies, forall_const, List.mem_cons, or_false, implies_true, and_true, true_and, Nat.le_refl, List.setIfInBounds_toArray, List.set_cons_zero, List.set_cons_succ] at hF); go_enter Tryd.func16, Tryd.ntmps16
  go_wp2_with (first | ((with_reducible refine kn_list_set ?_); (try clear hF); clear hL; intro W hL; (try simp only [List.setIfInBounds_toArray, List.set_cons_zero, List.set_cons_succ, List.cons_append, List.nil_append] at hL); have hF := hL.facts; (try simp only [Facts, Dist, List.map_cons, List.map_nil, List.forall_mem_cons, false_implies, ne_eq, not_false_eq_true, List.not_mem_nil, not_false_eq_true, true_implies, forall_const, List.mem_cons, or_false, implies_true, and_true, true_and, Nat.le_refl, List.setIfInBounds_toArray, List.set_cons_zero, List.set_cons_succ] at hF)) | (go_at_call 45; refine kn_calls ?_; (try clear hF); clear hL; intro W hL; (try simp only [List.setIfInBounds_toArray, List.set_cons_zero, List.set_cons_succ, List.cons_append, List.nil_append] at hL); have hF := hL.facts; (try simp only [Facts, Dist, List.map_cons, List.map_nil, List.forall_mem_cons, false_implies, ne_eq, not_false_eq_true, List.not_mem_nil, not_false_eq_true, true_implies, forall_const, List.mem_cons, or_false, implies_true, and_true, true_and, Nat.le_refl, List.setIfInBounds_toArray, List.set_cons_zero, List.set_cons_succ] at hF); (with_reducible refine (digits_t _ s.size (by omega) rfl t ht _).mono ?_); rintro e W ⟨rfl, hb⟩; replace hL := hL.below hb; clear hb; (try clear hF); (try simp only [List.setIfInBounds_toArray, List.set_cons_zero, List.set_cons_succ, List.cons_append, List.nil_append] at hL); have hF := hL.facts; (try simp only [Facts, Dist, List.map_cons, List.map_nil, List.forall_mem_cons, false_implies, ne_eq, not_false_eq_true, List.not_mem_nil, not_false_eq_true, true_implies, forall_const, List.mem_cons, or_false, implies_true, and_true, true_and, Nat.le_refl, List.setIfInBounds_toArray, List.set_cons_zero, List.set_cons_succ] at hF)))
  (try simp only [Exit.inBlock, Exit.then]); refine bodyPost_ret (by simp [results, Tryd.results16, go_sem, *]; try rfl) rfl ?_
  refine ⟨?_, hL.below0⟩
  congr 2
  apply ba_ext
  simp [encT, encText, ht]
theorem refInt_t (n : Int) (h0 : minInt ≤ n) (h1 : n ≤ maxInt) (u : ByteArray) (hu : u.data.toList = encInt n) (w : World) : Calls Tryd.prog 14 #[.int .i64 n] w fun e w' => e = .returned (.string u) ∧ Below w.heap.size w w' := by
  rw [show u = ⟨(encInt n).toArray⟩ from ba_ext hu]; exact refInt_enc n h0 h1 w
theorem refText_t (s : ByteArray) (h1 : s.size ≤ 100000000) (u : ByteArray) (hu : u.data.toList = encText s.data.toList) (w : World) : Calls Tryd.prog 16 #[.string s] w fun e w' => e = .returned (.string u) ∧ Below w.heap.size w w' := by
  rw [show u = ⟨(encT s).toArray⟩ from ba_ext hu]; exact refText_enc s h1 w

set_option maxRecDepth 20000 in
set_option maxHeartbeats 4000000 in
theorem refNums_enc (l : List Int) (hin : ∀ n ∈ l, minInt ≤ n ∧ n ≤ maxInt) (v : Value) (w : World) (hv : Row w v (l.map fun x => .int .i64 x)) (hlen : l.length ≤ 1000) (hbytes : (l.flatMap encInt).length ≤ 100000000) :
    Calls Tryd.prog 18 #[v] w fun e w' => e = .returned (.string ⟨(encNums l).toArray⟩) ∧ Below w.heap.size w w' := by
  obtain ⟨ao, cap, rfl, hcell⟩ := hv
  rw [List.length_map]
  obtain ⟨t, ht, hts⟩ := tobtain l.length (by unfold minInt; omega) (by unfold maxInt; omega)
  have hn := neg_len l.length (by omega)
  have hL : Kn [] w w [] := Kn.refl [] w; (try simp only [List.setIfInBounds_toArray, List.set_cons_zero, List.set_cons_succ, List.cons_append, List.nil_append] at hL); have hF := hL.facts; (try simp only [Facts, Dist, List.map_cons, List.map_nil, List.forall_mem_cons, false_implies, ne_eq, not_false_eq_true, List.not_mem_nil, not_false_eq_true, true_implies, forall_const, List.mem_cons, or_false, implies_true, and_true, true_and, Nat.le_refl, List.setIfInBounds_toArray, List.set_cons_zero, List.set_cons_succ] at hF); go_enter Tryd.func18, Tryd.ntmps18
  go_wp2_with (first | ((with_reducible refine kn_list_set ?_); (try clear hF); clear hL; intro W hL; (try simp only [List.setIfInBounds_toArray, List.set_cons_zero, List.set_cons_succ, List.cons_append, List.nil_append] at hL); have hF := hL.facts; (try simp only [Facts, Dist, List.map_cons, List.map_nil, List.forall_mem_cons, false_implies, ne_eq, not_false_eq_true, List.not_mem_nil, not_false_eq_true, true_implies, forall_const, List.mem_cons, or_false, implies_true, and_true, true_and, Nat.le_refl, List.setIfInBounds_toArray, List.set_cons_zero, List.set_cons_succ] at hF)) | (go_at_call 45; refine kn_calls ?_; (try clear hF); clear hL; intro W hL; (try simp only [List.setIfInBounds_toArray, List.set_cons_zero, List.set_cons_succ, List.cons_append, List.nil_append] at hL); have hF := hL.facts; (try simp only [Facts, Dist, List.map_cons, List.map_nil, List.forall_mem_cons, false_implies, ne_eq, not_false_eq_true, List.not_mem_nil, not_false_eq_true, true_implies, forall_const, List.mem_cons, or_false, implies_true, and_true, true_and, Nat.le_refl, List.setIfInBounds_toArray, List.set_cons_zero, List.set_cons_succ] at hF); (with_reducible refine (digits_t _ l.length (by omega) rfl t ht _).mono ?_); rintro e W ⟨rfl, hb⟩; replace hL := hL.below hb; clear hb; (try clear hF); (try simp only [List.setIfInBounds_toArray, List.set_cons_zero, List.set_cons_succ, List.cons_append, List.nil_append] at hL); have hF := hL.facts; (try simp only [Facts, Dist, List.map_cons, List.map_nil, List.forall_mem_cons, false_implies, ne_eq, not_false_eq_true, List.not_mem_nil, not_false_eq_true, true_implies, forall_const, List.mem_cons, or_false, implies_true, and_true, true_and, Nat.le_refl, List.setIfInBounds_toArray, List.set_cons_zero, List.set_cons_succ] at hF)))
  go_loopw [3, 4] (fun x i wr => ∃ (k : Nat) (z : ByteArray), k ≤ l.length ∧ i = .int .i64 k ∧ x = .string z ∧ z.data.toList = Lib.itoa l.length ++ 91 :: (l.take k).flatMap encInt ∧ Below w.heap.size w wr) (fun _ i _ => l.length - (intOf i).toNat)
  case atStart => exact ⟨0, t ++ ⟨#[91]⟩, by omega, rfl, rfl, by simp [ht], hL.below0⟩
  case round =>
    obtain ⟨k, z, hk, rfl, rfl, hz, hW⟩ := hrel
    clear hL hF
    by_cases hlt : k < l.length
    · obtain ⟨x, hx⟩ : ∃ x, l[k]? = some x := ⟨_, List.getElem?_eq_getElem hlt⟩
      obtain ⟨g, o, rfl, hc⟩ := hcell k (.int .i64 x) (by simp [hx])
      have hc2 := cell_ext hc hW
      obtain ⟨u, hul⟩ : ∃ u : ByteArray, u.data.toList = encInt x := ⟨⟨(encInt x).toArray⟩, rfl⟩
      have hpre : ((l.take k).flatMap encInt).length + (encInt x).length ≤ (l.flatMap encInt).length := by
        have e1 : l.flatMap encInt = (l.take (k + 1)).flatMap encInt ++ (l.drop (k + 1)).flatMap encInt := by rw [← List.flatMap_append, List.take_append_drop]
        rw [e1, List.take_add_one, hx]; simp
      have hus : u.size = (encInt x).length := by rw [← hul]; simp
      have hzs : z.size = t.size + 1 + ((l.take k).flatMap encInt).length := by
        have : z.size = z.data.toList.length := by simp
        have h2 : t.size = t.data.toList.length := by simp
        rw [this, hz, h2, ht, List.length_append, List.length_cons]; omega
      have hroom : z.size + u.size ≤ 200000000 := by omega
      clear hpre hzs
      go_wp2_with (go_at_call 14; refine (refInt_t x (hin x (List.mem_of_getElem? hx)).1 (hin x (List.mem_of_getElem? hx)).2 u hul _).mono ?_)
      rintro e W3 ⟨rfl, hb3⟩
      go_wp2
      go_roundw
      case rel =>
        refine ⟨k + 1, z ++ u, by omega, by go_num, rfl, ?_, hW.trans (hb3.mono hW.size)⟩
        rw [List.take_add_one, hx]
        simp [hz, hul]
      case measure => simp [intOf]; omega
    · obtain rfl : k = l.length := by omega
      rw [List.take_length] at hz
      have hzs : z.size ≤ 200000000 := by
        have : z.size = z.data.toList.length := by simp
        have h2 : t.size = t.data.toList.length := by simp
        rw [ht] at h2
        rw [this, hz, List.length_append, List.length_cons]; omega
      go_wp2
      (try simp only [Exit.inBlock, Exit.then]); refine bodyPost_ret (by simp [results, Tryd.results18, go_sem, *]; try rfl) rfl ?_
      refine ⟨?_, hW⟩
      congr 2
      apply ba_ext
      simp [hz, encNums]

set_option maxRecDepth 20000 in
set_option maxHeartbeats 4000000 in
theorem refTexts_enc (l : List Bytes) (hin : ∀ s ∈ l, s.length ≤ 100000000) (v : Value) (w : World) (hv : Row w v (l.map fun x => .string ⟨x.toArray⟩)) (hlen : l.length ≤ 1000) (hbytes : (l.flatMap encText).length ≤ 100000000) :
    Calls Tryd.prog 20 #[v] w fun e w' => e = .returned (.string ⟨(encTexts l).toArray⟩) ∧ Below w.heap.size w w' := by
  obtain ⟨ao, cap, rfl, hcell⟩ := hv
  rw [List.length_map]
  obtain ⟨t, ht, hts⟩ := tobtain l.length (by unfold minInt; omega) (by unfold maxInt; omega)
  have hn := neg_len l.length (by omega)
  have hL : Kn [] w w [] := Kn.refl [] w; (try simp only [List.setIfInBounds_toArray, List.set_cons_zero, List.set_cons_succ, List.cons_append, List.nil_append] at hL); have hF := hL.facts; (try simp only [Facts, Dist, List.map_cons, List.map_nil, List.forall_mem_cons, false_implies, ne_eq, not_false_eq_true, List.not_mem_nil, not_false_eq_true, true_implies, forall_const, List.mem_cons, or_false, implies_true, and_true, true_and, Nat.le_refl, List.setIfInBounds_toArray, List.set_cons_zero, List.set_cons_succ] at hF); go_enter Tryd.func20, Tryd.ntmps20
  go_wp2_with (first | ((with_reducible refine kn_list_set ?_); (try clear hF); clear hL; intro W hL; (try simp only [List.setIfInBounds_toArray, List.set_cons_zero, List.set_cons_succ, List.cons_append, List.nil_append] at hL); have hF := hL.facts; (try simp only [Facts, Dist, List.map_cons, List.map_nil, List.forall_mem_cons, false_implies, ne_eq, not_false_eq_true, List.not_mem_nil, not_false_eq_true, true_implies, forall_const, List.mem_cons, or_false, implies_true, and_true, true_and, Nat.le_refl, List.setIfInBounds_toArray, List.set_cons_zero, List.set_cons_succ] at hF)) | (go_at_call 45; refine kn_calls ?_; (try clear hF); clear hL; intro W hL; (try simp only [List.setIfInBounds_toArray, List.set_cons_zero, List.set_cons_succ, List.cons_append, List.nil_append] at hL); have hF := hL.facts; (try simp only [Facts, Dist, List.map_cons, List.map_nil, List.forall_mem_cons, false_implies, ne_eq, not_false_eq_true, List.not_mem_nil, not_false_eq_true, true_implies, forall_const, List.mem_cons, or_false, implies_true, and_true, true_and, Nat.le_refl, List.setIfInBounds_toArray, List.set_cons_zero, List.set_cons_succ] at hF); (with_reducible refine (digits_t _ l.length (by omega) rfl t ht _).mono ?_); rintro e W ⟨rfl, hb⟩; replace hL := hL.below hb; clear hb; (try clear hF); (try simp only [List.setIfInBounds_toArray, List.set_cons_zero, List.set_cons_succ, List.cons_append, List.nil_append] at hL); have hF := hL.facts; (try simp only [Facts, Dist, List.map_cons, List.map_nil, List.forall_mem_cons, false_implies, ne_eq, not_false_eq_true, List.not_mem_nil, not_false_eq_true, true_implies, forall_const, List.mem_cons, or_false, implies_true, and_true, true_and, Nat.le_refl, List.setIfInBounds_toArray, List.set_cons_zero, List.set_cons_succ] at hF)))
  go_loopw [3, 4] (fun x i wr => ∃ (k : Nat) (z : ByteArray), k ≤ l.length ∧ i = .int .i64 k ∧ x = .string z ∧ z.data.toList = Lib.itoa l.length ++ 91 :: (l.take k).flatMap encText ∧ Below w.heap.size w wr) (fun _ i _ => l.length - (intOf i).toNat)
  case atStart => exact ⟨0, t ++ ⟨#[91]⟩, by omega, rfl, rfl, by simp [ht], hL.below0⟩
  case round =>
    obtain ⟨k, z, hk, rfl, rfl, hz, hW⟩ := hrel
    clear hL hF
    by_cases hlt : k < l.length
    · obtain ⟨x, hx⟩ : ∃ x, l[k]? = some x := ⟨_, List.getElem?_eq_getElem hlt⟩
      obtain ⟨g, o, rfl, hc⟩ := hcell k (.string ⟨x.toArray⟩) (by simp [hx])
      have hc2 := cell_ext hc hW
      obtain ⟨u, hul⟩ : ∃ u : ByteArray, u.data.toList = encText x := ⟨⟨(encText x).toArray⟩, rfl⟩
      have hpre : ((l.take k).flatMap encText).length + (encText x).length ≤ (l.flatMap encText).length := by
        have e1 : l.flatMap encText = (l.take (k + 1)).flatMap encText ++ (l.drop (k + 1)).flatMap encText := by rw [← List.flatMap_append, List.take_append_drop]
        rw [e1, List.take_add_one, hx]; simp
      have hus : u.size = (encText x).length := by rw [← hul]; simp
      have hzs : z.size = t.size + 1 + ((l.take k).flatMap encText).length := by
        have : z.size = z.data.toList.length := by simp
        have h2 : t.size = t.data.toList.length := by simp
        rw [this, hz, h2, ht, List.length_append, List.length_cons]; omega
      have hroom : z.size + u.size ≤ 200000000 := by omega
      clear hpre hzs
      go_wp2_with (go_at_call 16; refine (refText_t ⟨x.toArray⟩ (by have := hin x (List.mem_of_getElem? hx); show x.toArray.size ≤ _; simpa using this) u hul _).mono ?_)
      rintro e W3 ⟨rfl, hb3⟩
      go_wp2
      go_roundw
      case rel =>
        refine ⟨k + 1, z ++ u, by omega, by go_num, rfl, ?_, hW.trans (hb3.mono hW.size)⟩
        rw [List.take_add_one, hx]
        simp [hz, hul]
      case measure => simp [intOf]; omega
    · obtain rfl : k = l.length := by omega
      rw [List.take_length] at hz
      have hzs : z.size ≤ 200000000 := by
        have : z.size = z.data.toList.length := by simp
        have h2 : t.size = t.data.toList.length := by simp
        rw [ht] at h2
        rw [this, hz, List.length_append, List.length_cons]; omega
      go_wp2
      (try simp only [Exit.inBlock, Exit.then]); refine bodyPost_ret (by simp [results, Tryd.results20, go_sem, *]; try rfl) rfl ?_
      refine ⟨?_, hW⟩
      congr 2
      apply ba_ext
      simp [hz, encTexts]

end Go.Proofs.YtedifjdhdhcbhaaDoor
