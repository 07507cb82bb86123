import Derived.Test.YtjkohbecmaegmaaDoorProg
import Derived.WalkKit
import Derived.Handy
import Derived.Deep.Light
import Derived.WalkSmall
import Derived.StillTailTactics
import Derived.Lib.Hide
import Derived.Test.YtjkohbecmaegmaaDoorT0
import Derived.Test.YtjkohbecmaegmaaDoorIt
import Derived.Test.YtjkohbecmaegmaaDoorT21aX
import Derived.Test.YtjkohbecmaegmaaDoorT21bX
import Derived.Test.YtjkohbecmaegmaaDoorT21cX
import Derived.Test.YtjkohbecmaegmaaDoorT21dX
import Derived.Test.YtjkohbecmaegmaaDoorT21eX
import Derived.Test.YtjkohbecmaegmaaDoorT21fX
namespace Go.Proofs.YtjkohbecmaegmaaDoor
open Go Go.RowKit
set_option linter.unusedSimpArgs false
set_option linter.unusedVariables false
set_option maxRecDepth 20000 in
set_option maxHeartbeats 4000000 in
theorem stars_long0 (p s t : ByteArray) (hp : ¬ (p.size : Int) ≤ 60) (w : World) (hT : Tab w) : Calls Tryd.prog 4 #[.string p, .string s, .string t] w fun e w' => e = .returned (.bool true) ∧ Below w.heap.size w w' := by
  have hL : Kn [] w w [] := Kn.refl [] w; (try simp only [List.setIfInBounds_toArray, List.set_cons_zero, List.set_cons_succ, List.cons_append, List.nil_append] at hL); have hF := hL.facts; (try simp only [Facts, Dist, List.map_cons, List.map_nil, List.forall_mem_cons, false_implies, ne_eq, not_false_eq_true, List.not_mem_nil, not_false_eq_true, true_implies, forall_const, List.mem_cons, or_false, implies_true, and_true, true_and, Nat.le_refl, List.setIfInBounds_toArray, List.set_cons_zero, List.set_cons_succ] at hF); go_enter Tryd.func4, Tryd.ntmps4
  go_wp2_with (first | ((with_reducible refine kn_list_set ?_); (try clear hF); clear hL; intro W hL; (try simp only [List.setIfInBounds_toArray, List.set_cons_zero, List.set_cons_succ, List.cons_append, List.nil_append] at hL); have hF := hL.facts; (try simp only [Facts, Dist, List.map_cons, List.map_nil, List.forall_mem_cons, false_implies, ne_eq, not_false_eq_true, List.not_mem_nil, not_false_eq_true, true_implies, forall_const, List.mem_cons, or_false, implies_true, and_true, true_and, Nat.le_refl, List.setIfInBounds_toArray, List.set_cons_zero, List.set_cons_succ] at hF)) | (go_at_call 8; refine kn_calls ?_; (try clear hF); clear hL; intro W hL; (try simp only [List.setIfInBounds_toArray, List.set_cons_zero, List.set_cons_succ, List.cons_append, List.nil_append] at hL); have hF := hL.facts; (try simp only [Facts, Dist, List.map_cons, List.map_nil, List.forall_mem_cons, false_implies, ne_eq, not_false_eq_true, List.not_mem_nil, not_false_eq_true, true_implies, forall_const, List.mem_cons, or_false, implies_true, and_true, true_and, Nat.le_refl, List.setIfInBounds_toArray, List.set_cons_zero, List.set_cons_succ] at hF); (with_reducible refine (small_any _ (hT.kn hL (by simp))).mono ?_); rintro e W ⟨rfl, hb⟩; replace hL := hL.below hb; clear hb; (try clear hF); (try simp only [List.setIfInBounds_toArray, List.set_cons_zero, List.set_cons_succ, List.cons_append, List.nil_append] at hL); have hF := hL.facts; (try simp only [Facts, Dist, List.map_cons, List.map_nil, List.forall_mem_cons, false_implies, ne_eq, not_false_eq_true, List.not_mem_nil, not_false_eq_true, true_implies, forall_const, List.mem_cons, or_false, implies_true, and_true, true_and, Nat.le_refl, List.setIfInBounds_toArray, List.set_cons_zero, List.set_cons_succ] at hF)))
  (try simp only [Exit.inBlock, Exit.then]); refine bodyPost_ret (by simp [results, Tryd.results4, go_sem, *]; try rfl) rfl ?_
  exact ⟨rfl, hL.below0⟩
set_option maxRecDepth 20000 in
set_option maxHeartbeats 4000000 in
theorem stars_long1 (p s t : ByteArray) (hp : (p.size : Int) ≤ 60) (hs : ¬ (s.size : Int) ≤ 100) (w : World) (hT : Tab w) : Calls Tryd.prog 4 #[.string p, .string s, .string t] w fun e w' => e = .returned (.bool true) ∧ Below w.heap.size w w' := by
  have hL : Kn [] w w [] := Kn.refl [] w; (try simp only [List.setIfInBounds_toArray, List.set_cons_zero, List.set_cons_succ, List.cons_append, List.nil_append] at hL); have hF := hL.facts; (try simp only [Facts, Dist, List.map_cons, List.map_nil, List.forall_mem_cons, false_implies, ne_eq, not_false_eq_true, List.not_mem_nil, not_false_eq_true, true_implies, forall_const, List.mem_cons, or_false, implies_true, and_true, true_and, Nat.le_refl, List.setIfInBounds_toArray, List.set_cons_zero, List.set_cons_succ] at hF); go_enter Tryd.func4, Tryd.ntmps4
  go_wp2_with (first | ((with_reducible refine kn_list_set ?_); (try clear hF); clear hL; intro W hL; (try simp only [List.setIfInBounds_toArray, List.set_cons_zero, List.set_cons_succ, List.cons_append, List.nil_append] at hL); have hF := hL.facts; (try simp only [Facts, Dist, List.map_cons, List.map_nil, List.forall_mem_cons, false_implies, ne_eq, not_false_eq_true, List.not_mem_nil, not_false_eq_true, true_implies, forall_const, List.mem_cons, or_false, implies_true, and_true, true_and, Nat.le_refl, List.setIfInBounds_toArray, List.set_cons_zero, List.set_cons_succ] at hF)) | (go_at_call 8; refine kn_calls ?_; (try clear hF); clear hL; intro W hL; (try simp only [List.setIfInBounds_toArray, List.set_cons_zero, List.set_cons_succ, List.cons_append, List.nil_append] at hL); have hF := hL.facts; (try simp only [Facts, Dist, List.map_cons, List.map_nil, List.forall_mem_cons, false_implies, ne_eq, not_false_eq_true, List.not_mem_nil, not_false_eq_true, true_implies, forall_const, List.mem_cons, or_false, implies_true, and_true, true_and, Nat.le_refl, List.setIfInBounds_toArray, List.set_cons_zero, List.set_cons_succ] at hF); (with_reducible refine (small_any _ (hT.kn hL (by simp))).mono ?_); rintro e W ⟨rfl, hb⟩; replace hL := hL.below hb; clear hb; (try clear hF); (try simp only [List.setIfInBounds_toArray, List.set_cons_zero, List.set_cons_succ, List.cons_append, List.nil_append] at hL); have hF := hL.facts; (try simp only [Facts, Dist, List.map_cons, List.map_nil, List.forall_mem_cons, false_implies, ne_eq, not_false_eq_true, List.not_mem_nil, not_false_eq_true, true_implies, forall_const, List.mem_cons, or_false, implies_true, and_true, true_and, Nat.le_refl, List.setIfInBounds_toArray, List.set_cons_zero, List.set_cons_succ] at hF)))
  (try simp only [Exit.inBlock, Exit.then]); refine bodyPost_ret (by simp [results, Tryd.results4, go_sem, *]; try rfl) rfl ?_
  exact ⟨rfl, hL.below0⟩
set_option maxRecDepth 20000 in
set_option maxHeartbeats 4000000 in
theorem stars_long2 (p s t : ByteArray) (hp : (p.size : Int) ≤ 60) (hs : (s.size : Int) ≤ 100) (ht : ¬ (t.size : Int) ≤ 100) (w : World) (hT : Tab w) : Calls Tryd.prog 4 #[.string p, .string s, .string t] w fun e w' => e = .returned (.bool true) ∧ Below w.heap.size w w' := by
  have hL : Kn [] w w [] := Kn.refl [] w; (try simp only [List.setIfInBounds_toArray, List.set_cons_zero, List.set_cons_succ, List.cons_append, List.nil_append] at hL); have hF := hL.facts; (try simp only [Facts, Dist, List.map_cons, List.map_nil, List.forall_mem_cons, false_implies, ne_eq, not_false_eq_true, List.not_mem_nil, not_false_eq_true, true_implies, forall_const, List.mem_cons, or_false, implies_true, and_true, true_and, Nat.le_refl, List.setIfInBounds_toArray, List.set_cons_zero, List.set_cons_succ] at hF); go_enter Tryd.func4, Tryd.ntmps4
  go_wp2_with (first | ((with_reducible refine kn_list_set ?_); (try clear hF); clear hL; intro W hL; (try simp only [List.setIfInBounds_toArray, List.set_cons_zero, List.set_cons_succ, List.cons_append, List.nil_append] at hL); have hF := hL.facts; (try simp only [Facts, Dist, List.map_cons, List.map_nil, List.forall_mem_cons, false_implies, ne_eq, not_false_eq_true, List.not_mem_nil, not_false_eq_true, true_implies, forall_const, List.mem_cons, or_false, implies_true, and_true, true_and, Nat.le_refl, List.setIfInBounds_toArray, List.set_cons_zero, List.set_cons_succ] at hF)) | (go_at_call 8; refine kn_calls ?_; (try clear hF); clear hL; intro W hL; (try simp only [List.setIfInBounds_toArray, List.set_cons_zero, List.set_cons_succ, List.cons_append, List.nil_append] at hL); have hF := hL.facts; (try simp only [Facts, Dist, List.map_cons, List.map_nil, List.forall_mem_cons, false_implies, ne_eq, not_false_eq_true, List.not_mem_nil, not_false_eq_true, true_implies, forall_const, List.mem_cons, or_false, implies_true, and_true, true_and, Nat.le_refl, List.setIfInBounds_toArray, List.set_cons_zero, List.set_cons_succ] at hF); (with_reducible refine (small_any _ (hT.kn hL (by simp))).mono ?_); rintro e W ⟨rfl, hb⟩; replace hL := hL.below hb; clear hb; (try clear hF); (try simp only [List.setIfInBounds_toArray, List.set_cons_zero, List.set_cons_succ, List.cons_append, List.nil_append] at hL); have hF := hL.facts; (try simp only [Facts, Dist, List.map_cons, List.map_nil, List.forall_mem_cons, false_implies, ne_eq, not_false_eq_true, List.not_mem_nil, not_false_eq_true, true_implies, forall_const, List.mem_cons, or_false, implies_true, and_true, true_and, Nat.le_refl, List.setIfInBounds_toArray, List.set_cons_zero, List.set_cons_succ] at hF)))
  (try simp only [Exit.inBlock, Exit.then]); refine bodyPost_ret (by simp [results, Tryd.results4, go_sem, *]; try rfl) rfl ?_
  exact ⟨rfl, hL.below0⟩

theorem any_succ (f : Nat → Bool) (k : Nat) : (List.range (k + 1)).any f = ((List.range k).any f || f k) := by rw [List.range_succ, List.any_append]; simp
theorem textStars_any (p s t : ByteArray) (w : World) (hT : Tab w) : Calls Tryd.prog 4 #[.string p, .string s, .string t] w fun e w' => e = .returned (.bool true) ∧ Below w.heap.size w w' := by
  by_cases hp : (p.size : Int) ≤ 60
  · by_cases hs : (s.size : Int) ≤ 100
    · by_cases ht : (t.size : Int) ≤ 100
      · have hsl := szl s
        have hpl := szl p
        obtain ⟨f, hf⟩ : ∃ f : Nat → Bool, f = fun j => mt (parse p.data.toList) (s.data.toList.drop j) := ⟨_, rfl⟩
        obtain ⟨g, hg⟩ : ∃ g : Nat → Bool, g = fun j => mt (parse p.data.toList) (s.data.toList.take j) := ⟨_, rfl⟩
        have CF : Hid (∀ k, k ≤ s.size → ∀ W, Calls Tryd.prog 13 #[.string p, .string (s.extract k s.size)] W fun e w' => e = .returned (.bool (f k)) ∧ Below W.heap.size W w') := Lib.hid fun k hk =>
          (Pattern_to p (s.extract k s.size) (f k) (by omega) (by rw [← szl, ext_list, List.length_drop, List.length_take]; omega) (by rw [ext_list, List.take_of_length_le (by omega), hf])).out
        have CG : Hid (∀ k, k ≤ s.size → ∀ W, Calls Tryd.prog 13 #[.string p, .string (s.extract 0 k)] W fun e w' => e = .returned (.bool (g k)) ∧ Below W.heap.size W w') := Lib.hid fun k hk =>
          (Pattern_to p (s.extract 0 k) (g k) (by omega) (by rw [← szl, ext_list, List.length_drop, List.length_take]; omega) (by rw [ext_list, List.drop_zero, hg])).out
        have HF : Hid ((fun k => (List.range k).any f) 0 = false ∧ ∀ k, (fun k => (List.range k).any f) (k + 1) = ((fun k => (List.range k).any f) k || f k)) := Lib.hid ⟨rfl, any_succ f⟩
        have HG : Hid ((fun k => (List.range k).any g) 0 = false ∧ ∀ k, (fun k => (List.range k).any g) (k + 1) = ((fun k => (List.range k).any g) k || g k)) := Lib.hid ⟨rfl, any_succ g⟩
        have d1 : (⟨#[42]⟩ ++ p : ByteArray).data.toList = 42 :: p.data.toList := by simp
        have d2 : (⟨#[63]⟩ ++ p : ByteArray).data.toList = 63 :: p.data.toList := by simp
        have d3 : (p ++ ⟨#[42]⟩ : ByteArray).data.toList = p.data.toList ++ [42] := by simp
        have z1 : (⟨#[42]⟩ ++ p : ByteArray).size ≤ 1000 := by rw [← szl, d1, List.length_cons, szl]; omega
        have z2 : (⟨#[63]⟩ ++ p : ByteArray).size ≤ 1000 := by rw [← szl, d2, List.length_cons, szl]; omega
        have z3 : (p ++ ⟨#[42]⟩ : ByteArray).size ≤ 1000 := by rw [← szl, d3, List.length_append, szl, List.length_singleton]; omega
        have hev : mt (parse (42 :: p.data.toList)) s.data.toList = (List.range (s.size + 1)).any f := by
          rw [parse_star, Bool.eq_iff_iff, mt_star, List.any_eq_true]
          constructor
          · rintro ⟨j, h1, h2⟩
            exact ⟨j, by rw [List.mem_range]; omega, by rw [hf]; exact h2⟩
          · rintro ⟨j, h1, h2⟩
            rw [List.mem_range] at h1
            rw [hf] at h2
            exact ⟨j, by omega, h2⟩
        have hbv : p.data.toList.getLast? ≠ some 92 → mt (parse (p.data.toList ++ [42])) s.data.toList = (List.range (s.size + 1)).any g := fun h => by
          rw [parse_more _ _ (Nat.le_refl _) h, Bool.eq_iff_iff, mt_more, List.any_eq_true]
          constructor
          · rintro ⟨j, h1, h2⟩
            exact ⟨j, by rw [List.mem_range]; omega, by rw [hg]; exact h2⟩
          · rintro ⟨j, h1, h2⟩
            rw [List.mem_range] at h1
            rw [hg] at h2
            exact ⟨j, by omega, h2⟩
        obtain ⟨q, hq⟩ : ∃ q : ByteArray, escB t.data.toList = q.data.toList := ⟨⟨(escB t.data.toList).toArray⟩, by simp⟩
        have hqz : q.size ≤ 200 := by
          have := eb_le t.data.toList
          rw [hq, szl, szl] at this; omega
        have E1 := Escape_to t q (by omega) hq
        have d4 : (q ++ p : ByteArray).data.toList = escB t.data.toList ++ p.data.toList := by rw [hq]; simp
        have d5 : (t ++ s : ByteArray).data.toList = t.data.toList ++ s.data.toList := by simp
        have z4 : (q ++ p : ByteArray).size ≤ 2000 := by rw [← szl, d4, hq, List.length_append, szl, szl]; omega
        have z5 : (t ++ s : ByteArray).size ≤ 2000 := by rw [← szl, d5, List.length_append, szl, szl]; omega
        have S1 := Pattern_to (⟨#[42]⟩ ++ p) s ((List.range (s.size + 1)).any f) (by omega) (by omega) (by rw [d1]; exact hev)
        have A1 := Pattern_to (⟨#[63]⟩ ++ p) s _ (by omega) (by omega) (by rw [d2, parse_any, mt_any])
        have X1 := Pattern_to (q ++ p) (t ++ s) _ (by omega) (by omega) (by rw [d4, d5, parse_esc, mt_bytes])
        have Y1 := Pattern_to p s _ (by omega) (by omega) rfl
        have pe : p.data.toList = [] → (p.toList == (⟨#[]⟩ : ByteArray).toList) = true ∧ p.toList.isEmpty = true := fun h => by
          have : p = ⟨#[]⟩ := ba_ext h
          subst this; exact ⟨by decide +kernel, by decide +kernel⟩
        have se : s.data.toList = [] → (s.toList == (⟨#[]⟩ : ByteArray).toList) = true ∧ s.toList.isEmpty = true := fun h => by
          have : s = ⟨#[]⟩ := ba_ext h
          subst this; exact ⟨by decide +kernel, by decide +kernel⟩
        have ne : ∀ x : ByteArray, x.data.toList ≠ [] → (x.toList == (⟨#[]⟩ : ByteArray).toList) = false ∧ x.toList.isEmpty = false ∧ 1 ≤ x.size := fun x h => by
          refine ⟨str_ne h, ?_, ?_⟩
          · rw [ByteArray.toList_eq]
            cases hd : x.data.toList with
            | nil => exact absurd hd h
            | cons => rfl
          · rw [← szl]; exact List.length_pos_iff.2 h
        have last : ∀ h1 : 1 ≤ p.size, ∃ c, (∀ h, p[p.size - 1]'h = c) ∧ p.data.toList.getLast? = some c := fun h1 => by
          obtain ⟨c, hc⟩ : ∃ c, p.data.toList[p.size - 1]? = some c := ⟨_, List.getElem?_eq_getElem (by omega)⟩
          exact ⟨c, fun h => byte_at hc h, by rw [List.getLast?_eq_getElem?, hpl, hc]⟩
        by_cases hse : s.data.toList = []
        · obtain ⟨s1, s2⟩ := se hse
          have hav : (!s.data.toList.isEmpty && mt (parse p.data.toList) (s.data.toList.drop 1)) = false := by rw [hse]; rfl
          by_cases hpe : p.data.toList = []
          · obtain ⟨p1, p2⟩ := pe hpe
            exact stars_10 p s t hp hs ht (fun k => (List.range k).any f) (fun k => (List.range k).any g) f g HF HG CF CG _ _ _ _ (Lib.hid rfl) (Lib.hid rfl) S1 A1 q (by omega) (by omega) E1 X1 Y1 s1 s2 hav p1 p2 (Pattern_to _ s _ (by omega) (by omega) (by rw [d3]; exact hbv (by rw [hpe]; simp))) w hT
          · obtain ⟨p1, p2, p3⟩ := ne p hpe
            obtain ⟨c, h1, h2⟩ := last p3
            by_cases h92 : c = 92
            · exact stars_11 p s t hp hs ht (fun k => (List.range k).any f) (fun k => (List.range k).any g) f g HF HG CF CG _ _ _ _ (Lib.hid rfl) (Lib.hid rfl) S1 A1 q (by omega) (by omega) E1 X1 Y1 s1 s2 hav p1 p2 p3 c h1 h92 w hT
            · exact stars_12 p s t hp hs ht (fun k => (List.range k).any f) (fun k => (List.range k).any g) f g HF HG CF CG _ _ _ _ (Lib.hid rfl) (Lib.hid rfl) S1 A1 q (by omega) (by omega) E1 X1 Y1 s1 s2 hav p1 p2 p3 c h1 (beq_false_of_ne fun h => h92 (UInt8.toNat_inj.1 (show c.toNat = 92 by omega))) (Pattern_to _ s _ (by omega) (by omega) (by rw [d3]; exact hbv (by rw [h2]; simpa using h92))) w hT
        · obtain ⟨s1, s2, s3⟩ := ne s hse
          obtain ⟨u, hu⟩ : ∃ u, s.extract (min (1 : Int) s.size).toNat s.size = u := ⟨_, rfl⟩
          have hul : u.data.toList = s.data.toList.drop 1 := by
            rw [← hu, ext_list, List.take_of_length_le (by omega)]
            congr 1; omega
          have B1 := Pattern_to p u (!s.data.toList.isEmpty && mt (parse p.data.toList) (s.data.toList.drop 1)) (by omega) (by rw [← szl, hul, List.length_drop]; omega) (by
            rw [hul]
            cases hd : s.data.toList with
            | nil => exact absurd hd hse
            | cons => rfl)
          by_cases hpe : p.data.toList = []
          · obtain ⟨p1, p2⟩ := pe hpe
            exact stars_00 p s t hp hs ht (fun k => (List.range k).any f) (fun k => (List.range k).any g) f g HF HG CF CG _ _ _ _ (Lib.hid rfl) (Lib.hid rfl) S1 A1 q (by omega) (by omega) E1 X1 Y1 s1 s2 u hu B1 p1 p2 (Pattern_to _ s _ (by omega) (by omega) (by rw [d3]; exact hbv (by rw [hpe]; simp))) w hT
          · obtain ⟨p1, p2, p3⟩ := ne p hpe
            obtain ⟨c, h1, h2⟩ := last p3
            by_cases h92 : c = 92
            · exact stars_01 p s t hp hs ht (fun k => (List.range k).any f) (fun k => (List.range k).any g) f g HF HG CF CG _ _ _ _ (Lib.hid rfl) (Lib.hid rfl) S1 A1 q (by omega) (by omega) E1 X1 Y1 s1 s2 u hu B1 p1 p2 p3 c h1 h92 w hT
            · exact stars_02 p s t hp hs ht (fun k => (List.range k).any f) (fun k => (List.range k).any g) f g HF HG CF CG _ _ _ _ (Lib.hid rfl) (Lib.hid rfl) S1 A1 q (by omega) (by omega) E1 X1 Y1 s1 s2 u hu B1 p1 p2 p3 c h1 (beq_false_of_ne fun h => h92 (UInt8.toNat_inj.1 (show c.toNat = 92 by omega))) (Pattern_to _ s _ (by omega) (by omega) (by rw [d3]; exact hbv (by rw [h2]; simpa using h92))) w hT
      · exact stars_long2 p s t hp hs ht w hT
    · exact stars_long1 p s t hp hs w hT
  · exact stars_long0 p s t hp w hT

end Go.Proofs.YtjkohbecmaegmaaDoor

