import Derived.Test.YtjkohbecmaegmaaDoorProg
import Derived.WalkKit
import Derived.Handy
import Derived.Deep.Light
import Derived.WalkSmall
import Derived.StillTailTactics
import Derived.Lib.Hide
import Derived.Test.YtjkohbecmaegmaaDoorT0
import Derived.Test.YtjkohbecmaegmaaDoorIt
import Derived.Test.YtjkohbecmaegmaaDoorT17X
namespace Go.Proofs.YtjkohbecmaegmaaDoor
open Go Go.RowKit
set_option linter.unusedSimpArgs false
set_option linter.unusedVariables false

theorem Fields_kn (s : ByteArray) (hs : s.size ≤ 100000000) (w : World) : Calls Tryd.prog 12 #[.string s] w fun e w' =>
    ∃ g, e = .returned (.slice (some ⟨g, 0, none⟩) (fieldsB s.data.toList).length (fieldsB s.data.toList).length) ∧ Kn [] w w' [(g, .cells (strs (fieldsB s.data.toList)).toArray 9 (0, 0))] :=
  (Fields_any s hs w).mono fun e w' ⟨g, h1, h2, h3⟩ => by
    refine ⟨g, h1, ?_⟩
    obtain ⟨_, h2 | ⟨g', cap, cur, hv, hb, hc, _, _, hz, ht⟩⟩ := h2
    · cases h2.1
    · injection hv with h4 h5 h6
      injection h4 with h4
      injection h4 with h4
      subst h4; subst h6
      have e : cur = (strs (fieldsB s.data.toList)).toArray := by
        rw [← ht, List.take_of_length_le (by simp; omega)]
      rw [← e]
      exact ⟨h3.os, h3.tape, h3.output, h3.size, fun b hb2 _ => h3.block b hb2, fun p hp => (by simp at hp; subst hp; left; exact hb), fun p hp => (by simp at hp; subst hp; exact hc), by simp⟩
theorem cInt0 (w : World) (hT : Tab w) : Calls Tryd.prog 15 #[.string ⟨#[45, 48]⟩] w fun e w' => e = .returned (.tuple #[.int .i64 0, .bool false]) ∧ Below w.heap.size w w' :=
  Int_none _ (by decide) (by decide +kernel) w hT
theorem cInt7 (w : World) (hT : Tab w) : Calls Tryd.prog 15 #[.string ⟨#[48, 48, 55]⟩] w fun e w' => e = .returned (.tuple #[.int .i64 0, .bool false]) ∧ Below w.heap.size w w' :=
  Int_none _ (by decide) (by decide +kernel) w hT
theorem cIntM (w : World) (hT : Tab w) : Calls Tryd.prog 15 #[.string ⟨#[45, 57, 50, 50, 51, 51, 55, 50, 48, 51, 54, 56, 53, 52, 55, 55, 53, 56, 48, 56]⟩] w fun e w' => e = .returned (.tuple #[.int .i64 (-9223372036854775808), .bool true]) ∧ Below w.heap.size w w' :=
  Int_some _ (by decide) _ (by decide +kernel) w hT

theorem cLines (w : World) (hT : Tab w) : Calls Tryd.prog 10 #[.string ⟨#[97, 10, 10, 98]⟩] w fun e w' =>
    ∃ g, e = .returned (.slice (some ⟨g, 0, none⟩) 3 3) ∧ Kn [] w w' [(g, .cells #[.string ⟨#[97]⟩, .string ⟨#[]⟩, .string ⟨#[98]⟩] 9 (0, 0))] := by
  have h := Lines_some ⟨#[97, 10, 10, 98]⟩ (by decide) (by decide) w hT
  rw [show linesB (⟨#[97, 10, 10, 98]⟩ : ByteArray).data.toList = [[97], [], [98]] from by decide +kernel] at h
  exact h
theorem cFields (w : World) : Calls Tryd.prog 12 #[.string ⟨#[32, 97, 32, 32, 98, 10]⟩] w fun e w' =>
    ∃ g, e = .returned (.slice (some ⟨g, 0, none⟩) 2 2) ∧ Kn [] w w' [(g, .cells #[.string ⟨#[97]⟩, .string ⟨#[98]⟩] 9 (0, 0))] := by
  have h := Fields_kn ⟨#[32, 97, 32, 32, 98, 10]⟩ (by decide) w
  rw [show fieldsB (⟨#[32, 97, 32, 32, 98, 10]⟩ : ByteArray).data.toList = [[97], [98]] from by decide +kernel] at h
  exact h
theorem cQuote (w : World) : Calls Tryd.prog 18 #[.string ⟨#[97, 34, 10, 200]⟩] w fun e w' => e = .returned (.string ⟨#[34, 97, 92, 34, 92, 110, 92, 120, 99, 56, 34]⟩) ∧ Below w.heap.size w w' := by
  have h := Quote_any ⟨#[97, 34, 10, 200]⟩ (by decide) w
  rw [show quoteB (⟨#[97, 34, 10, 200]⟩ : ByteArray).data.toList = [34, 97, 92, 34, 92, 110, 92, 120, 99, 56, 34] from by decide +kernel] at h
  exact h
theorem cPat1 (w : World) : Calls Tryd.prog 13 #[.string ⟨#[97, 42, 91, 33, 120, 45, 122, 93, 63]⟩, .string ⟨#[97, 98, 99, 100]⟩] w fun e w' => e = .returned (.bool true) ∧ Below w.heap.size w w' := by
  have h := Pattern_is ⟨#[97, 42, 91, 33, 120, 45, 122, 93, 63]⟩ ⟨#[97, 98, 99, 100]⟩ (by decide) (by decide) w
  have e : mt (parse ([97, 42, 91, 33, 120, 45, 122, 93, 63] : Bytes)) ([97, 98, 99, 100] : Bytes) = true := by
    rw [show parse ([97, 42, 91, 33, 120, 45, 122, 93, 63] : Bytes) = [.byte 97, .star, .cls true [120, 45, 122], .any] from by decide +kernel]
    simp [mt, fit, inSet]
  simp only [e] at h
  exact h
theorem cPat2 (w : World) : Calls Tryd.prog 13 #[.string ⟨#[91, 93, 93]⟩, .string ⟨#[93]⟩] w fun e w' => e = .returned (.bool true) ∧ Below w.heap.size w w' := by
  have h := Pattern_is ⟨#[91, 93, 93]⟩ ⟨#[93]⟩ (by decide) (by decide) w
  have e : mt (parse ([91, 93, 93] : Bytes)) ([93] : Bytes) = true := by
    rw [show parse ([91, 93, 93] : Bytes) = [.cls false [93]] from by decide +kernel]
    simp [mt, fit, inSet]
  simp only [e] at h
  exact h
theorem cPat3 (w : World) : Calls Tryd.prog 13 #[.string ⟨#[91, 97]⟩, .string ⟨#[91, 97]⟩] w fun e w' => e = .returned (.bool true) ∧ Below w.heap.size w w' := by
  have h := Pattern_is ⟨#[91, 97]⟩ ⟨#[91, 97]⟩ (by decide) (by decide) w
  have e : mt (parse ([91, 97] : Bytes)) ([91, 97] : Bytes) = true := by
    rw [show parse ([91, 97] : Bytes) = [.byte 91, .byte 97] from by decide +kernel]
    simp [mt, fit, inSet]
  simp only [e] at h
  exact h
theorem cPat4 (w : World) : Calls Tryd.prog 13 #[.string ⟨#[92, 42]⟩, .string ⟨#[42]⟩] w fun e w' => e = .returned (.bool true) ∧ Below w.heap.size w w' := by
  have h := Pattern_is ⟨#[92, 42]⟩ ⟨#[42]⟩ (by decide) (by decide) w
  have e : mt (parse ([92, 42] : Bytes)) ([42] : Bytes) = true := by
    rw [show parse ([92, 42] : Bytes) = [.byte 42] from by decide +kernel]
    simp [mt, fit, inSet]
  simp only [e] at h
  exact h
theorem cPat5 (w : World) : Calls Tryd.prog 13 #[.string ⟨#[92, 42]⟩, .string ⟨#[97, 98]⟩] w fun e w' => e = .returned (.bool false) ∧ Below w.heap.size w w' := by
  have h := Pattern_is ⟨#[92, 42]⟩ ⟨#[97, 98]⟩ (by decide) (by decide) w
  have e : mt (parse ([92, 42] : Bytes)) ([97, 98] : Bytes) = false := by
    rw [show parse ([92, 42] : Bytes) = [.byte 42] from by decide +kernel]
    simp [mt, fit, inSet]
  simp only [e] at h
  exact h
set_option maxRecDepth 20000 in
set_option maxHeartbeats 4000000 in
theorem small_any (w : World) (hT : Tab w) : Calls Tryd.prog 8 #[] w fun e w' => e = .returned (.bool true) ∧ Below w.heap.size w w' := by
  have hL : Kn [] w w [] := Kn.refl [] w; (try simp only [List.setIfInBounds_toArray, List.set_cons_zero, List.set_cons_succ, List.cons_append, List.nil_append] at hL); have hF := hL.facts; (try simp only [Facts, Dist, List.map_cons, List.map_nil, List.forall_mem_cons, false_implies, ne_eq, not_false_eq_true, List.not_mem_nil, not_false_eq_true, true_implies, forall_const, List.mem_cons, or_false, implies_true, and_true, true_and, Nat.le_refl, List.setIfInBounds_toArray, List.set_cons_zero, List.set_cons_succ] at hF); go_enter Tryd.func8, Tryd.ntmps8
  go_wp2_with (first | ((with_reducible refine kn_list_set ?_); (try clear hF); clear hL; intro W hL; (try simp only [List.setIfInBounds_toArray, List.set_cons_zero, List.set_cons_succ, List.cons_append, List.nil_append] at hL); have hF := hL.facts; (try simp only [Facts, Dist, List.map_cons, List.map_nil, List.forall_mem_cons, false_implies, ne_eq, not_false_eq_true, List.not_mem_nil, not_false_eq_true, true_implies, forall_const, List.mem_cons, or_false, implies_true, and_true, true_and, Nat.le_refl, List.setIfInBounds_toArray, List.set_cons_zero, List.set_cons_succ] at hF)) | (go_at_call 15; refine kn_calls ?_; (try clear hF); clear hL; intro W hL; (try simp only [List.setIfInBounds_toArray, List.set_cons_zero, List.set_cons_succ, List.cons_append, List.nil_append] at hL); have hF := hL.facts; (try simp only [Facts, Dist, List.map_cons, List.map_nil, List.forall_mem_cons, false_implies, ne_eq, not_false_eq_true, List.not_mem_nil, not_false_eq_true, true_implies, forall_const, List.mem_cons, or_false, implies_true, and_true, true_and, Nat.le_refl, List.setIfInBounds_toArray, List.set_cons_zero, List.set_cons_succ] at hF); (first | (with_reducible refine (cInt0 _ (hT.kn hL (by simp))).mono ?_) | (with_reducible refine (cInt7 _ (hT.kn hL (by simp))).mono ?_) | (with_reducible refine (cIntM _ (hT.kn hL (by simp))).mono ?_)); rintro e W ⟨rfl, hb⟩; replace hL := hL.below hb; clear hb; (try clear hF); (try simp only [List.setIfInBounds_toArray, List.set_cons_zero, List.set_cons_succ, List.cons_append, List.nil_append] at hL); have hF := hL.facts; (try simp only [Facts, Dist, List.map_cons, List.map_nil, List.forall_mem_cons, false_implies, ne_eq, not_false_eq_true, List.not_mem_nil, not_false_eq_true, true_implies, forall_const, List.mem_cons, or_false, implies_true, and_true, true_and, Nat.le_refl, List.setIfInBounds_toArray, List.set_cons_zero, List.set_cons_succ] at hF)) | (go_at_call 10; refine kn_calls ?_; (try clear hF); clear hL; intro W hL; (try simp only [List.setIfInBounds_toArray, List.set_cons_zero, List.set_cons_succ, List.cons_append, List.nil_append] at hL); have hF := hL.facts; (try simp only [Facts, Dist, List.map_cons, List.map_nil, List.forall_mem_cons, false_implies, ne_eq, not_false_eq_true, List.not_mem_nil, not_false_eq_true, true_implies, forall_const, List.mem_cons, or_false, implies_true, and_true, true_and, Nat.le_refl, List.setIfInBounds_toArray, List.set_cons_zero, List.set_cons_succ] at hF); (with_reducible refine (cLines _ (hT.kn hL (by simp))).mono ?_); rintro e W ⟨g1, rfl, hb⟩; replace hL := hL.join hb; clear hb; (try clear hF); (try simp only [List.setIfInBounds_toArray, List.set_cons_zero, List.set_cons_succ, List.cons_append, List.nil_append] at hL); have hF := hL.facts; (try simp only [Facts, Dist, List.map_cons, List.map_nil, List.forall_mem_cons, false_implies, ne_eq, not_false_eq_true, List.not_mem_nil, not_false_eq_true, true_implies, forall_const, List.mem_cons, or_false, implies_true, and_true, true_and, Nat.le_refl, List.setIfInBounds_toArray, List.set_cons_zero, List.set_cons_succ] at hF)) | (go_at_call 12; refine kn_calls ?_; (try clear hF); clear hL; intro W hL; (try simp only [List.setIfInBounds_toArray, List.set_cons_zero, List.set_cons_succ, List.cons_append, List.nil_append] at hL); have hF := hL.facts; (try simp only [Facts, Dist, List.map_cons, List.map_nil, List.forall_mem_cons, false_implies, ne_eq, not_false_eq_true, List.not_mem_nil, not_false_eq_true, true_implies, forall_const, List.mem_cons, or_false, implies_true, and_true, true_and, Nat.le_refl, List.setIfInBounds_toArray, List.set_cons_zero, List.set_cons_succ] at hF); (with_reducible refine (cFields _).mono ?_); rintro e W ⟨g2, rfl, hb⟩; replace hL := hL.join hb; clear hb; (try clear hF); (try simp only [List.setIfInBounds_toArray, List.set_cons_zero, List.set_cons_succ, List.cons_append, List.nil_append] at hL); have hF := hL.facts; (try simp only [Facts, Dist, List.map_cons, List.map_nil, List.forall_mem_cons, false_implies, ne_eq, not_false_eq_true, List.not_mem_nil, not_false_eq_true, true_implies, forall_const, List.mem_cons, or_false, implies_true, and_true, true_and, Nat.le_refl, List.setIfInBounds_toArray, List.set_cons_zero, List.set_cons_succ] at hF)) | (go_at_call 18; refine kn_calls ?_; (try clear hF); clear hL; intro W hL; (try simp only [List.setIfInBounds_toArray, List.set_cons_zero, List.set_cons_succ, List.cons_append, List.nil_append] at hL); have hF := hL.facts; (try simp only [Facts, Dist, List.map_cons, List.map_nil, List.forall_mem_cons, false_implies, ne_eq, not_false_eq_true, List.not_mem_nil, not_false_eq_true, true_implies, forall_const, List.mem_cons, or_false, implies_true, and_true, true_and, Nat.le_refl, List.setIfInBounds_toArray, List.set_cons_zero, List.set_cons_succ] at hF); (with_reducible refine (cQuote _).mono ?_); rintro e W ⟨rfl, hb⟩; replace hL := hL.below hb; clear hb; (try clear hF); (try simp only [List.setIfInBounds_toArray, List.set_cons_zero, List.set_cons_succ, List.cons_append, List.nil_append] at hL); have hF := hL.facts; (try simp only [Facts, Dist, List.map_cons, List.map_nil, List.forall_mem_cons, false_implies, ne_eq, not_false_eq_true, List.not_mem_nil, not_false_eq_true, true_implies, forall_const, List.mem_cons, or_false, implies_true, and_true, true_and, Nat.le_refl, List.setIfInBounds_toArray, List.set_cons_zero, List.set_cons_succ] at hF)) | (go_at_call 13; refine kn_calls ?_; (try clear hF); clear hL; intro W hL; (try simp only [List.setIfInBounds_toArray, List.set_cons_zero, List.set_cons_succ, List.cons_append, List.nil_append] at hL); have hF := hL.facts; (try simp only [Facts, Dist, List.map_cons, List.map_nil, List.forall_mem_cons, false_implies, ne_eq, not_false_eq_true, List.not_mem_nil, not_false_eq_true, true_implies, forall_const, List.mem_cons, or_false, implies_true, and_true, true_and, Nat.le_refl, List.setIfInBounds_toArray, List.set_cons_zero, List.set_cons_succ] at hF); (first | (with_reducible refine (cPat1 _).mono ?_) | (with_reducible refine (cPat2 _).mono ?_) | (with_reducible refine (cPat3 _).mono ?_) | (with_reducible refine (cPat4 _).mono ?_) | (with_reducible refine (cPat5 _).mono ?_)); rintro e W ⟨rfl, hb⟩; replace hL := hL.below hb; clear hb; (try clear hF); (try simp only [List.setIfInBounds_toArray, List.set_cons_zero, List.set_cons_succ, List.cons_append, List.nil_append] at hL); have hF := hL.facts; (try simp only [Facts, Dist, List.map_cons, List.map_nil, List.forall_mem_cons, false_implies, ne_eq, not_false_eq_true, List.not_mem_nil, not_false_eq_true, true_implies, forall_const, List.mem_cons, or_false, implies_true, and_true, true_and, Nat.le_refl, List.setIfInBounds_toArray, List.set_cons_zero, List.set_cons_succ] at hF)))
  (try simp only [Exit.inBlock, Exit.then]); refine bodyPost_ret (by simp [results, Tryd.results8, go_sem, *]; try rfl) rfl ?_
  exact ⟨rfl, hL.below0⟩

end Go.Proofs.YtjkohbecmaegmaaDoor

