import Derived.Test.YtbmonkhnmaamnaaDoorProg
import Derived.WalkKit
import Derived.Handy
import Derived.Deep.Light
import Derived.WalkSmall
import Derived.StillTailTactics
import Derived.Lib.Hide
import Derived.Test.YtbmonkhnmaamnaaDoorReg
import Derived.Test.YtbmonkhnmaamnaaDoorIsa0
import Derived.Test.YtbmonkhnmaamnaaDoorIsa8
import Derived.Test.YtbmonkhnmaamnaaDoorIsa8b
import Derived.Test.YtbmonkhnmaamnaaDoorIsaG
import Derived.Test.YtbmonkhnmaamnaaDoorIsaH
import Derived.Test.YtbmonkhnmaamnaaDoorIsa6
import Derived.Test.YtbmonkhnmaamnaaDoorIsaE
import Derived.Test.YtbmonkhnmaamnaaDoorIt
namespace Go.Proofs.YtbmonkhnmaamnaaDoor
open Go Go.RowKit
set_option linter.unusedSimpArgs false
set_option linter.unusedVariables false

def opsB (f a b c : Int) : List ByteArray := if f = 1 then [regB a] else if f = 2 then [regB a, regB b] else if f = 3 then [regB a, regB b, regB c] else if f = 4 then [regB a, regB b, numS c] else if f = 5 then [regB a, numS b] else [numS b]
def printS (op a b c : Int) : ByteArray := if valid op a b c then (if form op = 0 then nameB op else (nameB op ++ ⟨#[32]⟩) ++ joinB (opsB (form op) a b c)) else ⟨#[]⟩
theorem valid_range {op a b c : Int} (h : valid op a b c = true) : 0 ≤ op ∧ op < 32 := by
  apply Classical.byContradiction
  intro hn
  have hf : form op = -1 := by unfold form; rw [if_pos (by omega)]
  simp [valid, validF, hf] at h

theorem Print_bad (op a b c : Int) (w : World) (hT : Tab w) (hv : valid op a b c = false) :
    Calls Tryd.prog 12 #[.agg #[.int .i64 op, .int .i64 a, .int .i64 b, .int .i64 c]] w fun e w' => e = .returned (.string ⟨#[]⟩) ∧ Below w.heap.size w w' := by
  have hL : Kn [] w w [] := Kn.refl [] w; (try simp only [List.setIfInBounds_toArray, List.set_cons_zero, List.set_cons_succ, List.cons_append, List.nil_append] at hL); have hF := hL.facts; (try simp only [Facts, Dist, List.map_cons, List.map_nil, List.forall_mem_cons, false_implies, ne_eq, not_false_eq_true, List.not_mem_nil, not_false_eq_true, true_implies, forall_const, List.mem_cons, or_false, implies_true, and_true, true_and, Nat.le_refl, List.setIfInBounds_toArray, List.set_cons_zero, List.set_cons_succ] at hF); go_enter Tryd.func12, Tryd.ntmps12
  go_wp2_with (first | ((with_reducible refine kn_list_set ?_); (try clear hF); clear hL; intro W hL; (try simp only [List.setIfInBounds_toArray, List.set_cons_zero, List.set_cons_succ, List.cons_append, List.nil_append] at hL); have hF := hL.facts; (try simp only [Facts, Dist, List.map_cons, List.map_nil, List.forall_mem_cons, false_implies, ne_eq, not_false_eq_true, List.not_mem_nil, not_false_eq_true, true_implies, forall_const, List.mem_cons, or_false, implies_true, and_true, true_and, Nat.le_refl, List.setIfInBounds_toArray, List.set_cons_zero, List.set_cons_succ] at hF)) | (go_at_call 11; refine kn_calls ?_; (try clear hF); clear hL; intro W hL; (try simp only [List.setIfInBounds_toArray, List.set_cons_zero, List.set_cons_succ, List.cons_append, List.nil_append] at hL); have hF := hL.facts; (try simp only [Facts, Dist, List.map_cons, List.map_nil, List.forall_mem_cons, false_implies, ne_eq, not_false_eq_true, List.not_mem_nil, not_false_eq_true, true_implies, forall_const, List.mem_cons, or_false, implies_true, and_true, true_and, Nat.le_refl, List.setIfInBounds_toArray, List.set_cons_zero, List.set_cons_succ] at hF); (with_reducible refine (Valid_any _ _ _ _ _ (hT.ext hL.below0)).mono ?_); rintro e W ⟨rfl, hb⟩; replace hL := hL.below hb; clear hb; (try clear hF); (try simp only [List.setIfInBounds_toArray, List.set_cons_zero, List.set_cons_succ, List.cons_append, List.nil_append] at hL); have hF := hL.facts; (try simp only [Facts, Dist, List.map_cons, List.map_nil, List.forall_mem_cons, false_implies, ne_eq, not_false_eq_true, List.not_mem_nil, not_false_eq_true, true_implies, forall_const, List.mem_cons, or_false, implies_true, and_true, true_and, Nat.le_refl, List.setIfInBounds_toArray, List.set_cons_zero, List.set_cons_succ] at hF)))
  (try simp only [Exit.inBlock, Exit.then]); refine bodyPost_ret (by simp [results, Tryd.results12, go_sem, *]; try rfl) rfl ?_
  exact ⟨rfl, kn_here.below0⟩
theorem Print_any (op a b c : Int) (w : World) (hT : Tab w) :
    Calls Tryd.prog 12 #[.agg #[.int .i64 op, .int .i64 a, .int .i64 b, .int .i64 c]] w fun e w' => e = .returned (.string (printS op a b c)) ∧ Below w.heap.size w w' := by
  cases hv : valid op a b c with
  | false => rw [printS, if_neg (by rw [hv]; decide)]; exact Print_bad op a b c w hT hv
  | true =>
    obtain ⟨h0, h32⟩ := valid_range hv
    have key := hv
    rw [printS, if_pos hv]
    rcases form_vals op with hf | hf | hf | hf | hf | hf | hf | hf <;> unfold valid at key <;> rw [hf] at key ⊢ <;> simp [validF, inR] at key
    · obtain ⟨rfl, rfl, rfl⟩ := key
      exact Print_0 op w hT hf h0 h32 hv
    · obtain ⟨h1, rfl, rfl⟩ := key
      exact Print_1 op a w hT hf h0 h32 hv (by omega)
    · obtain ⟨⟨h1, h2⟩, rfl⟩ := key
      exact Print_2 op a b w hT hf h0 h32 hv (by omega) (by omega)
    · obtain ⟨⟨h1, h2⟩, h3⟩ := key
      exact Print_3 op a b c w hT hf h0 h32 hv (by omega) (by omega) (by omega)
    · obtain ⟨⟨h1, h2⟩, h3⟩ := key
      exact Print_4 op a b c w hT hf h0 h32 hv (by omega) (by omega) (by omega)
    · obtain ⟨⟨h1, h2⟩, rfl⟩ := key
      exact Print_5 op a b w hT hf h0 h32 hv (by omega) (by omega)
    · obtain ⟨h1, rfl, rfl⟩ := key
      exact Print_6 op b w hT hf h0 h32 hv (by omega)

theorem refPrint_bad (op a b c : Int) (w : World) (hv : valid op a b c = false) :
    Calls Tryd.prog 22 #[.agg #[.int .i64 op, .int .i64 a, .int .i64 b, .int .i64 c]] w fun e w' => e = .returned (.string ⟨#[]⟩) ∧ Below w.heap.size w w' := by
  have hL : Kn [] w w [] := Kn.refl [] w; (try simp only [List.setIfInBounds_toArray, List.set_cons_zero, List.set_cons_succ, List.cons_append, List.nil_append] at hL); have hF := hL.facts; (try simp only [Facts, Dist, List.map_cons, List.map_nil, List.forall_mem_cons, false_implies, ne_eq, not_false_eq_true, List.not_mem_nil, not_false_eq_true, true_implies, forall_const, List.mem_cons, or_false, implies_true, and_true, true_and, Nat.le_refl, List.setIfInBounds_toArray, List.set_cons_zero, List.set_cons_succ] at hF); go_enter Tryd.func22, Tryd.ntmps22
  go_wp2_with (first | ((with_reducible refine kn_list_set ?_); (try clear hF); clear hL; intro W hL; (try simp only [List.setIfInBounds_toArray, List.set_cons_zero, List.set_cons_succ, List.cons_append, List.nil_append] at hL); have hF := hL.facts; (try simp only [Facts, Dist, List.map_cons, List.map_nil, List.forall_mem_cons, false_implies, ne_eq, not_false_eq_true, List.not_mem_nil, not_false_eq_true, true_implies, forall_const, List.mem_cons, or_false, implies_true, and_true, true_and, Nat.le_refl, List.setIfInBounds_toArray, List.set_cons_zero, List.set_cons_succ] at hF)) | (go_at_call 20; refine kn_calls ?_; (try clear hF); clear hL; intro W hL; (try simp only [List.setIfInBounds_toArray, List.set_cons_zero, List.set_cons_succ, List.cons_append, List.nil_append] at hL); have hF := hL.facts; (try simp only [Facts, Dist, List.map_cons, List.map_nil, List.forall_mem_cons, false_implies, ne_eq, not_false_eq_true, List.not_mem_nil, not_false_eq_true, true_implies, forall_const, List.mem_cons, or_false, implies_true, and_true, true_and, Nat.le_refl, List.setIfInBounds_toArray, List.set_cons_zero, List.set_cons_succ] at hF); (with_reducible refine (refValid_any _ _ _ _ _).mono ?_); rintro e W ⟨rfl, hb⟩; replace hL := hL.below hb; clear hb; (try clear hF); (try simp only [List.setIfInBounds_toArray, List.set_cons_zero, List.set_cons_succ, List.cons_append, List.nil_append] at hL); have hF := hL.facts; (try simp only [Facts, Dist, List.map_cons, List.map_nil, List.forall_mem_cons, false_implies, ne_eq, not_false_eq_true, List.not_mem_nil, not_false_eq_true, true_implies, forall_const, List.mem_cons, or_false, implies_true, and_true, true_and, Nat.le_refl, List.setIfInBounds_toArray, List.set_cons_zero, List.set_cons_succ] at hF)))
  (try simp only [Exit.inBlock, Exit.then]); refine bodyPost_ret (by simp [results, Tryd.results22, go_sem, *]; try rfl) rfl ?_
  exact ⟨rfl, kn_here.below0⟩
theorem refPrint_any (op a b c : Int) (w : World) :
    Calls Tryd.prog 22 #[.agg #[.int .i64 op, .int .i64 a, .int .i64 b, .int .i64 c]] w fun e w' => e = .returned (.string (printS op a b c)) ∧ Below w.heap.size w w' := by
  cases hv : valid op a b c with
  | false => rw [printS, if_neg (by rw [hv]; decide)]; exact refPrint_bad op a b c w hv
  | true =>
    obtain ⟨h0, h32⟩ := valid_range hv
    have key := hv
    rw [printS, if_pos hv]
    rcases form_vals op with hf | hf | hf | hf | hf | hf | hf | hf <;> unfold valid at key <;> rw [hf] at key ⊢ <;> simp [validF, inR] at key
    · obtain ⟨rfl, rfl, rfl⟩ := key
      exact refPrint_0 op w hf h0 h32 hv
    · obtain ⟨h1, rfl, rfl⟩ := key
      exact refPrint_1 op a w hf h0 h32 hv (by omega)
    · obtain ⟨⟨h1, h2⟩, rfl⟩ := key
      exact refPrint_2 op a b w hf h0 h32 hv (by omega) (by omega)
    · obtain ⟨⟨h1, h2⟩, h3⟩ := key
      exact refPrint_3 op a b c w hf h0 h32 hv (by omega) (by omega) (by omega)
    · obtain ⟨⟨h1, h2⟩, h3⟩ := key
      exact refPrint_4 op a b c w hf h0 h32 hv (by omega) (by omega) (by omega)
    · obtain ⟨⟨h1, h2⟩, rfl⟩ := key
      exact refPrint_5 op a b w hf h0 h32 hv (by omega) (by omega)
    · obtain ⟨h1, rfl, rfl⟩ := key
      exact refPrint_6 op b w hf h0 h32 hv (by omega)

end Go.Proofs.YtbmonkhnmaamnaaDoor
