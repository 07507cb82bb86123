import Derived.Test.YtbmonkhnmaamnaaDoorProg
import Derived.WalkKit
import Derived.Handy
import Derived.Deep.Light
import Derived.WalkSmall
import Derived.StillTailTactics
import Derived.Lib.Hide
import Derived.Test.YtbmonkhnmaamnaaDoorReg
import Derived.Test.YtbmonkhnmaamnaaDoorIsa0
import Derived.Test.YtbmonkhnmaamnaaDoorIsa1
namespace Go.Proofs.YtbmonkhnmaamnaaDoor
open Go Go.RowKit
set_option linter.unusedSimpArgs false
set_option linter.unusedVariables false
theorem Valid_no (op a b c : Int) (w : World) (h : Tab w) (hf : form op = -1)  :
    Calls Tryd.prog 11 #[.agg #[.int .i64 op, .int .i64 a, .int .i64 b, .int .i64 c]] w fun e w' => e = .returned (.bool (validF (-1) a b c)) ∧ Below w.heap.size w w' := by
  have hs := h.1
  have hs0 : 0 < w.heap.size := by omega
  have hs1 : 1 < w.heap.size := by omega
  go_enter Tryd.func11, Tryd.ntmps11
  go_wp2_with (first | (go_at_call 17; refine (Form_any _ _ (by repeat (first | exact h | refine Tab.alloc ?_ _ | refine Tab.drew ?_))).mono ?_; rintro e w' ⟨rfl, rfl⟩) | (go_at_call 25; go_enter Tryd.func25, Tryd.ntmps25))
  repeat any_goals (first | (rw [rounds_succ]; go_wp2_with (first | (go_at_call 17; refine (Form_any _ _ (by repeat (first | exact h | refine Tab.alloc ?_ _ | refine Tab.drew ?_))).mono ?_; rintro e w' ⟨rfl, rfl⟩) | (go_at_call 25; go_enter Tryd.func25, Tryd.ntmps25))) | (refine wp_loop_rounds 5 ?_) | (go_region; go_wp2_with (first | (go_at_call 17; refine (Form_any _ _ (by repeat (first | exact h | refine Tab.alloc ?_ _ | refine Tab.drew ?_))).mono ?_; rintro e w' ⟨rfl, rfl⟩) | (go_at_call 25; go_enter Tryd.func25, Tryd.ntmps25))))
  all_goals go_returns
  all_goals refine ⟨congrArg (fun z => Ending.returned (.bool z)) ?_, by (try unfold World.iter); go_grown⟩
  all_goals try simp only [Bool.not_eq_true', Bool.not_eq_false', bne_iff_ne, ne_eq, bne_eq_false_iff_eq, beq_iff_eq, beq_eq_false_iff_ne, Int.not_lt, Int.not_le] at *
  all_goals first | (subst_vars; rfl) | (simp [validF, inR]; omega)

theorem Valid_0 (op a b c : Int) (w : World) (h : Tab w) (hf : form op = 0)  :
    Calls Tryd.prog 11 #[.agg #[.int .i64 op, .int .i64 a, .int .i64 b, .int .i64 c]] w fun e w' => e = .returned (.bool (validF (0) a b c)) ∧ Below w.heap.size w w' := by
  have hs := h.1
  have hs0 : 0 < w.heap.size := by omega
  have hs1 : 1 < w.heap.size := by omega
  have hop : w.cell? ⟨0, 0, none⟩ = some (.string ⟨#[]⟩) := h.2.2.1 0 (by decide)
  have hic := iter_cell
  have hnE := fun w n ty => next_end (P := Tryd.prog) ⟨#[]⟩ 0 w n ty (by decide)
  go_enter Tryd.func11, Tryd.ntmps11
  go_wp2_with (first | (go_at_call 17; refine (Form_any _ _ (by repeat (first | exact h | refine Tab.alloc ?_ _ | refine Tab.drew ?_))).mono ?_; rintro e w' ⟨rfl, rfl⟩) | (go_at_call 25; go_enter Tryd.func25, Tryd.ntmps25))
  repeat any_goals (first | (rw [rounds_succ]; go_wp2_with (first | (go_at_call 17; refine (Form_any _ _ (by repeat (first | exact h | refine Tab.alloc ?_ _ | refine Tab.drew ?_))).mono ?_; rintro e w' ⟨rfl, rfl⟩) | (go_at_call 25; go_enter Tryd.func25, Tryd.ntmps25))) | (refine wp_loop_rounds 5 ?_) | (go_region; go_wp2_with (first | (go_at_call 17; refine (Form_any _ _ (by repeat (first | exact h | refine Tab.alloc ?_ _ | refine Tab.drew ?_))).mono ?_; rintro e w' ⟨rfl, rfl⟩) | (go_at_call 25; go_enter Tryd.func25, Tryd.ntmps25))))
  all_goals go_returns
  all_goals refine ⟨congrArg (fun z => Ending.returned (.bool z)) ?_, by (try unfold World.iter); go_grown⟩
  all_goals try simp only [Bool.not_eq_true', Bool.not_eq_false', bne_iff_ne, ne_eq, bne_eq_false_iff_eq, beq_iff_eq, beq_eq_false_iff_ne, Int.not_lt, Int.not_le] at *
  all_goals first | (subst_vars; rfl) | (simp [validF, inR]; omega)

theorem Valid_1 (op a b c : Int) (w : World) (h : Tab w) (hf : form op = 1)  :
    Calls Tryd.prog 11 #[.agg #[.int .i64 op, .int .i64 a, .int .i64 b, .int .i64 c]] w fun e w' => e = .returned (.bool (validF (1) a b c)) ∧ Below w.heap.size w w' := by
  have hs := h.1
  have hs0 : 0 < w.heap.size := by omega
  have hs1 : 1 < w.heap.size := by omega
  have hop : w.cell? ⟨0, 1, none⟩ = some (.string ⟨#[114]⟩) := h.2.2.1 1 (by decide)
  have hic := iter_cell
  have hn0 := fun w n ty => next_is (P := Tryd.prog) ⟨#[114]⟩ 0 114 w n ty rfl (by decide)
  have hnE := fun w n ty => next_end (P := Tryd.prog) ⟨#[114]⟩ 1 w n ty (by decide)
  go_enter Tryd.func11, Tryd.ntmps11
  go_wp2_with (first | (go_at_call 17; refine (Form_any _ _ (by repeat (first | exact h | refine Tab.alloc ?_ _ | refine Tab.drew ?_))).mono ?_; rintro e w' ⟨rfl, rfl⟩) | (go_at_call 25; go_enter Tryd.func25, Tryd.ntmps25))
  repeat any_goals (first | (rw [rounds_succ]; go_wp2_with (first | (go_at_call 17; refine (Form_any _ _ (by repeat (first | exact h | refine Tab.alloc ?_ _ | refine Tab.drew ?_))).mono ?_; rintro e w' ⟨rfl, rfl⟩) | (go_at_call 25; go_enter Tryd.func25, Tryd.ntmps25))) | (refine wp_loop_rounds 5 ?_) | (go_region; go_wp2_with (first | (go_at_call 17; refine (Form_any _ _ (by repeat (first | exact h | refine Tab.alloc ?_ _ | refine Tab.drew ?_))).mono ?_; rintro e w' ⟨rfl, rfl⟩) | (go_at_call 25; go_enter Tryd.func25, Tryd.ntmps25))))
  all_goals go_returns
  all_goals refine ⟨congrArg (fun z => Ending.returned (.bool z)) ?_, by (try unfold World.iter); go_grown⟩
  all_goals try simp only [Bool.not_eq_true', Bool.not_eq_false', bne_iff_ne, ne_eq, bne_eq_false_iff_eq, beq_iff_eq, beq_eq_false_iff_ne, Int.not_lt, Int.not_le] at *
  all_goals first | (subst_vars; rfl) | (simp [validF, inR]; omega)

theorem Valid_2 (op a b c : Int) (w : World) (h : Tab w) (hf : form op = 2)  :
    Calls Tryd.prog 11 #[.agg #[.int .i64 op, .int .i64 a, .int .i64 b, .int .i64 c]] w fun e w' => e = .returned (.bool (validF (2) a b c)) ∧ Below w.heap.size w w' := by
  have hs := h.1
  have hs0 : 0 < w.heap.size := by omega
  have hs1 : 1 < w.heap.size := by omega
  have hop : w.cell? ⟨0, 2, none⟩ = some (.string ⟨#[114, 114]⟩) := h.2.2.1 2 (by decide)
  have hic := iter_cell
  have hn0 := fun w n ty => next_is (P := Tryd.prog) ⟨#[114, 114]⟩ 0 114 w n ty rfl (by decide)
  have hn1 := fun w n ty => next_is (P := Tryd.prog) ⟨#[114, 114]⟩ 1 114 w n ty rfl (by decide)
  have hnE := fun w n ty => next_end (P := Tryd.prog) ⟨#[114, 114]⟩ 2 w n ty (by decide)
  go_enter Tryd.func11, Tryd.ntmps11
  go_wp2_with (first | (go_at_call 17; refine (Form_any _ _ (by repeat (first | exact h | refine Tab.alloc ?_ _ | refine Tab.drew ?_))).mono ?_; rintro e w' ⟨rfl, rfl⟩) | (go_at_call 25; go_enter Tryd.func25, Tryd.ntmps25))
  repeat any_goals (first | (rw [rounds_succ]; go_wp2_with (first | (go_at_call 17; refine (Form_any _ _ (by repeat (first | exact h | refine Tab.alloc ?_ _ | refine Tab.drew ?_))).mono ?_; rintro e w' ⟨rfl, rfl⟩) | (go_at_call 25; go_enter Tryd.func25, Tryd.ntmps25))) | (refine wp_loop_rounds 5 ?_) | (go_region; go_wp2_with (first | (go_at_call 17; refine (Form_any _ _ (by repeat (first | exact h | refine Tab.alloc ?_ _ | refine Tab.drew ?_))).mono ?_; rintro e w' ⟨rfl, rfl⟩) | (go_at_call 25; go_enter Tryd.func25, Tryd.ntmps25))))
  all_goals go_returns
  all_goals refine ⟨congrArg (fun z => Ending.returned (.bool z)) ?_, by (try unfold World.iter); go_grown⟩
  all_goals try simp only [Bool.not_eq_true', Bool.not_eq_false', bne_iff_ne, ne_eq, bne_eq_false_iff_eq, beq_iff_eq, beq_eq_false_iff_ne, Int.not_lt, Int.not_le] at *
  all_goals first | (subst_vars; rfl) | (simp [validF, inR]; omega)

theorem Valid_3 (op a b c : Int) (w : World) (h : Tab w) (hf : form op = 3)  :
    Calls Tryd.prog 11 #[.agg #[.int .i64 op, .int .i64 a, .int .i64 b, .int .i64 c]] w fun e w' => e = .returned (.bool (validF (3) a b c)) ∧ Below w.heap.size w w' := by
  have hs := h.1
  have hs0 : 0 < w.heap.size := by omega
  have hs1 : 1 < w.heap.size := by omega
  have hop : w.cell? ⟨0, 3, none⟩ = some (.string ⟨#[114, 114, 114]⟩) := h.2.2.1 3 (by decide)
  have hic := iter_cell
  have hn0 := fun w n ty => next_is (P := Tryd.prog) ⟨#[114, 114, 114]⟩ 0 114 w n ty rfl (by decide)
  have hn1 := fun w n ty => next_is (P := Tryd.prog) ⟨#[114, 114, 114]⟩ 1 114 w n ty rfl (by decide)
  have hn2 := fun w n ty => next_is (P := Tryd.prog) ⟨#[114, 114, 114]⟩ 2 114 w n ty rfl (by decide)
  have hnE := fun w n ty => next_end (P := Tryd.prog) ⟨#[114, 114, 114]⟩ 3 w n ty (by decide)
  go_enter Tryd.func11, Tryd.ntmps11
  go_wp2_with (first | (go_at_call 17; refine (Form_any _ _ (by repeat (first | exact h | refine Tab.alloc ?_ _ | refine Tab.drew ?_))).mono ?_; rintro e w' ⟨rfl, rfl⟩) | (go_at_call 25; go_enter Tryd.func25, Tryd.ntmps25))
  repeat any_goals (first | (rw [rounds_succ]; go_wp2_with (first | (go_at_call 17; refine (Form_any _ _ (by repeat (first | exact h | refine Tab.alloc ?_ _ | refine Tab.drew ?_))).mono ?_; rintro e w' ⟨rfl, rfl⟩) | (go_at_call 25; go_enter Tryd.func25, Tryd.ntmps25))) | (refine wp_loop_rounds 5 ?_) | (go_region; go_wp2_with (first | (go_at_call 17; refine (Form_any _ _ (by repeat (first | exact h | refine Tab.alloc ?_ _ | refine Tab.drew ?_))).mono ?_; rintro e w' ⟨rfl, rfl⟩) | (go_at_call 25; go_enter Tryd.func25, Tryd.ntmps25))))
  all_goals go_returns
  all_goals refine ⟨congrArg (fun z => Ending.returned (.bool z)) ?_, by (try unfold World.iter); go_grown⟩
  all_goals try simp only [Bool.not_eq_true', Bool.not_eq_false', bne_iff_ne, ne_eq, bne_eq_false_iff_eq, beq_iff_eq, beq_eq_false_iff_ne, Int.not_lt, Int.not_le] at *
  all_goals first | (subst_vars; rfl) | (simp [validF, inR]; omega)

theorem Valid_4 (op a b c : Int) (w : World) (h : Tab w) (hf : form op = 4)  :
    Calls Tryd.prog 11 #[.agg #[.int .i64 op, .int .i64 a, .int .i64 b, .int .i64 c]] w fun e w' => e = .returned (.bool (validF (4) a b c)) ∧ Below w.heap.size w w' := by
  have hs := h.1
  have hs0 : 0 < w.heap.size := by omega
  have hs1 : 1 < w.heap.size := by omega
  have hop : w.cell? ⟨0, 4, none⟩ = some (.string ⟨#[114, 114, 111]⟩) := h.2.2.1 4 (by decide)
  have hic := iter_cell
  have hn0 := fun w n ty => next_is (P := Tryd.prog) ⟨#[114, 114, 111]⟩ 0 114 w n ty rfl (by decide)
  have hn1 := fun w n ty => next_is (P := Tryd.prog) ⟨#[114, 114, 111]⟩ 1 114 w n ty rfl (by decide)
  have hn2 := fun w n ty => next_is (P := Tryd.prog) ⟨#[114, 114, 111]⟩ 2 111 w n ty rfl (by decide)
  have hnE := fun w n ty => next_end (P := Tryd.prog) ⟨#[114, 114, 111]⟩ 3 w n ty (by decide)
  go_enter Tryd.func11, Tryd.ntmps11
  go_wp2_with (first | (go_at_call 17; refine (Form_any _ _ (by repeat (first | exact h | refine Tab.alloc ?_ _ | refine Tab.drew ?_))).mono ?_; rintro e w' ⟨rfl, rfl⟩) | (go_at_call 25; go_enter Tryd.func25, Tryd.ntmps25))
  repeat any_goals (first | (rw [rounds_succ]; go_wp2_with (first | (go_at_call 17; refine (Form_any _ _ (by repeat (first | exact h | refine Tab.alloc ?_ _ | refine Tab.drew ?_))).mono ?_; rintro e w' ⟨rfl, rfl⟩) | (go_at_call 25; go_enter Tryd.func25, Tryd.ntmps25))) | (refine wp_loop_rounds 5 ?_) | (go_region; go_wp2_with (first | (go_at_call 17; refine (Form_any _ _ (by repeat (first | exact h | refine Tab.alloc ?_ _ | refine Tab.drew ?_))).mono ?_; rintro e w' ⟨rfl, rfl⟩) | (go_at_call 25; go_enter Tryd.func25, Tryd.ntmps25))))
  all_goals go_returns
  all_goals refine ⟨congrArg (fun z => Ending.returned (.bool z)) ?_, by (try unfold World.iter); go_grown⟩
  all_goals try simp only [Bool.not_eq_true', Bool.not_eq_false', bne_iff_ne, ne_eq, bne_eq_false_iff_eq, beq_iff_eq, beq_eq_false_iff_ne, Int.not_lt, Int.not_le] at *
  all_goals first | (subst_vars; rfl) | (simp [validF, inR]; omega)

theorem Valid_5 (op a b c : Int) (w : World) (h : Tab w) (hf : form op = 5)  :
    Calls Tryd.prog 11 #[.agg #[.int .i64 op, .int .i64 a, .int .i64 b, .int .i64 c]] w fun e w' => e = .returned (.bool (validF (5) a b c)) ∧ Below w.heap.size w w' := by
  have hs := h.1
  have hs0 : 0 < w.heap.size := by omega
  have hs1 : 1 < w.heap.size := by omega
  have hop : w.cell? ⟨0, 5, none⟩ = some (.string ⟨#[114, 110]⟩) := h.2.2.1 5 (by decide)
  have hic := iter_cell
  have hn0 := fun w n ty => next_is (P := Tryd.prog) ⟨#[114, 110]⟩ 0 114 w n ty rfl (by decide)
  have hn1 := fun w n ty => next_is (P := Tryd.prog) ⟨#[114, 110]⟩ 1 110 w n ty rfl (by decide)
  have hnE := fun w n ty => next_end (P := Tryd.prog) ⟨#[114, 110]⟩ 2 w n ty (by decide)
  go_enter Tryd.func11, Tryd.ntmps11
  go_wp2_with (first | (go_at_call 17; refine (Form_any _ _ (by repeat (first | exact h | refine Tab.alloc ?_ _ | refine Tab.drew ?_))).mono ?_; rintro e w' ⟨rfl, rfl⟩) | (go_at_call 25; go_enter Tryd.func25, Tryd.ntmps25))
  repeat any_goals (first | (rw [rounds_succ]; go_wp2_with (first | (go_at_call 17; refine (Form_any _ _ (by repeat (first | exact h | refine Tab.alloc ?_ _ | refine Tab.drew ?_))).mono ?_; rintro e w' ⟨rfl, rfl⟩) | (go_at_call 25; go_enter Tryd.func25, Tryd.ntmps25))) | (refine wp_loop_rounds 5 ?_) | (go_region; go_wp2_with (first | (go_at_call 17; refine (Form_any _ _ (by repeat (first | exact h | refine Tab.alloc ?_ _ | refine Tab.drew ?_))).mono ?_; rintro e w' ⟨rfl, rfl⟩) | (go_at_call 25; go_enter Tryd.func25, Tryd.ntmps25))))
  all_goals go_returns
  all_goals refine ⟨congrArg (fun z => Ending.returned (.bool z)) ?_, by (try unfold World.iter); go_grown⟩
  all_goals try simp only [Bool.not_eq_true', Bool.not_eq_false', bne_iff_ne, ne_eq, bne_eq_false_iff_eq, beq_iff_eq, beq_eq_false_iff_ne, Int.not_lt, Int.not_le] at *
  all_goals first | (subst_vars; rfl) | (simp [validF, inR]; omega)

theorem Valid_6z (op a b c : Int) (w : World) (h : Tab w) (hf : form op = 6) (ha : (a == 0) = true) :
    Calls Tryd.prog 11 #[.agg #[.int .i64 op, .int .i64 a, .int .i64 b, .int .i64 c]] w fun e w' => e = .returned (.bool (validF (6) a b c)) ∧ Below w.heap.size w w' := by
  have hs := h.1
  have hs0 : 0 < w.heap.size := by omega
  have hs1 : 1 < w.heap.size := by omega
  have hop : w.cell? ⟨0, 6, none⟩ = some (.string ⟨#[110]⟩) := h.2.2.1 6 (by decide)
  have hic := iter_cell
  have hn0 := fun w n ty => next_is (P := Tryd.prog) ⟨#[110]⟩ 0 110 w n ty rfl (by decide)
  have hnE := fun w n ty => next_end (P := Tryd.prog) ⟨#[110]⟩ 1 w n ty (by decide)
  go_enter Tryd.func11, Tryd.ntmps11
  go_wp2_with (first | (go_at_call 17; refine (Form_any _ _ (by repeat (first | exact h | refine Tab.alloc ?_ _ | refine Tab.drew ?_))).mono ?_; rintro e w' ⟨rfl, rfl⟩) | (go_at_call 25; go_enter Tryd.func25, Tryd.ntmps25))
  repeat any_goals (first | (rw [rounds_succ]; go_wp2_with (first | (go_at_call 17; refine (Form_any _ _ (by repeat (first | exact h | refine Tab.alloc ?_ _ | refine Tab.drew ?_))).mono ?_; rintro e w' ⟨rfl, rfl⟩) | (go_at_call 25; go_enter Tryd.func25, Tryd.ntmps25))) | (refine wp_loop_rounds 5 ?_) | (go_region; go_wp2_with (first | (go_at_call 17; refine (Form_any _ _ (by repeat (first | exact h | refine Tab.alloc ?_ _ | refine Tab.drew ?_))).mono ?_; rintro e w' ⟨rfl, rfl⟩) | (go_at_call 25; go_enter Tryd.func25, Tryd.ntmps25))))
  all_goals go_returns
  all_goals refine ⟨congrArg (fun z => Ending.returned (.bool z)) ?_, by (try unfold World.iter); go_grown⟩
  all_goals try simp only [Bool.not_eq_true', Bool.not_eq_false', bne_iff_ne, ne_eq, bne_eq_false_iff_eq, beq_iff_eq, beq_eq_false_iff_ne, Int.not_lt, Int.not_le] at *
  all_goals first | (subst_vars; rfl) | (simp [validF, inR]; omega)

theorem Valid_6 (op a b c : Int) (w : World) (h : Tab w) (hf : form op = 6) (ha : (a == 0) = false) :
    Calls Tryd.prog 11 #[.agg #[.int .i64 op, .int .i64 a, .int .i64 b, .int .i64 c]] w fun e w' => e = .returned (.bool (validF (6) a b c)) ∧ Below w.heap.size w w' := by
  have hs := h.1
  have hs0 : 0 < w.heap.size := by omega
  have hs1 : 1 < w.heap.size := by omega
  have hop : w.cell? ⟨0, 6, none⟩ = some (.string ⟨#[110]⟩) := h.2.2.1 6 (by decide)
  have hic := iter_cell
  have hn0 := fun w n ty => next_is (P := Tryd.prog) ⟨#[110]⟩ 0 110 w n ty rfl (by decide)
  have hnE := fun w n ty => next_end (P := Tryd.prog) ⟨#[110]⟩ 1 w n ty (by decide)
  go_enter Tryd.func11, Tryd.ntmps11
  go_wp2_with (first | (go_at_call 17; refine (Form_any _ _ (by repeat (first | exact h | refine Tab.alloc ?_ _ | refine Tab.drew ?_))).mono ?_; rintro e w' ⟨rfl, rfl⟩) | (go_at_call 25; go_enter Tryd.func25, Tryd.ntmps25))
  repeat any_goals (first | (rw [rounds_succ]; go_wp2_with (first | (go_at_call 17; refine (Form_any _ _ (by repeat (first | exact h | refine Tab.alloc ?_ _ | refine Tab.drew ?_))).mono ?_; rintro e w' ⟨rfl, rfl⟩) | (go_at_call 25; go_enter Tryd.func25, Tryd.ntmps25))) | (refine wp_loop_rounds 5 ?_) | (go_region; go_wp2_with (first | (go_at_call 17; refine (Form_any _ _ (by repeat (first | exact h | refine Tab.alloc ?_ _ | refine Tab.drew ?_))).mono ?_; rintro e w' ⟨rfl, rfl⟩) | (go_at_call 25; go_enter Tryd.func25, Tryd.ntmps25))))
  all_goals go_returns
  all_goals refine ⟨congrArg (fun z => Ending.returned (.bool z)) ?_, by (try unfold World.iter); go_grown⟩
  all_goals try simp only [Bool.not_eq_true', Bool.not_eq_false', bne_iff_ne, ne_eq, bne_eq_false_iff_eq, beq_iff_eq, beq_eq_false_iff_ne, Int.not_lt, Int.not_le] at *
  all_goals first | (subst_vars; rfl) | (simp [validF, inR]; omega)

theorem form_vals (op : Int) : form op = -1 ∨ form op = 0 ∨ form op = 1 ∨ form op = 2 ∨ form op = 3 ∨ form op = 4 ∨ form op = 5 ∨ form op = 6 := by
  by_cases h : op < 0 ∨ 32 ≤ op
  · left; unfold form; rw [if_pos h]
  · obtain ⟨k, rfl⟩ := Int.eq_ofNat_of_zero_le (show 0 ≤ op by omega)
    have hk : k < 32 := by omega
    have : ∀ k : Fin 32, form (k.val : Int) = -1 ∨ form (k.val : Int) = 0 ∨ form (k.val : Int) = 1 ∨ form (k.val : Int) = 2 ∨ form (k.val : Int) = 3 ∨ form (k.val : Int) = 4 ∨ form (k.val : Int) = 5 ∨ form (k.val : Int) = 6 := by decide
    exact this ⟨k, hk⟩

theorem Valid_any (op a b c : Int) (w : World) (h : Tab w) :
    Calls Tryd.prog 11 #[.agg #[.int .i64 op, .int .i64 a, .int .i64 b, .int .i64 c]] w fun e w' => e = .returned (.bool (valid op a b c)) ∧ Below w.heap.size w w' := by
  unfold valid
  rcases form_vals op with hf | hf | hf | hf | hf | hf | hf | hf <;> rw [hf]
  · exact Valid_no op a b c w h hf
  · exact Valid_0 op a b c w h hf
  · exact Valid_1 op a b c w h hf
  · exact Valid_2 op a b c w h hf
  · exact Valid_3 op a b c w h hf
  · exact Valid_4 op a b c w h hf
  · exact Valid_5 op a b c w h hf
  · cases ha : (a == 0)
    · exact Valid_6 op a b c w h hf ha
    · exact Valid_6z op a b c w h hf ha

end Go.Proofs.YtbmonkhnmaamnaaDoor
