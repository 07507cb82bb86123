import Derived.Test.YtibaebgihbdphaaDoorProg
import Derived.WalkKit
import Derived.Handy
import Derived.Deep.Light
import Derived.WalkSmall
import Derived.StillTailTactics
import Derived.Lib.Hide
import Derived.Test.YtibaebgihbdphaaDoorReg
import Derived.Test.YtibaebgihbdphaaDoorCpu0
import Derived.Test.YtibaebgihbdphaaDoorCpu1
import Derived.Test.YtibaebgihbdphaaDoorCpu2
import Derived.Test.YtibaebgihbdphaaDoorCpu3
namespace Go.Proofs.YtibaebgihbdphaaDoor
open Go Go.RowKit
set_option linter.unusedSimpArgs false
set_option linter.unusedVariables false

set_option maxHeartbeats 2000000 in
theorem refValid_any (op a b c : Int) (w : World) :
    Calls Tryd.prog 26 #[.agg #[.int .i64 op, .int .i64 a, .int .i64 b, .int .i64 c]] w fun e w' => e = .returned (.bool (valid op a b c)) ∧ Below w.heap.size w w' := by
  go_enter Tryd.func26, Tryd.ntmps26
  go_wp2_with (first | (go_at_call 33; refine (in_any _ _ _ _).mono ?_; rintro e w' ⟨rfl, rfl⟩) | (go_at_call 34; refine (refForm_any _ _).mono ?_; rintro e w' ⟨rfl, rfl⟩))
  all_goals go_ret
  all_goals refine ⟨congrArg (fun z => Ending.returned (.bool z)) ?_, by go_grown⟩
  all_goals go_light
  all_goals (simp_all [valid, validF]; try (rw [Bool.eq_iff_iff]; simp; done))
theorem three_any (op a b : Int) (w : World) (hok : calcOk op b = true) :
    Calls Tryd.prog 28 #[.int .i64 op, .int .i64 a, .int .i64 b] w fun e w' => e = .returned (.int .i64 (calcN op a b)) ∧ w = w' := by
  have h1 := @and32
  have h3 : 0 ≤ b % 4294967296 % 32 := by omega
  have h4 : b % 4294967296 % 32 ≤ 64 := by omega
  have h5 : b % 4294967296 % 32 = b % 32 := by omega
  go_enter Tryd.func28, Tryd.ntmps28
  go_wp2_with (first | (go_at_call 27; refine (Bits_any _ _).mono ?_; rintro e w' ⟨rfl, rfl⟩) | (go_at_call 35; refine (truth_any _ _).mono ?_; rintro e w' ⟨rfl, rfl⟩))
  all_goals first
    | (go_ret; refine ⟨congrArg (fun z => Ending.returned (.int .i64 z)) ?_, rfl⟩; simp_all [calcN, calcOk]; done)
    | (exfalso; simp_all [calcOk]; done)
theorem clean_any (r0 r1 r2 r3 r4 r5 r6 r7 pc : Int) (w : World) :
    Calls Tryd.prog 25 #[.agg #[.int .i64 r0, .int .i64 r1, .int .i64 r2, .int .i64 r3, .int .i64 r4, .int .i64 r5, .int .i64 r6, .int .i64 r7, .int .i64 pc]] w fun e w' => e = .returned (.agg #[.int .i64 (wrap32 r0), .int .i64 (wrap32 r1), .int .i64 (wrap32 r2), .int .i64 (wrap32 r3), .int .i64 (wrap32 r4), .int .i64 (wrap32 r5), .int .i64 (wrap32 r6), .int .i64 (wrap32 r7), .int .i64 (wrap32 pc)]) ∧ Below w.heap.size w w' := by
  go_enter Tryd.func25, Tryd.ntmps25
  go_wp2
  refine wp_loop_rounds 9 ?_
  repeat any_goals (rw [rounds_succ]; go_wp2_with (go_at_call 29; refine (refWrap_any _ _).mono ?_; rintro e w' ⟨rfl, rfl⟩))
  go_returns
  exact ⟨rfl, by go_grown⟩
theorem words_any (r0 r1 r2 r3 r4 r5 r6 r7 pc : Int) (w : World) :
    Calls Tryd.prog 11 #[.agg #[.int .i64 r0, .int .i64 r1, .int .i64 r2, .int .i64 r3, .int .i64 r4, .int .i64 r5, .int .i64 r6, .int .i64 r7, .int .i64 pc]] w fun e w' => e = .returned (.bool (isW r0 && isW r1 && isW r2 && isW r3 && isW r4 && isW r5 && isW r6 && isW r7 && isW pc)) ∧ Below w.heap.size w w' := by
  go_enter Tryd.func11, Tryd.ntmps11
  go_wp2
  refine wp_loop_rounds 9 ?_
  repeat any_goals (rw [rounds_succ]; go_wp2_with (go_at_call 9; refine (word_any _ _).mono ?_; rintro e w' ⟨rfl, rfl⟩))
  all_goals go_returns
  all_goals exact ⟨by simp_all, by go_grown⟩

end Go.Proofs.YtibaebgihbdphaaDoor
