import Derived.Test.YtbmonkhnmaamnaaDoorProg
import Derived.WalkKit
import Derived.Handy
import Derived.Deep.Light
import Derived.WalkSmall
import Derived.StillTailTactics
import Derived.Lib.Hide
import Derived.Test.YtbmonkhnmaamnaaDoorReg
import Derived.Test.YtbmonkhnmaamnaaDoorIsa0
import Derived.Test.YtbmonkhnmaamnaaDoorIsa2
namespace Go.Proofs.YtbmonkhnmaamnaaDoor
open Go Go.RowKit
set_option linter.unusedSimpArgs false
set_option linter.unusedVariables false
set_option maxHeartbeats 2000000 in
theorem refValid_any (op a b c : Int) (w : World) :
    Calls Tryd.prog 20 #[.agg #[.int .i64 op, .int .i64 a, .int .i64 b, .int .i64 c]] w fun e w' => e = .returned (.bool (valid op a b c)) ∧ Below w.heap.size w w' := by
  go_enter Tryd.func20, Tryd.ntmps20
  go_wp2_with (first | (go_at_call 30; refine (in_any _ _ _ _).mono ?_; rintro e w' ⟨rfl, rfl⟩) | (go_at_call 18; refine (refForm_any _ _).mono ?_; rintro e w' ⟨rfl, rfl⟩))
  all_goals go_ret
  all_goals refine ⟨congrArg (fun z => Ending.returned (.bool z)) ?_, by go_grown⟩
  all_goals go_light
  all_goals (simp_all [valid, validF]; try (rw [Bool.eq_iff_iff]; simp; done))

end Go.Proofs.YtbmonkhnmaamnaaDoor
