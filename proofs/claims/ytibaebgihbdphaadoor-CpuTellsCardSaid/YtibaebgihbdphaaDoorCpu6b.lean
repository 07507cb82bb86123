import Derived.Test.YtibaebgihbdphaaDoorProg
import Derived.WalkKit
import Derived.Handy
import Derived.Deep.Light
import Derived.WalkSmall
import Derived.StillTailTactics
import Derived.Lib.Hide
import Derived.Test.YtibaebgihbdphaaDoorReg
import Derived.Test.YtibaebgihbdphaaDoorCpu0
import Derived.Test.YtibaebgihbdphaaDoorCpu1
import Derived.Test.YtibaebgihbdphaaDoorCpu2
import Derived.Test.YtibaebgihbdphaaDoorCpu3
import Derived.Test.YtibaebgihbdphaaDoorCpu4
import Derived.Test.YtibaebgihbdphaaDoorCpu5
import Derived.Test.YtibaebgihbdphaaDoorMix
namespace Go.Proofs.YtibaebgihbdphaaDoor
open Go Go.RowKit
set_option linter.unusedSimpArgs false
set_option linter.unusedVariables false

set_option maxHeartbeats 4000000 in
theorem jump_any (r0 r1 r2 r3 r4 r5 r6 r7 pc op a b c : Int) (ha : 0 ≤ a) (ha' : a ≤ 7) (w : World) :
    Calls Tryd.prog 23 #[.agg #[.int .i64 r0, .int .i64 r1, .int .i64 r2, .int .i64 r3, .int .i64 r4, .int .i64 r5, .int .i64 r6, .int .i64 r7, .int .i64 pc], .agg #[.int .i64 op, .int .i64 a, .int .i64 b, .int .i64 c]] w fun e w' => e = .returned (.agg #[.int .i64 (jumpS op a b ⟨r0, r1, r2, r3, r4, r5, r6, r7, pc⟩).r0, .int .i64 (jumpS op a b ⟨r0, r1, r2, r3, r4, r5, r6, r7, pc⟩).r1, .int .i64 (jumpS op a b ⟨r0, r1, r2, r3, r4, r5, r6, r7, pc⟩).r2, .int .i64 (jumpS op a b ⟨r0, r1, r2, r3, r4, r5, r6, r7, pc⟩).r3, .int .i64 (jumpS op a b ⟨r0, r1, r2, r3, r4, r5, r6, r7, pc⟩).r4, .int .i64 (jumpS op a b ⟨r0, r1, r2, r3, r4, r5, r6, r7, pc⟩).r5, .int .i64 (jumpS op a b ⟨r0, r1, r2, r3, r4, r5, r6, r7, pc⟩).r6, .int .i64 (jumpS op a b ⟨r0, r1, r2, r3, r4, r5, r6, r7, pc⟩).r7, .int .i64 (jumpS op a b ⟨r0, r1, r2, r3, r4, r5, r6, r7, pc⟩).pc]) ∧ Below w.heap.size w w' := by
  have h1 := @sel_get
  have h2 := @upd_set
  have hd1 := @setCell_drewN
  have hd2 := @alloc_drewN
  go_enter Tryd.func23, Tryd.ntmps23
  go_wp2
  repeat any_goals (refine drew_tail 10 (by kernel_rfl) (by kernel_rfl) ?_ ; simp only [List.take_succ_cons, List.take_zero] ; (repeat (go_big_quiet_step ((go_at_call 32; exact Calls.quiet_of_same ((one_any _ _).mono fun e w' h => ⟨h.1, h.2.symm⟩))))) ; refine wpQuiet_nil ?_ ; rintro _ ⟨nt, rfl⟩ ; simp only [List.drop_succ_cons, List.drop_zero] ; go_wp2)
  all_goals go_returns
  all_goals refine ⟨?_, by (repeat' (first | (with_reducible exact Below.refl _ _) | (with_reducible assumption) | (with_reducible refine below_drewN ?_ _) | (with_reducible refine Below.alloc ?_ ?_ _) | (with_reducible refine Below.drew ?_) | (with_reducible refine Below.setCell ?_ ?_ _) | (with_reducible exact Nat.le_refl _) | omega | (simp only [World.size_alloc, World.size_setCell, World.size_drew, heap_drewN, heap_drew]; done) | (simp only [World.size_alloc, World.size_setCell, World.size_drew, heap_drewN, heap_drew]; omega) | (dsimp only; omega)))⟩
  all_goals go_light
  all_goals first | (have e := WalkArith.int_eq ‹(op == _) = true›; subst e; rfl) | simp_all [jumpS]

end Go.Proofs.YtibaebgihbdphaaDoor
