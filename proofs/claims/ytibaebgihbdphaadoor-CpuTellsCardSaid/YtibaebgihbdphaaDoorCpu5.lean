import Derived.Test.YtibaebgihbdphaaDoorProg
import Derived.WalkKit
import Derived.Handy
import Derived.Deep.Light
import Derived.WalkSmall
import Derived.StillTailTactics
import Derived.Lib.Hide
import Derived.Test.YtibaebgihbdphaaDoorReg
import Derived.Test.YtibaebgihbdphaaDoorCpu0
import Derived.Test.YtibaebgihbdphaaDoorCpu1
import Derived.Test.YtibaebgihbdphaaDoorCpu2
import Derived.Test.YtibaebgihbdphaaDoorCpu3
import Derived.Test.YtibaebgihbdphaaDoorCpu4
namespace Go.Proofs.YtibaebgihbdphaaDoor
open Go Go.RowKit
set_option linter.unusedSimpArgs false
set_option linter.unusedVariables false

theorem move_any (r0 r1 r2 r3 r4 r5 r6 r7 pc op a b c : Int) (ha : 0 ≤ a) (ha' : a ≤ 7) (hb : 0 ≤ b ∧ b ≤ 7 ∨ op ≠ 1) (w : World) :
    Calls Tryd.prog 24 #[.agg #[.int .i64 r0, .int .i64 r1, .int .i64 r2, .int .i64 r3, .int .i64 r4, .int .i64 r5, .int .i64 r6, .int .i64 r7, .int .i64 pc], .agg #[.int .i64 op, .int .i64 a, .int .i64 b, .int .i64 c]] w fun e w' => e = .returned (.agg #[.int .i64 (moveS op a b ⟨r0, r1, r2, r3, r4, r5, r6, r7, pc⟩).r0, .int .i64 (moveS op a b ⟨r0, r1, r2, r3, r4, r5, r6, r7, pc⟩).r1, .int .i64 (moveS op a b ⟨r0, r1, r2, r3, r4, r5, r6, r7, pc⟩).r2, .int .i64 (moveS op a b ⟨r0, r1, r2, r3, r4, r5, r6, r7, pc⟩).r3, .int .i64 (moveS op a b ⟨r0, r1, r2, r3, r4, r5, r6, r7, pc⟩).r4, .int .i64 (moveS op a b ⟨r0, r1, r2, r3, r4, r5, r6, r7, pc⟩).r5, .int .i64 (moveS op a b ⟨r0, r1, r2, r3, r4, r5, r6, r7, pc⟩).r6, .int .i64 (moveS op a b ⟨r0, r1, r2, r3, r4, r5, r6, r7, pc⟩).r7, .int .i64 (moveS op a b ⟨r0, r1, r2, r3, r4, r5, r6, r7, pc⟩).pc]) ∧ Below w.heap.size w w' := by
  have h1 := @sel_get
  have h2 := @upd_set
  have h3 := @and16
  by_cases ho : op = 1
  · obtain ⟨hb, hb'⟩ := hb.resolve_right (fun h => h ho)
    subst ho
    go_enter Tryd.func24, Tryd.ntmps24
    go_wp2
    go_region
    go_wp2
    go_returns
    exact ⟨rfl, by go_grown⟩
  · have ho' : (op == 1) = false := by simpa using ho
    go_enter Tryd.func24, Tryd.ntmps24
    go_wp2
    repeat any_goals (go_region; go_wp2)
    all_goals go_returns
    all_goals refine ⟨?_, by go_grown⟩
    all_goals go_light
    all_goals simp_all [moveS, Rg.set]

end Go.Proofs.YtibaebgihbdphaaDoor
