import Derived.Test.YtibaebgihbdphaaDoorProg
import Derived.WalkKit
import Derived.Handy
import Derived.Deep.Light
import Derived.WalkSmall
import Derived.StillTailTactics
import Derived.Lib.Hide
import Derived.Test.YtibaebgihbdphaaDoorReg
import Derived.Test.YtibaebgihbdphaaDoorCpu0
import Derived.Test.YtibaebgihbdphaaDoorCpu1
import Derived.Test.YtibaebgihbdphaaDoorCpu2
import Derived.Test.YtibaebgihbdphaaDoorCpu3
import Derived.Test.YtibaebgihbdphaaDoorCpu4
import Derived.Test.YtibaebgihbdphaaDoorCpu5
import Derived.Test.YtibaebgihbdphaaDoorMix
import Derived.Test.YtibaebgihbdphaaDoorCpu6
import Derived.Test.YtibaebgihbdphaaDoorCpu6b
import Derived.Test.YtibaebgihbdphaaDoorKnow
import Derived.Test.YtibaebgihbdphaaDoorCpu7
import Derived.Test.YtibaebgihbdphaaDoorCpu8
namespace Go.Proofs.YtibaebgihbdphaaDoor
open Go Go.RowKit
set_option linter.unusedSimpArgs false
set_option linter.unusedVariables false

theorem pair_ex {α β : Type} (p : α × β) : ∃ x y, p = (x, y) := ⟨p.1, p.2, rfl⟩
theorem w0 : wrap32 0 = 0 := by (first | (unfold wrap32; omega) | (unfold wrap32; rfl) | (simp [wrap32]; done))
theorem val_ex {α : Type} (p : α) : ∃ x, p = x := ⟨p, rfl⟩
theorem access_op {r0 r1 r2 r3 r4 r5 r6 r7 pc op a b c x0 x1 x2 x3 x4 x5 x6 x7 xp y0 y1 y2 y3 y4 y5 : Int} (hE : accessS op a b c ⟨r0, r1, r2, r3, r4, r5, r6, r7, pc⟩ = (⟨x0, x1, x2, x3, x4, x5, x6, x7, xp⟩, ⟨y0, y1, y2, y3, y4, y5⟩)) (ha : 0 ≤ a) (ha' : a ≤ 7) (hb : 0 ≤ b) (hb' : b ≤ 7) (w : World) :
    Calls Tryd.prog 22 #[.agg #[.int .i64 r0, .int .i64 r1, .int .i64 r2, .int .i64 r3, .int .i64 r4, .int .i64 r5, .int .i64 r6, .int .i64 r7, .int .i64 pc], .agg #[.int .i64 op, .int .i64 a, .int .i64 b, .int .i64 c]] w fun e w' => e = .returned (.tuple #[.agg #[.int .i64 x0, .int .i64 x1, .int .i64 x2, .int .i64 x3, .int .i64 x4, .int .i64 x5, .int .i64 x6, .int .i64 x7, .int .i64 xp], .agg #[.int .i64 y0, .int .i64 y1, .int .i64 y2, .int .i64 y3, .int .i64 y4, .int .i64 y5]]) ∧ Below w.heap.size w w' := by
  have h := access_any r0 r1 r2 r3 r4 r5 r6 r7 pc op a b c ha ha' hb hb' w
  rw [hE] at h
  exact h
theorem jump_op {r0 r1 r2 r3 r4 r5 r6 r7 pc op a b c x0 x1 x2 x3 x4 x5 x6 x7 xp : Int} (hE : jumpS op a b ⟨r0, r1, r2, r3, r4, r5, r6, r7, pc⟩ = ⟨x0, x1, x2, x3, x4, x5, x6, x7, xp⟩) (ha : 0 ≤ a) (ha' : a ≤ 7) (w : World) :
    Calls Tryd.prog 23 #[.agg #[.int .i64 r0, .int .i64 r1, .int .i64 r2, .int .i64 r3, .int .i64 r4, .int .i64 r5, .int .i64 r6, .int .i64 r7, .int .i64 pc], .agg #[.int .i64 op, .int .i64 a, .int .i64 b, .int .i64 c]] w fun e w' => e = .returned (.agg #[.int .i64 x0, .int .i64 x1, .int .i64 x2, .int .i64 x3, .int .i64 x4, .int .i64 x5, .int .i64 x6, .int .i64 x7, .int .i64 xp]) ∧ Below w.heap.size w w' := by
  have h := jump_any r0 r1 r2 r3 r4 r5 r6 r7 pc op a b c ha ha' w
  rw [hE] at h
  exact h
theorem move_op {r0 r1 r2 r3 r4 r5 r6 r7 pc op a b c x0 x1 x2 x3 x4 x5 x6 x7 xp : Int} (hE : moveS op a b ⟨r0, r1, r2, r3, r4, r5, r6, r7, pc⟩ = ⟨x0, x1, x2, x3, x4, x5, x6, x7, xp⟩) (ha : 0 ≤ a) (ha' : a ≤ 7) (hb : 0 ≤ b ∧ b ≤ 7 ∨ op ≠ 1) (w : World) :
    Calls Tryd.prog 24 #[.agg #[.int .i64 r0, .int .i64 r1, .int .i64 r2, .int .i64 r3, .int .i64 r4, .int .i64 r5, .int .i64 r6, .int .i64 r7, .int .i64 pc], .agg #[.int .i64 op, .int .i64 a, .int .i64 b, .int .i64 c]] w fun e w' => e = .returned (.agg #[.int .i64 x0, .int .i64 x1, .int .i64 x2, .int .i64 x3, .int .i64 x4, .int .i64 x5, .int .i64 x6, .int .i64 x7, .int .i64 xp]) ∧ Below w.heap.size w w' := by
  have h := move_any r0 r1 r2 r3 r4 r5 r6 r7 pc op a b c ha ha' hb w
  rw [hE] at h
  exact h

end Go.Proofs.YtibaebgihbdphaaDoor
