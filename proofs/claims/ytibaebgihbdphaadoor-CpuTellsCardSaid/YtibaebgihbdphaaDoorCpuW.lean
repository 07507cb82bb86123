import Derived.Test.YtibaebgihbdphaaDoorProg
import Derived.WalkKit
import Derived.Handy
import Derived.Deep.Light
import Derived.WalkSmall
import Derived.StillTailTactics
import Derived.Lib.Hide
import Derived.Test.YtibaebgihbdphaaDoorReg
import Derived.Test.YtibaebgihbdphaaDoorCpu0
import Derived.Test.YtibaebgihbdphaaDoorCpu1
namespace Go.Proofs.YtibaebgihbdphaaDoor
open Go Go.RowKit
set_option linter.unusedSimpArgs false
set_option linter.unusedVariables false

def startR : Rg := ⟨0, 7, 2, 0, 0, 0, 0, 100, 64⟩
theorem start_any (w : World) :
    Calls Tryd.prog 18 #[] w fun e w' => e = .returned (.agg #[.int .i64 startR.r0, .int .i64 startR.r1, .int .i64 startR.r2, .int .i64 startR.r3, .int .i64 startR.r4, .int .i64 startR.r5, .int .i64 startR.r6, .int .i64 startR.r7, .int .i64 startR.pc]) ∧ Below w.heap.size w w' := by
  go_enter Tryd.func18, Tryd.ntmps18
  go_wp2
  go_returns
  exact ⟨rfl, by go_grown⟩

end Go.Proofs.YtibaebgihbdphaaDoor
