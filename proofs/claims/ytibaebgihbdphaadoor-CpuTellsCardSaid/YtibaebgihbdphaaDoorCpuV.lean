import Derived.Test.YtibaebgihbdphaaDoorProg
import Derived.WalkKit
import Derived.Handy
import Derived.Deep.Light
import Derived.WalkSmall
import Derived.Lib.Hide
import Derived.Test.YtibaebgihbdphaaDoorSt
import Derived.Test.YtibaebgihbdphaaDoorCpu0
import Derived.Test.YtibaebgihbdphaaDoorCpuX
import Derived.Test.YtibaebgihbdphaaDoorCpuL
import Derived.Test.YtibaebgihbdphaaDoorCpuW
import Derived.Test.YtibaebgihbdphaaDoorCpuE
import Derived.Test.YtibaebgihbdphaaDoorCpuQ
import Derived.Test.YtibaebgihbdphaaDoorCpuS
import Derived.Test.YtibaebgihbdphaaDoorCpuP
namespace Go.Proofs.YtibaebgihbdphaaDoor
open Go Go.RowKit
set_option linter.unusedSimpArgs false
set_option linter.unusedVariables false

theorem words_rg (r : Rg) (w : World) :
    Calls Tryd.prog 11 #[.agg #[.int .i64 r.r0, .int .i64 r.r1, .int .i64 r.r2, .int .i64 r.r3, .int .i64 r.r4, .int .i64 r.r5, .int .i64 r.r6, .int .i64 r.r7, .int .i64 r.pc]] w fun e w' => e = .returned (.bool (wordsB r)) ∧ Below w.heap.size w w' := words_any _ _ _ _ _ _ _ _ _ w
theorem kn_at {X : List Nat} {w0 w : World} {L : List (Nat × Obj)} {b : Nat} {o : Obj} (h : Kn X w0 w L) (hm : (b, o) ∈ L) : w.heap[b]? = some o := h.has _ hm

end Go.Proofs.YtibaebgihbdphaaDoor
