import Derived.Test.YtedifjdhdhcbhaaDoorProg
import Derived.WalkKit
import Derived.Handy
import Derived.Deep.Light
import Derived.WalkSmall
import Derived.StillTailTactics
import Derived.Lib.Hide
import Derived.Test.YtedifjdhdhcbhaaDoorW0
import Derived.Test.YtedifjdhdhcbhaaDoorIt
import Derived.Test.YtedifjdhdhcbhaaDoorQ1
namespace Go.Proofs.YtedifjdhdhcbhaaDoor
open Go Go.RowKit
set_option linter.unusedSimpArgs false
set_option linter.unusedVariables false

theorem u8sub (c : UInt8) (h : isD c) : IntKind.u8.wrap ((c.toNat : Int) - 48) = (c.toNat : Int) - 48 := by
  have := h.1; have := c.toNat_lt
  rw [IntKind.wrap_u8]; omega
theorem byte_at {s : ByteArray} {i : Nat} {c : UInt8} (h : s.data.toList[i]? = some c) (hi : i < s.size) : s[i]'hi = c := by
  have h1 : s.data.toList[i]? = some (s[i]'hi) := by
    rw [List.getElem?_eq_getElem (by simpa using hi)]
    rfl
  rw [h] at h1; exact (Option.some.inj h1).symm

end Go.Proofs.YtedifjdhdhcbhaaDoor
