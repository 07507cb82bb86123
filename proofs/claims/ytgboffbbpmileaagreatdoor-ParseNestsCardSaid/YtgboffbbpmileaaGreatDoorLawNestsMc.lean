/- Lemmas and walks for the law VLawNests (part 30). -/
import Derived.Test.YtgboffbbpmileaaGreatDoorLawNestsMb
import Derived.Test.YtgboffbbpmileaaGreatDoorProg
import Derived.WalkKit
import Derived.Handy
import Derived.Deep.Light
import Derived.WalkSmall
import Derived.StillTailTactics
import Derived.Lib.Hide
set_option linter.unusedVariables false
set_option linter.unusedSimpArgs false
namespace Go.Proofs.YtgboffbbpmileaaGreatDoor
open Go Go.RowKit
theorem pnests_any (a : ByteArray) (w : World) (hT : TabP w) : Calls Tryz.prog 6 #[.string a] w fun e w' => e = .returned (.bool true) ∧ Below w.heap.size w w' := by
 by_cases h8 : 8000 < a.size
 ·exact nests_err a 6 0 rfl (Lib.hid fun W _ => Parse_big a h8 W) w hT
 ·have h8 : a.size ≤ 8000 := by omega
  cases hp : parseB a.data.toList with
  | err f m =>
   obtain ⟨ec, hec⟩ : ∃ z : Int, (if f = true then (6 : Int) else 27) = z := ⟨_, rfl⟩
   exact nests_err a ec m (by rw [← hec]; cases f <;> rfl) (Lib.hid fun W h => parse_err_c a h8 f m ec hp hec W h) w hT
  | ok l =>
   by_cases h1 : 1000 < a.size
   ·exact nests_big a h1 l hp h8 w hT
   ·have h1 : a.size ≤ 1000 := by omega
    cases l with
    | nil => exact nests_nil a h1 hp w hT
    | cons x r =>
     cases ho : (a.data.toList.getLast? == some 92) with
     | true => exact nests_open a h1 ho (x :: r) _ rfl (by rw [beq_eq_false_iff_ne, List.length_cons]; omega) hp w hT
     | false => exact nests_main a h1 ho (x :: r) (List.cons_ne_nil _ _) hp w hT
end Go.Proofs.YtgboffbbpmileaaGreatDoor
