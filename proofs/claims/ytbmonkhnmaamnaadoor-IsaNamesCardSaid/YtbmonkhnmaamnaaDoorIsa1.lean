import Derived.Test.YtbmonkhnmaamnaaDoorProg
import Derived.WalkKit
import Derived.Handy
import Derived.Deep.Light
import Derived.WalkSmall
import Derived.StillTailTactics
import Derived.Lib.Hide
import Derived.Test.YtbmonkhnmaamnaaDoorReg
import Derived.Test.YtbmonkhnmaamnaaDoorIsa0
namespace Go.Proofs.YtbmonkhnmaamnaaDoor
open Go Go.RowKit
set_option linter.unusedSimpArgs false
set_option linter.unusedVariables false
theorem Wrap_any (n : Int) (w : World) :
    Calls Tryd.prog 13 #[.int .i64 n] w fun e w' => e = .returned (.int .i64 (wrap32 n)) ∧ w = w' := by
  go_enter Tryd.func13, Tryd.ntmps13
  go_wp2
  go_ret
  exact ⟨congrArg (fun z => Ending.returned (.int .i64 z)) (w64_32 n), rfl⟩

theorem Form_any (op : Int) (w : World) (h : Tab w) :
    Calls Tryd.prog 17 #[.int .i64 op] w fun e w' => e = .returned (.int .i64 (form op)) ∧ w = w' := by
  have hk : 0 ≤ op → op < 32 → w.cell? ⟨2, op.toNat, none⟩ = some (.int .i64 (formsL.getD op.toNat 0)) := fun _ _ => h.2.1 _ (by omega)
  clear h
  go_enter Tryd.func17, Tryd.ntmps17
  go_wp2
  all_goals go_ret
  all_goals exact ⟨by unfold form; congr 2; (repeat' split) <;> first | rfl | omega | simp, rfl⟩

theorem refWrap_any (n : Int) (w : World) :
    Calls Tryd.prog 19 #[.int .i64 n] w fun e w' => e = .returned (.int .i64 (wrap32 n)) ∧ w = w' := by
  have h1 := @and32
  have h2 : 0 ≤ n % 4294967296 := by omega
  have h3 : n % 4294967296 < 4294967296 := by omega
  go_enter Tryd.func19, Tryd.ntmps19
  go_wp2
  all_goals go_ret
  all_goals exact ⟨by unfold wrap32; congr 2; simp; omega, rfl⟩

theorem in_any (n a b : Int) (w : World) :
    Calls Tryd.prog 30 #[.int .i64 n, .int .i64 a, .int .i64 b] w fun e w' => e = .returned (.bool (inR n a b)) ∧ w = w' := by
  go_enter Tryd.func30, Tryd.ntmps30
  go_wp2
  all_goals go_ret
  all_goals exact ⟨by unfold inR; congr 2; simp; omega, rfl⟩

theorem refForm_any (op : Int) (w : World) :
    Calls Tryd.prog 18 #[.int .i64 op] w fun e w' => e = .returned (.int .i64 (form op)) ∧ w = w' := by
  go_enter Tryd.func18, Tryd.ntmps18
  go_wp2
  all_goals go_ret
  all_goals first
    | (rename_i h; have e := WalkArith.int_eq h; subst e; exact ⟨rfl, rfl⟩)
    | (simp only [beq_eq_false_iff_ne, ne_eq] at *; refine ⟨?_, trivial⟩; unfold form; congr 2; (repeat' split) <;> first | rfl | omega)

end Go.Proofs.YtbmonkhnmaamnaaDoor
