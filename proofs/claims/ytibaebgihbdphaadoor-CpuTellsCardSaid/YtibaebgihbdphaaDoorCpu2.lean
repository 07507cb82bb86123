import Derived.Test.YtibaebgihbdphaaDoorProg
import Derived.WalkKit
import Derived.Handy
import Derived.Deep.Light
import Derived.WalkSmall
import Derived.StillTailTactics
import Derived.Lib.Hide
import Derived.Test.YtibaebgihbdphaaDoorReg
import Derived.Test.YtibaebgihbdphaaDoorCpu0
import Derived.Test.YtibaebgihbdphaaDoorCpu1
namespace Go.Proofs.YtibaebgihbdphaaDoor
open Go Go.RowKit
set_option linter.unusedSimpArgs false
set_option linter.unusedVariables false

theorem refWrap_any (n : Int) (w : World) :
    Calls Tryd.prog 29 #[.int .i64 n] w fun e w' => e = .returned (.int .i64 (wrap32 n)) ∧ w = w' := by
  have h1 := @and32
  have h2 : 0 ≤ n % 4294967296 := by omega
  have h3 : n % 4294967296 < 4294967296 := by omega
  go_enter Tryd.func29, Tryd.ntmps29
  go_wp2
  all_goals go_ret
  all_goals exact ⟨by unfold wrap32; congr 2; simp; omega, rfl⟩

theorem in_any (n a b : Int) (w : World) :
    Calls Tryd.prog 33 #[.int .i64 n, .int .i64 a, .int .i64 b] w fun e w' => e = .returned (.bool (inR n a b)) ∧ w = w' := by
  go_enter Tryd.func33, Tryd.ntmps33
  go_wp2
  all_goals go_ret
  all_goals exact ⟨by unfold inR; congr 2; simp; omega, rfl⟩

theorem refForm_any (op : Int) (w : World) :
    Calls Tryd.prog 34 #[.int .i64 op] w fun e w' => e = .returned (.int .i64 (form op)) ∧ w = w' := by
  go_enter Tryd.func34, Tryd.ntmps34
  go_wp2
  all_goals go_ret
  all_goals first
    | (rename_i h; have e := WalkArith.int_eq h; subst e; exact ⟨rfl, rfl⟩)
    | (simp only [beq_eq_false_iff_ne, ne_eq] at *; refine ⟨?_, trivial⟩; unfold form; congr 2; (repeat' split) <;> first | rfl | omega)

theorem wrapRegs_any (r0 r1 r2 r3 r4 r5 r6 r7 pc : Int) (w : World) :
    Calls Tryd.prog 19 #[.agg #[.int .i64 r0, .int .i64 r1, .int .i64 r2, .int .i64 r3, .int .i64 r4, .int .i64 r5, .int .i64 r6, .int .i64 r7, .int .i64 pc]] w fun e w' => e = .returned (.agg #[.int .i64 (wrap32 r0), .int .i64 (wrap32 r1), .int .i64 (wrap32 r2), .int .i64 (wrap32 r3), .int .i64 (wrap32 r4), .int .i64 (wrap32 r5), .int .i64 (wrap32 r6), .int .i64 (wrap32 r7), .int .i64 (wrap32 pc)]) ∧ Below w.heap.size w w' := by
  have i0 : ∀ w, (Instr.index 22 (.agg #[.int .i64 r0, .int .i64 r1, .int .i64 r2, .int .i64 r3, .int .i64 r4, .int .i64 r5, .int .i64 r6, .int .i64 r7]) (.int .i64 0)).run Tryd.prog w = .ok (.int .i64 r0) w := fun _ => by kernel_rfl
  have i1 : ∀ w, (Instr.index 22 (.agg #[.int .i64 r0, .int .i64 r1, .int .i64 r2, .int .i64 r3, .int .i64 r4, .int .i64 r5, .int .i64 r6, .int .i64 r7]) (.int .i64 1)).run Tryd.prog w = .ok (.int .i64 r1) w := fun _ => by kernel_rfl
  have i2 : ∀ w, (Instr.index 22 (.agg #[.int .i64 r0, .int .i64 r1, .int .i64 r2, .int .i64 r3, .int .i64 r4, .int .i64 r5, .int .i64 r6, .int .i64 r7]) (.int .i64 2)).run Tryd.prog w = .ok (.int .i64 r2) w := fun _ => by kernel_rfl
  have i3 : ∀ w, (Instr.index 22 (.agg #[.int .i64 r0, .int .i64 r1, .int .i64 r2, .int .i64 r3, .int .i64 r4, .int .i64 r5, .int .i64 r6, .int .i64 r7]) (.int .i64 3)).run Tryd.prog w = .ok (.int .i64 r3) w := fun _ => by kernel_rfl
  have i4 : ∀ w, (Instr.index 22 (.agg #[.int .i64 r0, .int .i64 r1, .int .i64 r2, .int .i64 r3, .int .i64 r4, .int .i64 r5, .int .i64 r6, .int .i64 r7]) (.int .i64 4)).run Tryd.prog w = .ok (.int .i64 r4) w := fun _ => by kernel_rfl
  have i5 : ∀ w, (Instr.index 22 (.agg #[.int .i64 r0, .int .i64 r1, .int .i64 r2, .int .i64 r3, .int .i64 r4, .int .i64 r5, .int .i64 r6, .int .i64 r7]) (.int .i64 5)).run Tryd.prog w = .ok (.int .i64 r5) w := fun _ => by kernel_rfl
  have i6 : ∀ w, (Instr.index 22 (.agg #[.int .i64 r0, .int .i64 r1, .int .i64 r2, .int .i64 r3, .int .i64 r4, .int .i64 r5, .int .i64 r6, .int .i64 r7]) (.int .i64 6)).run Tryd.prog w = .ok (.int .i64 r6) w := fun _ => by kernel_rfl
  have i7 : ∀ w, (Instr.index 22 (.agg #[.int .i64 r0, .int .i64 r1, .int .i64 r2, .int .i64 r3, .int .i64 r4, .int .i64 r5, .int .i64 r6, .int .i64 r7]) (.int .i64 7)).run Tryd.prog w = .ok (.int .i64 r7) w := fun _ => by kernel_rfl
  go_enter Tryd.func19, Tryd.ntmps19
  go_wp2
  refine wp_loop_rounds 9 ?_
  repeat any_goals (rw [rounds_succ]; go_wp2_with (go_at_call 12; refine (Wrap_any _ _).mono ?_; rintro e w' ⟨rfl, rfl⟩))
  go_returns
  exact ⟨rfl, by go_grown⟩

end Go.Proofs.YtibaebgihbdphaaDoor
