import Derived.Test.YtibaebgihbdphaaDoorProg
import Derived.WalkKit
import Derived.Handy
import Derived.Deep.Light
import Derived.WalkSmall
import Derived.StillTailTactics
import Derived.Lib.Hide
import Derived.Test.YtibaebgihbdphaaDoorReg
import Derived.Test.YtibaebgihbdphaaDoorCpu0
namespace Go.Proofs.YtibaebgihbdphaaDoor
open Go Go.RowKit
set_option linter.unusedSimpArgs false
set_option linter.unusedVariables false

theorem Wrap_any (n : Int) (w : World) :
    Calls Tryd.prog 12 #[.int .i64 n] w fun e w' => e = .returned (.int .i64 (wrap32 n)) ∧ w = w' := by
  go_enter Tryd.func12, Tryd.ntmps12
  go_wp2
  go_ret
  exact ⟨congrArg (fun z => Ending.returned (.int .i64 z)) (w64_32 n), rfl⟩

theorem word_any (n : Int) (w : World) :
    Calls Tryd.prog 9 #[.int .i64 n] w fun e w' => e = .returned (.bool (isW n)) ∧ w = w' := by
  go_enter Tryd.func9, Tryd.ntmps9
  go_wp2
  all_goals go_ret
  all_goals exact ⟨by unfold isW; simp; omega, rfl⟩

theorem one_any (b : Bool) (w : World) :
    Calls Tryd.prog 32 #[.bool b] w fun e w' => e = .returned (.int .i64 (one b)) ∧ w = w' := by
  cases b
  all_goals
    go_enter Tryd.func32, Tryd.ntmps32
    go_wp2
    go_ret
    exact ⟨rfl, rfl⟩

theorem truth_any (b : Bool) (w : World) :
    Calls Tryd.prog 35 #[.bool b] w fun e w' => e = .returned (.int .i64 (one b)) ∧ w = w' := by
  cases b
  all_goals
    go_enter Tryd.func35, Tryd.ntmps35
    go_wp2
    go_ret
    exact ⟨rfl, rfl⟩

theorem Bits_any (n : Int) (w : World) :
    Calls Tryd.prog 27 #[.int .i64 n] w fun e w' => e = .returned (.int .i64 (n % 4294967296)) ∧ w = w' := by
  have h1 := @and32
  go_enter Tryd.func27, Tryd.ntmps27
  go_wp2
  go_ret
  exact ⟨rfl, rfl⟩

theorem divide_any (op a b : Int) (w : World) (ho : op = 7 ∨ op = 8) :
    Calls Tryd.prog 31 #[.int .i64 op, .int .i64 a, .int .i64 b] w fun e w' => e = .returned (.tuple #[.int .i64 (calcN op a b), .bool (calcOk op b)]) ∧ w = w' := by
  by_cases hb : b = 0
  · subst hb
    go_enter Tryd.func31, Tryd.ntmps31
    go_wp2
    all_goals go_ret2
    all_goals exact ⟨by rcases ho with rfl | rfl <;> rfl, rfl⟩
  · rcases ho with rfl | rfl
    all_goals
      go_enter Tryd.func31, Tryd.ntmps31
      go_wp2
      all_goals go_ret2
      all_goals exact ⟨by simp [calcN, calcOk, hb], rfl⟩

theorem calculate_any (op a b : Int) (w : World) :
    Calls Tryd.prog 21 #[.int .i64 op, .int .i64 a, .int .i64 b] w fun e w' => e = .returned (.tuple #[.int .i64 (calcN op a b), .bool (calcOk op b)]) ∧ w = w' := by
  have h1 := @and32
  have h2 := @and31
  have h3 : 0 ≤ b % 32 := by omega
  have h4 : b % 32 ≤ 64 := by omega
  go_enter Tryd.func21, Tryd.ntmps21
  go_wp2_with (first | (go_at_call 31; refine (divide_any _ _ _ _ (by simp_all)).mono ?_; rintro e w' ⟨rfl, rfl⟩) | (go_at_call 32; refine (one_any _ _).mono ?_; rintro e w' ⟨rfl, rfl⟩))
  all_goals go_ret2
  all_goals exact ⟨by simp_all [calcN, calcOk], rfl⟩

theorem Form_any (op : Int) (w : World) (h : Tab w) :
    Calls Tryd.prog 20 #[.int .i64 op] w fun e w' => e = .returned (.int .i64 (form op)) ∧ w = w' := by
  have hk : 0 ≤ op → op < 32 → w.cell? ⟨1, op.toNat, none⟩ = some (.int .i64 (formsL.getD op.toNat 0)) := fun _ _ => h.2.1 _ (by omega)
  clear h
  go_enter Tryd.func20, Tryd.ntmps20
  go_wp2
  all_goals go_ret
  all_goals exact ⟨by unfold form; congr 2; (repeat' split) <;> first | rfl | omega | simp, rfl⟩

end Go.Proofs.YtibaebgihbdphaaDoor
