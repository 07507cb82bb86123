import Derived.Test.YtibaebgihbdphaaDoorProg
import Derived.WalkKit
import Derived.Handy
import Derived.Deep.Light
import Derived.WalkSmall
import Derived.StillTailTactics
import Derived.Lib.Hide
import Derived.Test.YtibaebgihbdphaaDoorReg
import Derived.Test.YtibaebgihbdphaaDoorCpu0
import Derived.Test.YtibaebgihbdphaaDoorCpu1
import Derived.Test.YtibaebgihbdphaaDoorCpu2
import Derived.Test.YtibaebgihbdphaaDoorCpu3
import Derived.Test.YtibaebgihbdphaaDoorCpu4
import Derived.Test.YtibaebgihbdphaaDoorCpu5
import Derived.Test.YtibaebgihbdphaaDoorMix
import Derived.Test.YtibaebgihbdphaaDoorCpu6
import Derived.Test.YtibaebgihbdphaaDoorCpu6b
import Derived.Test.YtibaebgihbdphaaDoorKnow
import Derived.Test.YtibaebgihbdphaaDoorCpu7
import Derived.Test.YtibaebgihbdphaaDoorCpu8
import Derived.Test.YtibaebgihbdphaaDoorCpu10
import Derived.Test.YtibaebgihbdphaaDoorCpu9
import Derived.Test.YtibaebgihbdphaaDoorCpuAa
import Derived.Test.YtibaebgihbdphaaDoorCpuAb
import Derived.Test.YtibaebgihbdphaaDoorCpuJa
import Derived.Test.YtibaebgihbdphaaDoorCpuJb
import Derived.Test.YtibaebgihbdphaaDoorCpuMa
import Derived.Test.YtibaebgihbdphaaDoorCpuMb
namespace Go.Proofs.YtibaebgihbdphaaDoor
open Go Go.RowKit
set_option linter.unusedSimpArgs false
set_option linter.unusedVariables false

theorem valid_op {op a b c : Int} (h : valid op a b c = true) : 0 ≤ op ∧ op < 32 := by
  apply Classical.byContradiction
  intro hn
  have hf : form op = -1 := by unfold form; rw [if_pos (by omega)]
  simp [valid, validF, hf] at h
theorem form3 {op : Int} (h0 : 4 ≤ op) (h1 : op ≤ 17) : form op = 3 := by unfold form; rw [if_neg (by omega), if_pos (by omega)]
theorem Exec_any (r0 r1 r2 r3 r4 r5 r6 r7 pc op a b c : Int) (w : World) (hT : Tab w) :
    Calls Tryd.prog 13 #[.agg #[.int .i64 r0, .int .i64 r1, .int .i64 r2, .int .i64 r3, .int .i64 r4, .int .i64 r5, .int .i64 r6, .int .i64 r7, .int .i64 pc], .agg #[.int .i64 op, .int .i64 a, .int .i64 b, .int .i64 c]] w fun e w' => e = .returned (.tuple #[.agg #[.int .i64 (execS op a b c ⟨r0, r1, r2, r3, r4, r5, r6, r7, pc⟩).1.r0, .int .i64 (execS op a b c ⟨r0, r1, r2, r3, r4, r5, r6, r7, pc⟩).1.r1, .int .i64 (execS op a b c ⟨r0, r1, r2, r3, r4, r5, r6, r7, pc⟩).1.r2, .int .i64 (execS op a b c ⟨r0, r1, r2, r3, r4, r5, r6, r7, pc⟩).1.r3, .int .i64 (execS op a b c ⟨r0, r1, r2, r3, r4, r5, r6, r7, pc⟩).1.r4, .int .i64 (execS op a b c ⟨r0, r1, r2, r3, r4, r5, r6, r7, pc⟩).1.r5, .int .i64 (execS op a b c ⟨r0, r1, r2, r3, r4, r5, r6, r7, pc⟩).1.r6, .int .i64 (execS op a b c ⟨r0, r1, r2, r3, r4, r5, r6, r7, pc⟩).1.r7, .int .i64 (execS op a b c ⟨r0, r1, r2, r3, r4, r5, r6, r7, pc⟩).1.pc], .agg #[.int .i64 (execS op a b c ⟨r0, r1, r2, r3, r4, r5, r6, r7, pc⟩).2.kind, .int .i64 (execS op a b c ⟨r0, r1, r2, r3, r4, r5, r6, r7, pc⟩).2.at_, .int .i64 (execS op a b c ⟨r0, r1, r2, r3, r4, r5, r6, r7, pc⟩).2.size, .int .i64 (execS op a b c ⟨r0, r1, r2, r3, r4, r5, r6, r7, pc⟩).2.reg, .int .i64 (execS op a b c ⟨r0, r1, r2, r3, r4, r5, r6, r7, pc⟩).2.value, .int .i64 (execS op a b c ⟨r0, r1, r2, r3, r4, r5, r6, r7, pc⟩).2.n]]) ∧ Below w.heap.size w w' := by
  cases hv : valid op a b c with
  | false => exact Exec_inv _ _ _ _ _ _ _ _ _ _ _ _ _ w hT hv
  | true =>
    obtain ⟨h0, h1⟩ := valid_op hv
    by_cases h3 : 4 ≤ op ∧ op ≤ 17
    · have hf := form3 h3.1 h3.2
      have hr : (0 ≤ a ∧ a ≤ 7) ∧ (0 ≤ b ∧ b ≤ 7) ∧ (0 ≤ c ∧ c ≤ 7) := by
        simp [valid, validF, hf, inR] at hv; omega
      have ho : (op == 31) = false := by simp; omega
      cases hk : calcOk op (Rg.sel (Rg.wrap ⟨r0, r1, r2, r3, r4, r5, r6, r7, pc⟩) c) with
      | false => exact Exec_bad _ _ _ _ _ _ _ _ _ _ _ _ _ w hT hv hf ho hr.1 hr.2.1 hr.2.2 hk
      | true => exact Exec_abc _ _ _ _ _ _ _ _ _ _ _ _ _ w hT hv hf ho hr.1 hr.2.1 hr.2.2 hk
    · have hc : op = 0 ∨ op = 1 ∨ op = 2 ∨ op = 3 ∨ op = 18 ∨ op = 19 ∨ op = 20 ∨ op = 21 ∨ op = 22 ∨ op = 23 ∨ op = 24 ∨ op = 25 ∨ op = 26 ∨ op = 27 ∨ op = 28 ∨ op = 29 ∨ op = 30 ∨ op = 31 := by omega
      have key := hv
      rcases hc with h | h | h | h | h | h | h | h | h | h | h | h | h | h | h | h | h | h <;> subst h <;> simp [valid, validF, inR, form, formsL] at key
      · exact Exec_move0 _ _ _ _ _ _ _ _ _ _ _ _ w hT hv (by omega)
      · exact Exec_move1 _ _ _ _ _ _ _ _ _ _ _ _ w hT hv (by omega) (by omega)
      · exact Exec_move2 _ _ _ _ _ _ _ _ _ _ _ _ w hT hv (by omega)
      · exact Exec_move3 _ _ _ _ _ _ _ _ _ _ _ _ w hT hv (by omega)
      · exact Exec_move18 _ _ _ _ _ _ _ _ _ _ _ _ w hT hv (by omega)
      · exact Exec_acc19 _ _ _ _ _ _ _ _ _ _ _ _ w hT hv (by omega) (by omega)
      · exact Exec_acc20 _ _ _ _ _ _ _ _ _ _ _ _ w hT hv (by omega) (by omega)
      · exact Exec_acc21 _ _ _ _ _ _ _ _ _ _ _ _ w hT hv (by omega) (by omega)
      · exact Exec_acc22 _ _ _ _ _ _ _ _ _ _ _ _ w hT hv (by omega) (by omega)
      · exact Exec_acc23 _ _ _ _ _ _ _ _ _ _ _ _ w hT hv (by omega) (by omega)
      · exact Exec_acc24 _ _ _ _ _ _ _ _ _ _ _ _ w hT hv (by omega) (by omega)
      · exact Exec_jump25 _ _ _ _ _ _ _ _ _ _ _ _ w hT hv (by omega)
      · exact Exec_jump26 _ _ _ _ _ _ _ _ _ _ _ _ w hT hv (by omega)
      · exact Exec_jump27 _ _ _ _ _ _ _ _ _ _ _ _ w hT hv (by omega)
      · exact Exec_jump28 _ _ _ _ _ _ _ _ _ _ _ _ w hT hv (by omega)
      · exact Exec_jump29 _ _ _ _ _ _ _ _ _ _ _ _ w hT hv (by omega)
      · exact Exec_jump30 _ _ _ _ _ _ _ _ _ _ _ _ w hT hv (by omega)
      · exact Exec_call _ _ _ _ _ _ _ _ _ _ _ _ w hT hv

end Go.Proofs.YtibaebgihbdphaaDoor
