import Derived.Test.YtibaebgihbdphaaDoorProg
import Derived.WalkKit
import Derived.Handy
import Derived.Deep.Light
import Derived.WalkSmall
import Derived.Lib.Hide
import Derived.Test.YtibaebgihbdphaaDoorSt
import Derived.Test.YtibaebgihbdphaaDoorCpu0
import Derived.Test.YtibaebgihbdphaaDoorCpuX
import Derived.Test.YtibaebgihbdphaaDoorCpuL
import Derived.Test.YtibaebgihbdphaaDoorCpuW
import Derived.Test.YtibaebgihbdphaaDoorCpuE
import Derived.Test.YtibaebgihbdphaaDoorCpuQ
import Derived.Test.YtibaebgihbdphaaDoorCpuS
import Derived.Test.YtibaebgihbdphaaDoorCpuP
import Derived.Test.YtibaebgihbdphaaDoorCpuV
import Derived.Test.YtibaebgihbdphaaDoorCpuRka
import Derived.Test.YtibaebgihbdphaaDoorCpuRkb
import Derived.Test.YtibaebgihbdphaaDoorCpuRkc
import Derived.Test.YtibaebgihbdphaaDoorCpuRkd
import Derived.Test.YtibaebgihbdphaaDoorCpuRb
import Derived.Test.YtibaebgihbdphaaDoorCpuRt
import Derived.Test.YtibaebgihbdphaaDoorCpuRz
import Derived.Test.YtibaebgihbdphaaDoorCpuRl
namespace Go.Proofs.YtibaebgihbdphaaDoor
open Go Go.RowKit
set_option linter.unusedSimpArgs false
set_option linter.unusedVariables false

theorem RefExec_eq {r s : Rg} {f : Ef} {op a b c : Int} (h : execS op a b c r = (s, f)) (w : World) :
    Calls Tryd.prog 14 #[.agg #[.int .i64 r.r0, .int .i64 r.r1, .int .i64 r.r2, .int .i64 r.r3, .int .i64 r.r4, .int .i64 r.r5, .int .i64 r.r6, .int .i64 r.r7, .int .i64 r.pc], .agg #[.int .i64 op, .int .i64 a, .int .i64 b, .int .i64 c]] w fun e w' => e = .returned (.tuple #[.agg #[.int .i64 s.r0, .int .i64 s.r1, .int .i64 s.r2, .int .i64 s.r3, .int .i64 s.r4, .int .i64 s.r5, .int .i64 s.r6, .int .i64 s.r7, .int .i64 s.pc], .agg #[.int .i64 f.kind, .int .i64 f.at_, .int .i64 f.size, .int .i64 f.reg, .int .i64 f.value, .int .i64 f.n]]) ∧ Below w.heap.size w w' := by
  have key : Calls Tryd.prog 14 #[.agg #[.int .i64 r.r0, .int .i64 r.r1, .int .i64 r.r2, .int .i64 r.r3, .int .i64 r.r4, .int .i64 r.r5, .int .i64 r.r6, .int .i64 r.r7, .int .i64 r.pc], .agg #[.int .i64 op, .int .i64 a, .int .i64 b, .int .i64 c]] w fun e w' => e = .returned (.tuple #[.agg #[.int .i64 (execS op a b c r).1.r0, .int .i64 (execS op a b c r).1.r1, .int .i64 (execS op a b c r).1.r2, .int .i64 (execS op a b c r).1.r3, .int .i64 (execS op a b c r).1.r4, .int .i64 (execS op a b c r).1.r5, .int .i64 (execS op a b c r).1.r6, .int .i64 (execS op a b c r).1.r7, .int .i64 (execS op a b c r).1.pc], .agg #[.int .i64 (execS op a b c r).2.kind, .int .i64 (execS op a b c r).2.at_, .int .i64 (execS op a b c r).2.size, .int .i64 (execS op a b c r).2.reg, .int .i64 (execS op a b c r).2.value, .int .i64 (execS op a b c r).2.n]]) ∧ Below w.heap.size w w' := by
    cases hv : valid op a b c with
    | false => exact RefExec_inv r op a b c w hv
    | true =>
      obtain ⟨h0, h1⟩ := valid_op hv
      by_cases h3 : 4 ≤ op ∧ op ≤ 17
      · have hf := form3 h3.1 h3.2
        have hr : (0 ≤ a ∧ a ≤ 7) ∧ (0 ≤ b ∧ b ≤ 7) ∧ (0 ≤ c ∧ c ≤ 7) := by
          simp [valid, validF, hf, inR] at hv; omega
        cases hk : calcOk op (r.wrap.sel c) with
        | false =>
          rcases (show op = 7 ∨ op = 8 by simp [calcOk] at hk; omega) with h7 | h8
          · exact RefExec_zero7 r op a b c w hv hf h7 hr.1 hr.2.2 hk
          · exact RefExec_zero8 r op a b c w hv hf h8 hr.1 hr.2.2 hk
        | true =>
          by_cases h7 : op = 7
          · exact RefExec_three7 r op a b c w hv hf h3.1 h3.2 h7 hr.1 hr.2.1 hr.2.2 hk
          · by_cases h8 : op = 8
            · exact RefExec_three8 r op a b c w hv hf h3.1 h3.2 h8 hr.1 hr.2.1 hr.2.2 hk
            · exact RefExec_threex r op a b c w hv hf h3.1 h3.2 ⟨h7, h8⟩ hr.1 hr.2.1 hr.2.2 hk
      · have hc : op = 0 ∨ op = 1 ∨ op = 2 ∨ op = 3 ∨ op = 18 ∨ op = 19 ∨ op = 20 ∨ op = 21 ∨ op = 22 ∨ op = 23 ∨ op = 24 ∨ op = 25 ∨ op = 26 ∨ op = 27 ∨ op = 28 ∨ op = 29 ∨ op = 30 ∨ op = 31 := by omega
        have key := hv
        rcases hc with h | h | h | h | h | h | h | h | h | h | h | h | h | h | h | h | h | h <;> subst h <;> simp [valid, validF, inR, form, formsL] at key
        · exact RefExec_op0 r a b c w hv (by omega)
        · exact RefExec_op1 r a b c w hv (by omega) (by omega)
        · exact RefExec_op2 r a b c w hv (by omega)
        · exact RefExec_op3 r a b c w hv (by omega)
        · exact RefExec_op18 r a b c w hv (by omega)
        · exact RefExec_op19 r a b c w hv (by omega) (by omega)
        · exact RefExec_op20 r a b c w hv (by omega) (by omega)
        · exact RefExec_op21 r a b c w hv (by omega) (by omega)
        · exact RefExec_op22 r a b c w hv (by omega) (by omega)
        · exact RefExec_op23 r a b c w hv (by omega)
        · exact RefExec_op24 r a b c w hv (by omega)
        · exact RefExec_op25 r a b c w hv (by omega)
        · cases hz : (Rg.sel r.wrap a == 0) with
          | true => exact RefExec_op26t r a b c w hv (by omega) hz
          | false => exact RefExec_op26f r a b c w hv (by omega) hz
        · cases hz : (Rg.sel r.wrap a == 0) with
          | true => exact RefExec_op27t r a b c w hv (by omega) hz
          | false => exact RefExec_op27f r a b c w hv (by omega) hz
        · exact RefExec_op28 r a b c w hv (by omega)
        · exact RefExec_op29 r a b c w hv (by omega)
        · exact RefExec_op30 r a b c w hv (by omega)
        · exact RefExec_call r a b c w hv
  rw [h] at key
  exact key

end Go.Proofs.YtibaebgihbdphaaDoor
