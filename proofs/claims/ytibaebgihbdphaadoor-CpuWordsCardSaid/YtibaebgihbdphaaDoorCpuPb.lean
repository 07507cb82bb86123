/- Plain arithmetic: constants. -/
import Derived.Test.YtibaebgihbdphaaDoorCpuP
namespace Go.Proofs.YtibaebgihbdphaaDoor
open Go Go.RowKit
set_option linter.unusedSimpArgs false
set_option linter.unusedVariables false
theorem valid_I {op a b : Int} (ho : form op = 5) (h0 : 0 ≤ a) (h7 : a ≤ 7) (h1 : -32768 ≤ b) (h2 : b ≤ 32767) : valid op a b 0 = true := by
  simp [valid, validF, ho, inR, h0, h7, h1, h2]
theorem valid_3 {op a b c : Int} (ho : form op = 3) (h0 : 0 ≤ a) (h7 : a ≤ 7) (h1 : 0 ≤ b) (h2 : b ≤ 7) (h3 : 0 ≤ c) (h4 : c ≤ 7) : valid op a b c = true := by
  simp [valid, validF, ho, inR, h0, h7, h1, h2, h3, h4]
theorem exec_mov {op a b c : Int} {r : Rg} (hv : valid op a b c = true) (h1 : op ≠ 31) (h2 : form op ≠ 3) (h3 : ¬ (19 ≤ op ∧ op ≤ 24)) (h4 : ¬ (25 ≤ op ∧ op ≤ 30)) :
    (execS op a b c r).1 = (moveS op a b (r.wrap.go (wrap64 (r.wrap.pc + 4)))).wrap := by
  unfold execS
  rw [if_neg (by rw [hv]; simp), if_neg h1, if_neg h2, if_neg h3, if_neg h4]
theorem exec_jmp {op a b c : Int} {r : Rg} (hv : valid op a b c = true) (h1 : op ≠ 31) (h2 : form op ≠ 3) (h3 : ¬ (19 ≤ op ∧ op ≤ 24)) (h4 : 25 ≤ op ∧ op ≤ 30) :
    (execS op a b c r).1 = (jumpS op a b (r.wrap.go (wrap64 (r.wrap.pc + 4)))).wrap := by
  unfold execS
  rw [if_neg (by rw [hv]; simp), if_neg h1, if_neg h2, if_neg h3, if_pos h4]
theorem exec_alu {op a b c : Int} {r : Rg} (hv : valid op a b c = true) (h1 : op ≠ 31) (h2 : form op = 3) (hk : calcOk op (r.wrap.sel c) = true) :
    (execS op a b c r).1 = ((r.wrap.go (wrap64 (r.wrap.pc + 4))).set a (calcN op (r.wrap.sel b) (r.wrap.sel c))).wrap := by
  unfold execS
  rw [if_neg (by rw [hv]; simp), if_neg h1, if_pos h2, if_pos hk]
def lowC (n : Int) : Int := if 32767 < n % 65536 then n % 65536 - 65536 else n % 65536
def highC (n : Int) : Int := (n - n % 65536).tdiv 65536
theorem high_eq (n : Int) : highC n = n / 65536 := by
  unfold highC
  have h : n - n % 65536 = 65536 * (n / 65536) := by omega
  rw [h, Int.mul_comm, Int.mul_tdiv_cancel _ (by decide)]
theorem wrap_wrap (r : Rg) : r.wrap.wrap = r.wrap := wrap_eq (words_wrap r)
theorem const_plain (n g : Int) (r : Rg) (hn : isW n = true) (h0 : 0 ≤ g) (h7 : g ≤ 7) :
    (execS 3 g (highC n) 0 (execS 2 g (lowC n) 0 r).1).1.sel g = n := by
  simp only [isW, decide_eq_true_eq] at hn
  have hl : -32768 ≤ lowC n ∧ lowC n ≤ 32767 := by unfold lowC; split <;> omega
  have hh : -32768 ≤ highC n ∧ highC n ≤ 32767 := by rw [high_eq]; omega
  have hm : wrap32 (lowC n) % 65536 = n % 65536 := by unfold lowC wrap32; split <;> omega
  rw [exec_mov (valid_I (by decide) h0 h7 hl.1 hl.2) (by decide) (by decide) (by decide) (by decide)]
  generalize hr : moveS 2 g (lowC n) (r.wrap.go (wrap64 (r.wrap.pc + 4))) = m
  have hm2 : m.wrap.sel g = wrap32 (lowC n) := by
    rw [← hr, sel_wrap]
    show wrap32 (Rg.sel (Rg.set _ g (lowC n)) g) = _
    rw [sel_set h0 h7]
  rw [exec_mov (valid_I (by decide) h0 h7 hh.1 hh.2) (by decide) (by decide) (by decide) (by decide), wrap_wrap]
  show Rg.sel (Rg.wrap (Rg.set _ g (wrap64 (Rg.sel (Rg.go m.wrap _) g % 65536 + wrap64 (highC n * 65536))))) g = n
  rw [sel_wrap, sel_set h0 h7, sel_go, hm2, hm, high_eq]
  unfold wrap32 wrap64; omega
theorem link_plain (g : Int) (r : Rg) (hw : wordsB r = true) (h0 : 0 ≤ g) (h7 : g ≤ 7) :
    (execS 29 g 0 0 (execS 28 g 400 0 r).1).1.pc = wrap32 (wrap64 (r.pc + 4)) := by
  rw [exec_jmp (valid_A (by decide) h0 h7) (by decide) (by decide) (by decide) (by decide),
    exec_jmp (valid_I (by decide) h0 h7 (by decide) (by decide)) (by decide) (by decide) (by decide) (by decide), wrap_eq hw, wrap_wrap]
  show wrap32 (Rg.sel (Rg.go (Rg.wrap (Rg.go (Rg.set _ g (wrap64 (r.pc + 4))) _)) _) g) = _
  rw [sel_go, sel_wrap, sel_go, sel_set h0 h7, w32_id (w32_isW _)]
theorem addr_plain (g : Int) (r : Rg) (hw : wordsB r = true) (h0 : 0 ≤ g) (h7 : g ≤ 7) :
    (execS 30 g 0 0 r).1.sel g = wrap32 (wrap64 (r.pc + 4)) := by
  have hp : isW r.pc = true := by simp [wordsB] at hw; exact hw.2
  rw [exec_jmp (valid_I (by decide) h0 h7 (by decide) (by decide)) (by decide) (by decide) (by decide) (by decide), wrap_eq hw]
  show Rg.sel (Rg.wrap (Rg.set _ g (wrap64 (wrap64 (r.pc + 4) + 0)))) g = _
  rw [sel_wrap, sel_set h0 h7]
  simp only [isW, decide_eq_true_eq] at hp
  unfold wrap32 wrap64; omega
end Go.Proofs.YtibaebgihbdphaaDoor
