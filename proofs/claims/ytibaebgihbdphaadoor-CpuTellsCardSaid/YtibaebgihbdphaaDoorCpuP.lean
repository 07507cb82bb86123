/- Plain arithmetic of the five laws. -/
import Derived.Test.YtibaebgihbdphaaDoorCpu0
import Derived.Test.YtibaebgihbdphaaDoorCpuL
namespace Go.Proofs.YtibaebgihbdphaaDoor
open Go Go.RowKit
set_option linter.unusedSimpArgs false
set_option linter.unusedVariables false
def wordsB (r : Rg) : Bool := isW r.r0 && isW r.r1 && isW r.r2 && isW r.r3 && isW r.r4 && isW r.r5 && isW r.r6 && isW r.r7 && isW r.pc
theorem w32_id {n : Int} (h : isW n = true) : wrap32 n = n := by
  simp only [isW, decide_eq_true_eq] at h; unfold wrap32; omega
theorem w32_isW (n : Int) : isW (wrap32 n) = true := by
  simp only [isW, decide_eq_true_eq]; unfold wrap32; omega
theorem words_wrap (r : Rg) : wordsB r.wrap = true := by simp [wordsB, Rg.wrap, w32_isW]
theorem wrap_eq {r : Rg} (h : wordsB r = true) : r.wrap = r := by
  simp only [wordsB, Bool.and_eq_true] at h
  obtain ⟨⟨⟨⟨⟨⟨⟨⟨h0, h1⟩, h2⟩, h3⟩, h4⟩, h5⟩, h6⟩, h7⟩, h8⟩ := h
  cases r
  simp only [Rg.wrap, w32_id h0, w32_id h1, w32_id h2, w32_id h3, w32_id h4, w32_id h5, w32_id h6, w32_id h7, w32_id h8]
theorem regs_cases {a : Int} (h0 : 0 ≤ a) (h7 : a ≤ 7) : a = 0 ∨ a = 1 ∨ a = 2 ∨ a = 3 ∨ a = 4 ∨ a = 5 ∨ a = 6 ∨ a = 7 := by omega
theorem sel_wrap (r : Rg) (a : Int) : r.wrap.sel a = wrap32 (r.sel a) := by
  unfold Rg.sel Rg.wrap; (repeat' split) <;> rfl
theorem sel_go (r : Rg) (n a : Int) : (r.go n).sel a = r.sel a := rfl
theorem sel_isW {r : Rg} (h : wordsB r = true) (a : Int) : isW (r.sel a) = true := by
  rw [← wrap_eq h, sel_wrap]; exact w32_isW _
theorem sel_set {r : Rg} {a v : Int} (h0 : 0 ≤ a) (h7 : a ≤ 7) : (r.set a v).sel a = v := by
  rcases regs_cases h0 h7 with h | h | h | h | h | h | h | h <;> subst h <;> rfl
theorem sel_set_ne {r : Rg} {a b v : Int} (h0 : 0 ≤ b) (h7 : b ≤ 7) (hn : a ≠ b) : (r.set a v).sel b = r.sel b := by
  rcases regs_cases h0 h7 with h | h | h | h | h | h | h | h <;> subst h <;> simp [Rg.set, Rg.sel, upd, hn]
theorem set_pc (r : Rg) (a v : Int) : (r.set a v).pc = r.pc := rfl
theorem set_r7 {r : Rg} {a v : Int} (h : a ≠ 7) : (r.set a v).r7 = r.r7 := by simp [Rg.set, upd, h]
theorem get_sel (r : Rg) (a : Int) (h0 : 0 ≤ a) (h7 : a ≤ 7) :
    (#[Value.int .i64 r.r0, .int .i64 r.r1, .int .i64 r.r2, .int .i64 r.r3, .int .i64 r.r4, .int .i64 r.r5, .int .i64 r.r6, .int .i64 r.r7, .int .i64 r.pc] : Array Value)[a.toNat]? = some (.int .i64 (r.sel a)) := sel_get a _ _ _ _ _ _ _ _ _ h0 h7
theorem w3264 (n : Int) (a b : Int) (h : -9223372036854775808 ≤ n + a ∧ n + a < 9223372036854775808) (hb : -9223372036854775808 ≤ n + a + b ∧ n + a + b < 9223372036854775808) :
    wrap32 (wrap64 (wrap32 (wrap64 (n + a)) + b)) = wrap32 (wrap64 (n + (a + b))) := by
  unfold wrap32 wrap64; omega
theorem exec_acc {op a b c : Int} {r : Rg} (hv : valid op a b c = true) (ho : op = 23 ∨ op = 24) :
    execS op a b c r = ((accessS op a b c (r.wrap.go (wrap64 (r.wrap.pc + 4)))).1.wrap,
      ⟨(accessS op a b c (r.wrap.go (wrap64 (r.wrap.pc + 4)))).2.kind, wrap32 (accessS op a b c (r.wrap.go (wrap64 (r.wrap.pc + 4)))).2.at_, (accessS op a b c (r.wrap.go (wrap64 (r.wrap.pc + 4)))).2.size,
        (accessS op a b c (r.wrap.go (wrap64 (r.wrap.pc + 4)))).2.reg, (accessS op a b c (r.wrap.go (wrap64 (r.wrap.pc + 4)))).2.value, (accessS op a b c (r.wrap.go (wrap64 (r.wrap.pc + 4)))).2.n⟩) := by
  unfold execS
  rcases ho with rfl | rfl <;> rw [if_neg (by rw [hv]; simp), if_neg (by decide), if_neg (by decide), if_pos (by decide)]
theorem valid_A {op a : Int} (ho : form op = 1) (h0 : 0 ≤ a) (h7 : a ≤ 7) : valid op a 0 0 = true := by
  simp [valid, validF, ho, inR, h0, h7]
theorem stack_plain (r : Rg) (a b : Int) (hw : wordsB r = true) (ha : 0 ≤ a) (ha' : a ≤ 6) (hb : 0 ≤ b) (hb' : b ≤ 6) :
    ∃ s e t f u, execS 23 a 0 0 r = (s, e) ∧ execS 24 b 0 0 s = (t, f) ∧ e.kind = 2 ∧ f.kind = 1 ∧ f.at_ = e.at_ ∧ e.size = 4 ∧ f.size = 4 ∧ loadedS f.kind f.size f.reg e.value t = u ∧
      u.sel b = r.sel a ∧ u.r7 = r.r7 ∧ u.pc = wrap32 (wrap64 (r.pc + 8)) := by
  have e1 := exec_acc (r := r) (valid_A (op := 23) (a := a) (by decide) ha (by omega)) (.inl rfl)
  rw [wrap_eq hw] at e1
  have h7 : isW r.r7 = true := by simp [wordsB] at hw; exact hw.1.2
  have hp : isW r.pc = true := by simp [wordsB] at hw; exact hw.2
  refine ⟨_, _, _, _, _, e1, exec_acc (valid_A (op := 24) (a := b) (by decide) hb (by omega)) (.inr rfl), rfl, rfl, ?_, rfl, rfl, rfl, ?_, ?_, ?_⟩
  · show wrap32 (wrap32 (wrap32 (wrap64 (r.r7 - 4)))) = wrap32 (wrap64 (r.r7 - 4))
    rw [w32_id (w32_isW _), w32_id (w32_isW _)]
  · show Rg.sel (loadedS 1 4 b (r.sel a) _) b = r.sel a
    unfold loadedS
    rw [if_pos (by omega), if_neg (by decide), if_pos rfl, sel_set hb (by omega)]
    exact w32_id (sel_isW hw a)
  · show Rg.r7 (loadedS 1 4 b (r.sel a) _) = r.r7
    unfold loadedS
    rw [if_pos (by omega), if_neg (by decide), if_pos rfl, set_r7 (by omega)]
    show wrap32 (wrap64 (wrap32 (wrap32 (wrap64 (r.r7 - 4))) + 4)) = r.r7
    rw [w32_id (w32_isW _)]
    simp only [isW, decide_eq_true_eq] at h7
    unfold wrap32 wrap64; omega
  · show Rg.pc (loadedS 1 4 b (r.sel a) _) = _
    unfold loadedS
    rw [if_pos (by omega), if_neg (by decide), if_pos rfl, set_pc]
    show wrap32 (wrap64 (wrap32 (wrap32 (wrap64 (r.pc + 4))) + 4)) = _
    rw [w32_id (w32_isW _)]
    simp only [isW, decide_eq_true_eq] at hp
    unfold wrap32 wrap64; omega
end Go.Proofs.YtibaebgihbdphaaDoor
