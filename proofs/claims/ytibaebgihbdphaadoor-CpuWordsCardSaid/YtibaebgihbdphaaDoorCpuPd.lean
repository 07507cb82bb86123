/- Plain arithmetic: what an instruction may change. -/
import Derived.Test.YtibaebgihbdphaaDoorCpuPb
namespace Go.Proofs.YtibaebgihbdphaaDoor
open Go Go.RowKit
set_option linter.unusedSimpArgs false
set_option linter.unusedVariables false
theorem words_go {r : Rg} (h : wordsB r = true) (n : Int) (a : Int) : isW ((r.go n).sel a) = true := by rw [sel_go]; exact sel_isW h a
theorem exec_words (op a b c : Int) (r : Rg) : wordsB (execS op a b c r).1 = true := by
  unfold execS
  (repeat' split) <;> exact words_wrap _
theorem exec_at (op a b c : Int) (r : Rg) : isW (execS op a b c r).2.at_ = true := by
  unfold execS
  (repeat' split) <;> first | rfl | exact w32_isW _
theorem exec_value (op a b c : Int) (r : Rg) : isW (execS op a b c r).2.value = true := by
  have hr := words_wrap r
  have h0 : isW 0 = true := by decide
  have h1 : ∀ n : Int, isW (n % 256) = true := fun n => by simp only [isW, decide_eq_true_eq]; omega
  unfold execS
  (repeat' split) <;> try exact h0
  unfold accessS
  (repeat' split) <;> first | exact h0 | exact h1 _ | exact words_go hr _ _
theorem isW_mod (n : Int) : isW (n % 256) = true := by simp only [isW, decide_eq_true_eq]; omega
theorem set_words {r : Rg} (h : wordsB r = true) (a v : Int) (hv : isW v = true) : wordsB (r.set a v) = true := by
  have u : ∀ k x : Int, isW x = true → isW (upd k a v x) = true := fun k x hx => by unfold upd; split <;> assumption
  simp only [wordsB, Bool.and_eq_true] at h ⊢
  obtain ⟨⟨⟨⟨⟨⟨⟨⟨h0, h1⟩, h2⟩, h3⟩, h4⟩, h5⟩, h6⟩, h7⟩, h8⟩ := h
  exact ⟨⟨⟨⟨⟨⟨⟨⟨u _ _ h0, u _ _ h1⟩, u _ _ h2⟩, u _ _ h3⟩, u _ _ h4⟩, u _ _ h5⟩, u _ _ h6⟩, u _ _ h7⟩, h8⟩
theorem loaded_words {r : Rg} (h : wordsB r = true) (k z g v : Int) : wordsB (loadedS k z g v r) = true := by
  unfold loadedS
  (repeat' split) <;> first | exact h | exact set_words h _ _ (isW_mod _) | exact set_words h _ _ (w32_isW _)
theorem exec_bad (op a b c : Int) (r : Rg) (h : valid op a b c = false) : execS op a b c r = (r.wrap, ⟨4, 0, 0, 0, 0, 14⟩) := by
  unfold execS; rw [if_pos h]
theorem exec_call (a b c : Int) (r : Rg) (h : valid 31 a b c = true) : execS 31 a b c r = (r.wrap, ⟨3, 0, 0, 0, 0, b⟩) := by
  unfold execS; rw [if_neg (by rw [h]; simp), if_pos rfl]
theorem exec_div0 (op a b c : Int) (r : Rg) (h : valid op a b c = true) (ho : op = 7 ∨ op = 8) (hz : r.wrap.sel c = 0) : execS op a b c r = (r.wrap, ⟨4, 0, 0, 0, 0, 14⟩) := by
  unfold execS
  rw [if_neg (by rw [h]; simp), if_neg (by omega), if_pos (by rcases ho with rfl | rfl <;> decide), if_neg (by rw [hz]; rcases ho with rfl | rfl <;> decide)]
theorem acc_sel (op a b c : Int) (q : Rg) (hop : 19 ≤ op ∧ op ≤ 24) (k : Int) (k0 : 0 ≤ k) (k7 : k ≤ 7) (h7 : k ≠ 7 ∨ (op ≠ 23 ∧ op ≠ 24)) : (accessS op a b c q).1.sel k = q.sel k := by
  by_cases e : op = 23 ∨ op = 24
  · have hk : k = 0 ∨ k = 1 ∨ k = 2 ∨ k = 3 ∨ k = 4 ∨ k = 5 ∨ k = 6 := by omega
    have h1 : (accessS op a b c q).1.r0 = q.r0 ∧ (accessS op a b c q).1.r1 = q.r1 ∧ (accessS op a b c q).1.r2 = q.r2 ∧ (accessS op a b c q).1.r3 = q.r3 ∧ (accessS op a b c q).1.r4 = q.r4 ∧ (accessS op a b c q).1.r5 = q.r5 ∧ (accessS op a b c q).1.r6 = q.r6 := by
      unfold accessS
      (repeat' split) <;> exact ⟨rfl, rfl, rfl, rfl, rfl, rfl, rfl⟩
    obtain ⟨e0, e1, e2, e3, e4, e5, e6⟩ := h1
    rcases hk with h | h | h | h | h | h | h <;> subst h
    · exact e0
    · exact e1
    · exact e2
    · exact e3
    · exact e4
    · exact e5
    · exact e6
  · have hk : (accessS op a b c q).1 = q := by
      unfold accessS
      by_cases o1 : op = 19
      · rw [if_pos o1]
      · rw [if_neg o1]
        by_cases o2 : op = 20
        · rw [if_pos o2]
        · rw [if_neg o2]
          by_cases o3 : op = 21
          · rw [if_pos o3]
          · rw [if_neg o3, if_pos (by omega)]
    rw [hk]
theorem acc_kind (op a b c : Int) (q : Rg) : (accessS op a b c q).2.kind = 1 ∨ (accessS op a b c q).2.kind = 2 := by
  unfold accessS
  (repeat' split) <;> simp
/-- Where nothing traps and nothing is called: what may have turned. -/
theorem exec_rest (op a b c : Int) (r : Rg) (h : valid op a b c = true) (h31 : op ≠ 31) (hk : calcOk op (r.wrap.sel c) = true ∨ form op ≠ 3) (k : Int) (k0 : 0 ≤ k) (k7 : k ≤ 7) (hka : k ≠ a) (h7 : k ≠ 7 ∨ (op ≠ 23 ∧ op ≠ 24)) :
    (execS op a b c r).1.sel k = r.wrap.sel k := by
  have fin : ∀ q : Rg, q.sel k = r.wrap.sel k → q.wrap.sel k = r.wrap.sel k := fun q e => by
    rw [sel_wrap, e, sel_wrap, w32_id (w32_isW _)]
  have st : ∀ (q : Rg) (v : Int), q.sel k = r.wrap.sel k → (q.set a v).sel k = r.wrap.sel k := fun q v e => by rw [sel_set_ne k0 k7 (fun h => hka h.symm), e]
  have go : ∀ (q : Rg) (n : Int), q.sel k = r.wrap.sel k → (q.go n).sel k = r.wrap.sel k := fun q n e => by rw [sel_go, e]
  have g0 := go r.wrap (wrap64 (r.wrap.pc + 4)) rfl
  unfold execS
  rw [if_neg (by rw [h]; simp), if_neg h31]
  generalize r.wrap.go (wrap64 (r.wrap.pc + 4)) = q at *
  split
  · rename_i hf
    have hk' : calcOk op (r.wrap.sel c) = true := by rcases hk with e | e; exact e; exact absurd hf e
    rw [if_pos hk']
    exact fin _ (st _ _ g0)
  · split
    · rename_i hop
      exact fin _ ((acc_sel op a b c q hop k k0 k7 h7).trans g0)
    · split
      · refine fin _ ?_
        unfold jumpS
        (repeat' split) <;> first | (with_reducible exact g0) | (with_reducible exact go _ _ g0) | (with_reducible exact st _ _ g0) | (with_reducible exact go _ _ (st _ _ g0))
      · refine fin _ ?_
        unfold moveS
        (repeat' split) <;> first | (with_reducible exact g0) | (with_reducible exact st _ _ g0)
theorem exec_kind (op a b c : Int) (r : Rg) (h : valid op a b c = true) (h31 : op ≠ 31) (hk : calcOk op (r.wrap.sel c) = true ∨ form op ≠ 3) : (execS op a b c r).2.kind ≠ 4 ∧ (execS op a b c r).2.kind ≠ 3 := by
  unfold execS
  rw [if_neg (by rw [h]; simp), if_neg h31]
  generalize r.wrap.go (wrap64 (r.wrap.pc + 4)) = q
  split
  · rename_i hf
    have hk' : calcOk op (r.wrap.sel c) = true := by rcases hk with e | e; exact e; exact absurd hf e
    rw [if_pos hk']
    exact ⟨by simp, by simp⟩
  · split
    · have := acc_kind op a b c q
      constructor
      · show (accessS op a b c q).2.kind ≠ 4; omega
      · show (accessS op a b c q).2.kind ≠ 3; omega
    · split <;> exact ⟨by simp, by simp⟩
end Go.Proofs.YtibaebgihbdphaaDoor
