/- The matcher's other steps. Of no program. -/
import Derived.Test.YtjkohbecmaegmaaDoorPat3
namespace Go.Proofs.YtjkohbecmaegmaaDoor
open Go
theorem PI.take {all : List Pt} {s : Bytes} {x : Pt} {ps : List Pt} {bk : Option (List Pt × Nat)} {pos : Nat} {c : UInt8} (h : PI all s (x :: ps) bk pos) (hx : x ≠ .star) (hc : s[pos]? = some c) (hf : fit x c = true) : PI all s ps bk (pos + 1) := by
  obtain ⟨hl, he⟩ := List.getElem?_eq_some_iff.1 hc
  have hd : s.drop pos = c :: s.drop (pos + 1) := by rw [List.drop_eq_getElem_cons hl, he]
  have hm : mt (x :: ps) (s.drop pos) = mt ps (s.drop (pos + 1)) := by rw [hd]; cases x <;> simp_all [mt]
  refine ⟨by rw [h.ans, hm], fun qs ag hb => ?_, hl⟩
  obtain ⟨us, rfl, hu, hp⟩ := h.free qs ag hb
  refine ⟨us ++ [x], by simp, fun y hy => ?_, by simp; omega⟩
  rcases List.mem_append.1 hy with hy | hy
  · exact hu y hy
  · simp at hy; subst hy; exact hx
/-- Here nothing matches: the newest star takes one byte more. -/
theorem PI.back {all : List Pt} {s : Bytes} {ps qs : List Pt} {pos ag : Nat} (h : PI all s ps (some (qs, ag)) pos) (hn : mt ps (s.drop pos) = false) (hl : ag < s.length) : PI all s qs (some (qs, ag + 1)) (ag + 1) := by
  refine ⟨?_, fun q a hb => ?_, hl⟩
  · rw [h.ans, hn]
    constructor
    · rintro (h1 | ⟨q, a, hb, j, h1, h2, h3⟩)
      · cases h1
      · injection hb with hb
        injection hb with e1 e2
        subst e1; subst e2
        by_cases hj : j = ag + 1
        · subst hj; exact .inl h3
        · exact .inr ⟨_, _, rfl, j, by omega, h2, h3⟩
    · rintro (h1 | ⟨q, a, hb, j, h1, h2, h3⟩)
      · exact .inr ⟨_, _, rfl, ag + 1, by omega, hl, h1⟩
      · injection hb with hb
        injection hb with e1 e2
        subst e1; subst e2
        exact .inr ⟨_, _, rfl, j, by omega, h2, h3⟩
  · injection hb with hb
    injection hb with e1 e2
    subst e1; subst e2
    exact ⟨[], by simp, by simp, by simp⟩
theorem PI.dead {all : List Pt} {s : Bytes} {ps : List Pt} {bk : Option (List Pt × Nat)} {pos : Nat} (h : PI all s ps bk pos) (hn : mt ps (s.drop pos) = false) (hb : ∀ qs ag, bk = some (qs, ag) → ag = s.length) : mt all s = false := by
  cases hm : mt all s with
  | false => rfl
  | true =>
    exfalso
    rcases h.ans.1 hm with h1 | ⟨q, a, hq, j, h1, h2, _⟩
    · rw [hn] at h1; cases h1
    · have := hb q a hq; omega
theorem PI.done {all : List Pt} {s : Bytes} {bk : Option (List Pt × Nat)} (h : PI all s [] bk s.length) : mt all s = true := h.ans.2 (.inl (by simp [mt]))
end Go.Proofs.YtjkohbecmaegmaaDoor
