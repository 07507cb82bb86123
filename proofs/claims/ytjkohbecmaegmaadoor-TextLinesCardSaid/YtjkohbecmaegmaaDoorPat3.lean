/- The state of a matcher that goes back to the newest star alone. Of no program. -/
import Derived.Test.YtjkohbecmaegmaaDoorPat2
namespace Go.Proofs.YtjkohbecmaegmaaDoor
open Go
structure PI (all : List Pt) (s : Bytes) (ps : List Pt) (bk : Option (List Pt × Nat)) (pos : Nat) : Prop where
  ans : mt all s = true ↔ mt ps (s.drop pos) = true ∨ ∃ qs ag, bk = some (qs, ag) ∧ ∃ j, ag < j ∧ j ≤ s.length ∧ mt qs (s.drop j) = true
  free : ∀ qs ag, bk = some (qs, ag) → ∃ us, qs = us ++ ps ∧ (∀ x ∈ us, x ≠ .star) ∧ pos = ag + us.length
  le : pos ≤ s.length
theorem PI.start (all : List Pt) (s : Bytes) : PI all s all none 0 :=
  ⟨by simp, by simp, by simp⟩
theorem PI.star {all : List Pt} {s : Bytes} {ps : List Pt} {bk : Option (List Pt × Nat)} {pos : Nat} (h : PI all s (.star :: ps) bk pos) : PI all s ps (some (ps, pos)) pos := by
  have key : mt (.star :: ps) (s.drop pos) = true ↔ mt ps (s.drop pos) = true ∨ ∃ j, pos < j ∧ j ≤ s.length ∧ mt ps (s.drop j) = true := by
    rw [mt_star]
    constructor
    · rintro ⟨j, h1, h2⟩
      rw [List.length_drop] at h1
      rw [List.drop_drop] at h2
      cases j with
      | zero => left; simpa using h2
      | succ j => right; exact ⟨pos + (j + 1), by omega, by have := h.le; omega, h2⟩
    · rintro (h1 | ⟨j, h1, h2, h3⟩)
      · exact ⟨0, by simp, by simpa using h1⟩
      · refine ⟨j - pos, by rw [List.length_drop]; omega, ?_⟩
        rw [List.drop_drop, show pos + (j - pos) = j by omega]; exact h3
  refine ⟨?_, ?_, h.le⟩
  · rw [h.ans, key]
    constructor
    · rintro (h1 | ⟨qs, ag, hb, j, h1, h2, h3⟩)
      · rcases h1 with h1 | ⟨j, h1⟩
        · exact .inl h1
        · exact .inr ⟨_, _, rfl, j, h1⟩
      · obtain ⟨us, rfl, hu, hp⟩ := h.free qs ag hb
        obtain ⟨h4, h5⟩ := mt_free us (.star :: ps) _ hu h3
        rw [List.length_drop] at h4
        rw [List.drop_drop, mt_star] at h5
        obtain ⟨k, h6, h7⟩ := h5
        rw [List.length_drop] at h6
        rw [List.drop_drop] at h7
        exact .inr ⟨_, _, rfl, j + us.length + k, by omega, by omega, h7⟩
    · rintro (h1 | ⟨qs, ag, hb, j, h1, h2, h3⟩)
      · exact .inl (.inl h1)
      · injection hb with hb
        injection hb with e1 e2
        subst e1; subst e2
        exact .inl (.inr ⟨j, h1, h2, h3⟩)
  · intro qs ag hb
    injection hb with hb
    injection hb with e1 e2
    subst e1; subst e2
    exact ⟨[], by simp, by simp, by simp⟩
end Go.Proofs.YtjkohbecmaegmaaDoor
