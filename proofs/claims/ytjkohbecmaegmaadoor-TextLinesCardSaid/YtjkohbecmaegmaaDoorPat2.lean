/- A star matches what some end matches; parts without stars take one byte each. Of no program. -/
import Derived.Test.YtjkohbecmaegmaaDoorPat
namespace Go.Proofs.YtjkohbecmaegmaaDoor
open Go
theorem mt_star : ∀ (s : Bytes) (ps : List Pt), mt (.star :: ps) s = true ↔ ∃ j, j ≤ s.length ∧ mt ps (s.drop j) = true
  | [], ps => by
    rw [mt]
    constructor
    · intro h; exact ⟨0, by simp, by simpa using h⟩
    · rintro ⟨j, _, h⟩; simpa using h
  | c :: s, ps => by
    rw [mt, Bool.or_eq_true, mt_star s ps]
    constructor
    · rintro (h | ⟨j, h1, h2⟩)
      · exact ⟨0, by simp, by simpa using h⟩
      · exact ⟨j + 1, by simpa using h1, by simpa using h2⟩
    · rintro ⟨j, h1, h2⟩
      cases j with
      | zero => left; simpa using h2
      | succ j => right; exact ⟨j, by simpa using h1, by simpa using h2⟩
theorem mt_free : ∀ (us ps : List Pt) (s : Bytes), (∀ x ∈ us, x ≠ .star) → mt (us ++ ps) s = true → us.length ≤ s.length ∧ mt ps (s.drop us.length) = true
  | [], ps, s, _, h => by simpa using h
  | x :: us, ps, [], hx, h => by
    have hs := hx x (by simp)
    cases x <;> simp_all [mt]
  | x :: us, ps, c :: s, hx, h => by
    have hs := hx x (by simp)
    have h2 : mt (us ++ ps) s = true := by
      cases x <;> simp_all [mt]
    obtain ⟨h3, h4⟩ := mt_free us ps s (fun y hy => hx y (List.mem_cons_of_mem _ hy)) h2
    exact ⟨by simpa using h3, by simpa using h4⟩
end Go.Proofs.YtjkohbecmaegmaaDoor
