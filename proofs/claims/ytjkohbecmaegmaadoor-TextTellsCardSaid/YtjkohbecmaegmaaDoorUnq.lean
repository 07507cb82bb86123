/- Reading back what is quoted. Of no program. -/
import Derived.Test.YtjkohbecmaegmaaDoorText
import Derived.Lib.IndexLaws
namespace Go.Proofs.YtjkohbecmaegmaaDoor
open Go
/-- How far a reader of a quotation has come: what is read is d's beginning. -/
def UR (s : Bytes) (k : Nat) (o : Bytes) : Prop := ∀ d, quoteB d = s → ∃ d2, d = o ++ d2 ∧ s.drop k = d2.flatMap qb ++ [34]
theorem UR.start (s : Bytes) : UR s 1 [] := fun d h => ⟨d, rfl, by rw [← h]; rfl⟩
/-- What a byte's notation begins with. -/
theorem qb_cases (c : UInt8) : (c = 34 ∧ qb c = [92, 34]) ∨ (c = 92 ∧ qb c = [92, 92]) ∨ (c = 10 ∧ qb c = [92, 110]) ∨ (c ≠ 92 ∧ c ≠ 34 ∧ qb c = [c]) ∨ qb c = [92, 120, hexB (c.toNat / 16), hexB (c.toNat % 16)] := by
  unfold qb
  by_cases h1 : c = 34
  · subst h1; left; exact ⟨rfl, rfl⟩
  by_cases h2 : c = 92
  · subst h2; right; left; exact ⟨rfl, rfl⟩
  by_cases h3 : c = 10
  · subst h3; right; right; left; exact ⟨rfl, rfl⟩
  rw [if_neg (by simp [h1, h2]), if_neg h3]
  split
  · right; right; right; left; exact ⟨h2, h1, rfl⟩
  · right; right; right; right; rfl
theorem UR.next {s o : Bytes} {k : Nat} (h : UR s k o) {d : Bytes} (hd : quoteB d = s) (hk : k + 1 < s.length) : ∃ c d2, d = o ++ c :: d2 ∧ s.drop k = qb c ++ (d2.flatMap qb ++ [34]) := by
  obtain ⟨d2, h1, h2⟩ := h d hd
  cases d2 with
  | nil =>
    have := congrArg List.length h2
    rw [List.length_drop] at this
    simp at this; omega
  | cons c d2 => exact ⟨c, d2, h1, by rw [h2]; simp⟩
theorem drop_at {s : Bytes} {k j : Nat} {c : UInt8} (h : s[k + j]? = some c) : (s.drop k)[j]? = some c := by rw [List.getElem?_drop]; exact h
/-- A byte that begins no escape. -/
theorem UR.plain {s o : Bytes} {k : Nat} {c0 : UInt8} (h : UR s k o) (hk : k + 1 < s.length) (hc : s[k]? = some c0) (he : c0 ≠ 92 ∨ ¬ k + 2 < s.length) : UR s (k + 1) (o ++ [c0]) := by
  intro d hd
  obtain ⟨c, d2, h1, h2⟩ := h.next hd hk
  have hl := congrArg List.length h2
  rw [List.length_drop, List.length_append, List.length_append, List.length_singleton] at hl
  have h0 := drop_at (j := 0) hc
  have key : ∀ x, qb c = 92 :: x → False := by
    intro x e
    rw [h2, e] at h0
    simp only [List.cons_append, List.getElem?_cons_zero, Option.some.injEq] at h0
    rcases he with he | he
    · exact he h0.symm
    · have hx : x ≠ [] := by
        rintro rfl
        rcases qb_cases c with ⟨_, q⟩ | ⟨_, q⟩ | ⟨_, q⟩ | ⟨q1, _, q⟩ | q <;> rw [q] at e <;> simp at e
        exact q1 e
      have := List.length_pos_iff.2 hx
      rw [e, List.length_cons] at hl; omega
  rcases qb_cases c with ⟨_, q⟩ | ⟨_, q⟩ | ⟨_, q⟩ | ⟨q1, _, q⟩ | q
  · exact (key _ q).elim
  · exact (key _ q).elim
  · exact (key _ q).elim
  · rw [h2, q] at h0
    simp at h0
    subst h0
    refine ⟨d2, by rw [h1]; simp, ?_⟩
    rw [← List.drop_drop, h2, q]; rfl
  · exact (key _ q).elim
/-- .. and an escape. -/
theorem UR.esc {s o : Bytes} {k : Nat} (h : UR s k o) (hk : k + 2 < s.length) (hc : s[k]? = some 92) {c1 : UInt8} (hc1 : s[k + 1]? = some c1) {d : Bytes} (hd : quoteB d = s) :
    ∃ c d2, d = o ++ c :: d2 ∧ s.drop k = qb c ++ (d2.flatMap qb ++ [34]) ∧ ((c1 = c ∧ (c = 34 ∨ c = 92) ∧ qb c = [92, c]) ∨ (c1 = 110 ∧ c = 10 ∧ qb c = [92, 110]) ∨ (c1 = 120 ∧ qb c = [92, 120, hexB (c.toNat / 16), hexB (c.toNat % 16)])) := by
  obtain ⟨c, d2, h1, h2⟩ := h.next hd (by omega)
  have h0 := drop_at (j := 0) hc
  have h3 := drop_at hc1
  refine ⟨c, d2, h1, h2, ?_⟩
  rw [h2] at h0 h3
  rcases qb_cases c with ⟨q0, q⟩ | ⟨q0, q⟩ | ⟨q0, q⟩ | ⟨q1, _, q⟩ | q
  · rw [q] at h3; simp at h3; exact .inl ⟨by rw [← h3, q0], .inl q0, by rw [q, q0]⟩
  · rw [q] at h3; simp at h3; exact .inl ⟨by rw [← h3, q0], .inr q0, by rw [q, q0]⟩
  · rw [q] at h3; simp at h3; exact .inr (.inl ⟨h3.symm, q0, q⟩)
  · rw [q] at h0; simp at h0; exact absurd h0 q1
  · rw [q] at h3; simp at h3; exact .inr (.inr ⟨h3.symm, q⟩)
theorem UR.letter {s o : Bytes} {k : Nat} (h : UR s k o) (hk : k + 2 < s.length) (hc : s[k]? = some 92) (hc1 : s[k + 1]? = some 110) : UR s (k + 2) (o ++ [10]) := by
  intro d hd
  obtain ⟨c, d2, h1, h2, h3⟩ := h.esc hk hc hc1 hd
  rcases h3 with ⟨rfl, h4, _⟩ | ⟨_, rfl, q⟩ | ⟨h4, _⟩
  · rcases h4 with h4 | h4 <;> cases h4
  · exact ⟨d2, by rw [h1]; simp, by rw [← List.drop_drop, h2, q]; rfl⟩
  · cases h4
theorem UR.other {s o : Bytes} {k : Nat} (h : UR s k o) (hk : k + 2 < s.length) (hc : s[k]? = some 92) {c1 : UInt8} (hc1 : s[k + 1]? = some c1) (h110 : c1 ≠ 110) (h120 : c1 ≠ 120 ∨ ¬ k + 4 < s.length) : UR s (k + 2) (o ++ [c1]) := by
  intro d hd
  obtain ⟨c, d2, h1, h2, h3⟩ := h.esc hk hc hc1 hd
  rcases h3 with ⟨rfl, h4, q⟩ | ⟨h4, _⟩ | ⟨h4, q⟩
  · exact ⟨d2, by rw [h1]; simp, by rw [← List.drop_drop, h2, q]; rfl⟩
  · exact absurd h4 h110
  · have hl := congrArg List.length h2
    rw [List.length_drop, List.length_append, List.length_append, q] at hl
    simp only [List.length_cons, List.length_nil] at hl
    rcases h120 with h5 | h5
    · exact absurd h4 h5
    · omega
def hexs : Bytes := [48, 49, 50, 51, 52, 53, 54, 55, 56, 57, 97, 98, 99, 100, 101, 102]
theorem hex_index : ∀ n : Nat, n < 16 → Lib.indexByte hexs (hexB n) = n := by decide
theorem UR.hex {s o : Bytes} {k : Nat} (h : UR s k o) (hk : k + 4 < s.length) (hc : s[k]? = some 92) (hc1 : s[k + 1]? = some 120) {c2 c3 x : UInt8} (hc2 : s[k + 2]? = some c2) (hc3 : s[k + 3]? = some c3)
    (hx : ∀ a b : Nat, a < 16 → b < 16 → Lib.indexByte hexs c2 = a → Lib.indexByte hexs c3 = b → x.toNat = 16 * a + b) : UR s (k + 4) (o ++ [x]) := by
  intro d hd
  obtain ⟨c, d2, h1, h2, h3⟩ := h.esc (by omega) hc hc1 hd
  have h4 := drop_at hc2
  have h5 := drop_at hc3
  rw [h2] at h4 h5
  have hq : qb c = [92, 120, hexB (c.toNat / 16), hexB (c.toNat % 16)] := by
    rcases h3 with ⟨rfl, h4, q⟩ | ⟨h4, _⟩ | ⟨h4, q⟩
    · rcases h4 with h4 | h4 <;> cases h4
    · cases h4
    · exact q
  rw [hq] at h4 h5
  simp only [List.cons_append, List.nil_append, List.getElem?_cons_succ, List.getElem?_cons_zero, Option.some.injEq] at h4 h5
  have hlt := c.toNat_lt
  have := hx (c.toNat / 16) (c.toNat % 16) (by omega) (by omega) (by rw [← h4]; exact hex_index _ (by omega)) (by rw [← h5]; exact hex_index _ (by omega))
  have hxc : x = c := UInt8.toNat_inj.1 (by omega)
  subst hxc
  exact ⟨d2, by rw [h1]; simp, by rw [← List.drop_drop, h2, hq]; rfl⟩
theorem UR.done {s o : Bytes} {k : Nat} (h : UR s k o) (hk : ¬ k + 1 < s.length) {d : Bytes} (hd : quoteB d = s) : d = o := by
  obtain ⟨d2, h1, h2⟩ := h d hd
  cases d2 with
  | nil => simpa using h1
  | cons c d2 =>
    have hl := congrArg List.length h2
    rw [List.length_drop] at hl
    have hq : 1 ≤ (qb c).length := by rcases qb_cases c with ⟨_, q⟩ | ⟨_, q⟩ | ⟨_, q⟩ | ⟨_, _, q⟩ | q <;> rw [q] <;> simp
    simp at hl; omega
end Go.Proofs.YtjkohbecmaegmaaDoor
