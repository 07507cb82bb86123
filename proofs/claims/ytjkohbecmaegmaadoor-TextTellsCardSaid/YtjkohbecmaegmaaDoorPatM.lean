/- Patterns as lists of parts, and what they match. Of no program. -/
import Derived.Test.YtjkohbecmaegmaaDoorText
namespace Go.Proofs.YtjkohbecmaegmaaDoor
open Go
/-- The set of a class that begins here, and what follows its end. -/
def setOf (r : Bytes) : Option (Bytes × Bytes) :=
  if r = [] then none else if Lib.indexByte (r.drop 1) 93 < 0 then none else some (r.take ((Lib.indexByte (r.drop 1) 93).toNat + 1), r.drop ((Lib.indexByte (r.drop 1) 93).toNat + 2))
def bangOf (t : Bytes) : Option (Bytes × Bytes) := if t.head? = some 33 then setOf (t.drop 1) else none
def classR (t : Bytes) : Option (Bool × Bytes × Bytes) := match bangOf t with
  | some x => some (true, x)
  | none => (setOf t).map fun x => (false, x)
inductive Pt
  | byte (c : UInt8) | star | any | cls (neg : Bool) (set : Bytes)
  deriving DecidableEq
theorem setOf_len {r a b : Bytes} (h : setOf r = some (a, b)) : b.length < r.length := by
  unfold setOf at h
  split at h
  · cases h
  · rename_i hr
    split at h
    · cases h
    · injection h with h
      injection h with h1 h2
      subst h2
      have : 0 < r.length := List.length_pos_iff.2 hr
      rw [List.length_drop]; omega
theorem classR_len {t : Bytes} {n : Bool} {a b : Bytes} (h : classR t = some (n, a, b)) : b.length < t.length + 1 := by
  unfold classR at h
  split at h
  · rename_i x hx
    injection h with h
    injection h with h1 h2
    subst h2
    unfold bangOf at hx
    split at hx
    · have := setOf_len hx
      rw [List.length_drop] at this; omega
    · cases hx
  · cases hs : setOf t with
    | none => rw [hs] at h; cases h
    | some x =>
      rw [hs] at h
      simp only [Option.map_some, Option.some.injEq, Prod.mk.injEq] at h
      obtain ⟨_, h2⟩ := h
      subst h2
      have := setOf_len hs; omega
/-- The first part of a pattern, and the rest. -/
def part : Bytes → Option (Pt × Bytes)
  | [] => none
  | c :: t => if c = 92 then (match t with
      | d :: r => some (.byte d, r)
      | [] => some (.byte 92, []))
    else if c = 42 then some (.star, t) else if c = 63 then some (.any, t)
    else if c = 91 then (match classR t with
      | some (n, s, r) => some (.cls n s, r)
      | none => some (.byte 91, t))
    else some (.byte c, t)
theorem part_len {l r : Bytes} {x : Pt} (h : part l = some (x, r)) : r.length < l.length := by
  unfold part at h
  split at h
  · cases h
  · rename_i c t
    split at h
    · split at h <;> (injection h with h; injection h with h1 h2; subst h2; simp only [List.length_cons, List.length_nil]; omega)
    · split at h
      · injection h with h; injection h with h1 h2; subst h2; simp
      · split at h
        · injection h with h; injection h with h1 h2; subst h2; simp
        · split at h
          · split at h
            · rename_i n s q hc
              injection h with h; injection h with h1 h2; subst h2
              have := classR_len hc
              simpa using this
            · injection h with h; injection h with h1 h2; subst h2; simp
          · injection h with h; injection h with h1 h2; subst h2; simp
def parseN : Nat → Bytes → List Pt
  | 0, _ => []
  | n + 1, l => match part l with
    | none => []
    | some (x, r) => x :: parseN n r
def parse (l : Bytes) : List Pt := parseN l.length l
theorem parseN_more : ∀ (n m : Nat) (l : Bytes), l.length ≤ n → l.length ≤ m → parseN n l = parseN m l
  | 0, m, l, h, _ => by
    obtain rfl := List.eq_nil_of_length_eq_zero (Nat.le_zero.1 h)
    cases m <;> rfl
  | n + 1, 0, l, _, h => by
    obtain rfl := List.eq_nil_of_length_eq_zero (Nat.le_zero.1 h)
    rfl
  | n + 1, m + 1, l, h1, h2 => by
    unfold parseN
    split
    · rfl
    · rename_i x r hp
      have := part_len hp
      rw [parseN_more n m r (by omega) (by omega)]
theorem parse_cons {l r : Bytes} {x : Pt} (h : part l = some (x, r)) : parse l = x :: parse r := by
  have hl := part_len h
  unfold parse
  obtain ⟨n, hn⟩ : ∃ n, l.length = n + 1 := ⟨l.length - 1, by omega⟩
  rw [hn, parseN, h]
  simp only
  rw [parseN_more n r.length r (by omega) (Nat.le_refl _)]
theorem parse_nil : parse [] = [] := rfl
/-- Has a set this byte? -/
def inSet : Bytes → UInt8 → Bool
  | a :: 45 :: b :: t, c => (decide (a.toNat ≤ c.toNat) && decide (c.toNat ≤ b.toNat)) || inSet t c
  | a :: t, c => a == c || inSet t c
  | [], _ => false
def fit : Pt → UInt8 → Bool
  | .byte d, c => d == c
  | .star, _ => false
  | .any, _ => true
  | .cls n s, c => inSet s c != n
def mt : List Pt → Bytes → Bool
  | [], s => s.isEmpty
  | .star :: ps, [] => mt ps []
  | .star :: ps, c :: s => mt ps (c :: s) || mt (.star :: ps) s
  | _ :: _, [] => false
  | x :: ps, c :: s => fit x c && mt ps s
termination_by ps s => (ps.length, s.length)
end Go.Proofs.YtjkohbecmaegmaaDoor

/- A star matches what some end matches; parts without stars take one byte each. Of no program. -/
namespace Go.Proofs.YtjkohbecmaegmaaDoor
open Go
theorem mt_star : ∀ (s : Bytes) (ps : List Pt), mt (.star :: ps) s = true ↔ ∃ j, j ≤ s.length ∧ mt ps (s.drop j) = true
  | [], ps => by
    rw [mt]
    constructor
    · intro h; exact ⟨0, by simp, by simpa using h⟩
    · rintro ⟨j, _, h⟩; simpa using h
  | c :: s, ps => by
    rw [mt, Bool.or_eq_true, mt_star s ps]
    constructor
    · rintro (h | ⟨j, h1, h2⟩)
      · exact ⟨0, by simp, by simpa using h⟩
      · exact ⟨j + 1, by simpa using h1, by simpa using h2⟩
    · rintro ⟨j, h1, h2⟩
      cases j with
      | zero => left; simpa using h2
      | succ j => right; exact ⟨j, by simpa using h1, by simpa using h2⟩
theorem mt_free : ∀ (us ps : List Pt) (s : Bytes), (∀ x ∈ us, x ≠ .star) → mt (us ++ ps) s = true → us.length ≤ s.length ∧ mt ps (s.drop us.length) = true
  | [], ps, s, _, h => by simpa using h
  | x :: us, ps, [], hx, h => by
    have hs := hx x (by simp)
    cases x <;> simp_all [mt]
  | x :: us, ps, c :: s, hx, h => by
    have hs := hx x (by simp)
    have h2 : mt (us ++ ps) s = true := by
      cases x <;> simp_all [mt]
    obtain ⟨h3, h4⟩ := mt_free us ps s (fun y hy => hx y (List.mem_cons_of_mem _ hy)) h2
    exact ⟨by simpa using h3, by simpa using h4⟩
end Go.Proofs.YtjkohbecmaegmaaDoor

/- The state of a matcher that goes back to the newest star alone. Of no program. -/
namespace Go.Proofs.YtjkohbecmaegmaaDoor
open Go
structure PI (all : List Pt) (s : Bytes) (ps : List Pt) (bk : Option (List Pt × Nat)) (pos : Nat) : Prop where
  ans : mt all s = true ↔ mt ps (s.drop pos) = true ∨ ∃ qs ag, bk = some (qs, ag) ∧ ∃ j, ag < j ∧ j ≤ s.length ∧ mt qs (s.drop j) = true
  free : ∀ qs ag, bk = some (qs, ag) → ∃ us, qs = us ++ ps ∧ (∀ x ∈ us, x ≠ .star) ∧ pos = ag + us.length
  le : pos ≤ s.length
theorem PI.start (all : List Pt) (s : Bytes) : PI all s all none 0 :=
  ⟨by simp, by simp, by simp⟩
theorem PI.star {all : List Pt} {s : Bytes} {ps : List Pt} {bk : Option (List Pt × Nat)} {pos : Nat} (h : PI all s (.star :: ps) bk pos) : PI all s ps (some (ps, pos)) pos := by
  have key : mt (.star :: ps) (s.drop pos) = true ↔ mt ps (s.drop pos) = true ∨ ∃ j, pos < j ∧ j ≤ s.length ∧ mt ps (s.drop j) = true := by
    rw [mt_star]
    constructor
    · rintro ⟨j, h1, h2⟩
      rw [List.length_drop] at h1
      rw [List.drop_drop] at h2
      cases j with
      | zero => left; simpa using h2
      | succ j => right; exact ⟨pos + (j + 1), by omega, by have := h.le; omega, h2⟩
    · rintro (h1 | ⟨j, h1, h2, h3⟩)
      · exact ⟨0, by simp, by simpa using h1⟩
      · refine ⟨j - pos, by rw [List.length_drop]; omega, ?_⟩
        rw [List.drop_drop, show pos + (j - pos) = j by omega]; exact h3
  refine ⟨?_, ?_, h.le⟩
  · rw [h.ans, key]
    constructor
    · rintro (h1 | ⟨qs, ag, hb, j, h1, h2, h3⟩)
      · rcases h1 with h1 | ⟨j, h1⟩
        · exact .inl h1
        · exact .inr ⟨_, _, rfl, j, h1⟩
      · obtain ⟨us, rfl, hu, hp⟩ := h.free qs ag hb
        obtain ⟨h4, h5⟩ := mt_free us (.star :: ps) _ hu h3
        rw [List.length_drop] at h4
        rw [List.drop_drop, mt_star] at h5
        obtain ⟨k, h6, h7⟩ := h5
        rw [List.length_drop] at h6
        rw [List.drop_drop] at h7
        exact .inr ⟨_, _, rfl, j + us.length + k, by omega, by omega, h7⟩
    · rintro (h1 | ⟨qs, ag, hb, j, h1, h2, h3⟩)
      · exact .inl (.inl h1)
      · injection hb with hb
        injection hb with e1 e2
        subst e1; subst e2
        exact .inl (.inr ⟨j, h1, h2, h3⟩)
  · intro qs ag hb
    injection hb with hb
    injection hb with e1 e2
    subst e1; subst e2
    exact ⟨[], by simp, by simp, by simp⟩
end Go.Proofs.YtjkohbecmaegmaaDoor

/- The matcher's other steps. Of no program. -/
namespace Go.Proofs.YtjkohbecmaegmaaDoor
open Go
theorem PI.take {all : List Pt} {s : Bytes} {x : Pt} {ps : List Pt} {bk : Option (List Pt × Nat)} {pos : Nat} {c : UInt8} (h : PI all s (x :: ps) bk pos) (hx : x ≠ .star) (hc : s[pos]? = some c) (hf : fit x c = true) : PI all s ps bk (pos + 1) := by
  obtain ⟨hl, he⟩ := List.getElem?_eq_some_iff.1 hc
  have hd : s.drop pos = c :: s.drop (pos + 1) := by rw [List.drop_eq_getElem_cons hl, he]
  have hm : mt (x :: ps) (s.drop pos) = mt ps (s.drop (pos + 1)) := by rw [hd]; cases x <;> simp_all [mt]
  refine ⟨by rw [h.ans, hm], fun qs ag hb => ?_, hl⟩
  obtain ⟨us, rfl, hu, hp⟩ := h.free qs ag hb
  refine ⟨us ++ [x], by simp, fun y hy => ?_, by simp; omega⟩
  rcases List.mem_append.1 hy with hy | hy
  · exact hu y hy
  · simp at hy; subst hy; exact hx
/-- Here nothing matches: the newest star takes one byte more. -/
theorem PI.back {all : List Pt} {s : Bytes} {ps qs : List Pt} {pos ag : Nat} (h : PI all s ps (some (qs, ag)) pos) (hn : mt ps (s.drop pos) = false) (hl : ag < s.length) : PI all s qs (some (qs, ag + 1)) (ag + 1) := by
  refine ⟨?_, fun q a hb => ?_, hl⟩
  · rw [h.ans, hn]
    constructor
    · rintro (h1 | ⟨q, a, hb, j, h1, h2, h3⟩)
      · cases h1
      · injection hb with hb
        injection hb with e1 e2
        subst e1; subst e2
        by_cases hj : j = ag + 1
        · subst hj; exact .inl h3
        · exact .inr ⟨_, _, rfl, j, by omega, h2, h3⟩
    · rintro (h1 | ⟨q, a, hb, j, h1, h2, h3⟩)
      · exact .inr ⟨_, _, rfl, ag + 1, by omega, hl, h1⟩
      · injection hb with hb
        injection hb with e1 e2
        subst e1; subst e2
        exact .inr ⟨_, _, rfl, j, by omega, h2, h3⟩
  · injection hb with hb
    injection hb with e1 e2
    subst e1; subst e2
    exact ⟨[], by simp, by simp, by simp⟩
theorem PI.dead {all : List Pt} {s : Bytes} {ps : List Pt} {bk : Option (List Pt × Nat)} {pos : Nat} (h : PI all s ps bk pos) (hn : mt ps (s.drop pos) = false) (hb : ∀ qs ag, bk = some (qs, ag) → ag = s.length) : mt all s = false := by
  cases hm : mt all s with
  | false => rfl
  | true =>
    exfalso
    rcases h.ans.1 hm with h1 | ⟨q, a, hq, j, h1, h2, _⟩
    · rw [hn] at h1; cases h1
    · have := hb q a hq; omega
theorem PI.done {all : List Pt} {s : Bytes} {bk : Option (List Pt × Nat)} (h : PI all s [] bk s.length) : mt all s = true := h.ans.2 (.inl (by simp [mt]))
end Go.Proofs.YtjkohbecmaegmaaDoor

/- Laws of patterns as lists of parts. Of no program. -/
namespace Go.Proofs.YtjkohbecmaegmaaDoor
open Go
theorem index_lt : ∀ (l : Bytes) (e : UInt8), Lib.indexByte l e < l.length
  | [], e => by simp [Lib.indexByte]
  | x :: l, e => by
    have ih := index_lt l e
    rw [Lib.indexByte]
    split
    · simp only [List.length_cons]; omega
    · split
      · simp only [List.length_cons]; omega
      · simp only [List.length_cons]; omega
theorem setOf_cut {r a b : Bytes} (h : setOf r = some (a, b)) : a = r.take a.length ∧ b = r.drop (a.length + 1) ∧ 1 ≤ a.length ∧ a.length + 1 ≤ r.length := by
  unfold setOf at h
  split at h
  · cases h
  · rename_i hr
    split at h
    · cases h
    · rename_i hi
      obtain ⟨n, hn⟩ := Int.eq_ofNat_of_zero_le (show 0 ≤ Lib.indexByte (r.drop 1) 93 by omega)
      have hlt := index_lt (r.drop 1) 93
      rw [hn, List.length_drop] at hlt
      rw [hn] at h
      simp only [Int.toNat_natCast, Option.some.injEq, Prod.mk.injEq] at h
      obtain ⟨rfl, rfl⟩ := h
      have hl : (r.take (n + 1)).length = n + 1 := by rw [List.length_take]; omega
      rw [hl]
      exact ⟨rfl, rfl, by omega, by omega⟩
theorem setOf_suffix {r a b : Bytes} (h : setOf r = some (a, b)) : b <:+ r := by
  obtain ⟨_, h2, _, _⟩ := setOf_cut h
  rw [h2]; exact List.drop_suffix _ _
theorem classR_suffix {t : Bytes} {n : Bool} {a b : Bytes} (h : classR t = some (n, a, b)) : b <:+ t := by
  unfold classR at h
  split at h
  · rename_i x hx
    injection h with h
    injection h with h1 h2
    subst h2
    unfold bangOf at hx
    split at hx
    · exact (setOf_suffix hx).trans (List.drop_suffix _ _)
    · cases hx
  · cases hs : setOf t with
    | none => rw [hs] at h; cases h
    | some x =>
      obtain ⟨x, y⟩ := x
      rw [hs] at h
      simp only [Option.map_some, Option.some.injEq, Prod.mk.injEq] at h
      obtain ⟨rfl, rfl, rfl⟩ := h
      exact setOf_suffix hs
theorem part_suffix {l r : Bytes} {x : Pt} (h : part l = some (x, r)) : r <:+ l := by
  unfold part at h
  split at h
  · cases h
  · rename_i c t
    split at h
    · split at h
      · injection h with h; injection h with h1 h2; subst h2
        exact (List.suffix_cons _ _).trans (List.suffix_cons _ _)
      · injection h with h; injection h with h1 h2; subst h2; exact List.nil_suffix
    · split at h
      · injection h with h; injection h with h1 h2; subst h2; exact List.suffix_cons _ _
      · split at h
        · injection h with h; injection h with h1 h2; subst h2; exact List.suffix_cons _ _
        · split at h
          · split at h
            · rename_i n s q hc
              injection h with h; injection h with h1 h2; subst h2
              exact (classR_suffix hc).trans (List.suffix_cons _ _)
            · injection h with h; injection h with h1 h2; subst h2; exact List.suffix_cons _ _
          · injection h with h; injection h with h1 h2; subst h2; exact List.suffix_cons _ _
theorem parse_part {l : Bytes} (h : l ≠ []) : ∃ x r, part l = some (x, r) := by
  cases l with
  | nil => exact absurd rfl h
  | cons c t =>
    unfold part
    split
    · rename_i h; cases h
    · rename_i c' t' h
      split
      · split <;> exact ⟨_, _, rfl⟩
      · split
        · exact ⟨_, _, rfl⟩
        · split
          · exact ⟨_, _, rfl⟩
          · split
            · split <;> exact ⟨_, _, rfl⟩
            · exact ⟨_, _, rfl⟩
/-! Text before a pattern. -/
theorem parse_eb (c : UInt8) (l : Bytes) : parse (eb c ++ l) = .byte c :: parse l := by
  unfold eb
  split
  · exact parse_cons rfl
  · rename_i h
    refine parse_cons (show part (c :: l) = some (.byte c, l) from ?_)
    have h2 : ¬ (c = 92) ∧ ¬ (c = 42) ∧ ¬ (c = 63) ∧ ¬ (c = 91) := by
      refine ⟨?_, ?_, ?_, ?_⟩ <;> (rintro rfl; exact h (by decide))
    unfold part
    simp only [h2.1, h2.2.1, h2.2.2.1, h2.2.2.2, if_false]
theorem parse_esc : ∀ (t l : Bytes), parse (escB t ++ l) = t.map Pt.byte ++ parse l
  | [], l => rfl
  | c :: t, l => by
    rw [escB, List.flatMap_cons, List.append_assoc, parse_eb, ← escB, parse_esc t l]; rfl
theorem mt_bytes : ∀ (t : Bytes) (ps : List Pt) (s : Bytes), mt (t.map Pt.byte ++ ps) (t ++ s) = mt ps s
  | [], ps, s => rfl
  | c :: t, ps, s => by
    rw [List.map_cons, List.cons_append, List.cons_append, mt]
    · simp [fit, mt_bytes t ps s]
    · rintro ⟨⟩
theorem mt_text : ∀ (t s : Bytes), mt (t.map Pt.byte) s = (s == t)
  | [], [] => by rw [List.map_nil, mt]; rfl
  | [], c :: s => by rw [List.map_nil, mt]; rfl
  | d :: t, [] => by rw [List.map_cons, mt]; rfl; rintro ⟨⟩
  | d :: t, c :: s => by
    rw [List.map_cons, mt, mt_text t s]
    · simp only [fit]
      by_cases h : d = c
      · subst h; simp
      · rw [beq_false_of_ne h]
        have : (c :: s == d :: t) = false := beq_false_of_ne (by intro e; injection e with e1 e2; exact h e1.symm)
        rw [this]; rfl
    · rintro ⟨⟩
theorem parse_star (l : Bytes) : parse (42 :: l) = .star :: parse l := parse_cons rfl
theorem parse_any (l : Bytes) : parse (63 :: l) = .any :: parse l := parse_cons rfl
theorem mt_any (ps : List Pt) (s : Bytes) : mt (.any :: ps) s = (!s.isEmpty && mt ps (s.drop 1)) := by
  cases s with
  | nil => rw [mt]; rfl; rintro ⟨⟩
  | cons c s => rw [mt]; simp [fit]; rintro ⟨⟩
/-! A star behind a pattern. -/
theorem setOf_more {r : Bytes} : setOf (r ++ [42]) = (setOf r).map fun x => (x.1, x.2 ++ [42]) := by
  have key : ∀ l : Bytes, Lib.indexByte (l ++ [42]) 93 = Lib.indexByte l 93 := by
    intro l
    induction l with
    | nil => decide
    | cons c l ih => rw [List.cons_append, Lib.indexByte, Lib.indexByte, ih]
  cases r with
  | nil => decide
  | cons c r =>
    unfold setOf
    rw [if_neg (show ¬ (c :: r ++ [42] = []) by simp), if_neg (show ¬ (c :: r = []) by simp)]
    simp only [List.cons_append, List.drop_succ_cons, List.drop_zero]
    rw [key r]
    split
    · rfl
    · rename_i h
      have hl := index_lt r 93
      simp only [Option.map_some, Option.some.injEq, Prod.mk.injEq]
      constructor
      · rw [List.take_succ_cons, List.take_succ_cons, List.take_append_of_le_length (by omega)]
      · rw [List.drop_append_of_le_length (by omega)]
theorem classR_more {t : Bytes} : classR (t ++ [42]) = (classR t).map fun x => (x.1, x.2.1, x.2.2 ++ [42]) := by
  have hb : bangOf (t ++ [42]) = (bangOf t).map fun x => (x.1, x.2 ++ [42]) := by
    unfold bangOf
    cases t with
    | nil => rfl
    | cons c t =>
      simp only [List.cons_append, List.head?_cons, List.drop_succ_cons, List.drop_zero]
      split
      · exact setOf_more
      · rfl
  unfold classR
  rw [hb]
  cases bangOf t with
  | some x => rfl
  | none =>
    simp only [Option.map_none]
    rw [setOf_more]
    cases setOf t <;> rfl
theorem part_more {l r : Bytes} {x : Pt} (h : part l = some (x, r)) (he : l.getLast? ≠ some 92) : part (l ++ [42]) = some (x, r ++ [42]) := by
  cases l with
  | nil => cases h
  | cons c t =>
    unfold part at h ⊢
    simp only [List.cons_append] at h ⊢
    by_cases h92 : c = 92
    · subst h92
      rw [if_pos rfl] at h ⊢
      cases t with
      | nil => simp at he
      | cons d t =>
        simp only [List.cons_append, Option.some.injEq, Prod.mk.injEq] at h ⊢
        exact ⟨h.1, by rw [h.2]⟩
    rw [if_neg h92] at h ⊢
    by_cases h42 : c = 42
    · rw [if_pos h42] at h ⊢
      simp only [Option.some.injEq, Prod.mk.injEq] at h ⊢
      exact ⟨h.1, by rw [h.2]⟩
    rw [if_neg h42] at h ⊢
    by_cases h63 : c = 63
    · rw [if_pos h63] at h ⊢
      simp only [Option.some.injEq, Prod.mk.injEq] at h ⊢
      exact ⟨h.1, by rw [h.2]⟩
    rw [if_neg h63] at h ⊢
    by_cases h91 : c = 91
    · rw [if_pos h91] at h ⊢
      rw [classR_more]
      cases hc : classR t with
      | none =>
        rw [hc] at h
        simp only [Option.map_none, Option.some.injEq, Prod.mk.injEq] at h ⊢
        exact ⟨h.1, by rw [h.2]⟩
      | some q =>
        obtain ⟨n, a, b⟩ := q
        rw [hc] at h
        simp only [Option.map_some, Option.some.injEq, Prod.mk.injEq] at h ⊢
        exact ⟨h.1, by rw [h.2]⟩
    · rw [if_neg h91] at h ⊢
      simp only [Option.some.injEq, Prod.mk.injEq] at h ⊢
      exact ⟨h.1, by rw [h.2]⟩
theorem parse_more : ∀ (n : Nat) (l : Bytes), l.length ≤ n → l.getLast? ≠ some 92 → parse (l ++ [42]) = parse l ++ [.star]
  | n, [], _, _ => by rw [List.nil_append, parse_star]; rfl
  | 0, c :: t, h, _ => by simp at h
  | n + 1, c :: t, h, he => by
    obtain ⟨x, r, hx⟩ := parse_part (l := c :: t) (by simp)
    have hl := part_len hx
    have hr : r.getLast? ≠ some 92 := by
      cases r with
      | nil => simp
      | cons a r =>
        obtain ⟨u, hu⟩ := part_suffix hx
        rw [← hu, List.getLast?_append] at he
        intro e; apply he
        rw [e]; rfl
    rw [parse_cons (part_more hx he), parse_cons hx, parse_more n r (by omega) hr]; rfl
theorem mt_more : ∀ (ps : List Pt) (s : Bytes), mt (ps ++ [.star]) s = true ↔ ∃ i, i ≤ s.length ∧ mt ps (s.take i) = true := by
  intro ps
  induction ps with
  | nil =>
    intro s
    rw [List.nil_append, mt_star]
    exact ⟨fun ⟨j, h1, h2⟩ => ⟨0, by simp, by simp [mt]⟩, fun _ => ⟨s.length, by simp, by simp [mt]⟩⟩
  | cons x ps ih =>
    intro s
    by_cases hx : x = .star
    · subst hx
      rw [List.cons_append, mt_star]
      constructor
      · rintro ⟨j, h1, h2⟩
        obtain ⟨i, h3, h4⟩ := (ih _).1 h2
        rw [List.length_drop] at h3
        refine ⟨j + i, by omega, ?_⟩
        rw [mt_star]
        refine ⟨j, by rw [List.length_take]; omega, ?_⟩
        rw [List.drop_take, show j + i - j = i by omega]; exact h4
      · rintro ⟨i, h1, h2⟩
        rw [mt_star] at h2
        obtain ⟨j, h3, h4⟩ := h2
        rw [List.length_take] at h3
        refine ⟨j, by omega, (ih _).2 ⟨i - j, by rw [List.length_drop]; omega, ?_⟩⟩
        rw [List.drop_take] at h4; exact h4
    · cases s with
      | nil =>
        have h0 : mt (x :: ps) [] = false := by cases x <;> simp_all [mt]
        have h1 : mt (x :: ps ++ [.star]) [] = false := by cases x <;> simp_all [mt]
        rw [h1]
        constructor
        · intro h; cases h
        · rintro ⟨i, _, h⟩
          rw [List.take_nil, h0] at h; cases h
      | cons c s =>
        have e1 : ∀ qs u, mt (x :: qs) (c :: u) = (fit x c && mt qs u) := by intro qs u; cases x <;> simp_all [mt]
        have e0 : mt (x :: ps) [] = false := by cases x <;> simp_all [mt]
        rw [List.cons_append, e1]
        cases hf : fit x c
        · simp only [Bool.false_and]
          constructor
          · intro h; cases h
          · rintro ⟨i, _, h⟩
            cases i with
            | zero => rw [List.take_zero, e0] at h; cases h
            | succ i => rw [List.take_succ_cons, e1, hf] at h; cases h
        · simp only [Bool.true_and]
          rw [ih s]
          constructor
          · rintro ⟨i, h1, h2⟩
            exact ⟨i + 1, by simpa using h1, by rw [List.take_succ_cons, e1, hf]; exact h2⟩
          · rintro ⟨i, h1, h2⟩
            cases i with
            | zero => rw [List.take_zero, e0] at h2; cases h2
            | succ i => exact ⟨i, by simpa using h1, by rw [List.take_succ_cons, e1, hf] at h2; exact h2⟩
/-! How a part is written without its backslash. -/
def wrP : Pt → Bytes
  | .byte c => [c]
  | .star => [42]
  | .any => [63]
  | .cls n s => 91 :: ((if n then [33] else []) ++ s ++ [93])
def plainP (l : Bytes) : Bytes := (parse l).flatMap wrP
def isB : Pt → Bool
  | .byte _ => true
  | _ => false
def magicP (l : Bytes) : Bool := (parse l).any fun x => !isB x
theorem plain_bytes : ∀ ps : List Pt, (ps.any fun x => !isB x) = false → ps = (ps.flatMap wrP).map Pt.byte
  | [], _ => rfl
  | x :: ps, h => by
    rw [List.any_cons, Bool.or_eq_false_iff] at h
    have ih := plain_bytes ps h.2
    cases x with
    | byte c => rw [List.flatMap_cons, List.map_append, ← ih]; rfl
    | star => simp [isB] at h
    | any => simp [isB] at h
    | cls n s => simp [isB] at h
theorem magic_none {p : Bytes} (h : magicP p = false) (s : Bytes) : mt (parse p) s = (s == plainP p) := by
  rw [plain_bytes _ h, mt_text]; rfl
theorem mt_unfit {x : Pt} (ps : List Pt) {c : UInt8} (s : Bytes) (hx : x ≠ .star) (hf : fit x c = false) : mt (x :: ps) (c :: s) = false := by
  have e1 : ∀ qs u, mt (x :: qs) (c :: u) = (fit x c && mt qs u) := by intro qs u; cases x <;> simp_all [mt]
  rw [e1, hf]; rfl
theorem mt_end {x : Pt} (ps : List Pt) (hx : x ≠ .star) : mt (x :: ps) [] = false := by cases x <;> simp_all [mt]
theorem part_star {c : UInt8} {t r : Bytes} (h : part (c :: t) = some (.star, r)) : c = 42 := by
  unfold part at h
  simp only at h
  by_cases h92 : c = 92
  · rw [if_pos h92] at h
    split at h <;> simp at h
  rw [if_neg h92] at h
  by_cases h42 : c = 42
  · exact h42
  rw [if_neg h42] at h
  split at h
  · simp at h
  · split at h
    · split at h <;> simp at h
    · simp at h
theorem esc_parse (t : Bytes) : parse (escB t) = t.map Pt.byte := by
  have := parse_esc t []
  rw [List.append_nil, parse_nil, List.append_nil] at this; exact this
theorem esc_magic (t : Bytes) : magicP (escB t) = false := by
  unfold magicP
  rw [esc_parse]
  induction t with
  | nil => rfl
  | cons c t ih => rw [List.map_cons, List.any_cons, ih]; rfl
theorem esc_plain (t : Bytes) : plainP (escB t) = t := by
  unfold plainP
  rw [esc_parse]
  induction t with
  | nil => rfl
  | cons c t ih => rw [List.map_cons, List.flatMap_cons, ih]; rfl
end Go.Proofs.YtjkohbecmaegmaaDoor

/- A pattern's parts with their texts. Of no program. -/
namespace Go.Proofs.YtjkohbecmaegmaaDoor
open Go
def ptsN : Nat → Bytes → List (Pt × Bytes)
  | 0, _ => []
  | n + 1, l => match part l with
    | none => []
    | some (x, r) => (x, l.take (l.length - r.length)) :: ptsN n r
def pts (l : Bytes) : List (Pt × Bytes) := ptsN l.length l
theorem ptsN_more : ∀ (n m : Nat) (l : Bytes), l.length ≤ n → l.length ≤ m → ptsN n l = ptsN m l
  | 0, m, l, h, _ => by
    obtain rfl := List.eq_nil_of_length_eq_zero (Nat.le_zero.1 h)
    cases m <;> rfl
  | n + 1, 0, l, _, h => by
    obtain rfl := List.eq_nil_of_length_eq_zero (Nat.le_zero.1 h)
    rfl
  | n + 1, m + 1, l, h1, h2 => by
    unfold ptsN
    split
    · rfl
    · rename_i x r hp
      have := part_len hp
      rw [ptsN_more n m r (by omega) (by omega)]
theorem pts_cons {l r : Bytes} {x : Pt} (h : part l = some (x, r)) : pts l = (x, l.take (l.length - r.length)) :: pts r := by
  have hl := part_len h
  unfold pts
  obtain ⟨n, hn⟩ : ∃ n, l.length = n + 1 := ⟨l.length - 1, by omega⟩
  rw [hn, ptsN, h]
  simp only
  rw [ptsN_more n r.length r (by omega) (Nat.le_refl _), hn]
theorem pts_nil : pts [] = [] := rfl
theorem pts_parse : ∀ (n : Nat) (l : Bytes), l.length ≤ n → (pts l).map (·.1) = parse l
  | 0, l, h => by
    obtain rfl := List.eq_nil_of_length_eq_zero (Nat.le_zero.1 h)
    rfl
  | n + 1, l, h => by
    cases hp : part l with
    | none =>
      cases l with
      | nil => rfl
      | cons c t =>
        obtain ⟨x, r, e⟩ := parse_part (l := c :: t) (by simp)
        rw [hp] at e; cases e
    | some q =>
      obtain ⟨x, r⟩ := q
      have := part_len hp
      rw [pts_cons hp, parse_cons hp, List.map_cons, pts_parse n r (by omega)]
theorem pts_len : ∀ (n : Nat) (l : Bytes), l.length ≤ n → (pts l).length ≤ l.length
  | 0, l, h => by
    obtain rfl := List.eq_nil_of_length_eq_zero (Nat.le_zero.1 h)
    simp [pts_nil]
  | n + 1, l, h => by
    cases hp : part l with
    | none =>
      have : parse l = [] := by unfold parse; cases hl : l.length with
        | zero => rfl
        | succ m => rw [parseN, hp]
      have h2 := pts_parse l.length l (Nat.le_refl _)
      rw [this] at h2
      have := congrArg List.length h2
      simp at this; rw [this]; simp
    | some q =>
      obtain ⟨x, r⟩ := q
      have := part_len hp
      rw [pts_cons hp, List.length_cons]
      have := pts_len n r (by omega)
      omega
end Go.Proofs.YtjkohbecmaegmaaDoor

/- Parts behind parts. Of no program. -/
namespace Go.Proofs.YtjkohbecmaegmaaDoor
open Go
theorem mt_append : ∀ (qs rs : List Pt) (u : Bytes), mt (qs ++ rs) u = true ↔ ∃ j, j ≤ u.length ∧ mt qs (u.take j) = true ∧ mt rs (u.drop j) = true := by
  intro qs rs
  induction qs with
  | nil =>
    intro u
    rw [List.nil_append]
    constructor
    · intro h; exact ⟨0, by simp, by simp [mt], by simpa using h⟩
    · rintro ⟨j, h1, h2, h3⟩
      rw [mt] at h2
      have h4 : u.take j = [] := by simpa using h2
      have h5 := congrArg List.length h4
      rw [List.length_take] at h5
      simp only [List.length_nil] at h5
      have : j = 0 ∨ u = [] := by
        cases u with
        | nil => right; rfl
        | cons a u => left; simp only [List.length_cons] at h5; omega
      rcases this with rfl | rfl
      · simpa using h3
      · simpa using h3
  | cons x qs ih =>
    intro u
    by_cases hx : x = .star
    · subst hx
      rw [List.cons_append, mt_star]
      constructor
      · rintro ⟨a, h1, h2⟩
        obtain ⟨j, h3, h4, h5⟩ := (ih _).1 h2
        rw [List.length_drop] at h3
        refine ⟨a + j, by omega, ?_, by rw [List.drop_drop] at h5; exact h5⟩
        rw [mt_star]
        refine ⟨a, by rw [List.length_take]; omega, ?_⟩
        rw [List.drop_take, show a + j - a = j by omega]; exact h4
      · rintro ⟨j, h1, h2, h3⟩
        rw [mt_star] at h2
        obtain ⟨a, h4, h5⟩ := h2
        rw [List.length_take] at h4
        rw [List.drop_take] at h5
        refine ⟨a, by omega, (ih _).2 ⟨j - a, by rw [List.length_drop]; omega, h5, ?_⟩⟩
        rw [List.drop_drop, show a + (j - a) = j by omega]; exact h3
    · have e0 : ∀ ps, mt (x :: ps) [] = false := fun ps => mt_end ps hx
      have e1 : ∀ ps c v, mt (x :: ps) (c :: v) = (fit x c && mt ps v) := by intro ps c v; cases x <;> simp_all [mt]
      rw [List.cons_append]
      cases u with
      | nil =>
        rw [e0]
        constructor
        · intro h; cases h
        · rintro ⟨j, _, h2, _⟩
          rw [List.take_nil, e0] at h2; cases h2
      | cons c u =>
        rw [e1, Bool.and_eq_true, ih u]
        constructor
        · rintro ⟨h1, j, h2, h3, h4⟩
          exact ⟨j + 1, by simpa using h2, by rw [List.take_succ_cons, e1, h1, h3]; rfl, by simpa using h4⟩
        · rintro ⟨j, h1, h2, h3⟩
          cases j with
          | zero => rw [List.take_zero, e0] at h2; cases h2
          | succ j =>
            rw [List.take_succ_cons, e1, Bool.and_eq_true] at h2
            exact ⟨h2.1, j, by simpa using h1, h2.2, by simpa using h3⟩
theorem mt_one {x : Pt} (hx : x ≠ .star) (v : Bytes) : mt [x] v = true ↔ ∃ c, v = [c] ∧ fit x c = true := by
  cases v with
  | nil =>
    rw [mt_end _ hx]
    constructor
    · intro h; cases h
    · rintro ⟨c, h, _⟩; cases h
  | cons c v =>
    have e1 : mt [x] (c :: v) = (fit x c && mt [] v) := by cases x <;> simp_all [mt]
    rw [e1, Bool.and_eq_true, mt]
    constructor
    · rintro ⟨h1, h2⟩
      have : v = [] := by simpa using h2
      exact ⟨c, by rw [this], h1⟩
    · rintro ⟨d, h1, h2⟩
      injection h1 with h3 h4
      subst h3; subst h4
      exact ⟨h2, rfl⟩
theorem mt_snoc (qs : List Pt) {x : Pt} (hx : x ≠ .star) (u : Bytes) (c : UInt8) : mt (qs ++ [x]) (u ++ [c]) = (mt qs u && fit x c) := by
  rw [Bool.eq_iff_iff, mt_append, Bool.and_eq_true]
  constructor
  · rintro ⟨j, h1, h2, h3⟩
    obtain ⟨d, h4, h5⟩ := (mt_one hx _).1 h3
    have h6 := congrArg List.length h4
    rw [List.length_drop, List.length_append, List.length_singleton, List.length_singleton] at h6
    have hj : j = u.length := by omega
    subst hj
    rw [List.drop_left] at h4
    rw [List.take_left] at h2
    injection h4 with h7
    subst h7
    exact ⟨h2, h5⟩
  · rintro ⟨h1, h2⟩
    exact ⟨u.length, by simp, by rw [List.take_left]; exact h1, by rw [List.drop_left, mt_one hx]; exact ⟨c, rfl, h2⟩⟩
theorem mt_snoc_nil (qs : List Pt) {x : Pt} (hx : x ≠ .star) : mt (qs ++ [x]) [] = false := by
  rw [Bool.eq_false_iff]
  intro h
  obtain ⟨j, h1, h2, h3⟩ := (mt_append _ _ _).1 h
  rw [List.drop_nil, mt_end _ hx] at h3
  cases h3
theorem mt_snoc_star (qs : List Pt) (s : Bytes) (k : Nat) (hk : k ≤ s.length) : mt (qs ++ [.star]) (s.take k) = (mt qs (s.take k) || (match k with | 0 => false | k' + 1 => mt (qs ++ [.star]) (s.take k'))) := by
  have key : ∀ m, m ≤ s.length → (mt (qs ++ [.star]) (s.take m) = true ↔ ∃ i, i ≤ m ∧ mt qs (s.take i) = true) := fun m hm => by
    rw [mt_more]
    constructor
    · rintro ⟨i, h1, h2⟩
      rw [List.length_take] at h1
      rw [List.take_take] at h2
      exact ⟨min i m, by omega, h2⟩
    · rintro ⟨i, h1, h2⟩
      refine ⟨i, by rw [List.length_take]; omega, ?_⟩
      rw [List.take_take, show min i m = i by omega]; exact h2
  rw [Bool.eq_iff_iff, key k hk, Bool.or_eq_true]
  cases k with
  | zero =>
    constructor
    · rintro ⟨i, h1, h2⟩
      obtain rfl : i = 0 := by omega
      exact .inl h2
    · rintro (h | h)
      · exact ⟨0, by omega, h⟩
      · cases h
  | succ k =>
    simp only
    rw [key k (by omega)]
    constructor
    · rintro ⟨i, h1, h2⟩
      by_cases hi : i = k + 1
      · subst hi; exact .inl h2
      · exact .inr ⟨i, by omega, h2⟩
    · rintro (h | ⟨i, h1, h2⟩)
      · exact ⟨k + 1, by omega, h⟩
      · exact ⟨i, by omega, h2⟩
end Go.Proofs.YtjkohbecmaegmaaDoor

