/- Laws of patterns as lists of parts. Of no program. -/
import Derived.Test.YtjkohbecmaegmaaDoorPat4
namespace Go.Proofs.YtjkohbecmaegmaaDoor
open Go
theorem index_lt : ∀ (l : Bytes) (e : UInt8), Lib.indexByte l e < l.length
  | [], e => by simp [Lib.indexByte]
  | x :: l, e => by
    have ih := index_lt l e
    rw [Lib.indexByte]
    split
    · simp only [List.length_cons]; omega
    · split
      · simp only [List.length_cons]; omega
      · simp only [List.length_cons]; omega
theorem setOf_cut {r a b : Bytes} (h : setOf r = some (a, b)) : a = r.take a.length ∧ b = r.drop (a.length + 1) ∧ 1 ≤ a.length ∧ a.length + 1 ≤ r.length := by
  unfold setOf at h
  split at h
  · cases h
  · rename_i hr
    split at h
    · cases h
    · rename_i hi
      obtain ⟨n, hn⟩ := Int.eq_ofNat_of_zero_le (show 0 ≤ Lib.indexByte (r.drop 1) 93 by omega)
      have hlt := index_lt (r.drop 1) 93
      rw [hn, List.length_drop] at hlt
      rw [hn] at h
      simp only [Int.toNat_natCast, Option.some.injEq, Prod.mk.injEq] at h
      obtain ⟨rfl, rfl⟩ := h
      have hl : (r.take (n + 1)).length = n + 1 := by rw [List.length_take]; omega
      rw [hl]
      exact ⟨rfl, rfl, by omega, by omega⟩
theorem setOf_suffix {r a b : Bytes} (h : setOf r = some (a, b)) : b <:+ r := by
  obtain ⟨_, h2, _, _⟩ := setOf_cut h
  rw [h2]; exact List.drop_suffix _ _
theorem classR_suffix {t : Bytes} {n : Bool} {a b : Bytes} (h : classR t = some (n, a, b)) : b <:+ t := by
  unfold classR at h
  split at h
  · rename_i x hx
    injection h with h
    injection h with h1 h2
    subst h2
    unfold bangOf at hx
    split at hx
    · exact (setOf_suffix hx).trans (List.drop_suffix _ _)
    · cases hx
  · cases hs : setOf t with
    | none => rw [hs] at h; cases h
    | some x =>
      obtain ⟨x, y⟩ := x
      rw [hs] at h
      simp only [Option.map_some, Option.some.injEq, Prod.mk.injEq] at h
      obtain ⟨rfl, rfl, rfl⟩ := h
      exact setOf_suffix hs
theorem part_suffix {l r : Bytes} {x : Pt} (h : part l = some (x, r)) : r <:+ l := by
  unfold part at h
  split at h
  · cases h
  · rename_i c t
    split at h
    · split at h
      · injection h with h; injection h with h1 h2; subst h2
        exact (List.suffix_cons _ _).trans (List.suffix_cons _ _)
      · injection h with h; injection h with h1 h2; subst h2; exact List.nil_suffix
    · split at h
      · injection h with h; injection h with h1 h2; subst h2; exact List.suffix_cons _ _
      · split at h
        · injection h with h; injection h with h1 h2; subst h2; exact List.suffix_cons _ _
        · split at h
          · split at h
            · rename_i n s q hc
              injection h with h; injection h with h1 h2; subst h2
              exact (classR_suffix hc).trans (List.suffix_cons _ _)
            · injection h with h; injection h with h1 h2; subst h2; exact List.suffix_cons _ _
          · injection h with h; injection h with h1 h2; subst h2; exact List.suffix_cons _ _
theorem parse_part {l : Bytes} (h : l ≠ []) : ∃ x r, part l = some (x, r) := by
  cases l with
  | nil => exact absurd rfl h
  | cons c t =>
    unfold part
    split
    · rename_i h; cases h
    · rename_i c' t' h
      split
      · split <;> exact ⟨_, _, rfl⟩
      · split
        · exact ⟨_, _, rfl⟩
        · split
          · exact ⟨_, _, rfl⟩
          · split
            · split <;> exact ⟨_, _, rfl⟩
            · exact ⟨_, _, rfl⟩
/-! Text before a pattern. -/
theorem parse_eb (c : UInt8) (l : Bytes) : parse (eb c ++ l) = .byte c :: parse l := by
  unfold eb
  split
  · exact parse_cons rfl
  · rename_i h
    refine parse_cons (show part (c :: l) = some (.byte c, l) from ?_)
    have h2 : ¬ (c = 92) ∧ ¬ (c = 42) ∧ ¬ (c = 63) ∧ ¬ (c = 91) := by
      refine ⟨?_, ?_, ?_, ?_⟩ <;> (rintro rfl; exact h (by decide))
    unfold part
    simp only [h2.1, h2.2.1, h2.2.2.1, h2.2.2.2, if_false]
theorem parse_esc : ∀ (t l : Bytes), parse (escB t ++ l) = t.map Pt.byte ++ parse l
  | [], l => rfl
  | c :: t, l => by
    rw [escB, List.flatMap_cons, List.append_assoc, parse_eb, ← escB, parse_esc t l]; rfl
theorem mt_bytes : ∀ (t : Bytes) (ps : List Pt) (s : Bytes), mt (t.map Pt.byte ++ ps) (t ++ s) = mt ps s
  | [], ps, s => rfl
  | c :: t, ps, s => by
    rw [List.map_cons, List.cons_append, List.cons_append, mt]
    · simp [fit, mt_bytes t ps s]
    · rintro ⟨⟩
theorem mt_text : ∀ (t s : Bytes), mt (t.map Pt.byte) s = (s == t)
  | [], [] => by rw [List.map_nil, mt]; rfl
  | [], c :: s => by rw [List.map_nil, mt]; rfl
  | d :: t, [] => by rw [List.map_cons, mt]; rfl; rintro ⟨⟩
  | d :: t, c :: s => by
    rw [List.map_cons, mt, mt_text t s]
    · simp only [fit]
      by_cases h : d = c
      · subst h; simp
      · rw [beq_false_of_ne h]
        have : (c :: s == d :: t) = false := beq_false_of_ne (by intro e; injection e with e1 e2; exact h e1.symm)
        rw [this]; rfl
    · rintro ⟨⟩
theorem parse_star (l : Bytes) : parse (42 :: l) = .star :: parse l := parse_cons rfl
theorem parse_any (l : Bytes) : parse (63 :: l) = .any :: parse l := parse_cons rfl
theorem mt_any (ps : List Pt) (s : Bytes) : mt (.any :: ps) s = (!s.isEmpty && mt ps (s.drop 1)) := by
  cases s with
  | nil => rw [mt]; rfl; rintro ⟨⟩
  | cons c s => rw [mt]; simp [fit]; rintro ⟨⟩
/-! A star behind a pattern. -/
theorem setOf_more {r : Bytes} : setOf (r ++ [42]) = (setOf r).map fun x => (x.1, x.2 ++ [42]) := by
  have key : ∀ l : Bytes, Lib.indexByte (l ++ [42]) 93 = Lib.indexByte l 93 := by
    intro l
    induction l with
    | nil => decide
    | cons c l ih => rw [List.cons_append, Lib.indexByte, Lib.indexByte, ih]
  cases r with
  | nil => decide
  | cons c r =>
    unfold setOf
    rw [if_neg (show ¬ (c :: r ++ [42] = []) by simp), if_neg (show ¬ (c :: r = []) by simp)]
    simp only [List.cons_append, List.drop_succ_cons, List.drop_zero]
    rw [key r]
    split
    · rfl
    · rename_i h
      have hl := index_lt r 93
      simp only [Option.map_some, Option.some.injEq, Prod.mk.injEq]
      constructor
      · rw [List.take_succ_cons, List.take_succ_cons, List.take_append_of_le_length (by omega)]
      · rw [List.drop_append_of_le_length (by omega)]
theorem classR_more {t : Bytes} : classR (t ++ [42]) = (classR t).map fun x => (x.1, x.2.1, x.2.2 ++ [42]) := by
  have hb : bangOf (t ++ [42]) = (bangOf t).map fun x => (x.1, x.2 ++ [42]) := by
    unfold bangOf
    cases t with
    | nil => rfl
    | cons c t =>
      simp only [List.cons_append, List.head?_cons, List.drop_succ_cons, List.drop_zero]
      split
      · exact setOf_more
      · rfl
  unfold classR
  rw [hb]
  cases bangOf t with
  | some x => rfl
  | none =>
    simp only [Option.map_none]
    rw [setOf_more]
    cases setOf t <;> rfl
theorem part_more {l r : Bytes} {x : Pt} (h : part l = some (x, r)) (he : l.getLast? ≠ some 92) : part (l ++ [42]) = some (x, r ++ [42]) := by
  cases l with
  | nil => cases h
  | cons c t =>
    unfold part at h ⊢
    simp only [List.cons_append] at h ⊢
    by_cases h92 : c = 92
    · subst h92
      rw [if_pos rfl] at h ⊢
      cases t with
      | nil => simp at he
      | cons d t =>
        simp only [List.cons_append, Option.some.injEq, Prod.mk.injEq] at h ⊢
        exact ⟨h.1, by rw [h.2]⟩
    rw [if_neg h92] at h ⊢
    by_cases h42 : c = 42
    · rw [if_pos h42] at h ⊢
      simp only [Option.some.injEq, Prod.mk.injEq] at h ⊢
      exact ⟨h.1, by rw [h.2]⟩
    rw [if_neg h42] at h ⊢
    by_cases h63 : c = 63
    · rw [if_pos h63] at h ⊢
      simp only [Option.some.injEq, Prod.mk.injEq] at h ⊢
      exact ⟨h.1, by rw [h.2]⟩
    rw [if_neg h63] at h ⊢
    by_cases h91 : c = 91
    · rw [if_pos h91] at h ⊢
      rw [classR_more]
      cases hc : classR t with
      | none =>
        rw [hc] at h
        simp only [Option.map_none, Option.some.injEq, Prod.mk.injEq] at h ⊢
        exact ⟨h.1, by rw [h.2]⟩
      | some q =>
        obtain ⟨n, a, b⟩ := q
        rw [hc] at h
        simp only [Option.map_some, Option.some.injEq, Prod.mk.injEq] at h ⊢
        exact ⟨h.1, by rw [h.2]⟩
    · rw [if_neg h91] at h ⊢
      simp only [Option.some.injEq, Prod.mk.injEq] at h ⊢
      exact ⟨h.1, by rw [h.2]⟩
theorem parse_more : ∀ (n : Nat) (l : Bytes), l.length ≤ n → l.getLast? ≠ some 92 → parse (l ++ [42]) = parse l ++ [.star]
  | n, [], _, _ => by rw [List.nil_append, parse_star]; rfl
  | 0, c :: t, h, _ => by simp at h
  | n + 1, c :: t, h, he => by
    obtain ⟨x, r, hx⟩ := parse_part (l := c :: t) (by simp)
    have hl := part_len hx
    have hr : r.getLast? ≠ some 92 := by
      cases r with
      | nil => simp
      | cons a r =>
        obtain ⟨u, hu⟩ := part_suffix hx
        rw [← hu, List.getLast?_append] at he
        intro e; apply he
        rw [e]; rfl
    rw [parse_cons (part_more hx he), parse_cons hx, parse_more n r (by omega) hr]; rfl
theorem mt_more : ∀ (ps : List Pt) (s : Bytes), mt (ps ++ [.star]) s = true ↔ ∃ i, i ≤ s.length ∧ mt ps (s.take i) = true := by
  intro ps
  induction ps with
  | nil =>
    intro s
    rw [List.nil_append, mt_star]
    exact ⟨fun ⟨j, h1, h2⟩ => ⟨0, by simp, by simp [mt]⟩, fun _ => ⟨s.length, by simp, by simp [mt]⟩⟩
  | cons x ps ih =>
    intro s
    by_cases hx : x = .star
    · subst hx
      rw [List.cons_append, mt_star]
      constructor
      · rintro ⟨j, h1, h2⟩
        obtain ⟨i, h3, h4⟩ := (ih _).1 h2
        rw [List.length_drop] at h3
        refine ⟨j + i, by omega, ?_⟩
        rw [mt_star]
        refine ⟨j, by rw [List.length_take]; omega, ?_⟩
        rw [List.drop_take, show j + i - j = i by omega]; exact h4
      · rintro ⟨i, h1, h2⟩
        rw [mt_star] at h2
        obtain ⟨j, h3, h4⟩ := h2
        rw [List.length_take] at h3
        refine ⟨j, by omega, (ih _).2 ⟨i - j, by rw [List.length_drop]; omega, ?_⟩⟩
        rw [List.drop_take] at h4; exact h4
    · cases s with
      | nil =>
        have h0 : mt (x :: ps) [] = false := by cases x <;> simp_all [mt]
        have h1 : mt (x :: ps ++ [.star]) [] = false := by cases x <;> simp_all [mt]
        rw [h1]
        constructor
        · intro h; cases h
        · rintro ⟨i, _, h⟩
          rw [List.take_nil, h0] at h; cases h
      | cons c s =>
        have e1 : ∀ qs u, mt (x :: qs) (c :: u) = (fit x c && mt qs u) := by intro qs u; cases x <;> simp_all [mt]
        have e0 : mt (x :: ps) [] = false := by cases x <;> simp_all [mt]
        rw [List.cons_append, e1]
        cases hf : fit x c
        · simp only [Bool.false_and]
          constructor
          · intro h; cases h
          · rintro ⟨i, _, h⟩
            cases i with
            | zero => rw [List.take_zero, e0] at h; cases h
            | succ i => rw [List.take_succ_cons, e1, hf] at h; cases h
        · simp only [Bool.true_and]
          rw [ih s]
          constructor
          · rintro ⟨i, h1, h2⟩
            exact ⟨i + 1, by simpa using h1, by rw [List.take_succ_cons, e1, hf]; exact h2⟩
          · rintro ⟨i, h1, h2⟩
            cases i with
            | zero => rw [List.take_zero, e0] at h2; cases h2
            | succ i => exact ⟨i, by simpa using h1, by rw [List.take_succ_cons, e1, hf] at h2; exact h2⟩
/-! How a part is written without its backslash. -/
def wrP : Pt → Bytes
  | .byte c => [c]
  | .star => [42]
  | .any => [63]
  | .cls n s => 91 :: ((if n then [33] else []) ++ s ++ [93])
def plainP (l : Bytes) : Bytes := (parse l).flatMap wrP
def isB : Pt → Bool
  | .byte _ => true
  | _ => false
def magicP (l : Bytes) : Bool := (parse l).any fun x => !isB x
theorem plain_bytes : ∀ ps : List Pt, (ps.any fun x => !isB x) = false → ps = (ps.flatMap wrP).map Pt.byte
  | [], _ => rfl
  | x :: ps, h => by
    rw [List.any_cons, Bool.or_eq_false_iff] at h
    have ih := plain_bytes ps h.2
    cases x with
    | byte c => rw [List.flatMap_cons, List.map_append, ← ih]; rfl
    | star => simp [isB] at h
    | any => simp [isB] at h
    | cls n s => simp [isB] at h
theorem magic_none {p : Bytes} (h : magicP p = false) (s : Bytes) : mt (parse p) s = (s == plainP p) := by
  rw [plain_bytes _ h, mt_text]; rfl
theorem mt_unfit {x : Pt} (ps : List Pt) {c : UInt8} (s : Bytes) (hx : x ≠ .star) (hf : fit x c = false) : mt (x :: ps) (c :: s) = false := by
  have e1 : ∀ qs u, mt (x :: qs) (c :: u) = (fit x c && mt qs u) := by intro qs u; cases x <;> simp_all [mt]
  rw [e1, hf]; rfl
theorem mt_end {x : Pt} (ps : List Pt) (hx : x ≠ .star) : mt (x :: ps) [] = false := by cases x <;> simp_all [mt]
theorem part_star {c : UInt8} {t r : Bytes} (h : part (c :: t) = some (.star, r)) : c = 42 := by
  unfold part at h
  simp only at h
  by_cases h92 : c = 92
  · rw [if_pos h92] at h
    split at h <;> simp at h
  rw [if_neg h92] at h
  by_cases h42 : c = 42
  · exact h42
  rw [if_neg h42] at h
  split at h
  · simp at h
  · split at h
    · split at h <;> simp at h
    · simp at h
theorem esc_parse (t : Bytes) : parse (escB t) = t.map Pt.byte := by
  have := parse_esc t []
  rw [List.append_nil, parse_nil, List.append_nil] at this; exact this
theorem esc_magic (t : Bytes) : magicP (escB t) = false := by
  unfold magicP
  rw [esc_parse]
  induction t with
  | nil => rfl
  | cons c t ih => rw [List.map_cons, List.any_cons, ih]; rfl
theorem esc_plain (t : Bytes) : plainP (escB t) = t := by
  unfold plainP
  rw [esc_parse]
  induction t with
  | nil => rfl
  | cons c t ih => rw [List.map_cons, List.flatMap_cons, ih]; rfl
end Go.Proofs.YtjkohbecmaegmaaDoor
