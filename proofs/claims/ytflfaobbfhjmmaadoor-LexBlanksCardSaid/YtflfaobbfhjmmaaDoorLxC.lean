/- Joins, blanks, quotes, parts. Of no program. -/
import Derived.Test.YtflfaobbfhjmmaaDoorLxB
set_option linter.unusedVariables false
namespace Go.Proofs.YtflfaobbfhjmmaaDoor
open Go
/-! Lines move alike. -/
def Tok.up (k : Nat) (t : Tok) : Tok := { t with line := t.line + k }
def Rup (k : Nat) : R St → R St
  | .ok (ps, l, n) => .ok (ps, l, n + k)
  | .bad n => .bad (n + k)
def Step.up (k : Nat) : Step → Step
  | .skip r n => .skip r (n + k)
  | .tok t r n => .tok (t.up k) r (n + k)
  | .bad n => .bad (n + k)
def Fin.up (k : Nat) : Fin → Fin
  | .fin n => .fin (n + k)
  | .bad n => .bad (n + k)
theorem dollar_up (k : Nat) (ps : List Prt) (s : Bytes) (n : Nat) (q : Bool) : dollar ps s (n + k) q = Rup k (dollar ps s n q) := by
  unfold dollar
  split
  · split
    · rfl
    · simp only [Rup]; congr 3; omega
  · split
    · split
      · rfl
      · split <;> rfl
    · split <;> rfl
theorem double_up (k : Nat) : ∀ (f n0 : Nat) (ps : List Prt) (l : Bytes) (n : Nat), double f (n0 + k) (ps, l, n + k) = Rup k (double f n0 (ps, l, n)) := by
  intro f
  induction f with
  | zero => intro n0 ps l n; rfl
  | succ f ih =>
    intro n0 ps l n
    cases l with
    | nil => rfl
    | cons c t =>
      rw [double_cons, double_cons]
      split
      · rfl
      · split
        · rw [dollar_up]
          cases dollar ps t n true with
          | bad m => rfl
          | ok z => obtain ⟨z1, z2, z3⟩ := z; exact ih _ _ _ _
        · split
          · split
            · split
              · exact ih _ _ _ _
              · exact ih _ _ _ _
            · exact ih _ _ _ _
          · rw [show n + k + lf [c] = n + lf [c] + k by omega]; exact ih _ _ _ _
theorem piece_up (k : Nat) (ps : List Prt) (c : UInt8) (t : Bytes) (n : Nat) : piece ps c t (n + k) = Rup k (piece ps c t n) := by
  unfold piece
  split
  · split
    · rfl
    · simp only [Rup]; congr 3; omega
  · split
    · exact double_up k _ _ _ _ _
    · split
      · split
        · rfl
        · split
          · simp only [Rup]; congr 3; omega
          · rfl
      · split
        · exact dollar_up k _ _ _ _
        · rfl
theorem word_up (k : Nat) : ∀ (f : Nat) (ps : List Prt) (l : Bytes) (n : Nat), word f (ps, l, n + k) = Rup k (word f (ps, l, n)) := by
  intro f
  induction f with
  | zero => intro ps l n; rfl
  | succ f ih =>
    intro ps l n
    cases l with
    | nil => rfl
    | cons c t =>
      rw [word_cons, word_cons]
      split
      · rfl
      · rw [piece_up]
        cases piece ps c t n with
        | bad m => rfl
        | ok z => obtain ⟨z1, z2, z3⟩ := z; exact ih _ _ _
theorem ioS_up (k : Nat) (l : Bytes) (fd : Int) (n0 n : Nat) : ioS l fd (n0 + k) (n + k) = (ioS l fd n0 n).up k := by
  unfold ioS
  split <;> rfl
theorem step_up (k : Nat) (c : UInt8) (t : Bytes) (n : Nat) : step c t (n + k) = (step c t n).up k := by
  unfold step
  split
  · rfl
  · split
    · rfl
    · split
      · simp only [Step.up, Tok.up]; congr 1; omega
      · split
        · split <;> rfl
        · split
          · rfl
          · split
            · exact ioS_up k _ _ _ _
            · split
              · simp only [Step.up]; congr 1; omega
              · rw [word_up]
                cases word (t.length + 2) ([], c :: t, n) with
                | bad m => rfl
                | ok z =>
                  obtain ⟨ps, r, m⟩ := z
                  simp only [Rup]
                  split
                  · split
                    · exact ioS_up k _ _ _ _
                    · rfl
                  · rfl
theorem rawl_up (k : Nat) : ∀ (d : Nat) (l : Bytes) (n : Nat), l.length ≤ d → rawl l (n + k) = ((rawl l n).1.map (Tok.up k), (rawl l n).2.up k) := by
  intro d
  induction d with
  | zero =>
    intro l n hl
    obtain rfl := List.eq_nil_of_length_eq_zero (Nat.le_zero.1 hl)
    rfl
  | succ d ih =>
    intro l n hl
    cases l with
    | nil => rfl
    | cons c t =>
      have hlt := step_lt c t n
      rw [rawl_cons, rawl_cons, step_up]
      cases hs : step c t n with
      | bad m => rfl
      | skip r m =>
        rw [hs] at hlt
        simp only [Step.rest, List.length_cons] at hlt hl
        simp only [Step.up]
        exact ih r m (by omega)
      | tok x r m =>
        rw [hs] at hlt
        simp only [Step.rest, List.length_cons] at hlt hl
        simp only [Step.up]
        rw [ih r m (by omega)]; rfl
/-! The theorem on two scripts. -/
theorem rawl_lf (b : Bytes) (m : Nat) : rawl (10 :: b) m = (⟨3, [], [], [], -1, m⟩ :: (rawl b (m + 1)).1, (rawl b (m + 1)).2) := by
  rw [rawl_cons]; rfl
theorem rawl_join (a b : Bytes) (n m : Nat) (h : (rawl a n).2 = .fin m) (he : a.getLast? ≠ some 92) : rawl (a ++ 10 :: b) n = ((rawl a n).1 ++ ⟨3, [], [], [], -1, m⟩ :: (rawl b (m + 1)).1, (rawl b (m + 1)).2) := by
  rw [rawl_more (.inl rfl) b (fun m => rfl) _ a n m (Nat.le_refl _) h he, rawl_lf]
/-- Blanks. -/
def blank (c : UInt8) : Prop := c = 32 ∨ c = 9
theorem rawl_blank {c : UInt8} (h : blank c) (t : Bytes) (n : Nat) : rawl (c :: t) n = rawl t n := by
  rw [rawl_cons]
  have : step c t n = .skip t n := by unfold step; rw [if_pos (show c = 32 ∨ c = 9 from h)]
  rw [this]
theorem rawl_blanks : ∀ (u t : Bytes) (n : Nat), (∀ c ∈ u, blank c) → rawl (u ++ t) n = rawl t n
  | [], t, n, _ => rfl
  | c :: u, t, n, h => by
    rw [List.cons_append, rawl_blank (h c (by simp)), rawl_blanks u t n (fun d hd => h d (List.mem_cons_of_mem _ hd))]
theorem rawl_comment (u t : Bytes) (n : Nat) (h : 10 ∉ u) : rawl (35 :: (u ++ 10 :: t)) n = rawl (10 :: t) n := by
  rw [rawl_cons]
  have hs : step 35 (u ++ 10 :: t) n = .skip ((u ++ 10 :: t).dropWhile (· != 10)) n := rfl
  rw [hs]
  simp only
  rw [drop_none _ u _ (fun c hc => by rw [bne_iff_ne]; rintro rfl; exact h hc)]
  rfl
theorem rawl_continue (t : Bytes) (n : Nat) : rawl (92 :: 10 :: t) n = rawl t (n + 1) := by
  rw [rawl_cons]; rfl
/-- Blanks behind a script change nothing. -/
theorem rawl_after (s u : Bytes) (hu : ∀ c ∈ u, blank c) (n m : Nat) (h : (rawl s n).2 = .fin m) (he : s.getLast? ≠ some 92) : rawl (s ++ u) n = rawl s n := by
  cases u with
  | nil => rw [List.append_nil]
  | cons y x =>
    have hy : gap y := by rcases hu y (by simp) with h | h <;> subst h; exact .inr (.inl rfl); exact .inr (.inr rfl)
    have hb : ∀ m, rawl (y :: x) m = ([], .fin m) := fun m => by
      have := rawl_blanks (y :: x) [] m hu
      rw [List.append_nil] at this; rw [this]; rfl
    rw [rawl_more hy x (fun m => by
      rw [drop_all _ _ (fun c hc => by rw [bne_iff_ne]; rintro rfl; rcases hu 10 hc with h | h <;> cases h), hb m]; rfl) _ s n m (Nat.le_refl _) h he, hb m, List.append_nil, ← h]
/-- .. and a comment before a line feed. -/
theorem rawl_tail (s u w : Bytes) (hu : ∀ c ∈ u, blank c) (hw : 10 ∉ w) (hne : u ≠ []) (n m : Nat) (h : (rawl s n).2 = .fin m) (he : s.getLast? ≠ some 92) :
    rawl (s ++ (u ++ 35 :: (w ++ [10]))) n = ((rawl s n).1 ++ [⟨3, [], [], [], -1, m⟩], .fin (m + 1)) := by
  obtain ⟨y, x, rfl⟩ : ∃ y x, u = y :: x := by cases u with
    | nil => exact absurd rfl hne
    | cons y x => exact ⟨y, x, rfl⟩
  have hy : gap y := by rcases hu y (by simp) with h | h <;> subst h; exact .inr (.inl rfl); exact .inr (.inr rfl)
  have hb : ∀ m, rawl (y :: x ++ 35 :: (w ++ [10])) m = rawl [10] m := fun m => by
    rw [rawl_blanks (y :: x) _ m hu, rawl_comment w [] m hw]
  have hd : ∀ m, rawl ((y :: (x ++ 35 :: (w ++ [10]))).dropWhile (· != 10)) m = rawl (y :: (x ++ 35 :: (w ++ [10]))) m := fun m => by
    have e : (y :: (x ++ 35 :: (w ++ [10]))).dropWhile (· != 10) = [10] := by
      have e1 : y :: (x ++ 35 :: (w ++ [10])) = (y :: x ++ 35 :: w) ++ [10] := by simp
      rw [e1, drop_none _ _ _ (fun c hc => by
        rw [bne_iff_ne]; rintro rfl
        rcases List.mem_append.1 hc with hc | hc
        · rcases hu 10 hc with h | h <;> cases h
        · rcases List.mem_cons.1 hc with h | hc
          · cases h
          · exact hw hc)]
      rfl
    rw [e]; exact (hb m).symm
  have := rawl_more hy (x ++ 35 :: (w ++ [10])) hd _ s n m (Nat.le_refl _) h he
  rw [List.cons_append, this]
  have h2 := hb m
  rw [List.cons_append] at h2
  rw [h2]; rfl
/-! Quoting. -/
theorem addT_text (a b : Bytes) : addT [⟨0, a, true⟩] b true = [⟨0, a ++ b, true⟩] := rfl
theorem brk_none {c : UInt8} : ∀ (s r : Bytes), c ∉ s → brk c (s ++ c :: r) = some (s, r)
  | [], r, _ => by rw [List.nil_append, brk, if_pos rfl]
  | d :: s, r, h => by
    rw [List.cons_append, brk, if_neg (fun e => h (by rw [e]; simp)), brk_none s r (fun hm => h (List.mem_cons_of_mem _ hm))]; rfl
def de (c : UInt8) : Bytes := if esc c then [92, c] else [c]
def dq (s : Bytes) : Bytes := 34 :: (s.flatMap de ++ [34])
theorem double_text (n0 : Nat) (r : Bytes) : ∀ (s acc : Bytes) (f n : Nat), s.length < f → double f n0 ([⟨0, acc, true⟩], s.flatMap de ++ 34 :: r, n) = .ok ([⟨0, acc ++ s, true⟩], r, n + lf s)
  | [], acc, f, n, h => by
    obtain ⟨f, rfl⟩ : ∃ f', f = f' + 1 := ⟨f - 1, by simp at h; omega⟩
    rw [List.flatMap_nil, List.nil_append, double_cons, if_pos rfl, List.append_nil]; rfl
  | c :: s, acc, f, n, h => by
    simp only [List.length_cons] at h
    obtain ⟨f, rfl⟩ : ∃ f', f = f' + 1 := ⟨f - 1, by omega⟩
    have e1 : (acc ++ [c]) ++ s = acc ++ c :: s := by simp
    have ih := fun n => double_text n0 r s (acc ++ [c]) f n (by omega)
    rw [e1] at ih
    rw [List.flatMap_cons]
    unfold de
    cases he : esc c
    · have hc : c ≠ 34 ∧ c ≠ 36 ∧ c ≠ 92 := by
        refine ⟨?_, ?_, ?_⟩ <;> (rintro rfl; cases he)
      simp only [Bool.false_eq_true, if_false, List.cons_append, List.nil_append]
      rw [double_cons, if_neg hc.1, if_neg hc.2.1, if_neg hc.2.2, addT_text]
      rw [show n + lf (c :: s) = n + lf [c] + lf s by unfold lf; rw [show c :: s = [c] ++ s from rfl, List.count_append]; omega]
      exact ih _
    · have hn : lf [c] = 0 := by
        have : c ≠ 10 := by rintro rfl; cases he
        unfold lf; simp [this]
      simp only [if_true, List.cons_append, List.nil_append]
      rw [double_cons, if_neg (by decide), if_neg (by decide), if_pos rfl]
      simp only [he, if_true]
      rw [addT_text]
      rw [show n + lf (c :: s) = n + lf s by unfold lf at hn ⊢; rw [show c :: s = [c] ++ s from rfl, List.count_append, hn]; omega]
      exact ih _
def stop (r : Bytes) : Prop := r = [] ∨ ∃ c t, r = c :: t ∧ ends c = true
theorem word_stop (f : Nat) (ps : List Prt) (r : Bytes) (n : Nat) (h : stop r) : word f (ps, r, n) = .ok (ps, r, n) := by
  cases f with
  | zero => rfl
  | succ f =>
    rcases h with rfl | ⟨c, t, rfl, h⟩
    · rfl
    · rw [word_cons, if_pos h]
def wordT (ps : List Prt) (n : Nat) : Tok := ⟨0, [], plainOf ps, ps, -1, n⟩
/-- A word of one quoted text. -/
def quo (s : Bytes) (n : Nat) : Tok := ⟨0, [], [], [⟨0, s, true⟩], -1, n⟩
/-- A step that begins a word. -/
theorem step_word {c : UInt8} {t r : Bytes} {n m : Nat} {ps : List Prt} (hc : ends c = false) (h35 : c ≠ 35) (h92 : ¬ (c = 92 ∧ t.head? = some 10)) (hw : word (t.length + 2) ([], c :: t, n) = .ok (ps, r, m)) (hn : number (plainOf ps) = none) : step c t n = .tok (wordT ps n) r m := by
  have e : ¬ (c = 32 ∨ c = 9) ∧ c ≠ 10 ∧ ¬ (c = 124 ∨ c = 38 ∨ c = 59) ∧ ¬ (c = 40 ∨ c = 41) ∧ ¬ (c = 60 ∨ c = 62) := by
    refine ⟨?_, ?_, ?_, ?_, ?_⟩
    · rintro (rfl | rfl) <;> cases hc
    · rintro rfl; cases hc
    · rintro (rfl | rfl | rfl) <;> cases hc
    · rintro (rfl | rfl) <;> cases hc
    · rintro (rfl | rfl) <;> cases hc
  unfold step
  rw [if_neg e.1, if_neg h35, if_neg e.2.1, if_neg e.2.2.1, if_neg e.2.2.2.1, if_neg e.2.2.2.2, if_neg h92, hw]
  simp only
  rw [hn]; rfl
theorem rawl_dq (s r : Bytes) (n : Nat) (h : stop r) : rawl (dq s ++ r) n = (quo s n :: (rawl r (n + lf s)).1, (rawl r (n + lf s)).2) := by
  have e : dq s ++ r = 34 :: (s.flatMap de ++ 34 :: r) := by simp [dq]
  rw [e, rawl_cons]
  have hlen : s.length ≤ (s.flatMap de).length := by
    have : ∀ l : Bytes, l.length ≤ (l.flatMap de).length := by
      intro l
      induction l with
      | nil => simp
      | cons c l ih =>
        rw [List.flatMap_cons, List.length_append, List.length_cons]
        have : 1 ≤ (de c).length := by unfold de; split <;> simp
        omega
    exact this s
  have hw : word ((s.flatMap de ++ 34 :: r).length + 2) ([], 34 :: (s.flatMap de ++ 34 :: r), n) = .ok ([⟨0, s, true⟩], r, n + lf s) := by
    rw [word_cons, if_neg (by decide)]
    have hp : piece [] 34 (s.flatMap de ++ 34 :: r) n = .ok ([⟨0, s, true⟩], r, n + lf s) := by
      unfold piece
      rw [if_neg (by decide), if_pos rfl]
      have := double_text n r s [] ((s.flatMap de ++ 34 :: r).length + 1) n (by rw [List.length_append]; omega)
      rw [List.nil_append] at this
      exact this
    rw [hp]
    exact word_stop _ _ _ _ h
  rw [step_word (by decide) (by decide) (by rintro ⟨h, _⟩; cases h) hw rfl]
  rfl
theorem rawl_sq (s r : Bytes) (n : Nat) (h39 : 39 ∉ s) (h : stop r) : rawl (39 :: (s ++ 39 :: r)) n = (quo s n :: (rawl r (n + lf s)).1, (rawl r (n + lf s)).2) := by
  rw [rawl_cons]
  have hw : word ((s ++ 39 :: r).length + 2) ([], 39 :: (s ++ 39 :: r), n) = .ok ([⟨0, s, true⟩], r, n + lf s) := by
    rw [word_cons, if_neg (by decide)]
    have hp : piece [] 39 (s ++ 39 :: r) n = .ok ([⟨0, s, true⟩], r, n + lf s) := by
      unfold piece
      rw [if_pos rfl, brk_none s r h39]; rfl
    rw [hp]
    exact word_stop _ _ _ _ h
  rw [step_word (by decide) (by decide) (by rintro ⟨h, _⟩; cases h) hw rfl]
  rfl
theorem word_back (n : Nat) : ∀ (s acc : Bytes) (f : Nat), s.length < f → 10 ∉ s → word f ([⟨0, acc, true⟩], s.flatMap (fun c => [92, c]), n) = .ok ([⟨0, acc ++ s, true⟩], [], n)
  | [], acc, f, h, _ => by
    rw [List.flatMap_nil, word_stop _ _ _ _ (.inl rfl), List.append_nil]
  | c :: s, acc, f, h, h10 => by
    simp only [List.length_cons] at h
    obtain ⟨f, rfl⟩ : ∃ f', f = f' + 1 := ⟨f - 1, by omega⟩
    rw [List.flatMap_cons, List.cons_append, List.cons_append, List.nil_append, word_cons, if_neg (by decide)]
    have hp : piece [⟨0, acc, true⟩] 92 (c :: s.flatMap (fun c => [92, c])) n = .ok ([⟨0, acc ++ [c], true⟩], s.flatMap (fun c => [92, c]), n) := by
      unfold piece
      rw [if_neg (by decide), if_neg (by decide), if_pos rfl]
      simp only
      rw [if_neg (fun e => h10 (by rw [e]; simp)), addT_text]
    rw [hp]
    simp only
    rw [word_back n s (acc ++ [c]) f (by omega) (fun hm => h10 (List.mem_cons_of_mem _ hm))]
    simp
theorem rawl_back (s : Bytes) (n : Nat) (hs : s ≠ []) (h10 : 10 ∉ s) : rawl (s.flatMap (fun c => [92, c])) n = ([quo s n], .fin n) := by
  obtain ⟨c, t, rfl⟩ : ∃ c t, s = c :: t := by cases s with
    | nil => exact absurd rfl hs
    | cons c t => exact ⟨c, t, rfl⟩
  have hc : c ≠ 10 := fun e => h10 (by rw [e]; simp)
  have ht : 10 ∉ t := fun hm => h10 (List.mem_cons_of_mem _ hm)
  rw [List.flatMap_cons, List.cons_append, List.cons_append, List.nil_append, rawl_cons]
  have hlen : t.length ≤ (t.flatMap fun c => [92, c]).length := by
    have : ∀ l : Bytes, l.length ≤ (l.flatMap fun c => [(92 : UInt8), c]).length := by
      intro l
      induction l with
      | nil => simp
      | cons c l ih => rw [List.flatMap_cons, List.length_append, List.length_cons]; simp only [List.length_cons, List.length_nil]; omega
    exact this t
  have hw : word ((c :: t.flatMap fun c => [92, c]).length + 2) ([], 92 :: (c :: t.flatMap fun c => [92, c]), n) = .ok ([⟨0, c :: t, true⟩], [], n) := by
    rw [word_cons, if_neg (by decide)]
    have hp : piece [] 92 (c :: t.flatMap fun c => [92, c]) n = .ok ([⟨0, [c], true⟩], t.flatMap (fun c => [92, c]), n) := by
      unfold piece
      rw [if_neg (by decide), if_neg (by decide), if_pos rfl]
      simp only
      rw [if_neg hc]; rfl
    rw [hp]
    simp only
    have := word_back n t [c] ((c :: t.flatMap fun c => [92, c]).length + 1) (by simp only [List.length_cons]; omega) ht
    exact this
  rw [step_word (by decide) (by decide) (by rintro ⟨_, h⟩; simp at h; exact hc h) hw rfl]
  rfl
theorem rawl_x (c : UInt8) (hc : alpha c = true) (r : Bytes) (n : Nat) (h : stop r) : rawl (c :: r) n = (⟨0, [], [c], [⟨0, [c], false⟩], -1, n⟩ :: (rawl r n).1, (rawl r n).2) := by
  have hd : digit c = false ∧ ends c = false ∧ c ≠ 35 ∧ c ≠ 39 ∧ c ≠ 34 ∧ c ≠ 92 ∧ c ≠ 36 := by
    refine ⟨?_, ?_, ?_, ?_, ?_, ?_, ?_⟩
    · unfold alpha at hc
      unfold digit
      simp at hc ⊢
      intro h
      rcases hc with (hc | hc) | hc
      · subst hc; decide
      · omega
      · omega
    · cases he : ends c
      · rfl
      · exfalso
        unfold ends at he
        simp only [Bool.or_eq_true, beq_iff_eq] at he
        rcases he with ((((((((he | he) | he) | he) | he) | he) | he) | he) | he) | he <;> (subst he; cases hc)
    all_goals (rintro rfl; cases hc)
  rw [rawl_cons]
  have hw : word (r.length + 2) ([], c :: r, n) = .ok ([⟨0, [c], false⟩], r, n) := by
    rw [word_cons, if_neg (by rw [hd.2.1]; decide)]
    have hp : piece [] c r n = .ok ([⟨0, [c], false⟩], r, n) := by
      unfold piece
      rw [if_neg hd.2.2.2.1, if_neg hd.2.2.2.2.1, if_neg hd.2.2.2.2.2.1, if_neg hd.2.2.2.2.2.2]; rfl
    rw [hp]
    exact word_stop _ _ _ _ h
  rw [step_word hd.2.1 hd.2.2.1 (by rintro ⟨h, _⟩; exact hd.2.2.2.2.2.1 h) hw (by
    show number [c] = none
    unfold number
    simp [hd.1])]
  rfl
/-- Between two other words. -/
theorem rawl_between (s : Bytes) (n : Nat) : rawl (120 :: 32 :: (dq s ++ [124, 121])) n = ([⟨0, [], [120], [⟨0, [120], false⟩], -1, n⟩, quo s n, opT [124] (n + lf s), ⟨0, [], [121], [⟨0, [121], false⟩], -1, n + lf s⟩], .fin (n + lf s)) := by
  rw [rawl_x 120 (by decide) _ _ (.inr ⟨32, _, rfl, by decide⟩), rawl_blank (.inl rfl), rawl_dq s [124, 121] n (.inr ⟨124, _, rfl, by decide⟩)]
  have h2 : rawl [124, 121] (n + lf s) = (opT [124] (n + lf s) :: (rawl [121] (n + lf s)).1, (rawl [121] (n + lf s)).2) := by
    rw [rawl_cons]; rfl
  have h3 : rawl [121] (n + lf s) = ([⟨0, [], [121], [⟨0, [121], false⟩], -1, n + lf s⟩], .fin (n + lf s)) := rawl_x 121 (by decide) [] _ (.inl rfl)
  rw [h2, h3]
/-! A script within parentheses is read again as it was. -/
def closer : Option Nat → UInt8
  | some _ => 41
  | none => 34
theorem scan_head : ∀ (f : Nat) (m : Option Nat) (t : Bytes) (e : UInt8) (x r : Bytes), scan f m t = some (e :: x, r) → t.head? = some e := by
  intro f m t e x r h
  cases f with
  | zero => cases m <;> cases h
  | succ f =>
    cases t with
    | nil => cases m <;> cases h
    | cons c t =>
      have one : ∀ (o : Option (Bytes × Bytes)) (g : Bytes → Bytes), (o.map fun x => (c :: g x.1, x.2)) = some (e :: x, r) → c = e := by
        intro o g h
        cases o with
        | none => cases h
        | some y => simp only [Option.map_some, Option.some.injEq, Prod.mk.injEq, List.cons.injEq] at h; exact h.1.1
      have two : ∀ (o o' : Option (Bytes × Bytes)) (g : Bytes → Bytes → Bytes) (k : Bytes × Bytes → Option (Bytes × Bytes)), (o.bind fun y => (k y).map fun x => (c :: g y.1 x.1, x.2)) = some (e :: x, r) → c = e := by
        intro o o' g k h
        cases o with
        | none => cases h
        | some y => simp only [Option.bind_some] at h; exact one _ _ h
      show some c = some e
      congr 1
      cases m with
      | some d =>
        rw [scan_some] at h
        split at h
        · rename_i hc; subst hc
          split at h
          · cases h
          · exact one _ (fun z => _ :: z) h
        · split at h
          · rename_i hc; subst hc; exact two _ none (fun a b => a ++ 39 :: b) _ h
          · split at h
            · rename_i hc; subst hc; exact two _ none (fun a b => a ++ 34 :: b) _ h
            · split at h
              · rename_i hc; subst hc; exact one _ id h
              · split at h
                · rename_i hc; subst hc
                  split at h
                  · cases h
                  · exact one _ id h
                · exact one _ id h
      | none =>
        rw [scan_none] at h
        split at h
        · cases h
        · split at h
          · rename_i hc; subst hc
            split at h
            · cases h
            · exact one _ (fun z => _ :: z) h
          · split at h
            · rename_i hc; obtain ⟨hc, _⟩ := hc; subst hc; exact two _ none (fun a b => 40 :: (a ++ 41 :: b)) _ h
            · exact one _ id h
theorem scan_pre : ∀ (f : Nat) (m : Option Nat) (s a r : Bytes), scan f m s = some (a, r) → ∀ (g : Nat) (x : Bytes), f ≤ g → scan g m (a ++ closer m :: x) = some (a, x) := by
  intro f
  induction f with
  | zero => intro m s a r h; cases m <;> cases h
  | succ f ih =>
    intro m s a r h g x hg
    obtain ⟨g, rfl⟩ : ∃ g', g = g' + 1 := ⟨g - 1, by omega⟩
    cases s with
    | nil => cases m <;> cases h
    | cons c t =>
      have get : ∀ (o : Option (Bytes × Bytes)) (k : Bytes → Bytes), (o.map fun x => (k x.1, x.2)) = some (a, r) → ∃ y, o = some (y, r) ∧ a = k y := by
        intro o k h
        cases o with
        | none => cases h
        | some y =>
          obtain ⟨y1, y2⟩ := y
          simp only [Option.map_some, Option.some.injEq, Prod.mk.injEq] at h
          exact ⟨y1, by rw [h.2], h.1.symm⟩
      cases m with
      | some d =>
        rw [scan_some] at h
        by_cases h92 : c = 92
        · subst h92
          rw [if_pos rfl] at h
          cases t with
          | nil => cases h
          | cons e t' =>
            obtain ⟨y, h1, rfl⟩ := get _ (fun z => 92 :: e :: z) h
            rw [List.cons_append, List.cons_append, scan_some, if_pos rfl]
            simp only
            rw [ih _ _ _ _ h1 g x (by omega)]; rfl
        rw [if_neg h92] at h
        by_cases h39 : c = 39
        · subst h39
          rw [if_pos rfl] at h
          cases hb : brk 39 t with
          | none => rw [hb] at h; cases h
          | some z =>
            obtain ⟨z1, z2⟩ := z
            rw [hb] at h
            simp only [Option.bind_some] at h
            obtain ⟨y, h1, rfl⟩ := get _ (fun w => 39 :: (z1 ++ 39 :: w)) h
            have := brk_none z1 (y ++ closer (some d) :: x) (brk_text hb).2
            rw [List.cons_append, List.append_assoc, List.cons_append, scan_some, if_neg (by decide), if_pos rfl, this]
            simp only [Option.bind_some]
            rw [ih _ _ _ _ h1 g x (by omega)]; rfl
        rw [if_neg h39] at h
        by_cases h34 : c = 34
        · subst h34
          rw [if_pos rfl] at h
          cases hb : scan f none t with
          | none => rw [hb] at h; cases h
          | some z =>
            obtain ⟨z1, z2⟩ := z
            rw [hb] at h
            simp only [Option.bind_some] at h
            obtain ⟨y, h1, rfl⟩ := get _ (fun w => 34 :: (z1 ++ 34 :: w)) h
            have := ih _ _ _ _ hb g (y ++ closer (some d) :: x) (by omega)
            rw [List.cons_append, List.append_assoc, List.cons_append, scan_some, if_neg (by decide), if_neg (by decide), if_pos rfl]
            rw [show closer none = 34 from rfl] at this
            rw [this]
            simp only [Option.bind_some]
            rw [ih _ _ _ _ h1 g x (by omega)]; rfl
        rw [if_neg h34] at h
        by_cases h40 : c = 40
        · subst h40
          rw [if_pos rfl] at h
          obtain ⟨y, h1, rfl⟩ := get _ (fun w => 40 :: w) h
          rw [List.cons_append, scan_some, if_neg (by decide), if_neg (by decide), if_neg (by decide), if_pos rfl]
          have := ih _ _ _ _ h1 g x (by omega)
          rw [show closer (some (d + 1)) = closer (some d) from rfl] at this
          rw [this]; rfl
        rw [if_neg h40] at h
        by_cases h41 : c = 41
        · subst h41
          rw [if_pos rfl] at h
          by_cases hd : d = 1
          · subst hd
            rw [if_pos rfl] at h
            simp only [Option.some.injEq, Prod.mk.injEq] at h
            obtain ⟨rfl, rfl⟩ := h
            rfl
          · rw [if_neg hd] at h
            obtain ⟨y, h1, rfl⟩ := get _ (fun w => 41 :: w) h
            rw [List.cons_append, scan_some, if_neg (by decide), if_neg (by decide), if_neg (by decide), if_neg (by decide), if_pos rfl, if_neg hd]
            have := ih _ _ _ _ h1 g x (by omega)
            rw [show closer (some (d - 1)) = closer (some d) from rfl] at this
            rw [this]; rfl
        · rw [if_neg h41] at h
          obtain ⟨y, h1, rfl⟩ := get _ (fun w => c :: w) h
          rw [List.cons_append, scan_some, if_neg h92, if_neg h39, if_neg h34, if_neg h40, if_neg h41, ih _ _ _ _ h1 g x (by omega)]; rfl
      | none =>
        rw [scan_none] at h
        by_cases h34 : c = 34
        · rw [if_pos h34] at h
          simp only [Option.some.injEq, Prod.mk.injEq] at h
          obtain ⟨rfl, rfl⟩ := h
          rfl
        rw [if_neg h34] at h
        by_cases h92 : c = 92
        · subst h92
          rw [if_pos rfl] at h
          cases t with
          | nil => cases h
          | cons e t' =>
            obtain ⟨y, h1, rfl⟩ := get _ (fun z => 92 :: e :: z) h
            rw [List.cons_append, List.cons_append, scan_none, if_neg (by decide), if_pos rfl]
            simp only
            rw [ih _ _ _ _ h1 g x (by omega)]; rfl
        rw [if_neg h92] at h
        by_cases h36 : c = 36 ∧ t.head? = some 40
        · rw [if_pos h36] at h
          obtain ⟨rfl, _⟩ := h36
          cases hb : scan f (some 1) (t.drop 1) with
          | none => rw [hb] at h; cases h
          | some z =>
            obtain ⟨z1, z2⟩ := z
            rw [hb] at h
            simp only [Option.bind_some] at h
            obtain ⟨y, h1, rfl⟩ := get _ (fun w => 36 :: 40 :: (z1 ++ 41 :: w)) h
            have := ih _ _ _ _ hb g (y ++ closer none :: x) (by omega)
            rw [List.cons_append, List.cons_append, List.append_assoc, List.cons_append, scan_none, if_neg (by decide), if_neg (by decide), if_pos ⟨rfl, rfl⟩]
            rw [show closer (some 1) = 41 from rfl] at this
            simp only [List.drop_succ_cons, List.drop_zero]
            rw [this]
            simp only [Option.bind_some]
            rw [ih _ _ _ _ h1 g x (by omega)]; rfl
        · rw [if_neg h36] at h
          obtain ⟨y, h1, rfl⟩ := get _ (fun w => c :: w) h
          have hn : ¬ (c = 36 ∧ (y ++ closer none :: x).head? = some 40) := by
            rintro ⟨e1, e2⟩
            cases y with
            | nil => cases e2
            | cons e y =>
              have := scan_head _ _ _ _ _ _ h1
              simp only [List.cons_append, List.head?_cons] at e2
              injection e2 with e2
              exact h36 ⟨e1, by rw [this, e2]⟩
          rw [List.cons_append, scan_none, if_neg h34, if_neg h92, if_neg hn, ih _ _ _ _ h1 g x (by omega)]; rfl
theorem scan_fuel : ∀ (f g : Nat) (m : Option Nat) (s : Bytes), s.length < f → s.length < g → scan f m s = scan g m s := by
  intro f
  induction f with
  | zero => intro g m s h; omega
  | succ f ih =>
    intro g m s hf hg
    obtain ⟨g, rfl⟩ : ∃ g', g = g' + 1 := ⟨g - 1, by omega⟩
    cases s with
    | nil => cases m <;> rfl
    | cons c t =>
      simp only [List.length_cons] at hf hg
      have st : ∀ m', scan f m' t = scan g m' t := fun m' => ih g m' t (by omega) (by omega)
      cases m with
      | some d =>
        rw [scan_some, scan_some]
        split
        · split
          · rfl
          · rename_i e t'
            simp only [List.length_cons] at hf hg
            rw [ih g _ t' (by omega) (by omega)]
        · split
          · cases hb : brk 39 t with
            | none => rfl
            | some y =>
              obtain ⟨y1, y2⟩ := y
              have := congrArg List.length (brk_text hb).1
              simp only [List.length_append, List.length_cons] at this
              simp only [Option.bind_some]
              rw [ih g _ y2 (by omega) (by omega)]
          · split
            · rw [st]
              cases hb : scan g none t with
              | none => rfl
              | some y =>
                obtain ⟨y1, y2⟩ := y
                have := scan_len _ _ _ _ _ hb
                simp only [Option.bind_some]
                rw [ih g _ y2 (by omega) (by omega)]
            · split
              · rw [st]
              · split
                · split
                  · rfl
                  · rw [st]
                · rw [st]
      | none =>
        rw [scan_none, scan_none]
        split
        · rfl
        · split
          · split
            · rfl
            · rename_i e t'
              simp only [List.length_cons] at hf hg
              rw [ih g _ t' (by omega) (by omega)]
          · split
            · rw [ih g (some 1) (t.drop 1) (by rw [List.length_drop]; omega) (by rw [List.length_drop]; omega)]
              cases hb : scan g (some 1) (t.drop 1) with
              | none => rfl
              | some y =>
                obtain ⟨y1, y2⟩ := y
                have := scan_len _ _ _ _ _ hb
                rw [List.length_drop] at this
                simp only [Option.bind_some]
                rw [ih g _ y2 (by omega) (by omega)]
            · rw [st]
/-- What stands within parentheses, with its end. -/
def SubOK (a : Bytes) : Prop := parens (a ++ [41]) = some (a, [])
theorem parens_ok {s a r : Bytes} (h : parens s = some (a, r)) : SubOK a := by
  unfold SubOK parens at *
  have h1 := scan_pre _ _ _ _ _ h (s.length + 1 + (a ++ [41]).length + 1) [] (by omega)
  rw [scan_fuel _ (s.length + 1 + (a ++ [41]).length + 1) _ _ (by omega) (by omega)]
  exact h1
/-- A variable's name, within braces. -/
def VarOK (a : Bytes) : Prop := a ≠ [] ∧ 125 ∉ a ∧ param a = a.length
theorem namedT_take : ∀ s : Bytes, namedT (s.take (namedT s)) = namedT s ∧ ∀ c ∈ s.take (namedT s), c ≠ 125
  | [] => by simp [namedT]
  | c :: t => by
    rw [namedT]
    split
    · rename_i h
      obtain ⟨h1, h2⟩ := namedT_take t
      rw [List.take_succ_cons, namedT, if_pos h, h1]
      refine ⟨rfl, fun d hd => ?_⟩
      rcases List.mem_cons.1 hd with rfl | hd
      · rintro rfl; revert h; decide
      · exact h2 d hd
    · simp [namedT]
theorem named_take (s : Bytes) : named (s.take (named s)) = named s ∧ ∀ c ∈ s.take (named s), c ≠ 125 := by
  cases s with
  | nil => simp [named]
  | cons c t =>
    rw [named]
    split
    · rename_i h
      obtain ⟨h1, h2⟩ := namedT_take t
      rw [List.take_succ_cons, named, if_pos h, h1]
      refine ⟨rfl, fun d hd => ?_⟩
      rcases List.mem_cons.1 hd with rfl | hd
      · rintro rfl; revert h; decide
      · exact h2 d hd
    · simp [named]
theorem param_named {s : Bytes} {n : Nat} (h : named s = n + 1) : param s = n + 1 := by unfold param; rw [h]
theorem param_one {c : UInt8} {t : Bytes} (h : named (c :: t) = 0) : param (c :: t) = if special c then 1 else 0 := by unfold param; rw [h]
theorem param_ok {s : Bytes} (h : 0 < param s) : VarOK (s.take (param s)) := by
  have hle := param_le s
  have hl : (s.take (param s)).length = param s := by rw [List.length_take]; omega
  have hne : s.take (param s) ≠ [] := fun e => by rw [e] at hl; simp at hl; omega
  unfold VarOK
  rw [hl]
  refine ⟨hne, ?_⟩
  cases hn : named s with
  | succ n =>
    rw [param_named hn]
    obtain ⟨h1, h2⟩ := named_take s
    rw [hn] at h1 h2
    exact ⟨fun hm => h2 _ hm rfl, param_named h1⟩
  | zero =>
    cases s with
    | nil => cases h
    | cons c t =>
      rw [param_one hn] at h ⊢
      by_cases hs : special c = true
      · rw [if_pos hs] at h ⊢
        have hc : alpha c = false := by
          rw [named] at hn
          cases ha : alpha c
          · rfl
          · rw [ha] at hn; simp at hn
        refine ⟨?_, ?_⟩
        · simp; rintro rfl; revert hs; decide
        · show param [c] = 1
          have : named [c] = 0 := by rw [named, hc]; rfl
          rw [param_one this, if_pos hs]
      · rw [if_neg hs] at h; omega
theorem brace_ok {s a r : Bytes} (h : brk 125 s = some (a, r)) (h2 : ¬ (a = [] ∨ param a ≠ a.length)) : VarOK a := by
  simp only [not_or, Decidable.not_not] at h2
  exact ⟨h2.1, (brk_text h).2, h2.2⟩
/-! The parts of a word. -/
def bareC (c : UInt8) : Bool := !ends c && c != 34 && c != 39 && c != 36 && c != 92
def bare (t : Bytes) : Prop := t ≠ [] ∧ ∀ c ∈ t, bareC c = true
def PartOK (p : Prt) : Prop := (p.k = 0 ∧ (p.q = false → bare p.t)) ∨ (p.k = 1 ∧ VarOK p.t) ∨ (p.k = 2 ∧ SubOK p.t)
/-- No two texts next to each other are alike. -/
def Adj : List Prt → Prop
  | [] => True
  | [_] => True
  | a :: b :: l => ¬ (a.k = 0 ∧ b.k = 0 ∧ a.q = b.q) ∧ Adj (b :: l)
def WF (ps : List Prt) : Prop := (∀ p ∈ ps, PartOK p) ∧ Adj ps
theorem wf_nil : WF [] := ⟨by simp, trivial⟩
theorem wf_tail {p : Prt} {ps : List Prt} (h : WF (p :: ps)) : WF ps := by
  refine ⟨fun q hq => h.1 q (List.mem_cons_of_mem _ hq), ?_⟩
  cases ps with
  | nil => trivial
  | cons a l => exact h.2.2
theorem addT_head (p : Prt) : ∀ (ps : List Prt) (s : Bytes) (q : Bool), ∃ p' l, addT (p :: ps) s q = p' :: l ∧ p'.k = p.k ∧ p'.q = p.q
  | [], s, q => by
    rw [addT]
    split
    · rename_i h; exact ⟨_, _, rfl, h.1.symm, h.2.symm⟩
    · exact ⟨_, _, rfl, rfl, rfl⟩
  | b :: l, s, q => ⟨_, _, rfl, rfl, rfl⟩
theorem addT_ne (ps : List Prt) (s : Bytes) (q : Bool) : addT ps s q ≠ [] := by
  cases ps with
  | nil => simp [addT]
  | cons p ps =>
    obtain ⟨p', l, h, _⟩ := addT_head p ps s q
    rw [h]; simp
theorem addT_wf : ∀ (ps : List Prt) (s : Bytes) (q : Bool), WF ps → (q = true ∨ bare s) → WF (addT ps s q)
  | [], s, q, _, hq => by
    refine ⟨fun p hp => ?_, trivial⟩
    simp only [addT, List.mem_singleton] at hp
    subst hp
    left
    refine ⟨rfl, fun h => ?_⟩
    rcases hq with e | e
    · simp only at h; rw [e] at h; cases h
    · exact e
  | [p], s, q, h, hq => by
    have hp := h.1 p (by simp)
    rw [addT]
    split
    · rename_i hk
      refine ⟨fun x hx => ?_, trivial⟩
      simp only [List.mem_singleton] at hx
      subst hx
      left
      refine ⟨rfl, fun hf => ?_⟩
      simp only at hf ⊢
      rcases hq with e | e
      · rw [e] at hf; cases hf
      · rcases hp with ⟨_, h2⟩ | ⟨h2, _⟩ | ⟨h2, _⟩
        · obtain ⟨b1, b2⟩ := h2 (by rw [hk.2]; exact hf)
          refine ⟨by simp [b1], fun c hc => ?_⟩
          rcases List.mem_append.1 hc with hc | hc
          · exact b2 c hc
          · exact e.2 c hc
        · rw [hk.1] at h2; cases h2
        · rw [hk.1] at h2; cases h2
    · rename_i hk
      refine ⟨fun x hx => ?_, ?_⟩
      · rcases List.mem_cons.1 hx with rfl | hx
        · exact hp
        · simp only [List.mem_singleton] at hx
          subst hx
          left
          refine ⟨rfl, fun hf => ?_⟩
          rcases hq with e | e
          · simp only at hf; rw [e] at hf; cases hf
          · exact e
      · exact ⟨fun e => hk ⟨e.1, e.2.2⟩, trivial⟩
  | p :: b :: l, s, q, h, hq => by
    have ih := addT_wf (b :: l) s q (wf_tail h) hq
    have e : addT (p :: b :: l) s q = p :: addT (b :: l) s q := rfl
    rw [e]
    obtain ⟨p', l', he, hk, hq'⟩ := addT_head b l s q
    rw [he] at ih ⊢
    refine ⟨fun x hx => ?_, ?_, ih.2⟩
    · rcases List.mem_cons.1 hx with rfl | hx
      · exact h.1 _ (by simp)
      · exact ih.1 x hx
    · rw [hk, hq']; exact h.2.1
theorem snoc_wf : ∀ (ps : List Prt) (p : Prt), WF ps → PartOK p → p.k ≠ 0 → WF (ps ++ [p])
  | [], p, _, hp, _ => ⟨fun x hx => by simp at hx; subst hx; exact hp, trivial⟩
  | [a], p, h, hp, hk => by
    refine ⟨fun x hx => ?_, fun e => hk e.2.1, trivial⟩
    simp only [List.cons_append, List.nil_append, List.mem_cons, List.not_mem_nil, or_false] at hx
    rcases hx with rfl | rfl
    · exact h.1 _ (by simp)
    · exact hp
  | a :: b :: l, p, h, hp, hk => by
    have ih := snoc_wf (b :: l) p (wf_tail h) hp hk
    refine ⟨fun x hx => ?_, h.2.1, ih.2⟩
    rcases List.mem_cons.1 hx with rfl | hx
    · exact h.1 _ (by simp)
    · exact ih.1 x hx
/-- What holds of a state within a word: well formed, and the line has not gone back. -/
def Good (n0 : Nat) (st : St) : Prop := WF st.1 ∧ st.1 ≠ [] ∧ n0 ≤ st.2.2
theorem dollar_good {ps : List Prt} {s : Bytes} {n n0 : Nat} {q : Bool} {st : St} (hw : WF ps) (hn : n0 ≤ n) (h : dollar ps s n q = .ok st) : Good n0 st := by
  unfold dollar at h
  split at h
  · cases hp : parens (s.drop 1) with
    | none => rw [hp] at h; cases h
    | some z =>
      obtain ⟨a, r⟩ := z
      rw [hp] at h
      injection h with h
      rw [← h]
      exact ⟨snoc_wf _ _ hw (.inr (.inr ⟨rfl, parens_ok hp⟩)) (by simp), by simp, by simp only; omega⟩
  · split at h
    · cases hp : brk 125 (s.drop 1) with
      | none => rw [hp] at h; cases h
      | some z =>
        obtain ⟨a, r⟩ := z
        rw [hp] at h
        simp only at h
        split at h
        · cases h
        · rename_i hc
          injection h with h
          rw [← h]
          exact ⟨snoc_wf _ _ hw (.inr (.inl ⟨rfl, brace_ok hp hc⟩)) (by simp), by simp, hn⟩
    · split at h
      · rename_i hpp
        injection h with h
        rw [← h]
        exact ⟨snoc_wf _ _ hw (.inr (.inl ⟨rfl, param_ok hpp⟩)) (by simp), by simp, hn⟩
      · injection h with h
        rw [← h]
        exact ⟨addT_wf _ _ _ hw (.inl rfl), addT_ne _ _ _, hn⟩
theorem double_good {m0 n0 : Nat} : ∀ (f : Nat) (ps : List Prt) (l : Bytes) (n : Nat) (st : St), WF ps → ps ≠ [] → n0 ≤ n → double f m0 (ps, l, n) = .ok st → Good n0 st := by
  intro f
  induction f with
  | zero => intro ps l n st _ _ _ h; cases h
  | succ f ih =>
    intro ps l n st hw hne hn h
    cases l with
    | nil => cases h
    | cons c t =>
      rw [double_cons] at h
      split at h
      · injection h with h; rw [← h]; exact ⟨hw, hne, hn⟩
      · split at h
        · cases hd : dollar ps t n true with
          | bad m => rw [hd] at h; cases h
          | ok z =>
            rw [hd] at h
            obtain ⟨z1, z2, z3⟩ := z
            obtain ⟨g1, g2, g3⟩ := dollar_good hw hn hd
            exact ih _ _ _ _ g1 g2 g3 h
        · have ha : ∀ s, WF (addT ps s true) := fun s => addT_wf _ _ _ hw (.inl rfl)
          split at h
          · split at h
            · split at h
              · exact ih _ _ _ _ (ha _) (addT_ne _ _ _) hn h
              · exact ih _ _ _ _ (ha _) (addT_ne _ _ _) hn h
            · exact ih _ _ _ _ (ha _) (addT_ne _ _ _) hn h
          · exact ih _ _ _ _ (ha _) (addT_ne _ _ _) (by omega) h
theorem piece_good {ps : List Prt} {c : UInt8} {t : Bytes} {n n0 : Nat} {st : St} (hw : WF ps) (hn : n0 ≤ n) (hc : ends c = false) (hne : ps ≠ [] ∨ ¬ (c = 92 ∧ t.head? = some 10)) (h : piece ps c t n = .ok st) : Good n0 st := by
  have ha : ∀ s, WF (addT ps s true) := fun s => addT_wf _ _ _ hw (.inl rfl)
  unfold piece at h
  split at h
  · cases hb : brk 39 t with
    | none => rw [hb] at h; cases h
    | some z =>
      obtain ⟨a, r⟩ := z
      rw [hb] at h
      injection h with h
      rw [← h]
      exact ⟨ha _, addT_ne _ _ _, by simp only; omega⟩
  · rename_i h39
    split at h
    · exact double_good _ _ _ _ _ (ha _) (addT_ne _ _ _) hn h
    · rename_i h34
      split at h
      · rename_i h92
        split at h
        · injection h with h; rw [← h]; exact ⟨ha _, addT_ne _ _ _, hn⟩
        · split at h
          · rename_i hd
            injection h with h; rw [← h]
            refine ⟨hw, ?_, by simp only; omega⟩
            rcases hne with e | e
            · exact e
            · exact absurd ⟨h92, by rw [hd]; rfl⟩ e
          · injection h with h; rw [← h]; exact ⟨ha _, addT_ne _ _ _, hn⟩
      · rename_i h92
        split at h
        · exact dollar_good hw hn h
        · rename_i h36
          injection h with h; rw [← h]
          refine ⟨addT_wf _ _ _ hw (.inr ⟨by simp, fun d hd => ?_⟩), addT_ne _ _ _, hn⟩
          simp at hd; subst hd
          unfold bareC
          simp [hc, h34, h39, h36, h92]
theorem word_good {n0 : Nat} : ∀ (f : Nat) (ps : List Prt) (l : Bytes) (n : Nat) (st : St), WF ps → ps ≠ [] → n0 ≤ n → word f (ps, l, n) = .ok st → Good n0 st := by
  intro f
  induction f with
  | zero => intro ps l n st hw hne hn h; injection h with h; rw [← h]; exact ⟨hw, hne, hn⟩
  | succ f ih =>
    intro ps l n st hw hne hn h
    cases l with
    | nil => rw [word] at h; injection h with h; rw [← h]; exact ⟨hw, hne, hn⟩
    | cons c t =>
      rw [word_cons] at h
      split at h
      · injection h with h; rw [← h]; exact ⟨hw, hne, hn⟩
      · rename_i hc
        cases hp : piece ps c t n with
        | bad m => rw [hp] at h; cases h
        | ok z =>
          rw [hp] at h
          obtain ⟨z1, z2, z3⟩ := z
          obtain ⟨g1, g2, g3⟩ := piece_good hw hn (by simpa using hc) (.inl hne) hp
          exact ih _ _ _ _ g1 g2 g3 h
def TokOK (t : Tok) : Prop := t.kind ≤ 3 ∧ (t.kind = 0 → WF t.parts ∧ t.parts ≠ [] ∧ t.plain = plainOf t.parts) ∧ (t.kind ≠ 0 → t.parts = [] ∧ t.plain = []) ∧ (t.kind ≠ 2 → t.fd = -1)
def Step.good (n : Nat) : Step → Prop
  | .skip _ m => n ≤ m
  | .tok t _ m => TokOK t ∧ t.line = n ∧ n ≤ m
  | .bad _ => True
theorem ioS_good (l : Bytes) (fd : Int) (n m : Nat) (h : n ≤ m) : (ioS l fd n m).good n := by
  unfold ioS
  split <;> exact ⟨⟨by simp [ioT], by simp [ioT], by simp [ioT], by simp [ioT]⟩, rfl, h⟩
theorem step_good (c : UInt8) (t : Bytes) (n : Nat) : (step c t n).good n := by
  have op : ∀ s, TokOK (opT s n) := fun s => ⟨by simp [opT], by simp [opT], by simp [opT], by simp [opT]⟩
  unfold step
  split
  · exact Nat.le_refl _
  · split
    · exact Nat.le_refl _
    · rename_i h32 h35
      split
      · exact ⟨⟨by simp, by simp, by simp, by simp⟩, rfl, by omega⟩
      · rename_i h10
        split
        · split
          · exact ⟨op _, rfl, Nat.le_refl _⟩
          · exact ⟨op _, rfl, Nat.le_refl _⟩
        · rename_i h124
          split
          · exact ⟨op _, rfl, Nat.le_refl _⟩
          · rename_i h40
            split
            · exact ioS_good _ _ _ _ (Nat.le_refl _)
            · rename_i h60
              split
              · show n ≤ n + 1; omega
              · rename_i h92
                cases hw : word (t.length + 2) ([], c :: t, n) with
                | bad m => trivial
                | ok st =>
                  obtain ⟨ps, r, m⟩ := st
                  have he : ends c = false := by
                    simp only [not_or] at h32 h124 h40 h60
                    unfold ends
                    simp [h32.1, h32.2, h10, h124.1, h124.2.1, h124.2.2, h40.1, h40.2, h60.1, h60.2]
                  have hg : Good n (ps, r, m) := by
                    rw [word_cons, he] at hw
                    simp only [Bool.false_eq_true, if_false] at hw
                    cases hp : piece [] c t n with
                    | bad m => rw [hp] at hw; cases hw
                    | ok z =>
                      rw [hp] at hw
                      obtain ⟨z1, z2, z3⟩ := z
                      obtain ⟨g1, g2, g3⟩ := piece_good wf_nil (Nat.le_refl n) he (.inr h92) hp
                      exact word_good _ _ _ _ _ g1 g2 g3 hw
                  obtain ⟨g1, g2, g3⟩ := hg
                  have hok : Step.good n (.tok ⟨0, [], plainOf ps, ps, -1, n⟩ r m) := ⟨⟨by simp, fun _ => ⟨g1, g2, rfl⟩, by simp, by simp⟩, rfl, g3⟩
                  simp only
                  split
                  · split
                    · exact ioS_good _ _ _ _ g3
                    · exact hok
                  · exact hok
/-- The lines do not go back. -/
def Lines : Nat → List Tok → Nat → Prop
  | n, [], m => n ≤ m
  | n, t :: ts, m => n ≤ t.line ∧ Lines t.line ts m
theorem Lines.weaken {a b : Nat} (h : a ≤ b) : ∀ {ts : List Tok} {m : Nat}, Lines b ts m → Lines a ts m
  | [], m, k => Nat.le_trans h k
  | t :: ts, m, k => ⟨Nat.le_trans h k.1, k.2⟩
theorem rawl_ok : ∀ (d : Nat) (l : Bytes) (n m : Nat), l.length ≤ d → (rawl l n).2 = .fin m → (∀ t ∈ (rawl l n).1, TokOK t) ∧ Lines n (rawl l n).1 m := by
  intro d
  induction d with
  | zero =>
    intro l n m hl h
    obtain rfl := List.eq_nil_of_length_eq_zero (Nat.le_zero.1 hl)
    rw [rawl_nil] at h ⊢
    injection h with h
    subst h
    exact ⟨by simp, Nat.le_refl _⟩
  | succ d ih =>
    intro l n m hl h
    cases l with
    | nil =>
      rw [rawl_nil] at h ⊢
      injection h with h
      subst h
      exact ⟨by simp, Nat.le_refl _⟩
    | cons c t =>
      have hlt := step_lt c t n
      have hg := step_good c t n
      rw [rawl_cons] at h ⊢
      cases hs : step c t n with
      | bad m => rw [hs] at h; cases h
      | skip r m' =>
        rw [hs] at h hlt hg
        simp only [Step.rest, List.length_cons] at hlt hl
        obtain ⟨h1, h2⟩ := ih r m' m (by omega) h
        exact ⟨h1, h2.weaken hg⟩
      | tok x r m' =>
        rw [hs] at h hlt hg
        simp only [Step.rest, List.length_cons] at hlt hl
        obtain ⟨h1, h2⟩ := ih r m' m (by omega) h
        obtain ⟨g1, g2, g3⟩ := hg
        refine ⟨fun z hz => ?_, by rw [g2]; exact Nat.le_refl _, ?_⟩
        · rcases List.mem_cons.1 hz with rfl | hz
          · exact g1
          · exact h1 z hz
        · exact h2.weaken (by rw [g2]; exact g3)
/-- Written again. -/
theorem rawl_var {a : Bytes} (h : VarOK a) (n : Nat) : rawl (36 :: 123 :: (a ++ [125])) n = ([wordT [⟨1, a, false⟩] n], .fin n) := by
  obtain ⟨h1, h2, h3⟩ := h
  rw [rawl_cons]
  have hw : word ((123 :: (a ++ [125])).length + 2) ([], 36 :: 123 :: (a ++ [125]), n) = .ok ([⟨1, a, false⟩], [], n) := by
    rw [word_cons, if_neg (by decide)]
    have hp : piece [] 36 (123 :: (a ++ [125])) n = .ok ([⟨1, a, false⟩], [], n) := by
      unfold piece
      rw [if_neg (by decide), if_neg (by decide), if_neg (by decide), if_pos rfl]
      unfold dollar
      rw [if_neg (by simp), if_pos (show (123 :: (a ++ [125])).head? = some 123 from rfl)]
      simp only [List.drop_succ_cons, List.drop_zero]
      rw [brk_none a [] h2]
      simp only
      rw [if_neg (by simp [h1, h3])]; rfl
    rw [hp]
    exact word_stop _ _ _ _ (.inl rfl)
  rw [step_word (by decide) (by decide) (by rintro ⟨h, _⟩; cases h) hw rfl]
  rfl
theorem rawl_sub {a : Bytes} (h : SubOK a) (n : Nat) : rawl (36 :: 40 :: (a ++ [41])) n = ([wordT [⟨2, a, false⟩] n], .fin (n + lf a)) := by
  rw [rawl_cons]
  have hw : word ((40 :: (a ++ [41])).length + 2) ([], 36 :: 40 :: (a ++ [41]), n) = .ok ([⟨2, a, false⟩], [], n + lf a) := by
    rw [word_cons, if_neg (by decide)]
    have hp : piece [] 36 (40 :: (a ++ [41])) n = .ok ([⟨2, a, false⟩], [], n + lf a) := by
      unfold piece
      rw [if_neg (by decide), if_neg (by decide), if_neg (by decide), if_pos rfl]
      unfold dollar
      rw [if_pos (show (40 :: (a ++ [41])).head? = some 40 from rfl)]
      simp only [List.drop_succ_cons, List.drop_zero]
      rw [h]; rfl
    rw [hp]
    exact word_stop _ _ _ _ (.inl rfl)
  rw [step_word (by decide) (by decide) (by rintro ⟨h, _⟩; cases h) hw rfl]
  rfl
end Go.Proofs.YtflfaobbfhjmmaaDoor
