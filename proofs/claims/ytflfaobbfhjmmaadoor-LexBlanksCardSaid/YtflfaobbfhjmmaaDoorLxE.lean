/- Words. Of no program. -/
import Derived.Test.YtflfaobbfhjmmaaDoorLxD
set_option linter.unusedVariables false
namespace Go.Proofs.YtflfaobbfhjmmaaDoor
open Go
theorem dbl_sz (n0 : Nat) : ∀ (f : Nat) (ps : List Prt) (l : Bytes) (n : Nat) (st : St), double f n0 (ps, l, n) = .ok st → sz st.1 + 2 * st.2.1.length ≤ sz ps + 2 * l.length ∧ n ≤ st.2.2 ∧ st.2.2 + st.2.1.length ≤ n + l.length ∧ st.2.1.length ≤ l.length := by
  intro f
  induction f with
  | zero => intro ps l n st h; cases h
  | succ f ih =>
    intro ps l n st h
    cases l with
    | nil => cases h
    | cons c t =>
      rw [double_cons] at h
      split at h
      · injection h with h; rw [← h]; simp only [List.length_cons]; omega
      · split at h
        · cases hd : dollar ps t n true with
          | bad m => rw [hd] at h; cases h
          | ok x =>
            obtain ⟨ps', r, m⟩ := x
            rw [hd] at h
            have h1 := dollar_sz hd
            have h2 := ih _ _ _ _ h
            simp only [List.length_cons] at h1 h2 ⊢
            omega
        · split at h
          · cases t with
            | nil =>
              have h2 := ih _ _ _ _ h
              have h3 := addT_sz ps [92] true
              simp only [List.length_cons, List.length_nil] at h2 h3 ⊢
              omega
            | cons d r =>
              change (if esc d then _ else _) = _ at h
              split at h
              · have h2 := ih _ _ _ _ h
                have h3 := addT_sz ps [d] true
                simp only [List.length_cons, List.length_nil] at h2 h3 ⊢
                omega
              · have h2 := ih _ _ _ _ h
                have h3 := addT_sz ps [92] true
                simp only [List.length_cons, List.length_nil] at h2 h3 ⊢
                omega
          · have h2 := ih _ _ _ _ h
            have h3 := addT_sz ps [c] true
            have h4 := lf_le [c]
            simp only [List.length_cons, List.length_nil] at h2 h3 h4 ⊢
            omega
theorem piece_sz {ps : List Prt} {c : UInt8} {t : Bytes} {n : Nat} {st : St} (h : piece ps c t n = .ok st) : sz st.1 + 2 * st.2.1.length ≤ sz ps + 2 * t.length + 2 ∧ n ≤ st.2.2 ∧ st.2.2 + st.2.1.length ≤ n + t.length ∧ st.2.1.length ≤ t.length := by
  unfold piece at h
  split at h
  · cases hb : brk 39 t with
    | none => rw [hb] at h; cases h
    | some y =>
      obtain ⟨a, r⟩ := y
      rw [hb] at h
      injection h with h; rw [← h]
      have h1 := congrArg List.length (brk_text hb).1
      have h2 := addT_sz ps a true
      have h3 := lf_le a
      simp only [List.length_append, List.length_cons] at h1 ⊢
      omega
  · split at h
    · have h1 := dbl_sz _ _ _ _ _ _ h
      have h2 := addT_sz ps [] true
      simp only [List.length_nil] at h2
      omega
    · split at h
      · cases t with
        | nil =>
          injection h with h; rw [← h]
          have h2 := addT_sz ps [92] true
          simp only [List.length_cons, List.length_nil] at h2 ⊢
          omega
        | cons d r =>
          change (if d = 10 then _ else _) = _ at h
          split at h
          · injection h with h; rw [← h]; simp only [List.length_cons]; omega
          · injection h with h; rw [← h]
            have h2 := addT_sz ps [d] true
            simp only [List.length_cons, List.length_nil] at h2 ⊢
            omega
      · split at h
        · have h1 := dollar_sz h
          omega
        · injection h with h; rw [← h]
          have h2 := addT_sz ps [c] false
          simp only [List.length_cons, List.length_nil] at h2 ⊢
          omega
theorem word_fuel : ∀ (f g : Nat) (ps : List Prt) (l : Bytes) (n : Nat), l.length < f → l.length < g → word f (ps, l, n) = word g (ps, l, n) := by
  intro f
  induction f with
  | zero => intro g ps l n h; omega
  | succ f ih =>
    intro g ps l n h1 h2
    obtain ⟨g, rfl⟩ : ∃ g', g = g' + 1 := ⟨g - 1, by omega⟩
    cases l with
    | nil => rfl
    | cons c t =>
      simp only [List.length_cons] at h1 h2
      rw [word_cons, word_cons]
      split
      · rfl
      · cases hp : piece ps c t n with
        | bad m => rfl
        | ok x =>
          obtain ⟨ps', r, m⟩ := x
          have : r.length ≤ t.length := (piece_sz hp).2.2.2
          exact ih g ps' r m (by omega) (by omega)
def wrd (x : St) : R St := word (x.2.1.length + 1) x
theorem wrd_nil (ps : List Prt) (n : Nat) : wrd (ps, [], n) = .ok (ps, [], n) := rfl
theorem wrd_end (ps : List Prt) (c : UInt8) (t : Bytes) (n : Nat) (h : ends c = true) : wrd (ps, c :: t, n) = .ok (ps, c :: t, n) := by
  show word (t.length + 1 + 1) _ = _
  rw [word_cons, if_pos h]
theorem wrd_step (ps : List Prt) (c : UInt8) (t : Bytes) (n : Nat) (h : ends c = false) : wrd (ps, c :: t, n) = (match piece ps c t n with
    | .bad m => .bad m
    | .ok x => wrd x) := by
  show word (t.length + 1 + 1) _ = _
  rw [word_cons, if_neg (by rw [h]; simp)]
  cases hp : piece ps c t n with
  | bad m => rfl
  | ok x =>
    obtain ⟨ps', r, m⟩ := x
    have : r.length ≤ t.length := (piece_sz hp).2.2.2
    exact word_fuel _ _ _ _ _ (by omega) (Nat.lt_succ_self _)
/-- Whether a word goes on. -/
def contB : Bytes → Bool
  | [] => false
  | c :: _ => !ends c
/-- Whether a word has a plain text. -/
def plainB : List Prt → Bool
  | [p] => p.k == 0 && !p.q
  | _ => false
theorem plainB_true {ps : List Prt} (h : plainB ps = true) : ∃ x, ps = [x] ∧ x.k = 0 ∧ x.q = false ∧ plainOf ps = x.t := by
  match ps, h with
  | [x], h =>
    simp [plainB] at h
    exact ⟨x, rfl, h.1, h.2, by simp [plainOf, h]⟩
theorem plainB_false {ps : List Prt} (h : plainB ps = false) : plainOf ps = [] := by
  match ps, h with
  | [], _ => rfl
  | [x], h =>
    simp [plainB] at h
    simp [plainOf]
    intro h1 h2
    rw [h h1] at h2; cases h2
  | _ :: _ :: _, _ => rfl
/-- What follows the parts of a word that began in the line n0. -/
def wordS (n0 : Nat) : R St → Step
  | .bad m => .bad m
  | .ok (ps, r, m) => match number (plainOf ps) with
    | some fd => if r.head? = some 60 ∨ r.head? = some 62 then ioS r fd n0 m else .tok ⟨0, [], plainOf ps, ps, -1, n0⟩ r m
    | none => .tok ⟨0, [], plainOf ps, ps, -1, n0⟩ r m
theorem wrd_ends : ∀ (f : Nat) (ps : List Prt) (l : Bytes) (n : Nat) (st : St), l.length < f → word f (ps, l, n) = .ok st → st.2.1 = [] ∨ ∃ c t, st.2.1 = c :: t ∧ ends c = true := by
  intro f
  induction f with
  | zero => intro ps l n st h; omega
  | succ f ih =>
    intro ps l n st hl h
    cases l with
    | nil => injection h with h; rw [← h]; exact .inl rfl
    | cons c t =>
      simp only [List.length_cons] at hl
      rw [word_cons] at h
      split at h
      · rename_i he
        injection h with h; rw [← h]; exact .inr ⟨c, t, rfl, he⟩
      · cases hp : piece ps c t n with
        | bad m => rw [hp] at h; cases h
        | ok x =>
          obtain ⟨ps', r, m⟩ := x
          rw [hp] at h
          have : r.length ≤ t.length := (piece_sz hp).2.2.2
          exact ih _ _ _ _ (by omega) h
theorem lim_skip {out : List Tok} {c : UInt8} {t r : Bytes} {n m : Nat} (h : step c t n = .skip r m) : lim out (rawl (c :: t) n) = lim out (rawl r m) := by
  rw [rawl_cons, h]
theorem lim_bad {out : List Tok} {c : UInt8} {t : Bytes} {n m : Nat} (h : step c t n = .bad m) : lim out (rawl (c :: t) n) = .err false m := by
  rw [rawl_cons, h]; rfl
theorem lim_full {out : List Tok} {c : UInt8} {t r : Bytes} {n m : Nat} {x : Tok} (h : step c t n = .tok x r m) (ho : 2000 ≤ out.length) : lim out (rawl (c :: t) n) = .err true x.line := by
  rw [rawl_cons, h]
  unfold lim
  have : 2000 - out.length = 0 := by omega
  rw [this]; rfl
theorem lim_tok {out : List Tok} {c : UInt8} {t r : Bytes} {n m : Nat} {x : Tok} (h : step c t n = .tok x r m) (ho : out.length < 2000) : lim out (rawl (c :: t) n) = lim (out ++ [x]) (rawl r m) := by
  rw [rawl_cons, h]
  unfold lim
  obtain ⟨k, hk⟩ : ∃ k, 2000 - out.length = k + 1 := ⟨2000 - out.length - 1, by omega⟩
  have hk2 : 2000 - (out ++ [x]).length = k := by rw [List.length_append]; simp only [List.length_cons, List.length_nil]; omega
  rw [hk, hk2]
  show (match (rawl r m).1[k]? with | some t => _ | none => _) = (match (rawl r m).1[k]? with | some t => _ | none => _)
  cases (rawl r m).1[k]? with
  | some t => rfl
  | none =>
    cases (rawl r m).2 with
    | bad m => rfl
    | fin n => simp
theorem lim_end (out : List Tok) (n : Nat) : lim out (rawl [] n) = .ok (out ++ [endT n]) := by
  rw [rawl_nil]; unfold lim; simp
def StepL (k : Nat) : Step → Prop
  | .skip r m => m + r.length ≤ k
  | .tok _ r m => m + r.length ≤ k
  | .bad _ => True
theorem step_line (c : UInt8) (t : Bytes) (n : Nat) : StepL (n + (c :: t).length) (step c t n) := by
  have hio : ∀ (l : Bytes) (fd : Int) (n0 n : Nat), StepL (n + l.length) (ioS l fd n0 n) := by
    intro l fd n0 n
    unfold ioS
    split <;> simp only [StepL, List.length_drop] <;> omega
  have hw : ∀ (f : Nat) (ps : List Prt) (l : Bytes) (n : Nat) (st : St), word f (ps, l, n) = .ok st → st.2.2 + st.2.1.length ≤ n + l.length := by
    intro f
    induction f with
    | zero => intro ps l n st h; injection h with h; rw [← h]; exact Nat.le_refl _
    | succ f ih =>
      intro ps l n st h
      cases l with
      | nil => injection h with h; rw [← h]; exact Nat.le_refl _
      | cons c t =>
        rw [word_cons] at h
        split at h
        · injection h with h; rw [← h]; exact Nat.le_refl _
        · cases hp : piece ps c t n with
          | bad m => rw [hp] at h; cases h
          | ok x =>
            obtain ⟨ps', r, m⟩ := x
            rw [hp] at h
            have h1 := piece_sz hp
            have h2 := ih _ _ _ _ h
            simp only [List.length_cons] at h1 h2 ⊢
            omega
  unfold step
  split
  · simp only [StepL, List.length_cons]; omega
  · split
    · have := (List.dropWhile_suffix (l := t) (p := (· != 10))).length_le
      simp only [StepL, List.length_cons]; omega
    · split
      · simp only [StepL, List.length_cons]; omega
      · split
        · split
          · simp only [StepL, List.length_drop, List.length_cons]; omega
          · simp only [StepL, List.length_cons]; omega
        · split
          · simp only [StepL, List.length_cons]; omega
          · split
            · exact hio _ _ _ _
            · split
              · rename_i h
                cases t with
                | nil => simp at h
                | cons d r => simp only [StepL, List.drop_succ_cons, List.drop_zero, List.length_cons]; omega
              · cases hwd : word (t.length + 2) ([], c :: t, n) with
                | bad m => trivial
                | ok x =>
                  obtain ⟨ps, r, m⟩ := x
                  have h1 := hw _ _ _ _ _ hwd
                  simp only at h1 ⊢
                  cases number (plainOf ps) with
                  | none => exact h1
                  | some fd =>
                    simp only
                    split
                    · have h2 := hio r fd n m
                      revert h2
                      cases ioS r fd n m <;> simp only [StepL, List.length_cons] at h1 ⊢ <;> (try omega) <;> (intro _; trivial)
                    · exact h1
end Go.Proofs.YtflfaobbfhjmmaaDoor
