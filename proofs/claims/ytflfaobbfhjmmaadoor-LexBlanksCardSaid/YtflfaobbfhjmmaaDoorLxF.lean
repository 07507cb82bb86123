/- Bounds; the laws on what Lex answers. Of no program. -/
import Derived.Test.YtflfaobbfhjmmaaDoorLxE
set_option linter.unusedVariables false
namespace Go.Proofs.YtflfaobbfhjmmaaDoor
open Go
theorem dollar_bad {ps : List Prt} {s : Bytes} {n m : Nat} {q : Bool} (h : dollar ps s n q = .bad m) : m = n := by
  unfold dollar at h
  split at h
  · split at h
    · injection h with h; exact h.symm
    · cases h
  · split at h
    · split at h
      · injection h with h; exact h.symm
      · split at h
        · injection h with h; exact h.symm
        · cases h
    · split at h <;> cases h
theorem lf_one (c : UInt8) : lf [c] ≤ 1 := by
  unfold lf
  exact Nat.le_trans List.count_le_length (by simp)
theorem double_bad (n0 K : Nat) (h0 : n0 ≤ K) : ∀ (f : Nat) (ps : List Prt) (l : Bytes) (n m : Nat), n + l.length ≤ K → double f n0 (ps, l, n) = .bad m → m ≤ K := by
  intro f
  induction f with
  | zero => intro ps l n m _ h; injection h with h; omega
  | succ f ih2 =>
    intro ps l n m hl h
    cases l with
    | nil => injection h with h; omega
    | cons c t =>
      simp only [List.length_cons] at hl
      rw [double_cons] at h
      split at h
      · cases h
      · split at h
        · cases hd : dollar ps t n true with
          | bad k => rw [hd] at h; injection h with h; have := dollar_bad hd; omega
          | ok x =>
            obtain ⟨ps', r, k⟩ := x
            rw [hd] at h
            have h1 := dollar_sz hd
            simp only at h1
            exact ih2 _ _ _ _ (by omega) h
        · split at h
          · split at h
            · rename_i d r
              simp only [List.length_cons] at hl
              split at h
              · exact ih2 _ _ _ _ (by omega) h
              · exact ih2 _ _ _ _ (by simp only [List.length_cons]; omega) h
            · simp only [List.length_nil] at hl
              exact ih2 _ _ _ _ (by simp only [List.length_nil]; omega) h
          · have := lf_one c
            exact ih2 _ _ _ _ (by omega) h
theorem piece_bad {ps : List Prt} {c : UInt8} {t : Bytes} {n m : Nat} (h : piece ps c t n = .bad m) : m ≤ n + t.length := by
  unfold piece at h
  split at h
  · split at h
    · injection h with h; omega
    · cases h
  · split at h
    · exact double_bad n (n + t.length) (by omega) _ _ _ _ _ (Nat.le_refl _) h
    · split at h
      · split at h
        · cases h
        · split at h <;> cases h
      · split at h
        · have := dollar_bad h; omega
        · cases h
theorem word_bad : ∀ (f : Nat) (ps : List Prt) (l : Bytes) (n m : Nat), word f (ps, l, n) = .bad m → m ≤ n + l.length := by
  intro f
  induction f with
  | zero => intro ps l n m h; cases h
  | succ f ih =>
    intro ps l n m h
    cases l with
    | nil => cases h
    | cons c t =>
      rw [word_cons] at h
      simp only [List.length_cons]
      split at h
      · cases h
      · cases hp : piece ps c t n with
        | bad k => rw [hp] at h; injection h with h; have := piece_bad hp; omega
        | ok x =>
          obtain ⟨ps', r, k⟩ := x
          rw [hp] at h
          have h1 := piece_sz hp
          have h2 := ih _ _ _ _ h
          simp only at h1
          omega
theorem step_bad {c : UInt8} {t : Bytes} {n m : Nat} (h : step c t n = .bad m) : m ≤ n + (c :: t).length := by
  have hio : ∀ (l : Bytes) (fd : Int) (n0 n : Nat), ioS l fd n0 n ≠ .bad m := by
    intro l fd n0 n e
    unfold ioS at e
    split at e <;> cases e
  unfold step at h
  split at h
  · cases h
  · split at h
    · cases h
    · split at h
      · cases h
      · split at h
        · split at h <;> cases h
        · split at h
          · cases h
          · split at h
            · exact absurd h (hio _ _ _ _)
            · split at h
              · cases h
              · cases hw : word (t.length + 2) ([], c :: t, n) with
                | bad k => rw [hw] at h; injection h with h; rw [← h]; exact word_bad _ _ _ _ _ hw
                | ok x =>
                  obtain ⟨ps, r, k⟩ := x
                  rw [hw] at h
                  simp only at h
                  split at h
                  · split at h
                    · exact absurd h (hio _ _ _ _)
                    · cases h
                  · cases h
def Fin.le (k : Nat) : Fin → Prop
  | .fin m => m ≤ k
  | .bad m => m ≤ k
theorem rawl_bound : ∀ (d : Nat) (l : Bytes) (n : Nat), l.length ≤ d → (rawl l n).1.length ≤ l.length ∧ (∀ t ∈ (rawl l n).1, t.line ≤ n + l.length) ∧ (rawl l n).2.le (n + l.length) := by
  intro d
  induction d with
  | zero =>
    intro l n hl
    obtain rfl := List.eq_nil_of_length_eq_zero (Nat.le_zero.1 hl)
    rw [rawl_nil]
    exact ⟨Nat.le_refl _, by simp, Nat.le_refl _⟩
  | succ d ih =>
    intro l n hl
    cases l with
    | nil =>
      rw [rawl_nil]
      exact ⟨Nat.le_refl _, by simp, Nat.le_refl _⟩
    | cons c t =>
      have hlt := step_lt c t n
      have hg := step_good c t n
      have hsl := step_line c t n
      have fl : ∀ {a b : Nat} {x : Fin}, x.le a → a ≤ b → x.le b := fun {a b x} h k => by
        cases x <;> exact Nat.le_trans h k
      rw [rawl_cons]
      cases hs : step c t n with
      | bad m => exact ⟨Nat.zero_le _, by simp, step_bad hs⟩
      | skip r m' =>
        rw [hs] at hlt hg hsl
        simp only [Step.rest, List.length_cons, StepL] at hlt hl hsl
        obtain ⟨h1, h2, h3⟩ := ih r m' (by omega)
        simp only [List.length_cons]
        exact ⟨by omega, fun z hz => by have := h2 z hz; omega, fl h3 (by omega)⟩
      | tok x r m' =>
        rw [hs] at hlt hg hsl
        simp only [Step.rest, List.length_cons, StepL] at hlt hl hsl
        obtain ⟨h1, h2, h3⟩ := ih r m' (by omega)
        obtain ⟨g1, g2, g3⟩ := hg
        simp only [List.length_cons]
        refine ⟨by omega, fun z hz => ?_, fl h3 (by omega)⟩
        rcases List.mem_cons.1 hz with rfl | hz
        · omega
        · have := h2 z hz; omega
theorem lim_ok {s : Bytes} {ts : List Tok} (hs : s.length ≤ 8000) (h : lex s = .ok ts) : ∃ xs m, rawl s 1 = (xs, .fin m) ∧ ts = xs ++ [endT m] ∧ xs.length ≤ 2000 := by
  rw [lex_lim _ hs] at h
  unfold lim at h
  generalize hr : rawl s 1 = r at h
  obtain ⟨xs, f⟩ := r
  simp only [List.length_nil, Nat.sub_zero, List.nil_append] at h
  split at h
  · cases h
  · rename_i hn
    cases f with
    | bad m => cases h
    | fin m =>
      injection h with h
      exact ⟨xs, m, rfl, h.symm, by simpa using hn⟩
theorem lim_of {s : Bytes} {xs : List Tok} {m : Nat} (hs : s.length ≤ 8000) (h : rawl s 1 = (xs, .fin m)) (hl : xs.length ≤ 2000) : lex s = .ok (xs ++ [endT m]) := by
  rw [lex_lim _ hs, h]
  unfold lim
  have : xs[2000]? = none := List.getElem?_eq_none hl
  simp [this]
theorem lim_over {s : Bytes} {xs : List Tok} {f : Fin} (hs : s.length ≤ 8000) (h : rawl s 1 = (xs, f)) (hl : 2000 < xs.length) : ∃ m, lex s = .err true m := by
  rw [lex_lim _ hs, h]
  unfold lim
  obtain ⟨x, hx⟩ : ∃ x, xs[2000]? = some x := ⟨_, List.getElem?_eq_getElem hl⟩
  exact ⟨x.line, by simp [hx]⟩
theorem lim_bad2 {s : Bytes} {xs : List Tok} {m : Nat} (hs : s.length ≤ 8000) (h : rawl s 1 = (xs, .bad m)) (hl : xs.length ≤ 2000) : lex s = .err false m := by
  rw [lex_lim _ hs, h]
  unfold lim
  have : xs[2000]? = none := List.getElem?_eq_none hl
  simp [this]
theorem lex_err {s : Bytes} {full : Bool} {m : Nat} (hs : s.length ≤ 8000) (h : lex s = .err full m) : (full = false ∧ (rawl s 1).2 = .bad m ∧ (rawl s 1).1.length ≤ 2000) ∨ (full = true ∧ 2000 < s.length) := by
  rw [lex_lim _ hs] at h
  have hb := (rawl_bound _ s 1 (Nat.le_refl _)).1
  generalize hr : rawl s 1 = r at h hb
  obtain ⟨xs, f⟩ := r
  unfold lim at h
  simp only [List.length_nil, Nat.sub_zero, List.nil_append] at h hb
  split at h
  · rename_i t ht
    injection h with h1 h2
    have := (List.getElem?_eq_some_iff.1 ht).1
    exact .inr ⟨h1.symm, by omega⟩
  · rename_i hn
    cases f with
    | fin m => cases h
    | bad k =>
      injection h with h1 h2
      exact .inl ⟨h1.symm, by rw [h2], by simpa using hn⟩
theorem up_zero (ts : List Tok) : ts.map (Tok.up 0) = ts := by
  induction ts with
  | nil => rfl
  | cons t ts ih => rw [List.map_cons, ih]; rfl
/-- LexJoins: what stands behind a script and a line feed. -/
theorem joins_ok {a b : Bytes} {xs ys : List Tok} {m k : Nat} (hl : (a ++ 10 :: b).length ≤ 8000) (he : a.getLast? ≠ some 92) (ha : rawl a 1 = (xs, .fin m)) (hb : rawl b 1 = (ys, .fin k)) (hn : xs.length + ys.length < 2000) :
    lex (a ++ 10 :: b) = .ok (xs ++ ⟨3, [], [], [], -1, m⟩ :: (ys ++ [endT k]).map (Tok.up m)) := by
  have h := rawl_join a b 1 m (by rw [ha]) he
  rw [ha, Nat.add_comm m 1, rawl_up m _ b 1 (Nat.le_refl _), hb] at h
  have h2 : rawl (a ++ 10 :: b) 1 = (xs ++ ⟨3, [], [], [], -1, m⟩ :: ys.map (Tok.up m), .fin (k + m)) := h
  rw [lim_of hl h2 (by simp; omega)]
  simp [Tok.up, endT]
theorem joins_bad {a b : Bytes} {xs : List Tok} {m k : Nat} (hl : (a ++ 10 :: b).length ≤ 8000) (he : a.getLast? ≠ some 92) (ha : rawl a 1 = (xs, .fin m)) (hb : (rawl b 1).2 = .bad k) :
    (lex (a ++ 10 :: b) = .err false (k + m)) ∨ 2000 ≤ xs.length + b.length := by
  have hbb := (rawl_bound _ b 1 (Nat.le_refl _)).1
  have h := rawl_join a b 1 m (by rw [ha]) he
  rw [ha, Nat.add_comm m 1, rawl_up m _ b 1 (Nat.le_refl _), hb] at h
  generalize (rawl b 1).1 = ys at h hbb
  have h2 : rawl (a ++ 10 :: b) 1 = (xs ++ ⟨3, [], [], [], -1, m⟩ :: ys.map (Tok.up m), .bad (k + m)) := h
  by_cases hn : xs.length + ys.length < 2000
  · exact .inl (lim_bad2 hl h2 (by simp; omega))
  · exact .inr (by omega)
theorem word_parts : ∀ (f : Nat) (ps : List Prt) (l : Bytes) (n : Nat) (st : St), word f (ps, l, n) = .ok st → sz st.1 + 2 * st.2.1.length ≤ sz ps + 2 * l.length := by
  intro f
  induction f with
  | zero => intro ps l n st h; injection h with h; rw [← h]; exact Nat.le_refl _
  | succ f ih =>
    intro ps l n st h
    cases l with
    | nil => injection h with h; rw [← h]; exact Nat.le_refl _
    | cons c t =>
      rw [word_cons] at h
      split at h
      · injection h with h; rw [← h]; exact Nat.le_refl _
      · cases hp : piece ps c t n with
        | bad m => rw [hp] at h; cases h
        | ok x =>
          obtain ⟨ps', r, m⟩ := x
          rw [hp] at h
          have h1 := piece_sz hp
          have h2 := ih _ _ _ _ h
          simp only [List.length_cons] at h1 h2 ⊢
          omega
theorem step_parts {c : UInt8} {t r : Bytes} {n m : Nat} {x : Tok} (h : step c t n = .tok x r m) : sz x.parts ≤ 2 * (c :: t).length := by
  have hio : ∀ (l : Bytes) (fd : Int) (n0 n : Nat), ioS l fd n0 n = .tok x r m → sz x.parts = 0 := by
    intro l fd n0 n e
    unfold ioS at e
    split at e <;> (injection e with e; rw [← e]; rfl)
  have hop : ∀ {s : Bytes} {k : Nat} {r' : Bytes} {m' : Nat}, Step.tok (opT s k) r' m' = .tok x r m → sz x.parts = 0 := by
    intro s k r' m' e
    injection e with e; rw [← e]; rfl
  unfold step at h
  split at h
  · cases h
  · split at h
    · cases h
    · split at h
      · injection h with h; rw [← h]; exact Nat.zero_le _
      · split at h
        · split at h <;> (have := hop h; omega)
        · split at h
          · have := hop h; omega
          · split at h
            · have := hio _ _ _ _ h; omega
            · split at h
              · cases h
              · cases hw : word (t.length + 2) ([], c :: t, n) with
                | bad k => rw [hw] at h; cases h
                | ok x =>
                  obtain ⟨ps, r', k⟩ := x
                  have hs := word_parts _ _ _ _ _ hw
                  rw [hw] at h
                  have hz : sz ps ≤ 2 * (c :: t).length := by
                    have h0 : sz ([] : List Prt) = 0 := rfl
                    simp only [h0] at hs
                    omega
                  simp only at h
                  split at h
                  · split at h
                    · have := hio _ _ _ _ h; omega
                    · injection h with h; rw [← h]; exact hz
                  · injection h with h; rw [← h]; exact hz
theorem rawl_parts : ∀ (d : Nat) (l : Bytes) (n : Nat), l.length ≤ d → ∀ t ∈ (rawl l n).1, sz t.parts ≤ 2 * l.length := by
  intro d
  induction d with
  | zero =>
    intro l n hl
    obtain rfl := List.eq_nil_of_length_eq_zero (Nat.le_zero.1 hl)
    rw [rawl_nil]
    simp
  | succ d ih =>
    intro l n hl
    cases l with
    | nil => rw [rawl_nil]; simp
    | cons c t =>
      have hlt := step_lt c t n
      rw [rawl_cons]
      cases hs : step c t n with
      | bad m => simp
      | skip r m' =>
        rw [hs] at hlt
        simp only [Step.rest, List.length_cons] at hlt hl
        intro z hz
        have := ih r m' (by omega) z hz
        simp only [List.length_cons]; omega
      | tok x r m' =>
        have h5 := step_parts hs
        rw [hs] at hlt
        simp only [Step.rest, List.length_cons] at hlt hl h5
        intro z hz
        simp only [List.length_cons]
        rcases List.mem_cons.1 hz with rfl | hz
        · omega
        · have := ih r m' (by omega) z hz; omega
/-- What is small in a list of tokens. -/
def Small (ts : List Tok) : Prop := ts.length ≤ 10000 ∧ ∀ t ∈ ts, t.line ≤ 20000 ∧ t.parts.length ≤ 20000
theorem rawl_small {s : Bytes} (hs : s.length ≤ 8000) (xs : List Tok) (m : Nat) (h : rawl s 1 = (xs, .fin m)) : Small (xs ++ [endT m]) ∧ m ≤ 8001 := by
  have h1 := rawl_bound _ s 1 (Nat.le_refl _)
  have h2 := rawl_parts _ s 1 (Nat.le_refl _)
  rw [h] at h1 h2
  obtain ⟨h3, h4, h5⟩ := h1
  have h6 : m ≤ 1 + s.length := h5
  simp only at h3 h4 h2
  refine ⟨⟨by simp; omega, fun t ht => ?_⟩, by omega⟩
  rcases List.mem_append.1 ht with ht | ht
  · have := h4 t ht; have := h2 t ht
    have h7 : t.parts.length ≤ sz t.parts := Nat.le_add_right _ _
    omega
  · obtain rfl := List.mem_singleton.1 ht
    simp [endT]; omega
theorem Small.of {ts us : List Tok} (h : Small ts) (hl : us.length ≤ ts.length) (hm : ∀ t ∈ us, t ∈ ts) : Small us := ⟨Nat.le_trans hl h.1, fun t ht => h.2 t (hm t ht)⟩
theorem Small.take {ts : List Tok} (h : Small ts) (k : Nat) : Small (ts.take k) := h.of (by simp; omega) fun _ ht => List.mem_of_mem_take ht
theorem sz_part {ps : List Prt} {p : Prt} (h : p ∈ ps) : p.t.length ≤ sz ps := by
  induction ps with
  | nil => cases h
  | cons q qs ih =>
    have e : sz (q :: qs) = sz qs + 1 + q.t.length := by simp [sz, tot]; omega
    rcases List.mem_cons.1 h with rfl | h
    · omega
    · have := ih h; omega
/-- A token as word wants it. -/
structure WordOK (t : Tok) : Prop where
  wf : WF t.parts
  plain : t.plain = plainOf t.parts
  few : sz t.parts ≤ 6000
theorem adj_at : ∀ {ps : List Prt}, Adj ps → ∀ {k : Nat} {p q : Prt}, ps[k]? = some p → ps[k + 1]? = some q → ¬ (p.k = 0 ∧ q.k = 0 ∧ p.q = q.q)
  | [], _, k, p, q, h, _ => by simp at h
  | [a], _, k, p, q, _, h => by simp at h
  | a :: b :: l, hA, k, p, q, h1, h2 => by
    cases k with
    | zero =>
      simp at h1 h2
      subst h1; subst h2
      exact hA.1
    | succ k =>
      simp only [List.getElem?_cons_succ] at h1 h2
      exact adj_at hA.2 h1 h2
theorem parts_all {s : Bytes} (hs : s.length ≤ 3000) {xs : List Tok} {m : Nat} (h : rawl s 1 = (xs, .fin m)) : (∀ t ∈ xs, TokOK t ∧ WordOK t) ∧ Lines 1 xs m := by
  have h1 := rawl_ok _ s 1 m (Nat.le_refl _) (by rw [h])
  have h2 := rawl_parts _ s 1 (Nat.le_refl _)
  rw [h] at h1 h2
  refine ⟨fun t ht => ?_, h1.2⟩
  have ho := h1.1 t ht
  have hz := h2 t ht
  refine ⟨ho, ?_⟩
  obtain ⟨o1, o2, o3, o4⟩ := ho
  by_cases hk : t.kind = 0
  · exact ⟨(o2 hk).1, (o2 hk).2.2, by omega⟩
  · obtain ⟨e1, e2⟩ := o3 hk
    exact ⟨by rw [e1]; exact wf_nil, by rw [e1, e2]; rfl, by omega⟩
theorem lines_at : ∀ {xs : List Tok} {n m : Nat}, Lines n xs m → ∀ {k : Nat} {t u : Tok}, xs[k]? = some t → (xs ++ [endT m])[k + 1]? = some u → t.line ≤ u.line
  | [], n, m, _, k, t, u, h, _ => by simp at h
  | x :: xs, n, m, hL, k, t, u, h1, h2 => by
    cases k with
    | zero =>
      simp at h1
      subst h1
      cases xs with
      | nil => simp at h2; subst h2; exact hL.2
      | cons y ys => simp at h2; subst h2; exact hL.2.1
    | succ k =>
      simp only [List.cons_append, List.getElem?_cons_succ] at h1 h2
      exact lines_at hL.2 h1 h2
/-- LexBlanks. -/
theorem blanks_a {s u : Bytes} {xs : List Tok} {m : Nat} (hl : (u ++ s ++ u).length ≤ 8000) (hu : ∀ c ∈ u, blank c) (h : rawl s 1 = (xs, .fin m)) (he : s.getLast? ≠ some 92) (hx : xs.length ≤ 2000) : lex (u ++ s ++ u) = .ok (xs ++ [endT m]) := by
  refine lim_of hl ?_ hx
  rw [List.append_assoc, rawl_blanks u _ 1 hu, rawl_after s u hu 1 m (by rw [h]) he, h]
theorem blanks_b {s : Bytes} {xs : List Tok} {m : Nat} (hl : (92 :: 10 :: s).length ≤ 8000) (h : rawl s 1 = (xs, .fin m)) (hx : xs.length ≤ 2000) : lex (92 :: 10 :: s) = .ok ((xs ++ [endT m]).map (Tok.up 1)) := by
  have h2 : rawl (92 :: 10 :: s) 1 = (xs.map (Tok.up 1), .fin (m + 1)) := by
    rw [rawl_continue, rawl_up 1 _ s 1 (Nat.le_refl _), h]
    rfl
  rw [lim_of hl h2 (by simpa using hx)]
  simp [Tok.up, endT]
theorem blanks_c {s u w : Bytes} {xs : List Tok} {m : Nat} (hl : (s ++ (u ++ 35 :: (w ++ [10]))).length ≤ 8000) (hu : ∀ c ∈ u, blank c) (hw : 10 ∉ w) (hne : u ≠ []) (h : rawl s 1 = (xs, .fin m)) (he : s.getLast? ≠ some 92) (hx : xs.length < 2000) : lex (s ++ (u ++ 35 :: (w ++ [10]))) = .ok (xs ++ [⟨3, [], [], [], -1, m⟩] ++ [endT (m + 1)]) := by
  refine lim_of hl ?_ (by simp; omega)
  rw [rawl_tail s u w hu hw hne 1 m (by rw [h]) he, h]
theorem lex_err_line {s : Bytes} {full : Bool} {m : Nat} (hs : s.length ≤ 8000) (h : lex s = .err full m) : m ≤ 1 + s.length := by
  rw [lex_lim _ hs] at h
  have hb := rawl_bound _ s 1 (Nat.le_refl _)
  generalize hr : rawl s 1 = r at h hb
  obtain ⟨xs, f⟩ := r
  unfold lim at h
  simp only [List.length_nil, Nat.sub_zero, List.nil_append] at h hb
  split at h
  · rename_i t ht
    injection h with h1 h2
    rw [← h2]
    exact hb.2.1 t (List.mem_of_getElem? ht)
  · cases f with
    | fin m => cases h
    | bad k =>
      injection h with h1 h2
      rw [← h2]
      exact hb.2.2
end Go.Proofs.YtflfaobbfhjmmaaDoor
