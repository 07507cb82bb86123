/- Lemmas and walks for the law of this seat (part 22). -/
import Derived.Test.YtgboffbbpmileaaGreatDoorPj21
/- Bounds; the laws on what Lex answers. Of no program. -/
set_option linter.unusedVariables false
set_option linter.unusedSimpArgs false
namespace Go.Proofs.YtgboffbbpmileaaGreatDoor
open Go
theorem dollar_bad {ps : List Prt} {s : Bytes} {n m : Nat} {q : Bool} (h : dollar ps s n q = .bad m) : m = n := by
 unfold dollar at h
 split at h
 ·split at h
  ·injection h with h; exact h.symm
  ·cases h
 ·split at h
  ·split at h
   ·injection h with h; exact h.symm
   ·split at h
    ·injection h with h; exact h.symm
    ·cases h
  ·split at h <;> cases h
theorem lf_one (c : UInt8) : lf [c] ≤ 1 := by
 unfold lf
 exact Nat.le_trans List.count_le_length (by simp)
theorem double_bad (n0 K : Nat) (h0 : n0 ≤ K) : ∀ (f : Nat) (ps : List Prt) (l : Bytes) (n m : Nat), n + l.length ≤ K → double f n0 (ps, l, n) = .bad m → m ≤ K := by
 intro f
 induction f with
 | zero => intro ps l n m _ h; injection h with h; omega
 | succ f ih2 =>
  intro ps l n m hl h
  cases l with
  | nil => injection h with h; omega
  | cons c t =>
   simp only [List.length_cons] at hl
   rw [double_cons] at h
   split at h
   ·cases h
   ·split at h
    ·cases hd : dollar ps t n true with
     | bad k => rw [hd] at h; injection h with h; have := dollar_bad hd; omega
     | ok x =>
      obtain ⟨ps', r, k⟩ := x
      rw [hd] at h
      have h1 := dollar_sz hd
      simp only at h1
      exact ih2 _ _ _ _ (by omega) h
    ·split at h
     ·split at h
      ·rename_i d r
       simp only [List.length_cons] at hl
       split at h
       ·exact ih2 _ _ _ _ (by omega) h
       ·exact ih2 _ _ _ _ (by simp only [List.length_cons]; omega) h
      ·simp only [List.length_nil] at hl
       exact ih2 _ _ _ _ (by simp only [List.length_nil]; omega) h
     ·have := lf_one c
      exact ih2 _ _ _ _ (by omega) h
theorem piece_bad {ps : List Prt} {c : UInt8} {t : Bytes} {n m : Nat} (h : piece ps c t n = .bad m) : m ≤ n + t.length := by
 unfold piece at h
 split at h
 ·split at h
  ·injection h with h; omega
  ·cases h
 ·split at h
  ·exact double_bad n (n + t.length) (by omega) _ _ _ _ _ (Nat.le_refl _) h
  ·split at h
   ·split at h
    ·cases h
    ·split at h <;> cases h
   ·split at h
    ·have := dollar_bad h; omega
    ·cases h
theorem word_bad : ∀ (f : Nat) (ps : List Prt) (l : Bytes) (n m : Nat), word f (ps, l, n) = .bad m → m ≤ n + l.length := by
 intro f
 induction f with
 | zero => intro ps l n m h; cases h
 | succ f ih =>
  intro ps l n m h
  cases l with
  | nil => cases h
  | cons c t =>
   rw [word_cons] at h
   simp only [List.length_cons]
   split at h
   ·cases h
   ·cases hp : piece ps c t n with
    | bad k => rw [hp] at h; injection h with h; have := piece_bad hp; omega
    | ok x =>
     obtain ⟨ps', r, k⟩ := x
     rw [hp] at h
     have h1 := piece_sz hp
     have h2 := ih _ _ _ _ h
     simp only at h1
     omega
theorem step_bad {c : UInt8} {t : Bytes} {n m : Nat} (h : step c t n = .bad m) : m ≤ n + (c :: t).length := by
 have hio : ∀ (l : Bytes) (fd : Int) (n0 n : Nat), ioS l fd n0 n ≠ .bad m := by
  intro l fd n0 n e
  unfold ioS at e
  split at e <;> cases e
 unfold step at h
 split at h
 ·cases h
 ·split at h
  ·cases h
  ·split at h
   ·cases h
   ·split at h
    ·split at h <;> cases h
    ·split at h
     ·cases h
     ·split at h
      ·exact absurd h (hio _ _ _ _)
      ·split at h
       ·cases h
       ·cases hw : word (t.length + 2) ([], c :: t, n) with
        | bad k => rw [hw] at h; injection h with h; rw [← h]; exact word_bad _ _ _ _ _ hw
        | ok x =>
         obtain ⟨ps, r, k⟩ := x
         rw [hw] at h
         simp only at h
         split at h
         ·split at h
          ·exact absurd h (hio _ _ _ _)
          ·cases h
         ·cases h
def Fin.le (k : Nat) : Fin → Prop
 | .fin m => m ≤ k
 | .bad m => m ≤ k
theorem rawl_bound : ∀ (d : Nat) (l : Bytes) (n : Nat), l.length ≤ d → (rawl l n).1.length ≤ l.length ∧ (∀ t ∈ (rawl l n).1, t.line ≤ n + l.length) ∧ (rawl l n).2.le (n + l.length) := by
 intro d
 induction d with
 | zero =>
  intro l n hl
  obtain rfl := List.eq_nil_of_length_eq_zero (Nat.le_zero.1 hl)
  rw [rawl_nil]
  exact ⟨Nat.le_refl _, by simp, Nat.le_refl _⟩
 | succ d ih =>
  intro l n hl
  cases l with
  | nil =>
   rw [rawl_nil]
   exact ⟨Nat.le_refl _, by simp, Nat.le_refl _⟩
  | cons c t =>
   have hlt := step_lt c t n
   have hg := step_good c t n
   have hsl := step_line c t n
   have fl : ∀ {a b : Nat} {x : Fin}, x.le a → a ≤ b → x.le b := fun {a b x} h k => by
    cases x <;> exact Nat.le_trans h k
   rw [rawl_cons]
   cases hs : step c t n with
   | bad m => exact ⟨Nat.zero_le _, by simp, step_bad hs⟩
   | skip r m' =>
    rw [hs] at hlt hg hsl
    simp only [Step.rest, List.length_cons, StepL] at hlt hl hsl
    obtain ⟨h1, h2, h3⟩ := ih r m' (by omega)
    simp only [List.length_cons]
    exact ⟨by omega, fun z hz => by have := h2 z hz; omega, fl h3 (by omega)⟩
   | tok x r m' =>
    rw [hs] at hlt hg hsl
    simp only [Step.rest, List.length_cons, StepL] at hlt hl hsl
    obtain ⟨h1, h2, h3⟩ := ih r m' (by omega)
    obtain ⟨g1, g2, g3⟩ := hg
    simp only [List.length_cons]
    refine ⟨by omega, fun z hz => ?_, fl h3 (by omega)⟩
    rcases List.mem_cons.1 hz with rfl | hz
    ·omega
    ·have := h2 z hz; omega
theorem lim_ok {s : Bytes} {ts : List Tok} (hs : s.length ≤ 8000) (h : lex s = .ok ts) : ∃ xs m, rawl s 1 = (xs, .fin m) ∧ ts = xs ++ [endT m] ∧ xs.length ≤ 2000 := by
 rw [lex_lim _ hs] at h
 unfold lim at h
 generalize hr : rawl s 1 = r at h
 obtain ⟨xs, f⟩ := r
 simp only [List.length_nil, Nat.sub_zero, List.nil_append] at h
 split at h
 ·cases h
 ·rename_i hn
  cases f with
  | bad m => cases h
  | fin m =>
   injection h with h
   exact ⟨xs, m, rfl, h.symm, by simpa using hn⟩
theorem lim_of {s : Bytes} {xs : List Tok} {m : Nat} (hs : s.length ≤ 8000) (h : rawl s 1 = (xs, .fin m)) (hl : xs.length ≤ 2000) : lex s = .ok (xs ++ [endT m]) := by
 rw [lex_lim _ hs, h]
 unfold lim
 have : xs[2000]? = none := List.getElem?_eq_none hl
 simp [this]
theorem lim_over {s : Bytes} {xs : List Tok} {f : Fin} (hs : s.length ≤ 8000) (h : rawl s 1 = (xs, f)) (hl : 2000 < xs.length) : ∃ m, lex s = .err true m := by
 rw [lex_lim _ hs, h]
 unfold lim
 obtain ⟨x, hx⟩ : ∃ x, xs[2000]? = some x := ⟨_, List.getElem?_eq_getElem hl⟩
 exact ⟨x.line, by simp [hx]⟩
theorem lim_bad2 {s : Bytes} {xs : List Tok} {m : Nat} (hs : s.length ≤ 8000) (h : rawl s 1 = (xs, .bad m)) (hl : xs.length ≤ 2000) : lex s = .err false m := by
 rw [lex_lim _ hs, h]
 unfold lim
 have : xs[2000]? = none := List.getElem?_eq_none hl
 simp [this]
theorem word_parts : ∀ (f : Nat) (ps : List Prt) (l : Bytes) (n : Nat) (st : St), word f (ps, l, n) = .ok st → sz st.1 + 2 * st.2.1.length ≤ sz ps + 2 * l.length := by
 intro f
 induction f with
 | zero => intro ps l n st h; injection h with h; rw [← h]; exact Nat.le_refl _
 | succ f ih =>
  intro ps l n st h
  cases l with
  | nil => injection h with h; rw [← h]; exact Nat.le_refl _
  | cons c t =>
   rw [word_cons] at h
   split at h
   ·injection h with h; rw [← h]; exact Nat.le_refl _
   ·cases hp : piece ps c t n with
    | bad m => rw [hp] at h; cases h
    | ok x =>
     obtain ⟨ps', r, m⟩ := x
     rw [hp] at h
     have h1 := piece_sz hp
     have h2 := ih _ _ _ _ h
     simp only [List.length_cons] at h1 h2 ⊢
     omega
theorem step_parts {c : UInt8} {t r : Bytes} {n m : Nat} {x : Tok} (h : step c t n = .tok x r m) : sz x.parts ≤ 2 * (c :: t).length := by
 have hio : ∀ (l : Bytes) (fd : Int) (n0 n : Nat), ioS l fd n0 n = .tok x r m → sz x.parts = 0 := by
  intro l fd n0 n e
  unfold ioS at e
  split at e <;> (injection e with e; rw [← e]; rfl)
 have hop : ∀ {s : Bytes} {k : Nat} {r' : Bytes} {m' : Nat}, Step.tok (opT s k) r' m' = .tok x r m → sz x.parts = 0 := by
  intro s k r' m' e
  injection e with e; rw [← e]; rfl
 unfold step at h
 split at h
 ·cases h
 ·split at h
  ·cases h
  ·split at h
   ·injection h with h; rw [← h]; exact Nat.zero_le _
   ·split at h
    ·split at h <;> (have := hop h; omega)
    ·split at h
     ·have := hop h; omega
     ·split at h
      ·have := hio _ _ _ _ h; omega
      ·split at h
       ·cases h
       ·cases hw : word (t.length + 2) ([], c :: t, n) with
        | bad k => rw [hw] at h; cases h
        | ok x =>
         obtain ⟨ps, r', k⟩ := x
         have hs := word_parts _ _ _ _ _ hw
         rw [hw] at h
         have hz : sz ps ≤ 2 * (c :: t).length := by
          have h0 : sz ([] : List Prt) = 0 := rfl
          simp only [h0] at hs
          omega
         simp only at h
         split at h
         ·split at h
          ·have := hio _ _ _ _ h; omega
          ·injection h with h; rw [← h]; exact hz
         ·injection h with h; rw [← h]; exact hz
theorem rawl_parts : ∀ (d : Nat) (l : Bytes) (n : Nat), l.length ≤ d → ∀ t ∈ (rawl l n).1, sz t.parts ≤ 2 * l.length := by
 intro d
 induction d with
 | zero =>
  intro l n hl
  obtain rfl := List.eq_nil_of_length_eq_zero (Nat.le_zero.1 hl)
  rw [rawl_nil]
  simp
 | succ d ih =>
  intro l n hl
  cases l with
  | nil => rw [rawl_nil]; simp
  | cons c t =>
   have hlt := step_lt c t n
   rw [rawl_cons]
   cases hs : step c t n with
   | bad m => simp
   | skip r m' =>
    rw [hs] at hlt
    simp only [Step.rest, List.length_cons] at hlt hl
    intro z hz
    have := ih r m' (by omega) z hz
    simp only [List.length_cons]; omega
   | tok x r m' =>
    have h5 := step_parts hs
    rw [hs] at hlt
    simp only [Step.rest, List.length_cons] at hlt hl h5
    intro z hz
    simp only [List.length_cons]
    rcases List.mem_cons.1 hz with rfl | hz
    ·omega
    ·have := ih r m' (by omega) z hz; omega
/-- What is small in a list of tokens. -/
def Small (ts : List Tok) : Prop := ts.length ≤ 10000 ∧ ∀ t ∈ ts, t.line ≤ 20000 ∧ t.parts.length ≤ 20000
theorem Small.of {ts us : List Tok} (h : Small ts) (hl : us.length ≤ ts.length) (hm : ∀ t ∈ us, t ∈ ts) : Small us := ⟨Nat.le_trans hl h.1, fun t ht => h.2 t (hm t ht)⟩
theorem Small.take {ts : List Tok} (h : Small ts) (k : Nat) : Small (ts.take k) := h.of (by simp; omega) fun _ ht => List.mem_of_mem_take ht
theorem sz_part {ps : List Prt} {p : Prt} (h : p ∈ ps) : p.t.length ≤ sz ps := by
 induction ps with
 | nil => cases h
 | cons q qs ih =>
  have e : sz (q :: qs) = sz qs + 1 + q.t.length := by simp [sz, tot]; omega
  rcases List.mem_cons.1 h with rfl | h
  ·omega
  ·have := ih h; omega
/-- A token as word wants it. -/
structure WordOK (t : Tok) : Prop where
 wf : WF t.parts
 plain : t.plain = plainOf t.parts
 few : sz t.parts ≤ 6000
end Go.Proofs.YtgboffbbpmileaaGreatDoor
/- What Parse answers: joins, nests, lines. Of no program. -/
set_option linter.unusedVariables false
set_option linter.unusedSimpArgs false
namespace Go.Proofs.YtgboffbbpmileaaGreatDoor
open Go
/-! Lines are those of the script. -/
theorem lf_cons (c : UInt8) (t : Bytes) : lf (c :: t) = lf [c] + lf t := by
 unfold lf
 rw [show c :: t = [c] ++ t from rfl, List.count_append]
theorem lf_app (a b : Bytes) : lf (a ++ b) = lf a + lf b := by unfold lf; exact List.count_append
theorem lf_drop (k : Nat) (s : Bytes) : lf (s.drop k) ≤ lf s := by
 unfold lf
 exact List.Sublist.count_le _ (List.drop_sublist k s)
/-- The line behind what is read. -/
def LB (n0 n : Nat) (l : Bytes) : R St → Prop
 | .ok st => n ≤ st.2.2 ∧ st.2.2 + lf st.2.1 ≤ n + lf l
 | .bad m => n0 ≤ m ∧ m ≤ n + lf l
theorem LB.up {n0 n1 n n' : Nat} {l l' : Bytes} {x : R St} (h : LB n0 n l x) (h0 : n1 ≤ n0) (h1 : n' ≤ n) (h2 : n + lf l ≤ n' + lf l') : LB n1 n' l' x := by
 cases x with
 | ok st => have h : n ≤ st.2.2 ∧ st.2.2 + lf st.2.1 ≤ n + lf l := h; exact ⟨by omega, by omega⟩
 | bad m => have h : n0 ≤ m ∧ m ≤ n + lf l := h; exact ⟨by omega, by omega⟩
theorem dollar_lb (ps : List Prt) (s : Bytes) (n : Nat) (q : Bool) : LB n n s (dollar ps s n q) := by
 unfold dollar
 split
 ·rename_i h40
  cases s with
  | nil => cases h40
  | cons c t =>
   cases hp : parens ((c :: t).drop 1) with
   | none => exact ⟨Nat.le_refl _, by omega⟩
   | some z =>
    obtain ⟨a, r⟩ := z
    have h1 := scan_text _ _ _ _ _ hp
    have h2 : lf t = lf a + lf (41 :: r) := by
     rw [← lf_app]
     exact congrArg lf h1
    have := lf_cons 41 r
    have := lf_cons c t
    exact ⟨by show n ≤ n + lf a; omega, by show n + lf a + lf r ≤ _; omega⟩
 ·split
  ·rename_i h123
   cases s with
   | nil => cases h123
   | cons c t =>
    cases hp : brk 125 ((c :: t).drop 1) with
    | none => exact ⟨Nat.le_refl _, by omega⟩
    | some z =>
     obtain ⟨a, r⟩ := z
     have h1 := (brk_text hp).1
     have h2 : lf t = lf a + lf (125 :: r) := by
      rw [← lf_app]
      exact congrArg lf h1
     have := lf_cons 125 r
     have := lf_cons c t
     simp only
     split
     ·exact ⟨Nat.le_refl _, by omega⟩
     ·exact ⟨Nat.le_refl _, by show n + lf r ≤ _; omega⟩
  ·split
   ·have := lf_drop (param s) s
    exact ⟨Nat.le_refl _, by show n + lf (s.drop (param s)) ≤ _; omega⟩
   ·exact ⟨Nat.le_refl _, Nat.le_refl _⟩
theorem double_lb (n0 : Nat) : ∀ (f : Nat) (ps : List Prt) (l : Bytes) (n : Nat), n0 ≤ n → LB n0 n l (double f n0 (ps, l, n)) := by
 intro f
 induction f with
 | zero => intro ps l n h; exact ⟨Nat.le_refl _, by omega⟩
 | succ f ih =>
  intro ps l n h
  cases l with
  | nil => exact ⟨Nat.le_refl _, by omega⟩
  | cons c t =>
   rw [double_cons]
   have hc := lf_cons c t
   split
   ·exact ⟨Nat.le_refl _, by show n + lf t ≤ _; omega⟩
   ·split
    ·have hd := dollar_lb ps t n true
     cases hx : dollar ps t n true with
     | bad m => rw [hx] at hd; have hd : n ≤ m ∧ m ≤ n + lf t := hd; exact ⟨by omega, by omega⟩
     | ok st =>
      obtain ⟨ps', r, k⟩ := st
      rw [hx] at hd
      have hd : n ≤ k ∧ k + lf r ≤ n + lf t := hd
      exact (ih ps' r k (by omega)).up (Nat.le_refl _) hd.1 (by omega)
    ·split
     ·cases t with
      | nil => exact (ih _ _ _ h).up (Nat.le_refl _) (Nat.le_refl _) (by omega)
      | cons d r =>
       have := lf_cons d r
       simp only
       split
       ·exact (ih _ _ _ h).up (Nat.le_refl _) (Nat.le_refl _) (by omega)
       ·exact (ih _ _ _ h).up (Nat.le_refl _) (Nat.le_refl _) (by omega)
     ·exact (ih _ _ _ (by omega)).up (Nat.le_refl _) (by omega) (by omega)
theorem piece_lb (ps : List Prt) (c : UInt8) (t : Bytes) (n : Nat) : LB n n (c :: t) (piece ps c t n) := by
 have hc := lf_cons c t
 unfold piece
 split
 ·cases hp : brk 39 t with
  | none => exact ⟨Nat.le_refl _, by omega⟩
  | some z =>
   obtain ⟨a, r⟩ := z
   have h1 := (brk_text hp).1
   have h2 : lf t = lf a + lf (39 :: r) := by rw [← lf_app]; exact congrArg lf h1
   have := lf_cons 39 r
   exact ⟨by show n ≤ n + lf a; omega, by show n + lf a + lf r ≤ _; omega⟩
 ·split
  ·exact (double_lb n _ _ t n (Nat.le_refl _)).up (Nat.le_refl _) (Nat.le_refl _) (by omega)
  ·split
   ·cases t with
    | nil => exact ⟨Nat.le_refl _, by show n + lf [] ≤ _; simp [lf]⟩
    | cons d r =>
     have := lf_cons d r
     simp only
     split
     ·rename_i h10
      subst h10
      have h3 : lf [10] = 1 := by decide
      exact ⟨by show n ≤ n + 1; omega, by show n + 1 + lf r ≤ _; omega⟩
     ·exact ⟨Nat.le_refl _, by show n + lf r ≤ _; omega⟩
   ·split
    ·exact (dollar_lb ps t n false).up (Nat.le_refl _) (Nat.le_refl _) (by omega)
    ·exact ⟨Nat.le_refl _, by show n + lf t ≤ _; omega⟩
theorem word_lb : ∀ (f : Nat) (ps : List Prt) (l : Bytes) (n : Nat), LB n n l (word f (ps, l, n)) := by
 intro f
 induction f with
 | zero => intro ps l n; exact ⟨Nat.le_refl _, Nat.le_refl _⟩
 | succ f ih =>
  intro ps l n
  cases l with
  | nil => exact ⟨Nat.le_refl _, Nat.le_refl _⟩
  | cons c t =>
   rw [word_cons]
   split
   ·exact ⟨Nat.le_refl _, Nat.le_refl _⟩
   ·have hp := piece_lb ps c t n
    cases hx : piece ps c t n with
    | bad m => rw [hx] at hp; exact hp
    | ok st =>
     obtain ⟨ps', r, k⟩ := st
     rw [hx] at hp
     have hp : n ≤ k ∧ k + lf r ≤ n + lf (c :: t) := hp
     exact (ih ps' r k).up hp.1 hp.1 hp.2
/-- .. of a step. -/
def SB (n : Nat) (l : Bytes) : Step → Prop
 | .skip r m => n ≤ m ∧ m + lf r ≤ n + lf l
 | .tok x r m => n ≤ x.line ∧ x.line ≤ n + lf l ∧ n ≤ m ∧ m + lf r ≤ n + lf l
 | .bad m => n ≤ m ∧ m ≤ n + lf l
theorem ioS_lb (l : Bytes) (fd : Int) (n0 n : Nat) (K : Bytes) (h : n0 ≤ n) (hk : n + lf l ≤ n0 + lf K) : SB n0 K (ioS l fd n0 n) := by
 unfold ioS
 have h1 := lf_drop 2 l
 have h2 := lf_drop 1 l
 split
 ·exact ⟨Nat.le_refl _, Nat.le_add_right _ _, h, by omega⟩
 ·exact ⟨Nat.le_refl _, Nat.le_add_right _ _, h, by omega⟩
theorem step_lb (c : UInt8) (t : Bytes) (n : Nat) : SB n (c :: t) (step c t n) := by
 have hc := lf_cons c t
 unfold step
 split
 ·exact ⟨Nat.le_refl _, by omega⟩
 ·split
  ·have : lf (t.dropWhile (· != 10)) ≤ lf t := by
    unfold lf
    exact List.Sublist.count_le _ (List.dropWhile_sublist _)
   exact ⟨Nat.le_refl _, by omega⟩
  ·split
   ·rename_i h10
    subst h10
    have h3 : lf [10] = 1 := by decide
    exact ⟨Nat.le_refl _, Nat.le_add_right _ _, by omega, by omega⟩
   ·split
    ·have h2 := lf_drop 1 t
     split
     ·exact ⟨Nat.le_refl _, Nat.le_add_right _ _, Nat.le_refl _, by omega⟩
     ·exact ⟨Nat.le_refl _, Nat.le_add_right _ _, Nat.le_refl _, by omega⟩
    ·split
     ·exact ⟨Nat.le_refl _, Nat.le_add_right _ _, Nat.le_refl _, by omega⟩
     ·split
      ·exact ioS_lb _ _ _ _ _ (Nat.le_refl _) (Nat.le_refl _)
      ·split
       ·rename_i h
        cases t with
        | nil => exact absurd h.2 (by simp)
        | cons d r =>
         have h2 : d = 10 := by have := h.2; simpa using this
         subst h2
         have h3 : lf [10] = 1 := by decide
         have := lf_cons 10 r
         exact ⟨by omega, by show n + 1 + lf r ≤ _; omega⟩
       ·have hw := word_lb (t.length + 2) [] (c :: t) n
        cases hx : word (t.length + 2) ([], c :: t, n) with
        | bad m => rw [hx] at hw; exact hw
        | ok st =>
         obtain ⟨ps, r, m⟩ := st
         rw [hx] at hw
         have hw : n ≤ m ∧ m + lf r ≤ n + lf (c :: t) := hw
         simp only
         split
         ·split
          ·exact ioS_lb _ _ _ _ _ hw.1 hw.2
          ·exact ⟨Nat.le_refl _, Nat.le_add_right _ _, hw.1, hw.2⟩
         ·exact ⟨Nat.le_refl _, Nat.le_add_right _ _, hw.1, hw.2⟩
def Fin.line : Fin → Nat
 | .fin m => m
 | .bad m => m
theorem rawl_lb : ∀ (d : Nat) (l : Bytes) (n : Nat), l.length ≤ d → (∀ t ∈ (rawl l n).1, n ≤ t.line ∧ t.line ≤ n + lf l) ∧ n ≤ (rawl l n).2.line ∧ (rawl l n).2.line ≤ n + lf l := by
 intro d
 induction d with
 | zero =>
  intro l n hl
  obtain rfl := List.eq_nil_of_length_eq_zero (Nat.le_zero.1 hl)
  rw [rawl_nil]
  exact ⟨by simp, Nat.le_refl _, Nat.le_refl _⟩
 | succ d ih =>
  intro l n hl
  cases l with
  | nil =>
   rw [rawl_nil]
   exact ⟨by simp, Nat.le_refl _, Nat.le_refl _⟩
  | cons c t =>
   have hlt := step_lt c t n
   have hb := step_lb c t n
   rw [rawl_cons]
   cases hs : step c t n with
   | bad m => rw [hs] at hb; exact ⟨by simp, hb.1, hb.2⟩
   | skip r m' =>
    rw [hs] at hlt hb
    simp only [Step.rest, List.length_cons] at hlt hl
    obtain ⟨h1, h2, h3⟩ := ih r m' (by omega)
    have hb : n ≤ m' ∧ m' + lf r ≤ n + lf (c :: t) := hb
    exact ⟨fun z hz => by have := h1 z hz; omega, by show n ≤ (rawl r m').2.line; omega, by show (rawl r m').2.line ≤ _; omega⟩
   | tok x r m' =>
    rw [hs] at hlt hb
    simp only [Step.rest, List.length_cons] at hlt hl
    obtain ⟨h1, h2, h3⟩ := ih r m' (by omega)
    have hb : n ≤ x.line ∧ x.line ≤ n + lf (c :: t) ∧ n ≤ m' ∧ m' + lf r ≤ n + lf (c :: t) := hb
    refine ⟨fun z hz => ?_, by show n ≤ (rawl r m').2.line; omega, by show (rawl r m').2.line ≤ _; omega⟩
    rcases List.mem_cons.1 hz with rfl | hz
    ·exact ⟨hb.1, hb.2.1⟩
    ·have := h1 z hz; omega
/-! What Parse answers for a script. -/
def strip (t : Tok) : Tok := { t with line := 0 }
inductive PAns where
 | ok (l : List Nd)
 | err (full : Bool) (line : Nat)
def parseT (ts : List Tok) : PAns := match parseK 20 (ts.dropLast.map strip) with
 | .ok l _ => .ok l
 | .bad e m => .err (e == 2) (ts.getD (ts.length - 1 - m) (endT 0)).line
def parseB (src : Bytes) : PAns := match lex src with
 | .err f m => .err f m
 | .ok ts => parseT ts
def Lexes (l : Bytes) (T : List Tok) : Prop := ∀ n, 1 ≤ n → (rawl l n).1.map strip = T ∧ ∃ m, n ≤ m ∧ (rawl l n).2 = .fin m
theorem lexes_of {l : Bytes} {xs : List Tok} {m : Nat} (h : rawl l 1 = (xs, .fin m)) : Lexes l (xs.map strip) := fun n hn => by
 obtain ⟨k, rfl⟩ : ∃ k, n = 1 + k := ⟨n - 1, by omega⟩
 have h1 := (rawl_lb l.length l 1 (Nat.le_refl _)).2.1
 rw [rawl_up k l.length l 1 (Nat.le_refl _), h]
 rw [h] at h1
 have h1 : 1 ≤ m := h1
 refine ⟨?_, m + k, by omega, rfl⟩
 show (xs.map (Tok.up k)).map strip = _
 rw [List.map_map]
 rfl
theorem lexes_nil : Lexes [] [] := fun n hn => ⟨rfl, n, Nat.le_refl _, rfl⟩
theorem lexes_lf {b : Bytes} {T : List Tok} (h : Lexes b T) : Lexes (10 :: b) (tL :: T) := fun n hn => by
 obtain ⟨h1, m, h2, h3⟩ := h (n + 1) (by omega)
 rw [rawl_lf]
 refine ⟨?_, m, by omega, h3⟩
 show strip _ :: _ = _
 rw [← h1]; rfl
theorem lexes_blank {c : UInt8} {b : Bytes} {T : List Tok} (hc : blank c) (h : Lexes b T) : Lexes (c :: b) T := fun n hn => by
 rw [rawl_blank hc]
 exact h n hn
theorem lexes_comment {u t : Bytes} {T : List Tok} (hu : 10 ∉ u) (h : Lexes (10 :: t) T) : Lexes (35 :: (u ++ 10 :: t)) T := fun n hn => by
 rw [rawl_comment u t n hu]
 exact h n hn
theorem lexes_join {a b : Bytes} {T V : List Tok} (ha : Lexes a T) (he : a.getLast? ≠ some 92) (hb : Lexes b V) : Lexes (a ++ 10 :: b) (T ++ tL :: V) := fun n hn => by
 obtain ⟨h1, m, h2, h3⟩ := ha n hn
 obtain ⟨h4, k, h5, h6⟩ := hb (m + 1) (by omega)
 rw [rawl_join a b n m h3 he]
 refine ⟨?_, k, by omega, h6⟩
 show ((rawl a n).1 ++ _ :: (rawl b (m + 1)).1).map strip = _
 rw [List.map_append, List.map_cons, h1, h4]
 rfl
/-- Bytes of a word that is not quoted. -/
def pw (c : UInt8) : Bool := !ends c && c != 39 && c != 34 && c != 92 && c != 36
theorem pw_piece {c : UInt8} (h : pw c = true) (ps : List Prt) (t : Bytes) (n : Nat) : ends c = false ∧ piece ps c t n = .ok (addT ps [c] false, t, n) := by
 unfold pw at h
 simp only [Bool.and_eq_true, Bool.not_eq_true', bne_iff_ne, ne_eq] at h
 obtain ⟨⟨⟨⟨h1, h2⟩, h3⟩, h4⟩, h5⟩ := h
 refine ⟨h1, ?_⟩
 unfold piece
 rw [if_neg h2, if_neg h3, if_neg h4, if_neg h5]
theorem word_plain (r : Bytes) (n : Nat) (hr : stop r) : ∀ (s acc : Bytes) (f : Nat), s.length < f → (∀ c ∈ s, pw c = true) → word f ([⟨0, acc, false⟩], s ++ r, n) = .ok ([⟨0, acc ++ s, false⟩], r, n)
 | [], acc, f, hf, h => by rw [List.nil_append, List.append_nil]; exact word_stop _ _ _ _ hr
 | c :: s, acc, 0, hf, h => by omega
 | c :: s, acc, f + 1, hf, h => by
  obtain ⟨h1, h2⟩ := pw_piece (h c (by simp)) [⟨0, acc, false⟩] (s ++ r) n
  rw [List.cons_append, word_cons, h1, if_neg (by decide), h2]
  show word f (addT [⟨0, acc, false⟩] [c] false, s ++ r, n) = _
  rw [show addT [⟨0, acc, false⟩] [c] false = [⟨0, acc ++ [c], false⟩] from rfl, word_plain r n hr s (acc ++ [c]) f (by simpa using hf) (fun c hc => h c (by simp [hc]))]
  rw [List.append_assoc]; rfl
theorem rawl_kw (c : UInt8) (s r : Bytes) (n : Nat) (h : ∀ x ∈ c :: s, pw x = true) (h35 : c ≠ 35) (hr : stop r) (hio : ¬ (r.head? = some 60 ∨ r.head? = some 62)) : rawl (c :: (s ++ r)) n = (⟨0, [], c :: s, [⟨0, c :: s, false⟩], -1, n⟩ :: (rawl r n).1, (rawl r n).2) := by
 obtain ⟨h1, h2⟩ := pw_piece (h c (by simp)) [] (s ++ r) n
 have h92 : c ≠ 92 := by
  rintro rfl
  have := h 92 (by simp)
  cases this
 have hw : word ((s ++ r).length + 2) ([], c :: (s ++ r), n) = .ok ([⟨0, c :: s, false⟩], r, n) := by
  rw [word_cons, h1, if_neg (by decide), h2]
  exact word_plain r n hr s [c] _ (by rw [List.length_append]; omega) (fun x hx => h x (by simp [hx]))
 have e : ¬ (c = 32 ∨ c = 9) ∧ c ≠ 10 ∧ ¬ (c = 124 ∨ c = 38 ∨ c = 59) ∧ ¬ (c = 40 ∨ c = 41) ∧ ¬ (c = 60 ∨ c = 62) := by
  refine ⟨?_, ?_, ?_, ?_, ?_⟩
  ·rintro (rfl | rfl) <;> cases h1
  ·rintro rfl; cases h1
  ·rintro (rfl | rfl | rfl) <;> cases h1
  ·rintro (rfl | rfl) <;> cases h1
  ·rintro (rfl | rfl) <;> cases h1
 have hs : step c (s ++ r) n = .tok ⟨0, [], c :: s, [⟨0, c :: s, false⟩], -1, n⟩ r n := by
  unfold step
  rw [if_neg e.1, if_neg h35, if_neg e.2.1, if_neg e.2.2.1, if_neg e.2.2.2.1, if_neg e.2.2.2.2, if_neg (fun hh => h92 hh.1), hw]
  simp only
  rw [show plainOf [⟨0, c :: s, false⟩] = c :: s from rfl]
  cases number (c :: s) with
  | none => rfl
  | some fd => simp only; rw [if_neg hio]
 rw [rawl_cons, hs]
theorem lexes_kw {c : UInt8} {s r : Bytes} {T : List Tok} (h : Lexes r T) (hs : (c :: s).all pw = true) (h35 : c ≠ 35) (hr : stop r) (hio : ¬ (r.head? = some 60 ∨ r.head? = some 62)) : Lexes (c :: (s ++ r)) (tW (c :: s) :: T) := fun n hn => by
 obtain ⟨h1, m, h2, h3⟩ := h n hn
 rw [rawl_kw c s r n (by simpa using hs) h35 hr hio]
 refine ⟨?_, m, h2, h3⟩
 show strip _ :: _ = _
 rw [← h1]; rfl
theorem lexes_par {c : UInt8} {r : Bytes} {T : List Tok} (h : Lexes r T) (hc : c = 40 ∨ c = 41) : Lexes (c :: r) (tOp [c] :: T) := fun n hn => by
 obtain ⟨h1, m, h2, h3⟩ := h n hn
 have hs : step c r n = .tok (opT [c] n) r n := by
  rcases hc with rfl | rfl <;> rfl
 rw [rawl_cons, hs]
 refine ⟨?_, m, h2, h3⟩
 show strip _ :: _ = _
 rw [← h1]; rfl
theorem lexes_semi {r : Bytes} {T : List Tok} (h : Lexes r T) : Lexes (59 :: 59 :: r) (tOp [59, 59] :: T) := fun n hn => by
 obtain ⟨h1, m, h2, h3⟩ := h n hn
 have hs : step 59 (59 :: r) n = .tok (opT [59, 59] n) r n := rfl
 rw [rawl_cons, hs]
 refine ⟨?_, m, h2, h3⟩
 show strip _ :: _ = _
 rw [← h1]; rfl
theorem stop32 (t : Bytes) : stop (32 :: t) := .inr ⟨32, t, rfl, rfl⟩
theorem stop10 (t : Bytes) : stop (10 :: t) := .inr ⟨10, t, rfl, rfl⟩
/-- The eight scripts. -/
def nestB (a : Bytes) : List Bytes :=
 [[40, 32] ++ (a ++ [10, 41]), [123, 32] ++ (a ++ [10, 125]), kIf ++ 32 :: (a ++ 10 :: (kThen ++ 32 :: (a ++ 10 :: kFi))), kWhile ++ 32 :: (a ++ 10 :: (kDo ++ 32 :: (a ++ 10 :: kDone))), kUntil ++ 32 :: (a ++ 10 :: (kDo ++ 32 :: (a ++ 10 :: kDone))),
  kFor ++ 32 :: 105 :: 32 :: (kIn ++ 32 :: 49 :: 32 :: 50 :: 10 :: (kDo ++ 32 :: (a ++ 10 :: kDone))), kCase ++ 32 :: 120 :: 32 :: (kIn ++ 10 :: 40 :: 120 :: 41 :: 32 :: (a ++ 10 :: 59 :: 59 :: 10 :: kEsac)), 102 :: 40 :: 41 :: 32 :: 123 :: 32 :: (a ++ [10, 125])]
theorem lexes_w1 {c : UInt8} {s : Bytes} (hs : (c :: s).all pw = true) (h35 : c ≠ 35) : Lexes (c :: s) [tW (c :: s)] := by
 have := lexes_kw (c := c) (s := s) lexes_nil hs h35 (.inl rfl) (by simp)
 rwa [List.append_nil] at this
theorem lexes_ws {c : UInt8} {s r : Bytes} {T : List Tok} (h : Lexes r T) (hs : (c :: s).all pw = true) (h35 : c ≠ 35) : Lexes (c :: (s ++ 32 :: r)) (tW (c :: s) :: T) :=
 lexes_kw (lexes_blank (.inl rfl) h) hs h35 (stop32 _) (by simp)
theorem nest_lex {a : Bytes} {T : List Tok} (ha : Lexes a T) (he : a.getLast? ≠ some 92) (i : Nat) (s : Bytes) (hs : (nestB a)[i]? = some s) : ∃ ts, (nestT T)[i]? = some ts ∧ Lexes s ts := by
 have hi : i < 8 := by
  have := (List.getElem?_eq_some_iff.1 hs).1
  simpa [nestB] using this
 have hfi : Lexes kFi [tW kFi] := lexes_w1 (by rfl) (by decide)
 have hdone : Lexes kDone [tW kDone] := lexes_w1 (by rfl) (by decide)
 have hesac : Lexes kEsac [tW kEsac] := lexes_w1 (by rfl) (by decide)
 have hcl : Lexes [41] [tOp [41]] := lexes_par lexes_nil (.inr rfl)
 have hbr : Lexes [125] [tW [125]] := lexes_w1 (by rfl) (by decide)
 have hj : ∀ {b : Bytes} {V : List Tok}, Lexes b V → Lexes (a ++ 10 :: b) (T ++ tL :: V) := fun hb => lexes_join ha he hb
 rcases (show i = 0 ∨ i = 1 ∨ i = 2 ∨ i = 3 ∨ i = 4 ∨ i = 5 ∨ i = 6 ∨ i = 7 by omega) with rfl | rfl | rfl | rfl | rfl | rfl | rfl | rfl <;> (cases hs; refine ⟨_, rfl, ?_⟩)
 ·exact lexes_par (lexes_blank (.inl rfl) (hj hcl)) (.inl rfl)
 ·exact lexes_ws (s := []) (hj hbr) (by rfl) (by decide)
 ·exact lexes_ws (c := 105) (s := [102]) (hj (lexes_ws (c := 116) (s := [104, 101, 110]) (hj hfi) (by rfl) (by decide))) (by rfl) (by decide)
 ·exact lexes_ws (c := 119) (s := [104, 105, 108, 101]) (hj (lexes_ws (c := 100) (s := [111]) (hj hdone) (by rfl) (by decide))) (by rfl) (by decide)
 ·exact lexes_ws (c := 117) (s := [110, 116, 105, 108]) (hj (lexes_ws (c := 100) (s := [111]) (hj hdone) (by rfl) (by decide))) (by rfl) (by decide)
 ·exact lexes_ws (c := 102) (s := [111, 114]) (lexes_ws (c := 105) (s := []) (lexes_ws (c := 105) (s := [110]) (lexes_ws (c := 49) (s := []) (lexes_kw (c := 50) (s := []) (lexes_lf (lexes_ws (c := 100) (s := [111]) (hj hdone) (by rfl) (by decide))) (by rfl) (by decide) (stop10 _) (by simp)) (by rfl) (by decide)) (by rfl) (by decide)) (by rfl) (by decide)) (by rfl) (by decide)
 ·exact lexes_ws (c := 99) (s := [97, 115, 101]) (lexes_ws (c := 120) (s := []) (lexes_kw (c := 105) (s := [110]) (lexes_lf (lexes_par (lexes_kw (c := 120) (s := []) (lexes_par (lexes_blank (.inl rfl) (hj (lexes_semi (lexes_lf hesac)))) (.inr rfl)) (by rfl) (by decide) (.inr ⟨41, _, rfl, rfl⟩) (by simp)) (.inl rfl))) (by rfl) (by decide) (stop10 _) (by simp)) (by rfl) (by decide)) (by rfl) (by decide)
 ·exact lexes_kw (c := 102) (s := []) (lexes_par (lexes_par (lexes_blank (.inl rfl) (lexes_ws (c := 123) (s := []) (hj hbr) (by rfl) (by decide))) (.inr rfl)) (.inl rfl)) (by rfl) (by decide) (.inr ⟨40, _, rfl, rfl⟩) (by simp)
/-- From the tokens to the answer, and back. -/
theorem parseB_of {s : Bytes} {T : List Tok} (hs : s.length ≤ 8000) (h : Lexes s T) : (∃ m, 2000 < T.length ∧ parseB s = .err true m) ∨ (T.length ≤ 2000 ∧ (∀ l, parseK 20 T = .ok l [] → parseB s = .ok l) ∧ ∀ m, parseK 20 T = .bad 2 m → ∃ k, parseB s = .err true k) := by
 obtain ⟨h1, m, h2, h3⟩ := h 1 (Nat.le_refl _)
 obtain ⟨xs, hxs⟩ : ∃ xs, (rawl s 1).1 = xs := ⟨_, rfl⟩
 have hr : rawl s 1 = (xs, .fin m) := by rw [← hxs, ← h3]
 rw [hxs] at h1
 subst h1
 rw [List.length_map]
 by_cases hl : xs.length ≤ 2000
 ·right
  refine ⟨hl, fun l hp => ?_, fun k hp => ?_⟩
  ·unfold parseB parseT
   rw [lim_of hs hr hl]
   simp only [List.dropLast_concat, hp]
  ·unfold parseB parseT
   rw [lim_of hs hr hl]
   simp only [List.dropLast_concat, hp]
   exact ⟨_, rfl⟩
 ·left
  obtain ⟨k, hk⟩ := lim_over hs hr (by omega)
  exact ⟨k, by omega, by unfold parseB; rw [hk]⟩
theorem parseB_ok {s : Bytes} {l : List Nd} (hs : s.length ≤ 8000) (h : parseB s = .ok l) : ∃ T, Lexes s T ∧ T.length ≤ s.length ∧ parseK 20 T = .ok l [] := by
 unfold parseB at h
 cases hx : lex s with
 | err f m => rw [hx] at h; cases h
 | ok ts =>
  rw [hx] at h
  obtain ⟨xs, m, h1, rfl, h3⟩ := lim_ok hs hx
  refine ⟨_, lexes_of h1, ?_, ?_⟩
  ·have := (rawl_bound s.length s 1 (Nat.le_refl _)).1
   rw [h1] at this
   rw [List.length_map]; exact this
  ·simp only [parseT, List.dropLast_concat] at h
   cases hp : parseK 20 (xs.map strip) with
   | bad e m => rw [hp] at h; cases h
   | ok l2 r =>
    rw [hp] at h
    cases h
    rw [(parseK_ok hp).2]
theorem lexes_len {s : Bytes} {T : List Tok} (h : Lexes s T) : T.length ≤ s.length := by
 have := (rawl_bound s.length s 1 (Nat.le_refl _)).1
 rw [← (h 1 (Nat.le_refl _)).1, List.length_map]; exact this
theorem parseB_is {s : Bytes} {T : List Tok} {l : List Nd} (hs : s.length ≤ 2000) (h : Lexes s T) (hp : parseK 20 T = .ok l []) : parseB s = .ok l := by
 rcases parseB_of (by omega) h with ⟨m, h1, _⟩ | ⟨_, h2, _⟩
 ·have := lexes_len h; omega
 ·exact h2 l hp
/-- Two scripts with a line feed between them. -/
theorem joins_plain {a b : Bytes} {x y : List Nd} (hl : a.length + b.length < 2000) (he : a.getLast? ≠ some 92) (ha : parseB a = .ok x) (hb : parseB b = .ok y) : parseB (a ++ 10 :: b) = .ok (x ++ y) := by
 obtain ⟨T, h1, _, h2⟩ := parseB_ok (by omega) ha
 obtain ⟨V, h3, _, h4⟩ := parseB_ok (by omega) hb
 exact parseB_is (by simp only [List.length_append, List.length_cons]; omega) (lexes_join h1 he h3) (parseK_join rfl h2 h4)
/-- .. and empty lines, and a comment. -/
theorem joins_comment {a b c : Bytes} {x y : List Nd} (hl : a.length + b.length + c.length < 1990) (he : a.getLast? ≠ some 92) (hc : 10 ∉ c) (ha : parseB a = .ok x) (hb : parseB b = .ok y) : parseB (a ++ 10 :: 10 :: 32 :: 9 :: 10 :: 35 :: (c ++ 10 :: b)) = .ok (x ++ y) := by
 obtain ⟨T, h1, _, h2⟩ := parseB_ok (by omega) ha
 obtain ⟨V, h3, _, h4⟩ := parseB_ok (by omega) hb
 refine parseB_is (by simp only [List.length_append, List.length_cons]; omega) (lexes_join h1 he (lexes_lf (lexes_blank (.inl rfl) (lexes_blank (.inr rfl) (lexes_lf (lexes_comment hc (lexes_lf h3))))))) (parseK_join rfl h2 ?_)
 rw [parseK_line rfl, parseK_line rfl, parseK_line rfl, h4]
/-- A script within compound commands. -/
theorem nests_plain {a : Bytes} {x : List Nd} (hl : a.length ≤ 1000) (he : a.getLast? ≠ some 92) (hx : x ≠ []) (ha : parseB a = .ok x) (i : Nat) (s : Bytes) (n : Nd) (hs : (nestB a)[i]? = some s) (hn : (nestN x)[i]? = some n) : parseB s = .ok [ndP n] ∨ ∃ m, parseB s = .err true m := by
 obtain ⟨T, h1, _, h2⟩ := parseB_ok (by omega) ha
 obtain ⟨ts, h3, h4⟩ := nest_lex h1 he i s hs
 have hsl : s.length ≤ 8000 := by
  have hi : i < 8 := by
   have := (List.getElem?_eq_some_iff.1 hs).1
   simpa [nestB] using this
  rcases (show i = 0 ∨ i = 1 ∨ i = 2 ∨ i = 3 ∨ i = 4 ∨ i = 5 ∨ i = 6 ∨ i = 7 by omega) with rfl | rfl | rfl | rfl | rfl | rfl | rfl | rfl <;> (cases hs; simp [kIf, kThen, kFi, kWhile, kUntil, kDo, kDone, kFor, kIn, kCase, kEsac]; omega)
 rcases parseB_of hsl h4 with ⟨m, _, h5⟩ | ⟨_, h5, h6⟩
 ·exact .inr ⟨m, h5⟩
 ·rcases nests (parseK_ok h2).1 hx i ts n h3 hn with h7 | ⟨m, h7⟩
  ·exact .inl (h5 _ h7)
  ·exact .inr (h6 m h7)
/-! Line feeds before a script. -/
def lineT : Nat → Nat → List Tok
 | 0, _ => []
 | k + 1, n => ⟨3, [], [], [], -1, n⟩ :: lineT k (n + 1)
theorem lineT_len : ∀ k n, (lineT k n).length = k
 | 0, _ => rfl
 | k + 1, n => by rw [lineT, List.length_cons, lineT_len]
theorem rawl_lines (s : Bytes) : ∀ k n, rawl (List.replicate k 10 ++ s) n = (lineT k n ++ (rawl s (n + k)).1, (rawl s (n + k)).2)
 | 0, n => rfl
 | k + 1, n => by
  rw [List.replicate_succ, List.cons_append, rawl_lf, rawl_lines s k (n + 1)]
  rw [show n + 1 + k = n + (k + 1) by omega]
  rfl
theorem lineT_strip : ∀ k n, (lineT k n).map strip = List.replicate k tL
 | 0, _ => rfl
 | k + 1, n => by rw [lineT, List.map_cons, lineT_strip, List.replicate_succ]; rfl
theorem parseK_lines (T : List Tok) : ∀ k, parseK 20 (List.replicate k tL ++ T) = parseK 20 T
 | 0 => rfl
 | k + 1 => by rw [List.replicate_succ, List.cons_append, parseK_line rfl, parseK_lines T k]
theorem rep_len (k : Nat) (s : Bytes) : (List.replicate k (10 : UInt8) ++ s).length = k + s.length := by simp
theorem lines_plain {s : Bytes} {k : Nat} (hl : s.length ≤ 1000) (hk : k ≤ 50) : (∃ l, parseB s = .ok l ∧ parseB (List.replicate k 10 ++ s) = .ok l) ∨ ∃ f m, parseB s = .err f m ∧ parseB (List.replicate k 10 ++ s) = .err f (m + k) ∧ 1 ≤ m ∧ m ≤ lf s + 1 := by
 obtain ⟨xs, fi, hr⟩ : ∃ xs fi, rawl s 1 = (xs, fi) := ⟨_, _, rfl⟩
 have hb := rawl_bound s.length s 1 (Nat.le_refl _)
 have hlb := rawl_lb s.length s 1 (Nat.le_refl _)
 have hr2 : rawl (List.replicate k 10 ++ s) 1 = (lineT k 1 ++ xs.map (Tok.up k), fi.up k) := by
  rw [rawl_lines, rawl_up k s.length s 1 (Nat.le_refl _), hr]
 rw [hr] at hb hlb
 have hx : xs.length ≤ s.length := hb.1
 have hlen : (lineT k 1 ++ xs.map (Tok.up k)).length ≤ 2000 := by
  rw [List.length_append, lineT_len, List.length_map]; omega
 cases fi with
 | bad m =>
  right
  have h1 : 1 ≤ m ∧ m ≤ 1 + lf s := hlb.2
  refine ⟨false, m, ?_, ?_, h1.1, by omega⟩
  ·unfold parseB
   rw [lim_bad2 (by omega) hr (by omega)]
  ·unfold parseB
   rw [lim_bad2 (by rw [rep_len]; omega) hr2 hlen]
 | fin m =>
  have h1 : 1 ≤ m ∧ m ≤ 1 + lf s := hlb.2
  have e1 := lim_of (by omega) hr (by omega)
  have e2 := lim_of (by rw [rep_len]; omega) hr2 hlen
  have e3 : parseK 20 ((lineT k 1 ++ xs.map (Tok.up k)).map strip) = parseK 20 (xs.map strip) := by
   rw [List.map_append, lineT_strip, parseK_lines, List.map_map]
   rfl
  unfold parseB parseT
  rw [e1, e2]
  simp only [List.dropLast_concat, e3]
  cases hp : parseK 20 (xs.map strip) with
  | ok l r => exact .inl ⟨l, rfl, rfl⟩
  | bad e j =>
   right
   have hj := parseK_bad hp
   rw [List.length_map] at hj
   have hd : ∀ (ts : List Tok) (i : Nat) (t : Tok), ts[i]? = some t → ts.getD i (endT 0) = t := fun ts i t h => by rw [List.getD_eq_getElem?_getD, h]; rfl
   obtain ⟨t, ht⟩ : ∃ t, (xs ++ [endT m])[xs.length - j]? = some t := ⟨_, List.getElem?_eq_getElem (by rw [List.length_append, List.length_singleton]; omega)⟩
   have ht2 : (lineT k 1 ++ xs.map (Tok.up k) ++ [endT (m + k)])[k + (xs.length - j)]? = some (t.up k) := by
    rw [List.append_assoc, List.getElem?_append_right (by rw [lineT_len]; omega), lineT_len, Nat.add_sub_cancel_left]
    rw [show xs.map (Tok.up k) ++ [endT (m + k)] = (xs ++ [endT m]).map (Tok.up k) by rw [List.map_append]; rfl, List.getElem?_map, ht]
    rfl
   have htl : 1 ≤ t.line ∧ t.line ≤ 1 + lf s := by
    have hm := List.mem_of_getElem? ht
    rcases List.mem_append.1 hm with hm | hm
    ·exact hlb.1 t hm
    ·rw [List.mem_singleton] at hm; subst hm; exact h1
   refine ⟨e == 2, t.line, ?_, ?_, htl.1, by omega⟩
   ·simp only
    rw [List.length_append, List.length_singleton, Nat.add_sub_cancel, hd _ _ _ ht]
   ·simp only
    rw [List.length_append, List.length_singleton, Nat.add_sub_cancel, List.length_append, lineT_len, List.length_map, Nat.add_sub_assoc hj]
    show PAns.err _ ((lineT k 1 ++ xs.map (Tok.up k) ++ [endT (m + k)]).getD _ _).line = _
    rw [hd _ _ _ ht2]; rfl
/-! The documented examples. -/
def ex0 : Bytes := [97, 32, 124, 32, 98, 32, 38, 38, 32, 99, 32, 38]
def ex1 : Bytes := [120, 61, 49, 32, 121, 61, 36, 122, 32, 99, 109, 100, 32, 120, 61, 50, 32, 62, 111, 117, 116, 32, 50, 62, 38, 49]
def ex2 : Bytes := [102, 40, 41, 32, 123, 32, 97, 59, 32, 125]
def ex3 : Bytes := [105, 102, 32, 97, 59, 32, 116, 104, 101, 110, 32, 98]
def ex4 : Bytes := [97, 32, 124, 124]
def ex5 : Bytes := [40, 32, 41]
def ex6 : Bytes := [102, 105]
theorem ex0_is : parseB ex0 = .ok [.mk 5 [] false [] [] [] [.mk 2 [] false [] [] [] [.mk 1 [] false [] [] [] [.mk 0 [] false [] [[⟨0, [97], false⟩]] [] [], .mk 0 [] false [] [[⟨0, [98], false⟩]] [] []], .mk 1 [] false [] [] [] [.mk 0 [] false [] [[⟨0, [99], false⟩]] [] []]]]] := by rfl
theorem ex1_is : parseB ex1 = .ok [.mk 1 [] false [] [] [] [.mk 0 [] false [([120], [⟨0, [49], false⟩]), ([121], [⟨1, [122], false⟩])] [[⟨0, [99, 109, 100], false⟩], [⟨0, [120, 61, 50], false⟩]] [(1, 1, [⟨0, [111, 117, 116], false⟩]), (2, 3, [⟨0, [49], false⟩])] []]] := by rfl
theorem ex2_is : parseB ex2 = .ok [.mk 1 [] false [] [] [] [.mk 14 [102] false [] [] [] [.mk 7 [] false [] [] [] [.mk 4 [] false [] [] [] [.mk 1 [] false [] [] [] [.mk 0 [] false [] [[⟨0, [97], false⟩]] [] []]]]]]] := by rfl
theorem ex3_is : parseB ex3 = .err false 1 := by rfl
theorem ex4_is : parseB ex4 = .err false 1 := by rfl
theorem ex5_is : parseB ex5 = .err false 1 := by rfl
theorem ex6_is : parseB ex6 = .err false 1 := by rfl
end Go.Proofs.YtgboffbbpmileaaGreatDoor
