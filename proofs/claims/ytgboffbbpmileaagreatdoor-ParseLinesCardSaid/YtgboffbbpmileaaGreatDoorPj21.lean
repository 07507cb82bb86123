/- Lemmas and walks for the law of this seat (part 21). -/
import Derived.Test.YtgboffbbpmileaaGreatDoorPj20
/- A line feed and more behind a script; joins; levels; compound commands. Of no program. -/
set_option linter.unusedVariables false
set_option linter.unusedSimpArgs false
namespace Go.Proofs.YtgboffbbpmileaaGreatDoor
open Go
theorem bind_ok {α β : Type} {p : PR α} {f : α → List Tok → PR β} {b : β} {r : List Tok} (h : p.bind f = .ok b r) : ∃ a r1, p = .ok a r1 ∧ f a r1 = .ok b r := by
 cases p with
 | bad e m => cases h
 | ok a r1 => exact ⟨a, r1, rfl, h⟩
theorem ok_bind {α β : Type} {p : PR α} {f : α → List Tok → PR β} {a : α} {r : List Tok} (h : p = .ok a r) : p.bind f = f a r := by rw [h]; rfl
section
variable {ln : Tok} {e : List Tok}
/-- A line feed and more behind it changes nothing. -/
def XT {α : Type} (ln : Tok) (e : List Tok) (P : Pa α) : Prop := ∀ ts a r, P ts = .ok a r → P (ts ++ ln :: e) = .ok a (r ++ ln :: e)
/-- .. where something is left. -/
def XN {α : Type} (ln : Tok) (e : List Tok) (P : Pa α) : Prop := ∀ ts a r, P ts = .ok a r → r ≠ [] → P (ts ++ ln :: e) = .ok a (r ++ ln :: e)
theorem op_x (hl : ln.kind = 3) (s : Bytes) (ts : List Tok) : isOp s (ts ++ ln :: e) = isOp s ts := by
 cases ts with
 | nil => simp [isOp, hl]
 | cons t r => rfl
theorem kw_x (hl : ln.kind = 3) (l : List Bytes) (ts : List Tok) : isKw l (ts ++ ln :: e) = isKw l ts := by
 cases ts with
 | nil => simp [isKw, hl]
 | cons t r => rfl
theorem k_x (hl : ln.kind = 3) {k : Nat} (hk : k ≠ 3) (ts : List Tok) : isK k (ts ++ ln :: e) = isK k ts := by
 cases ts with
 | nil => simp [isK, hl]; exact fun h => hk h.symm
 | cons t r => rfl
theorem k3_x {ts : List Tok} (h : ts ≠ []) : isK 3 (ts ++ ln :: e) = isK 3 ts := by
 cases ts with
 | nil => exact absurd rfl h
 | cons t r => rfl
theorem tail_x {ts : List Tok} (h : ts ≠ []) : (ts ++ ln :: e).tail = ts.tail ++ ln :: e := by
 cases ts with
 | nil => exact absurd rfl h
 | cons t r => rfl
theorem lines_x : ∀ {ts : List Tok}, lines ts ≠ [] → lines (ts ++ ln :: e) = lines ts ++ ln :: e
 | [], h => absurd rfl h
 | t :: r, h => by
  unfold lines at h ⊢
  rw [List.cons_append, List.dropWhile_cons, List.dropWhile_cons] at *
  split
  ·rename_i ht
   rw [if_pos ht] at h
   exact lines_x h
  ·rfl
theorem lines_x0 (hl : ln.kind = 3) : ∀ {ts : List Tok}, lines ts = [] → lines (ts ++ ln :: e) = lines e
 | [], h => by
  show lines (ln :: e) = _
  unfold lines
  rw [List.dropWhile_cons, if_pos (by rw [hl]; rfl)]
 | t :: r, h => by
  unfold lines at h ⊢
  rw [List.dropWhile_cons] at h
  rw [List.cons_append, List.dropWhile_cons]
  split
  ·rename_i ht
   rw [if_pos ht] at h
   exact lines_x0 hl h
  ·rename_i ht
   rw [if_neg ht] at h
   cases h
theorem block_x (hl : ln.kind = 3) (ts : List Tok) : blockOf (ts ++ ln :: e) = blockOf ts := by
 unfold blockOf
 rw [op_x hl]
 cases ts with
 | nil => simp [hl]
 | cons t r => rfl
theorem want_ne {s : Bytes} {ts r : List Tok} {u : Unit} (h : want s ts = .ok u r) : ts ≠ [] := by
 rintro rfl
 cases h
theorem xt_want (hl : ln.kind = 3) (s : Bytes) : XT ln e (want s) := fun ts a r h => by
 have hn := want_ne h
 unfold want at h ⊢
 rw [op_x hl, kw_x hl]
 split at h
 ·rename_i hc
  rw [if_pos hc, tail_x hn]
  cases h
  rfl
 ·cases h
theorem xt_word : XT ln e wordP := fun ts a r h => by
 cases ts with
 | nil => cases h
 | cons t r0 =>
  simp only [wordP, List.cons_append] at h ⊢
  split at h
  ·rename_i hc
   rw [if_pos hc]
   cases h
   rfl
  ·cases h
theorem xt_redir : XT ln e redir := fun ts a r h => by
 cases ts with
 | nil => cases h
 | cons t r0 =>
  simp only [redir, List.cons_append] at h ⊢
  obtain ⟨w, r1, h1, h2⟩ := bind_ok h
  rw [ok_bind (xt_word _ _ _ h1)]
  cases h2
  rfl
theorem suc_of {g n : Nat} (h : n + 1 ≤ g) : ∃ g', g = g' + 1 ∧ n ≤ g' := ⟨g - 1, by omega, by omega⟩
theorem len_x (ts : List Tok) : (ts ++ ln :: e).length = ts.length + (e.length + 1) := by simp
theorem x_redirsL (hl : ln.kind = 3) : ∀ (f : Nat) (l : List (Int × Nat × List Prt)) (ts : List Tok) a r, redirsL f l ts = .ok a r → ts.length ≤ f → ∀ g, ts.length + (e.length + 1) ≤ g → redirsL g l (ts ++ ln :: e) = .ok a (r ++ ln :: e)
 | f, l, ts, a, r, h, hf, g, hg => by
  obtain ⟨g, rfl, hg⟩ := suc_of (show ts.length + e.length + 1 ≤ g by omega)
  unfold redirsL
  rw [k_x hl (by decide)]
  cases f with
  | zero =>
   obtain rfl : ts = [] := List.eq_nil_of_length_eq_zero (by omega)
   cases h
   rfl
  | succ f =>
   unfold redirsL at h
   split at h
   ·rename_i hc
    rw [if_pos hc]
    obtain ⟨x, r1, h1, h2⟩ := bind_ok h
    have hw : Wi (redir ts) ts 2 := wi_redir ts
    rw [h1] at hw
    have hw2 := hw.2
    rw [ok_bind (xt_redir _ _ _ h1)]
    exact x_redirsL hl f _ r1 a r h2 (by omega) g (by omega)
   ·rename_i hc
    rw [if_neg hc]
    cases h
    rfl
section
variable {cmd it pi li so ar : Pa Nd}
theorem ne_of_ok {α : Type} {P : Pa α} (hw : Wp P 1) {ts : List Tok} {a : α} {r : List Tok} (h : P ts = .ok a r) : ts ≠ [] := by
 rintro rfl
 have := hw []
 rw [h] at this
 have h2 := this.2
 simp at h2
theorem x_itemL (hl : ln.kind = 3) (hw : Wp pi 1) (h0 : XT ln e pi) : ∀ (f : Nat) (n : Nd) (ts : List Tok) a r, itemL pi f n ts = .ok a r → ts.length ≤ f → ∀ g, ts.length + (e.length + 1) ≤ g → itemL pi g n (ts ++ ln :: e) = .ok a (r ++ ln :: e)
 | f, n, ts, a, r, h, hf, g, hg => by
  obtain ⟨g, rfl, hg⟩ := suc_of (show ts.length + e.length + 1 ≤ g by omega)
  unfold itemL
  rw [op_x hl, op_x hl]
  cases f with
  | zero =>
   obtain rfl : ts = [] := List.eq_nil_of_length_eq_zero (by omega)
   cases h
   rfl
  | succ f =>
   unfold itemL at h
   split at h
   ·rename_i hc
    rw [if_pos hc]
    have hn : ts ≠ [] := by
     rcases Bool.or_eq_true _ _ ▸ hc with hc | hc
     ·exact op_ne hc
     ·exact op_ne hc
    obtain ⟨x, r1, h1, h2⟩ := bind_ok h
    rw [tail_x hn, lines_x (ne_of_ok hw h1), ok_bind (h0 _ _ _ h1)]
    have hw1 := hw (lines ts.tail)
    rw [h1] at hw1
    have := hw1.2
    have := lines_len ts.tail
    have := tail_lt hn
    exact x_itemL hl hw h0 f _ r1 a r h2 (by omega) g (by omega)
   ·rename_i hc
    rw [if_neg hc]
    cases h
    rfl
theorem xt_item (hl : ln.kind = 3) (hw : Wp pi 1) (h0 : XT ln e pi) : XT ln e (item pi) := fun ts a r h => by
 unfold item at h ⊢
 obtain ⟨n, r1, h1, h2⟩ := bind_ok h
 rw [ok_bind (h0 _ _ _ h1)]
 exact x_itemL hl hw h0 _ _ _ _ _ h2 (Nat.le_refl _) _ (by rw [len_x]; exact Nat.le_refl _)
theorem x_pipeL (hl : ln.kind = 3) (hw : Wp cmd 1) (h0 : XT ln e cmd) : ∀ (f : Nat) (l : List Nd) (ts : List Tok) a r, pipeL cmd f l ts = .ok a r → ts.length ≤ f → ∀ g, ts.length + (e.length + 1) ≤ g → pipeL cmd g l (ts ++ ln :: e) = .ok a (r ++ ln :: e)
 | f, n, ts, a, r, h, hf, g, hg => by
  obtain ⟨g, rfl, hg⟩ := suc_of (show ts.length + e.length + 1 ≤ g by omega)
  unfold pipeL
  rw [op_x hl]
  cases f with
  | zero =>
   obtain rfl : ts = [] := List.eq_nil_of_length_eq_zero (by omega)
   cases h
   rfl
  | succ f =>
   unfold pipeL at h
   split at h
   ·rename_i hc
    rw [if_pos hc]
    have hn : ts ≠ [] := op_ne hc
    obtain ⟨x, r1, h1, h2⟩ := bind_ok h
    rw [tail_x hn, lines_x (ne_of_ok hw h1), ok_bind (h0 _ _ _ h1)]
    have hw1 := hw (lines ts.tail)
    rw [h1] at hw1
    have := hw1.2
    have := lines_len ts.tail
    have := tail_lt hn
    exact x_pipeL hl hw h0 f _ r1 a r h2 (by omega) g (by omega)
   ·rename_i hc
    rw [if_neg hc]
    cases h
    rfl
theorem xt_pipe (hl : ln.kind = 3) (hw : Wp cmd 1) (h0 : XT ln e cmd) : XT ln e (pipe cmd) := fun ts a r h => by
 unfold pipe at h ⊢
 obtain ⟨x, r1, h1, h2⟩ := bind_ok h
 rw [kw_x hl]
 have h3 : cmd (if isKw [[33]] ts then (ts ++ ln :: e).tail else ts ++ ln :: e) = .ok x (r1 ++ ln :: e) := by
  split at h1
  ·rename_i hc
   rw [if_pos hc, tail_x (kw_ne hc)]
   exact h0 _ _ _ h1
  ·rename_i hc
   rw [if_neg hc]
   exact h0 _ _ _ h1
 rw [ok_bind h3]
 obtain ⟨l, r2, h4, h5⟩ := bind_ok h2
 rw [ok_bind (x_pipeL hl hw h0 _ _ _ _ _ h4 (Nat.le_refl _) _ (by rw [len_x]; exact Nat.le_refl _))]
 cases h5
 rfl
theorem ends_x (hl : ln.kind = 3) {ts : List Tok} (h : ts ≠ []) : isEnds (ts ++ ln :: e) = isEnds ts := by
 cases ts with
 | nil => exact absurd rfl h
 | cons t r => rfl
theorem back_x (hl : ln.kind = 3) (ts : List Tok) (x : Nd) : back (ts ++ ln :: e) x = back ts x := by
 unfold back
 rw [op_x hl]
theorem sep_x (hl : ln.kind = 3) {ts : List Tok} (h : ts ≠ []) : sep (ts ++ ln :: e) = sep ts := by
 unfold sep
 rw [op_x hl, op_x hl, k3_x h]
theorem x_listL (hl : ln.kind = 3) (hw : Wp it 1) (h0 : XT ln e it) : ∀ (f : Nat) (l : List Nd) (ts : List Tok) a r, listL it f l ts = .ok a r → r ≠ [] → ts.length + 1 ≤ f → ∀ g, ts.length + (e.length + 1) + 1 ≤ g → listL it g l (ts ++ ln :: e) = .ok a (r ++ ln :: e)
 | 0, l, ts, a, r, h, hr, hf, g, hg => by omega
 | f + 1, l, ts, a, r, h, hr, hf, g, hg => by
  obtain ⟨g, rfl, hg⟩ := suc_of hg
  unfold listL at h ⊢
  split at h
  ·rename_i hc
   cases h
   rw [lines_x hr, ends_x hl hr, if_pos hc]
  ·rename_i hc
   have hn : lines ts ≠ [] := fun e => hc (by rw [e]; rfl)
   rw [lines_x hn, ends_x hl hn, if_neg hc]
   obtain ⟨x, r1, h1, h2⟩ := bind_ok h
   rw [ok_bind (h0 _ _ _ h1), back_x hl]
   have hw1 := hw (lines ts)
   rw [h1] at hw1
   have := hw1.2
   have := lines_len ts
   split at h2
   ·rename_i hs
    have hn1 := sep_ne hs
    have := tail_lt hn1
    rw [sep_x hl hn1, if_pos hs, tail_x hn1]
    exact x_listL hl hw h0 f _ r1.tail a r h2 hr (by omega) g (by omega)
   ·rename_i hs
    cases h2
    rw [sep_x hl hr, if_neg hs]
theorem xn_list (hl : ln.kind = 3) (hw : Wp cmd 1) (h0 : XT ln e cmd) : XN ln e (list cmd) := fun ts a r h hr => by
 unfold list at h ⊢
 obtain ⟨l, r1, h1, h2⟩ := bind_ok h
 cases h2
 unfold listK at h1 ⊢
 rw [ok_bind (x_listL hl (wi_item (wi_pipe hw)) (xt_item hl (wi_pipe hw) (xt_pipe hl hw h0)) _ _ _ _ _ h1 hr (Nat.le_refl _) _ (by rw [len_x]; exact Nat.le_refl _))]
theorem xn_some (hl : ln.kind = 3) (hw : Wp cmd 1) (h0 : XT ln e cmd) : XN ln e (some_ cmd) := fun ts a r h hr => by
 unfold some_ at h ⊢
 obtain ⟨n, r1, h1, h2⟩ := bind_ok h
 split at h2
 ·cases h2
 ·rename_i hc
  cases h2
  rw [ok_bind (xn_list hl hw h0 _ _ _ h1 hr), if_neg hc]
theorem x_simpleL (hl : ln.kind = 3) : ∀ (f : Nat) (x : Sim) (ts : List Tok) a r, simpleL f x ts = .ok a r → ts.length ≤ f → ∀ g, ts.length + (e.length + 1) ≤ g → simpleL g x (ts ++ ln :: e) = .ok a (r ++ ln :: e)
 | f, x, ts, a, r, h, hf, g, hg => by
  obtain ⟨g, rfl, hg⟩ := suc_of (show ts.length + e.length + 1 ≤ g by omega)
  cases ts with
  | nil =>
   have h2 : a = x.nd ∧ r = [] := by
    cases f with
    | zero => cases h; exact ⟨rfl, rfl⟩
    | succ f => cases h; exact ⟨rfl, rfl⟩
   obtain ⟨rfl, rfl⟩ := h2
   show simpleL (g + 1) x (ln :: e) = .ok x.nd (ln :: e)
   unfold simpleL
   simp only [hl]
   rfl
  | cons t ts =>
   cases f with
   | zero => simp at hf
   | succ f =>
    rw [List.cons_append]
    unfold simpleL at h ⊢
    simp only at h ⊢
    simp only [List.length_cons] at hf hg
    split at h
    ·rename_i hc
     rw [if_pos hc]
     obtain ⟨y, r1, h1, h2⟩ := bind_ok h
     have hw : Wi (redir (t :: ts)) (t :: ts) 2 := wi_redir _
     rw [h1] at hw
     have hw2 := hw.2
     simp only [List.length_cons] at hw2
     rw [← List.cons_append, ok_bind (xt_redir _ _ _ h1)]
     exact x_simpleL hl f _ r1 a r h2 (by omega) g (by omega)
    ·rename_i hc
     rw [if_neg hc]
     split at h
     ·rename_i hc2
      rw [if_pos hc2]
      exact x_simpleL hl f _ ts a r h (by omega) g (by omega)
     ·rename_i hc2
      rw [if_neg hc2]
      cases h
      rfl
theorem xt_simple (hl : ln.kind = 3) : XT ln e simple := fun ts a r h => by
 unfold simple at h ⊢
 rw [k_x hl (by decide), k_x hl (by decide)]
 split at h
 ·rename_i hc
  rw [if_pos hc]
  exact x_simpleL hl _ _ _ _ _ h (Nat.le_refl _) _ (by rw [len_x]; exact Nat.le_refl _)
 ·cases h
theorem xt_closed (hl : ln.kind = 3) (h0 : XN ln e so) (k : Nat) (c : Bytes) : XT ln e (closed so k c) := fun ts a r h => by
 unfold closed at h ⊢
 obtain ⟨x, r1, h1, h2⟩ := bind_ok h
 obtain ⟨u, r2, h3, h4⟩ := bind_ok h2
 rw [ok_bind (h0 _ _ _ h1 (want_ne h3)), ok_bind (xt_want hl c _ _ _ h3)]
 cases h4
 rfl
theorem x_between (hl : ln.kind = 3) (h0 : XN ln e so) (k : Nat) (f : Bytes) (s : Option Bytes) (ts : List Tok) (a : Nd) (r : List Tok) (h : between so k f s ts = .ok a r) (hr : s = none → r ≠ []) : between so k f s (ts ++ ln :: e) = .ok a (r ++ ln :: e) := by
 unfold between at h ⊢
 obtain ⟨x, r1, h1, h2⟩ := bind_ok h
 obtain ⟨u, r2, h3, h4⟩ := bind_ok h2
 obtain ⟨y, r3, h5, h6⟩ := bind_ok h4
 rw [ok_bind (h0 _ _ _ h1 (want_ne h3)), ok_bind (xt_want hl f _ _ _ h3)]
 cases s with
 | none =>
  cases h6
  rw [ok_bind (h0 _ _ _ h5 (hr rfl))]
 | some s =>
  obtain ⟨v, r4, h7, h8⟩ := bind_ok h6
  rw [ok_bind (h0 _ _ _ h5 (want_ne h7))]
  simp only
  rw [ok_bind (xt_want hl s _ _ _ h7)]
  cases h8
  rfl
theorem forWords_x (hl : ln.kind = 3) : ∀ ts : List Tok, forWords (ts ++ ln :: e) = ((forWords ts).1, (forWords ts).2 ++ ln :: e)
 | [] => by simp [forWords, hl]
 | t :: r => by
  rw [List.cons_append]
  unfold forWords
  split
  ·rw [forWords_x hl r]
  ·rfl
theorem forTail_ne {n : Bytes} {ws : List (List Prt)} {ts r : List Tok} {a : Nd} (h : forTail so n ws ts = .ok a r) : lines ts ≠ [] := by
 unfold forTail at h
 obtain ⟨u, r1, h1, h2⟩ := bind_ok h
 exact want_ne h1
theorem xt_forTail (hl : ln.kind = 3) (h0 : XN ln e so) (n : Bytes) (ws : List (List Prt)) : XT ln e (forTail so n ws) := fun ts a r h => by
 have hn := forTail_ne h
 unfold forTail at h ⊢
 obtain ⟨u, r1, h1, h2⟩ := bind_ok h
 obtain ⟨b, r2, h3, h4⟩ := bind_ok h2
 obtain ⟨v, r3, h5, h6⟩ := bind_ok h4
 rw [lines_x hn, ok_bind (xt_want hl kDo _ _ _ h1), ok_bind (h0 _ _ _ h3 (want_ne h5)), ok_bind (xt_want hl kDone _ _ _ h5)]
 cases h6
 rfl
theorem xt_loop (hl : ln.kind = 3) (h0 : XN ln e so) : XT ln e (loopP so) := fun ts a r h => by
 cases ts with
 | nil => cases h
 | cons t r0 =>
  rw [List.cons_append]
  simp only [loopP] at h ⊢
  split at h
  ·rename_i hc
   rw [if_pos hc]
   split at h
   ·rename_i hi
    have hn := kw_ne hi
    rw [lines_x hn, kw_x hl, if_pos hi, tail_x hn]
    unfold forIn at h ⊢
    rw [forWords_x hl]
    simp only
    split at h
    ·rename_i hs
     have hn2 : (forWords (lines r0).tail).2 ≠ [] := by
      rcases Bool.or_eq_true _ _ ▸ hs with hs | hs
      ·exact op_ne hs
      ·exact k_ne hs
     rw [op_x hl, k3_x hn2, if_pos hs, tail_x hn2]
     exact xt_forTail hl h0 _ _ _ _ _ h
    ·cases h
   ·rename_i hi
    have hn : lines r0 ≠ [] := by
     intro hh
     rw [hh] at h
     have := forTail_ne h
     exact this rfl
    have hn0 : r0 ≠ [] := by rintro rfl; exact hn rfl
    rw [lines_x hn, kw_x hl, if_neg hi, op_x hl, k3_x hn0]
    split at h
    ·rename_i hs
     rw [if_pos hs, tail_x hn]
     exact xt_forTail hl h0 _ _ _ _ _ h
    ·rename_i hs
     rw [if_neg hs]
     exact xt_forTail hl h0 _ _ _ _ _ h
  ·cases h
theorem x_armW (hl : ln.kind = 3) : ∀ (f : Nat) (l : List (List Prt)) (ts : List Tok) a r, armW f l ts = .ok a r → ts.length ≤ f → ∀ g, ts.length + (e.length + 1) ≤ g → armW g l (ts ++ ln :: e) = .ok a (r ++ ln :: e)
 | f, l, ts, a, r, h, hf, g, hg => by
  obtain ⟨g, rfl, hg⟩ := suc_of (show ts.length + e.length + 1 ≤ g by omega)
  unfold armW
  rw [op_x hl]
  cases f with
  | zero =>
   obtain rfl : ts = [] := List.eq_nil_of_length_eq_zero (by omega)
   cases h
   rfl
  | succ f =>
   unfold armW at h
   split at h
   ·rename_i hc
    rw [if_pos hc]
    have hn := op_ne hc
    obtain ⟨x, r1, h1, h2⟩ := bind_ok h
    have hw : Wi (wordP ts.tail) ts.tail 1 := wi_word _
    rw [h1] at hw
    have hw2 := hw.2
    have := tail_lt hn
    rw [tail_x hn, ok_bind (xt_word _ _ _ h1)]
    exact x_armW hl f _ r1 a r h2 (by omega) g (by omega)
   ·rename_i hc
    rw [if_neg hc]
    cases h
    rfl
theorem xt_arm (hl : ln.kind = 3) (h0 : XN ln e li) : XT ln e (arm li) := fun ts a r h => by
 unfold arm at h ⊢
 obtain ⟨w, r1, h1, h2⟩ := bind_ok h
 obtain ⟨ws, r2, h3, h4⟩ := bind_ok h2
 obtain ⟨u, r3, h5, h6⟩ := bind_ok h4
 obtain ⟨n, r4, h7, h8⟩ := bind_ok h6
 obtain ⟨v, r5, h9, h10⟩ := bind_ok h8
 rw [op_x hl]
 have h11 : wordP (if isOp [40] ts then (ts ++ ln :: e).tail else ts ++ ln :: e) = .ok w (r1 ++ ln :: e) := by
  split at h1
  ·rename_i hc
   rw [if_pos hc, tail_x (op_ne hc)]
   exact xt_word _ _ _ h1
  ·rename_i hc
   rw [if_neg hc]
   exact xt_word _ _ _ h1
 rw [ok_bind h11, ok_bind (x_armW hl _ _ _ _ _ h3 (Nat.le_refl _) _ (by rw [len_x]; exact Nat.le_refl _)), ok_bind (xt_want hl _ _ _ _ h5), ok_bind (h0 _ _ _ h7 (want_ne h9)), ok_bind (xt_want hl _ _ _ _ h9)]
 cases h10
 rfl
theorem x_armsL (hl : ln.kind = 3) (hw : Wp ar 1) (h0 : XT ln e ar) : ∀ (f : Nat) (l : List Nd) (ts : List Tok) a r, armsL ar f l ts = .ok a r → r ≠ [] → ts.length + 1 ≤ f → ∀ g, ts.length + (e.length + 1) + 1 ≤ g → armsL ar g l (ts ++ ln :: e) = .ok a (r ++ ln :: e)
 | 0, l, ts, a, r, h, hr, hf, g, hg => by omega
 | f + 1, l, ts, a, r, h, hr, hf, g, hg => by
  obtain ⟨g, rfl, hg⟩ := suc_of hg
  unfold armsL at h ⊢
  split at h
  ·rename_i hc
   cases h
   rw [lines_x hr, kw_x hl, if_pos hc]
  ·rename_i hc
   obtain ⟨x, r1, h1, h2⟩ := bind_ok h
   rw [lines_x (ne_of_ok hw h1), kw_x hl, if_neg hc, ok_bind (h0 _ _ _ h1)]
   have hw1 := hw (lines ts)
   rw [h1] at hw1
   have := hw1.2
   have := lines_len ts
   exact x_armsL hl hw h0 f _ r1 a r h2 hr (by omega) g (by omega)
theorem xt_choice (hl : ln.kind = 3) (hw : Wp li 0) (h0 : XN ln e li) : XT ln e (choice li) := fun ts a r h => by
 unfold choice at h ⊢
 obtain ⟨w, r1, h1, h2⟩ := bind_ok h
 obtain ⟨u, r2, h3, h4⟩ := bind_ok h2
 obtain ⟨l, r3, h5, h6⟩ := bind_ok h4
 obtain ⟨v, r4, h7, h8⟩ := bind_ok h6
 rw [ok_bind (xt_word _ _ _ h1), lines_x (want_ne h3), ok_bind (xt_want hl _ _ _ _ h3), ok_bind (x_armsL hl (wi_arm hw) (xt_arm hl h0) _ _ _ _ _ h5 (want_ne h7) (Nat.le_refl _) _ (by rw [len_x]; exact Nat.le_refl _)), ok_bind (xt_want hl _ _ _ _ h7)]
 cases h8
 rfl
theorem xn_condF (hl : ln.kind = 3) {inner : Option (Pa Nd)} (h0 : XN ln e so) (hi : ∀ c, inner = some c → XN ln e c) (hwi : Wp so 0) (hwc : ∀ c, inner = some c → Wp c 0) : XN ln e (condF so inner) := fun ts a r h hr => by
 unfold condF at h ⊢
 obtain ⟨n, r1, h1, h2⟩ := bind_ok h
 have hr1 : r1 ≠ [] := by
  rintro rfl
  cases h2
  exact hr rfl
 rw [ok_bind (x_between hl h0 _ _ _ _ _ _ h1 (fun _ => hr1)), kw_x hl, kw_x hl]
 split at h2
 ·rename_i hc
  rw [if_pos hc, tail_x hr1]
  obtain ⟨c, r2, h3, h4⟩ := bind_ok h2
  cases h4
  rw [ok_bind (h0 _ _ _ h3 hr)]
 ·rename_i hc
  rw [if_neg hc]
  split at h2
  ·rename_i hc2
   rw [if_pos hc2, tail_x hr1]
   cases inner with
   | none => cases h2
   | some c =>
    obtain ⟨x, r2, h3, h4⟩ := bind_ok h2
    cases h4
    show (c (r1.tail ++ ln :: e)).bind _ = _
    rw [ok_bind (hi c rfl _ _ _ h3 hr)]
  ·rename_i hc2
   rw [if_neg hc2]
   cases h2
   rfl
theorem kind_addKid (n x : Nd) : (n.addKid x).kind = n.kind := by cases n; rfl
theorem condF_kind {inner : Option (Pa Nd)} {ts r : List Tok} {n : Nd} (h : condF so inner ts = .ok n r) (hi : ∀ c, inner = some c → True) : n.kind = 8 := by
 unfold condF at h
 obtain ⟨m, r1, h1, h2⟩ := bind_ok h
 have hm : m.kind = 8 := by
  unfold between at h1
  obtain ⟨x, r1, h1, h2⟩ := bind_ok h1
  obtain ⟨u, r2, h3, h4⟩ := bind_ok h2
  obtain ⟨y, r3, h5, h6⟩ := bind_ok h4
  cases h6
  rfl
 split at h2
 ·obtain ⟨c, r2, h3, h4⟩ := bind_ok h2
  cases h4
  rw [kind_addKid]; exact hm
 ·split at h2
  ·cases inner with
   | none => cases h2
   | some c =>
    obtain ⟨x, r2, h3, h4⟩ := bind_ok h2
    cases h4
    rw [kind_addKid]; exact hm
  ·cases h2
   exact hm
/-- What the parser of a compound command's inside gives. -/
theorem xt_compF (hl : ln.kind = 3) {li so conds : Pa Nd} (hw : Wp li 0) (h1 : XN ln e li) (h2 : XN ln e so) (h3 : XN ln e conds) (hk : ∀ ts n r, conds ts = .ok n r → n.kind = 8) (bk : Blk) (ts : List Tok) (a : Nd) (r : List Tok) (hn : ts ≠ []) (h : compF (body li so conds) bk ts = .ok a r) : compF (body li so conds) bk (ts ++ ln :: e) = .ok a (r ++ ln :: e) := by
 unfold compF at h ⊢
 rw [tail_x hn]
 obtain ⟨n, r1, h4, h5⟩ := bind_ok h
 obtain ⟨u, r2, h6, h7⟩ := bind_ok h5
 obtain ⟨l, r3, h8, h9⟩ := bind_ok h7
 have hb : body li so conds bk (ts.tail ++ ln :: e) = .ok n (r1 ++ ln :: e) := by
  cases bk with
  | sub => exact xt_closed hl h2 _ _ _ _ _ h4
  | grp => exact xt_closed hl h2 _ _ _ _ _ h4
  | iff =>
   rw [if_pos (hk _ _ _ h4)] at h6
   exact h3 _ _ _ h4 (want_ne h6)
  | whl => exact x_between hl h2 9 kDo (some kDone) _ _ _ h4 (fun h => by cases h)
  | unt => exact x_between hl h2 10 kDo (some kDone) _ _ _ h4 (fun h => by cases h)
  | for_ => exact xt_loop hl h2 _ _ _ h4
  | case_ => exact xt_choice hl hw h1 _ _ _ h4
 rw [ok_bind hb]
 have h10 : (if n.kind = 8 then want kFi (r1 ++ ln :: e) else .ok () (r1 ++ ln :: e)) = .ok u (r2 ++ ln :: e) := by
  split at h6
  ·rename_i hc
   rw [if_pos hc]
   exact xt_want hl _ _ _ _ h6
  ·rename_i hc
   rw [if_neg hc]
   cases h6
   rfl
 rw [ok_bind h10, ok_bind (x_redirsL hl _ _ _ _ _ h8 (Nat.le_refl _) _ (by rw [len_x]; exact Nat.le_refl _))]
 cases h9
 rfl
/-- .. of the parsers of compound commands, where one begins. -/
def XC (ln : Tok) (e : List Tok) (comp : Blk → Pa Nd) : Prop := ∀ b ts a r, ts ≠ [] → comp b ts = .ok a r → comp b (ts ++ ln :: e) = .ok a (r ++ ln :: e)
theorem xt_funF (hl : ln.kind = 3) {comp : Blk → Pa Nd} (h0 : XC ln e comp) : XT ln e (funF comp) := fun ts a r h => by
 cases ts with
 | nil => cases h
 | cons t r0 =>
  rw [List.cons_append]
  simp only [funF] at h ⊢
  split at h
  ·rename_i hc
   have hn1 := op_ne hc
   have hn0 : r0 ≠ [] := by rintro rfl; exact hn1 rfl
   rw [tail_x hn0, op_x hl, if_pos hc, tail_x hn1]
   cases hb : blockOf (lines r0.tail.tail) with
   | none => rw [hb] at h; cases h
   | some bk =>
    rw [hb] at h
    have hn2 := block_ne hb
    rw [lines_x hn2, block_x hl, hb]
    obtain ⟨x, r1, h1, h2⟩ := bind_ok h
    show (comp bk _).bind _ = _
    rw [ok_bind (h0 bk _ _ _ hn2 h1)]
    cases h2
    rfl
  ·cases h
theorem isFn_x (hl : ln.kind = 3) (ts : List Tok) : isFn (ts ++ ln :: e) = isFn ts := by
 cases ts with
 | nil => simp [isFn, hl]
 | cons t r => simp only [isFn, List.cons_append, op_x hl]
theorem xt_cmdF (hl : ln.kind = 3) {comp : Blk → Pa Nd} {inner : Option (Blk → Pa Nd)} (h0 : XC ln e comp) (hi : ∀ c, inner = some c → XC ln e c) : XT ln e (cmdF comp inner) := fun ts a r h => by
 unfold cmdF at h ⊢
 rw [block_x hl, kw_x hl, isFn_x hl]
 cases hb : blockOf ts with
 | some bk =>
  rw [hb] at h
  exact h0 bk ts a r (block_ne hb) h
 | none =>
  rw [hb] at h
  simp only at h ⊢
  split at h
  ·cases h
  ·rename_i hc
   rw [if_neg hc]
   split at h
   ·rename_i hf
    rw [if_pos hf]
    cases inner with
    | none => cases h
    | some c => exact xt_funF hl (hi c rfl) _ _ _ h
   ·rename_i hf
    rw [if_neg hf]
    exact xt_simple hl _ _ _ h
end
theorem condF_kind_lev : ∀ (k : Nat) (ts : List Tok) (n : Nd) (r : List Tok), (lev k).conds ts = .ok n r → n.kind = 8
 | 0, ts, n, r, h => condF_kind (inner := none) h (fun _ _ => trivial)
 | k + 1, ts, n, r, h => condF_kind (inner := some (lev k).conds) h (fun _ _ => trivial)
theorem x_lev (hl : ln.kind = 3) : ∀ k : Nat, XT ln e (lev k).cmd ∧ XN ln e (lev k).conds ∧ XC ln e (lev k).comp
 | 0 => by
  have h1 : XC ln e (fun (_ : Blk) (ts : List Tok) => (full ts : PR Nd)) := fun b ts a r _ h => by cases h
  have h2 := xt_cmdF hl (inner := none) h1 (fun c h => by cases h)
  have hw := (wi_lev 0).1
  have h3 := xn_condF hl (inner := none) (xn_some hl hw h2) (fun c h => by cases h) (wi_some hw) (fun c h => by cases h)
  exact ⟨h2, h3, h1⟩
 | k + 1 => by
  obtain ⟨i1, i2, i3⟩ := x_lev hl k
  have hwk := wi_lev k
  have h1 : XC ln e (compF (body (list (lev k).cmd) (some_ (lev k).cmd) (lev k).conds)) := fun b ts a r hn h =>
   xt_compF hl (wi_list hwk.1) (xn_list hl hwk.1 i1) (xn_some hl hwk.1 i1) i2 (condF_kind_lev k) b ts a r hn h
  have h2 := xt_cmdF hl (inner := some (lev k).comp) h1 (fun c h => by cases h; exact i3)
  have hw := (wi_lev (k + 1)).1
  have h3 := xn_condF hl (inner := some (lev k).conds) (xn_some hl hw h2) (fun c h => by cases h; exact i2) (wi_some hw) (fun c h => by cases h; exact hwk.2.1)
  exact ⟨h2, h3, h1⟩
end
section
variable {cmd it pi li so ar : Pa Nd}
theorem listL_fuel (hw : Wp it 1) : ∀ (f g : Nat) (l : List Nd) (ts : List Tok), ts.length < f → ts.length < g → listL it f l ts = listL it g l ts
 | 0, g, l, ts, hf, hg => by omega
 | f + 1, 0, l, ts, hf, hg => by omega
 | f + 1, g + 1, l, ts, hf, hg => by
  unfold listL
  split
  ·rfl
  ·cases h : it (lines ts) with
   | bad e m => rfl
   | ok x r =>
    show (if sep r then listL it f _ r.tail else _) = (if sep r then listL it g _ r.tail else _)
    split
    ·rename_i hs
     have hw1 := hw (lines ts)
     rw [h] at hw1
     have := hw1.2
     have := lines_len ts
     have := tail_lt (sep_ne hs)
     exact listL_fuel hw f g _ _ (by omega) (by omega)
    ·rfl
theorem listL_pre : ∀ (f : Nat) (l : List Nd) (ts : List Tok), listL it f l ts = (listL it f [] ts).bind fun k r => .ok (l ++ k) r
 | 0, l, ts => by
  show PR.ok l ts = PR.ok (l ++ []) ts
  rw [List.append_nil]
 | f + 1, l, ts => by
  unfold listL
  split
  ·show PR.ok l _ = PR.ok (l ++ []) _
   rw [List.append_nil]
  ·cases h : it (lines ts) with
   | bad e m => rfl
   | ok x r =>
    show (if sep r then listL it f _ r.tail else .ok _ r) = (if sep r then listL it f _ r.tail else .ok _ r).bind _
    split
    ·rw [listL_pre f (l ++ [back r x]), listL_pre f ([] ++ [back r x])]
     cases listL it f [] r.tail with
     | bad e m => rfl
     | ok k r2 =>
      show PR.ok (l ++ [back r x] ++ k) r2 = PR.ok (l ++ ([] ++ [back r x] ++ k)) r2
      rw [List.append_assoc, List.nil_append]
    ·rfl
theorem listL_join {ln : Tok} {e : List Tok} (hl : ln.kind = 3) (hw : Wp it 1) (h0 : XT ln e it) : ∀ (f : Nat) (l : List Nd) (ts : List Tok) a, listL it f l ts = .ok a [] → ts.length + 1 ≤ f → ∀ g g', ts.length + (e.length + 1) + 1 ≤ g → e.length < g' → listL it g l (ts ++ ln :: e) = listL it g' a e
 | 0, l, ts, a, h, hf, g, g', hg, hg' => by omega
 | f + 1, l, ts, a, h, hf, g, g', hg, hg' => by
  obtain ⟨g, rfl, hg⟩ := suc_of hg
  unfold listL at h
  split at h
  ·rename_i hc
   simp only [PR.ok.injEq] at h
   obtain ⟨h1, h2⟩ := h
   subst h1
   have e1 : listL it (g + 1) l (ts ++ ln :: e) = listL it (g + 1) l e := by
    unfold listL
    rw [lines_x0 hl h2]
   rw [e1]
   exact listL_fuel hw _ _ _ _ (by omega) hg'
  ·rename_i hc
   have hn : lines ts ≠ [] := fun e => hc (by rw [e]; rfl)
   obtain ⟨x, r1, h1, h2⟩ := bind_ok h
   have hw1 := hw (lines ts)
   rw [h1] at hw1
   have := hw1.2
   have := lines_len ts
   split at h2
   ·rename_i hs
    have hn1 := sep_ne hs
    have := tail_lt hn1
    have e1 : listL it (g + 1) l (ts ++ ln :: e) = listL it g (l ++ [back r1 x]) (r1.tail ++ ln :: e) := by
     conv => lhs; unfold listL
     rw [lines_x hn, ends_x hl hn, if_neg hc, ok_bind (h0 _ _ _ h1), back_x hl, sep_x hl hn1, if_pos hs, tail_x hn1]
    rw [e1]
    exact listL_join hl hw h0 f _ r1.tail a h2 (by omega) g g' (by omega) hg'
   ·rename_i hs
    simp only [PR.ok.injEq] at h2
    obtain ⟨h3, rfl⟩ := h2
    subst h3
    have e1 : listL it (g + 1) l (ts ++ ln :: e) = listL it g (l ++ [back [] x]) e := by
     conv => lhs; unfold listL
     rw [lines_x hn, ends_x hl hn, if_neg hc, ok_bind (h0 _ _ _ h1), back_x hl]
     have hs2 : sep ([] ++ ln :: e) = true := by simp [sep, isK, hl]
     rw [if_pos hs2]
     rfl
    rw [e1]
    exact listL_fuel hw _ _ _ _ (by omega) hg'
theorem listL_lines {f : Nat} {l : List Nd} {ts : List Tok} {ln : Tok} (hl : ln.kind = 3) (hf : 0 < f) : listL it f l (ln :: ts) = listL it f l ts := by
 obtain ⟨f, rfl, _⟩ := suc_of hf
 unfold listL
 have e : lines (ln :: ts) = lines ts := by
  unfold lines
  rw [List.dropWhile_cons, if_pos (by rw [hl]; rfl)]
 rw [e]
theorem listK_join {ln : Tok} {e : List Tok} (hl : ln.kind = 3) (hw : Wp cmd 1) (h0 : XT ln e cmd) {ts : List Tok} {ks : List Nd} (h : listK cmd ts = .ok ks []) : listK cmd (ts ++ ln :: e) = (listK cmd e).bind fun k r => .ok (ks ++ k) r := by
 unfold listK at h ⊢
 rw [listL_join hl (wi_item (wi_pipe hw)) (xt_item hl (wi_pipe hw) (xt_pipe hl hw h0)) _ _ _ _ h (Nat.le_refl _) _ (e.length + 1) (by rw [len_x]; exact Nat.le_refl _) (Nat.lt_succ_self _)]
 exact listL_pre _ _ _
theorem listK_line {ln : Tok} (hl : ln.kind = 3) (hw : Wp cmd 1) (ts : List Tok) : listK cmd (ln :: ts) = listK cmd ts := by
 unfold listK
 rw [listL_lines hl (Nat.succ_pos _)]
 exact listL_fuel (wi_item (wi_pipe hw)) _ _ _ _ (by simp only [List.length_cons]; omega) (Nat.lt_succ_self _)
end
theorem parseK_ok {k : Nat} {ts r : List Tok} {l : List Nd} (h : parseK k ts = .ok l r) : listK (lev k).cmd ts = .ok l [] ∧ r = [] := by
 unfold parseK at h
 obtain ⟨a, r1, h1, h2⟩ := bind_ok h
 split at h2
 ·rename_i he
  cases h2
  rw [List.isEmpty_iff] at he
  subst he
  exact ⟨h1, rfl⟩
 ·cases h2
theorem parseK_of {k : Nat} {ts : List Tok} {l : List Nd} (h : listK (lev k).cmd ts = .ok l []) : parseK k ts = .ok l [] := by
 unfold parseK
 rw [ok_bind h]
 rfl
/-- Two scripts with a line feed between them. -/
theorem parseK_join {k : Nat} {a b : List Tok} {ln : Tok} (hl : ln.kind = 3) {x y : List Nd} (ha : parseK k a = .ok x []) (hb : parseK k b = .ok y []) : parseK k (a ++ ln :: b) = .ok (x ++ y) [] := by
 have h1 := listK_join hl (wi_lev k).1 (x_lev hl k).1 (parseK_ok ha).1 (e := b)
 rw [ok_bind (parseK_ok hb).1] at h1
 exact parseK_of h1
theorem parseK_line {k : Nat} {ln : Tok} (hl : ln.kind = 3) (ts : List Tok) : parseK k (ln :: ts) = parseK k ts := by
 unfold parseK
 rw [listK_line hl (wi_lev k).1]
theorem parseK_bad {k : Nat} {ts : List Tok} {e m : Nat} (h : parseK k ts = .bad e m) : m ≤ ts.length := by
 have := Wi.bind (d1 := 0) (d2 := 0) (wi_listK (wi_lev k).1 ts) (f := fun l r => if r.isEmpty then PR.ok l [] else syn r) fun l r _ => by
  split
  ·rename_i he
   rw [List.isEmpty_iff] at he
   subst he
   exact .ok (List.suffix_refl _) (Nat.le_refl _)
  ·exact wi_syn (Nat.le_refl _)
 unfold parseK at h
 rw [h] at this
 exact this
/-! Fewer levels: the same, or too deep. -/
def Dv {α : Type} (p q : PR α) : Prop := ∀ a r, p = .ok a r → q = .ok a r ∨ ∃ m, q = .bad 2 m
theorem Dv.refl {α : Type} (p : PR α) : Dv p p := fun a r h => .inl h
theorem Dv.full {α : Type} (p : PR α) (ts : List Tok) : Dv p (full ts) := fun a r h => .inr ⟨_, rfl⟩
theorem Dv.bind {α β : Type} {p q : PR α} {f g : α → List Tok → PR β} (h : Dv p q) (hf : ∀ a r, p = .ok a r → Dv (f a r) (g a r)) : Dv (p.bind f) (q.bind g) := fun b r hb => by
 obtain ⟨a, r1, h1, h2⟩ := bind_ok hb
 rcases h _ _ h1 with h3 | ⟨m, h3⟩
 ·rw [ok_bind h3]
  exact hf _ _ h1 _ _ h2
 ·rw [h3]
  exact .inr ⟨m, rfl⟩
def Dn {α : Type} (P Q : Pa α) : Prop := ∀ ts, Dv (P ts) (Q ts)
section
variable {cmd cmd' it it' pi pi' li li' so so' ar ar' conds conds' : Pa Nd}
theorem dn_itemL (h : Dn pi pi') : ∀ (f : Nat) (n : Nd), Dn (itemL pi f n) (itemL pi' f n)
 | 0, n => fun ts => Dv.refl _
 | f + 1, n => fun ts => by
  unfold itemL
  split
  ·exact (h _).bind fun x r _ => dn_itemL h f _ r
  ·exact Dv.refl _
theorem dn_item (h : Dn pi pi') : Dn (item pi) (item pi') := fun ts => (h ts).bind fun n r _ => dn_itemL h _ n r
theorem dn_pipeL (h : Dn cmd cmd') : ∀ (f : Nat) (n : List Nd), Dn (pipeL cmd f n) (pipeL cmd' f n)
 | 0, n => fun ts => Dv.refl _
 | f + 1, n => fun ts => by
  unfold pipeL
  split
  ·exact (h _).bind fun x r _ => dn_pipeL h f _ r
  ·exact Dv.refl _
theorem dn_pipe (h : Dn cmd cmd') : Dn (pipe cmd) (pipe cmd') := fun ts => (h _).bind fun n r _ => (dn_pipeL h _ _ r).bind fun l r _ => Dv.refl _
theorem dn_listL (h : Dn it it') : ∀ (f : Nat) (l : List Nd), Dn (listL it f l) (listL it' f l)
 | 0, l => fun ts => Dv.refl _
 | f + 1, l => fun ts => by
  unfold listL
  split
  ·exact Dv.refl _
  ·refine (h _).bind fun x r _ => ?_
   split
   ·exact dn_listL h f _ r.tail
   ·exact Dv.refl _
theorem dn_listK (h : Dn cmd cmd') : Dn (listK cmd) (listK cmd') := fun ts => dn_listL (dn_item (dn_pipe h)) _ _ ts
theorem dn_list (h : Dn cmd cmd') : Dn (list cmd) (list cmd') := fun ts => (dn_listK h ts).bind fun l r _ => Dv.refl _
theorem dn_some (h : Dn cmd cmd') : Dn (some_ cmd) (some_ cmd') := fun ts => (dn_list h ts).bind fun l r _ => Dv.refl _
theorem dn_between (h : Dn so so') (k : Nat) (f : Bytes) (s : Option Bytes) : Dn (between so k f s) (between so' k f s) := fun ts => (h ts).bind fun a r _ => (Dv.refl _).bind fun _ r _ => (h r).bind fun b r _ => Dv.refl _
theorem dn_closed (h : Dn so so') (k : Nat) (c : Bytes) : Dn (closed so k c) (closed so' k c) := fun ts => (h ts).bind fun a r _ => Dv.refl _
theorem dn_forTail (h : Dn so so') (n : Bytes) (ws : List (List Prt)) : Dn (forTail so n ws) (forTail so' n ws) := fun ts => (Dv.refl _).bind fun _ r _ => (h r).bind fun b r _ => Dv.refl _
theorem dn_loop (h : Dn so so') : Dn (loopP so) (loopP so') := fun ts => by
 cases ts with
 | nil => exact Dv.refl _
 | cons t r =>
  simp only [loopP]
  split
  ·split
   ·unfold forIn
    split
    ·exact dn_forTail h _ _ _
    ·exact Dv.refl _
   ·exact dn_forTail h _ _ _
  ·exact Dv.refl _
theorem dn_arm (h : Dn li li') : Dn (arm li) (arm li') := fun ts => (Dv.refl _).bind fun w r _ => (Dv.refl _).bind fun ws r _ => (Dv.refl _).bind fun _ r _ => (h r).bind fun n r _ => Dv.refl _
theorem dn_armsL (h : Dn ar ar') : ∀ (f : Nat) (l : List Nd), Dn (armsL ar f l) (armsL ar' f l)
 | 0, l => fun ts => Dv.refl _
 | f + 1, l => fun ts => by
  unfold armsL
  split
  ·exact Dv.refl _
  ·exact (h _).bind fun x r _ => dn_armsL h f _ r
theorem dn_choice (h : Dn li li') : Dn (choice li) (choice li') := fun ts => (Dv.refl _).bind fun w r _ => (Dv.refl _).bind fun _ r _ => (dn_armsL (dn_arm h) _ _ r).bind fun l r _ => Dv.refl _
theorem dn_body (h1 : Dn li li') (h2 : Dn so so') (h3 : Dn conds conds') : ∀ b, Dn (body li so conds b) (body li' so' conds' b)
 | .sub => dn_closed h2 _ _
 | .grp => dn_closed h2 _ _
 | .iff => h3
 | .whl => fun ts => dn_between h2 9 kDo (some kDone) ts
 | .unt => fun ts => dn_between h2 10 kDo (some kDone) ts
 | .for_ => dn_loop h2
 | .case_ => dn_choice h1
theorem dn_condF {inner inner' : Option (Pa Nd)} (h : Dn so so') (hi : ∀ c', inner' = some c' → ∃ c, inner = some c ∧ Dn c c') : Dn (condF so inner) (condF so' inner') := fun ts => by
 refine (dn_between h 8 kThen none ts).bind fun n r _ => ?_
 split
 ·exact (h _).bind fun c r _ => Dv.refl _
 ·split
  ·cases inner' with
   | none => exact Dv.full _ _
   | some c' =>
    obtain ⟨c, rfl, hc⟩ := hi c' rfl
    exact (hc _).bind fun x r _ => Dv.refl _
  ·exact Dv.refl _
theorem dn_compF {bo bo' : Blk → Pa Nd} (h : ∀ b, Dn (bo b) (bo' b)) (b : Blk) : Dn (compF bo b) (compF bo' b) := fun ts => (h b _).bind fun n r _ => Dv.refl _
theorem dn_funF {c c' : Blk → Pa Nd} (h : ∀ b, Dn (c b) (c' b)) : Dn (funF c) (funF c') := fun ts => by
 cases ts with
 | nil => exact Dv.refl _
 | cons t r =>
  simp only [funF]
  split
  ·split
   ·exact Dv.refl _
   ·exact (h _ _).bind fun x r _ => Dv.refl _
  ·exact Dv.refl _
theorem dn_cmdF {c c' : Blk → Pa Nd} {inner inner' : Option (Blk → Pa Nd)} (h : ∀ b, Dn (c b) (c' b)) (hi : ∀ c', inner' = some c' → ∃ c, inner = some c ∧ ∀ b, Dn (c b) (c' b)) : Dn (cmdF c inner) (cmdF c' inner') := fun ts => by
 unfold cmdF
 split
 ·exact h _ ts
 ·split
  ·exact Dv.refl _
  ·split
   ·cases inner' with
    | none => exact Dv.full _ _
    | some c' =>
     obtain ⟨c, rfl, hc⟩ := hi c' rfl
     exact dn_funF hc ts
   ·exact Dv.refl _
end
theorem dn_lev : ∀ (j k : Nat), j ≤ k → Dn (lev k).cmd (lev j).cmd ∧ Dn (lev k).conds (lev j).conds ∧ ∀ b, Dn ((lev k).comp b) ((lev j).comp b)
 | 0, 0, _ => ⟨fun ts => Dv.refl _, fun ts => Dv.refl _, fun b ts => Dv.refl _⟩
 | 0, k + 1, _ => by
  have h1 : ∀ b, Dn ((lev (k + 1)).comp b) ((lev 0).comp b) := fun b ts => Dv.full _ _
  have h2 : Dn (lev (k + 1)).cmd (lev 0).cmd := dn_cmdF (inner := some (lev k).comp) (inner' := none) h1 (fun c h => by cases h)
  exact ⟨h2, dn_condF (inner := some (lev k).conds) (inner' := none) (dn_some h2) (fun c h => by cases h), h1⟩
 | j + 1, 0, h => by omega
 | j + 1, k + 1, h => by
  obtain ⟨i1, i2, i3⟩ := dn_lev j k (by omega)
  have h1 : ∀ b, Dn ((lev (k + 1)).comp b) ((lev (j + 1)).comp b) := fun b => dn_compF (dn_body (dn_list i1) (dn_some i1) i2) b
  have h2 : Dn (lev (k + 1)).cmd (lev (j + 1)).cmd := dn_cmdF (inner := some (lev k).comp) (inner' := some (lev j).comp) h1 (fun c h => by cases h; exact ⟨_, rfl, i3⟩)
  exact ⟨h2, dn_condF (inner := some (lev k).conds) (inner' := some (lev j).conds) (dn_some h2) (fun c h => by cases h; exact ⟨_, rfl, i2⟩), h1⟩
/-! Scripts within compound commands: tokens. -/
def tOp (s : Bytes) : Tok := ⟨1, s, [], [], -1, 0⟩
def tW (s : Bytes) : Tok := ⟨0, [], s, [⟨0, s, false⟩], -1, 0⟩
def tL : Tok := ⟨3, [], [], [], -1, 0⟩
def ndL (ks : List Nd) : Nd := .mk 4 [] false [] [] [] ks
def ndP (x : Nd) : Nd := .mk 1 [] false [] [] [] [x]
theorem some_of {cmd : Pa Nd} {ts r : List Tok} {ks : List Nd} (h : listK cmd ts = .ok ks r) (hk : ks ≠ []) : some_ cmd ts = .ok (ndL ks) r := by
 unfold some_ list
 rw [h]
 show (if (ndL ks).kids.isEmpty then syn r else PR.ok (ndL ks) r) = _
 have : (ndL ks).kids.isEmpty = false := by
  show ks.isEmpty = false
  cases ks with
  | nil => exact absurd rfl hk
  | cons a b => rfl
 rw [this]; rfl
theorem plist_of {cmd : Pa Nd} {ts r : List Tok} {ks : List Nd} (h : listK cmd ts = .ok ks r) : list cmd ts = .ok (ndL ks) r := by
 unfold list
 rw [h]; rfl
/-- A list that ends before the next token. -/
theorem listK_end {cmd : Pa Nd} {t : Tok} {r : List Tok} (h3 : t.kind ≠ 3) (h : isEnds (t :: r) = true) : listK cmd (t :: r) = .ok [] (t :: r) := by
 unfold listK listL
 have e : lines (t :: r) = t :: r := by
  unfold lines
  rw [List.dropWhile_cons, if_neg (by simpa using h3)]
 rw [e, if_pos h]
theorem listK_in {k : Nat} {T r : List Tok} {t ln : Tok} {ks : List Nd} (hl : ln.kind = 3) (hT : listK (lev k).cmd T = .ok ks []) (h3 : t.kind ≠ 3) (h : isEnds (t :: r) = true) : listK (lev k).cmd (T ++ ln :: t :: r) = .ok ks (t :: r) := by
 rw [listK_join hl (wi_lev k).1 (x_lev hl k).1 hT, listK_end h3 h]
 show PR.ok (ks ++ []) _ = _
 rw [List.append_nil]
/-- A script of one command. -/
theorem listK_one {cmd : Pa Nd} {t : Tok} {r : List Tok} {x : Nd} (h : cmd (t :: r) = .ok x []) (h3 : t.kind ≠ 3) (he : isEnds (t :: r) = false) (hb : isKw [[33]] (t :: r) = false) : listK cmd (t :: r) = .ok [ndP x] [] := by
 unfold listK listL
 have e : lines (t :: r) = t :: r := by
  unfold lines
  rw [List.dropWhile_cons, if_neg (by simpa using h3)]
 have hp : pipe cmd (t :: r) = .ok (ndP x) [] := by
  unfold pipe
  rw [hb, if_neg (by decide), ok_bind h]
  rfl
 have hi : item (pipe cmd) (t :: r) = .ok (ndP x) [] := by
  unfold item
  rw [ok_bind hp]
  rfl
 rw [e, he, if_neg (by decide), ok_bind hi]
 rfl
section
variable {k : Nat} {T : List Tok} {ks : List Nd}
theorem in_some (hT : listK (lev k).cmd T = .ok ks []) (hk : ks ≠ []) {t : Tok} {r : List Tok} (h3 : t.kind ≠ 3) (h : isEnds (t :: r) = true) : some_ (lev k).cmd (T ++ tL :: t :: r) = .ok (ndL ks) (t :: r) := some_of (listK_in rfl hT h3 h) hk
def compK (k : Nat) (b : Blk) : Pa Nd := compF (body (list (lev k).cmd) (some_ (lev k).cmd) (lev k).conds) b
theorem cmd_comp {ts : List Tok} {b : Blk} (h : blockOf ts = some b) : (lev (k + 1)).cmd ts = compK k b ts := by
 show cmdF (compK k) (some (lev k).comp) ts = _
 unfold cmdF
 rw [h]
theorem comp_of {b : Blk} {t : Tok} {ts : List Tok} {n : Nd} (h : body (list (lev k).cmd) (some_ (lev k).cmd) (lev k).conds b ts = .ok n []) (h8 : n.kind ≠ 8) (hr : n.rs = []) : compK k b (t :: ts) = .ok n [] := by
 unfold compK compF
 rw [List.tail_cons, ok_bind h, if_neg h8]
 show (redirsL 0 n.rs []).bind (fun l r => PR.ok (n.setRs l) r) = _
 show PR.ok (n.setRs n.rs) [] = _
 cases n; rfl
theorem nest_sub (hT : listK (lev k).cmd T = .ok ks []) (hk : ks ≠ []) : (lev (k + 1)).cmd (tOp [40] :: (T ++ [tL, tOp [41]])) = .ok (.mk 6 [] false [] [] [] [ndL ks]) [] := by
 rw [cmd_comp (b := .sub) (by rfl)]
 refine comp_of ?_ (by simp [Nd.kind]) rfl
 show closed _ 6 [41] _ = _
 unfold closed
 rw [ok_bind (in_some hT hk (by simp [tW, tOp, tL]) (by rfl))]; rfl
theorem nest_grp (hT : listK (lev k).cmd T = .ok ks []) (hk : ks ≠ []) : (lev (k + 1)).cmd (tW [123] :: (T ++ [tL, tW [125]])) = .ok (.mk 7 [] false [] [] [] [ndL ks]) [] := by
 rw [cmd_comp (b := .grp) (by rfl)]
 refine comp_of ?_ (by simp [Nd.kind]) rfl
 show closed _ 7 [125] _ = _
 unfold closed
 rw [ok_bind (in_some hT hk (by simp [tW, tOp, tL]) (by rfl))]; rfl
theorem nest_two (hT : listK (lev k).cmd T = .ok ks []) (hk : ks ≠ []) (kind : Nat) (c : Bytes) (e : Bytes) (h1 : isEnds [tW c] = true) (h2 : isEnds [tW e] = true) (hc : ∀ r, want c (tW c :: r) = .ok () r) (he : want e [tW e] = .ok () []) : between (some_ (lev k).cmd) kind c (some e) (T ++ tL :: tW c :: (T ++ [tL, tW e])) = .ok (.mk kind [] false [] [] [] [ndL ks, ndL ks]) [] := by
 unfold between
 rw [ok_bind (in_some hT hk (by simp [tW]) (by exact h1)), ok_bind (hc _), ok_bind (in_some hT hk (by simp [tW]) (by exact h2))]
 show (want e [tW e]).bind _ = _
 rw [ok_bind he]
theorem nest_whl (hT : listK (lev k).cmd T = .ok ks []) (hk : ks ≠ []) : (lev (k + 1)).cmd (tW kWhile :: (T ++ tL :: tW kDo :: (T ++ [tL, tW kDone]))) = .ok (.mk 9 [] false [] [] [] [ndL ks, ndL ks]) [] := by
 rw [cmd_comp (b := .whl) (by rfl)]
 refine comp_of ?_ (by simp [Nd.kind]) rfl
 exact nest_two hT hk 9 kDo kDone (by rfl) (by rfl) (fun r => by rfl) (by rfl)
theorem nest_unt (hT : listK (lev k).cmd T = .ok ks []) (hk : ks ≠ []) : (lev (k + 1)).cmd (tW kUntil :: (T ++ tL :: tW kDo :: (T ++ [tL, tW kDone]))) = .ok (.mk 10 [] false [] [] [] [ndL ks, ndL ks]) [] := by
 rw [cmd_comp (b := .unt) (by rfl)]
 refine comp_of ?_ (by simp [Nd.kind]) rfl
 exact nest_two hT hk 10 kDo kDone (by rfl) (by rfl) (fun r => by rfl) (by rfl)
theorem conds_eq : ∀ k : Nat, ∃ inner, (lev k).conds = condF (some_ (lev k).cmd) inner
 | 0 => ⟨none, rfl⟩
 | k + 1 => ⟨some (lev k).conds, rfl⟩
theorem nest_iff (hT : listK (lev k).cmd T = .ok ks []) (hk : ks ≠ []) : (lev (k + 1)).cmd (tW kIf :: (T ++ tL :: tW kThen :: (T ++ [tL, tW kFi]))) = .ok (.mk 8 [] false [] [] [] [ndL ks, ndL ks]) [] := by
 rw [cmd_comp (b := .iff) (by rfl)]
 unfold compK compF
 obtain ⟨inner, hi⟩ := conds_eq k
 have h1 : body (list (lev k).cmd) (some_ (lev k).cmd) (lev k).conds .iff (T ++ tL :: tW kThen :: (T ++ [tL, tW kFi])) = .ok (.mk 8 [] false [] [] [] [ndL ks, ndL ks]) [tW kFi] := by
  show (lev k).conds _ = _
  rw [hi]
  have hb : between (some_ (lev k).cmd) 8 kThen none (T ++ tL :: tW kThen :: (T ++ [tL, tW kFi])) = .ok (.mk 8 [] false [] [] [] [ndL ks, ndL ks]) [tW kFi] := by
   unfold between
   rw [ok_bind (in_some hT hk (by simp [tW]) (by rfl)), ok_bind (show want kThen (tW kThen :: (T ++ [tL, tW kFi])) = .ok () (T ++ [tL, tW kFi]) from rfl), ok_bind (in_some hT hk (by simp [tW]) (by rfl))]
  unfold condF
  rw [ok_bind hb]
  rfl
 rw [List.tail_cons, ok_bind h1]
 rfl
theorem nest_for (hT : listK (lev k).cmd T = .ok ks []) (hk : ks ≠ []) : (lev (k + 1)).cmd (tW kFor :: tW [105] :: tW kIn :: tW [49] :: tW [50] :: tL :: tW kDo :: (T ++ [tL, tW kDone])) = .ok (.mk 11 [105] false [] [[⟨0, [49], false⟩], [⟨0, [50], false⟩]] [] [ndL ks]) [] := by
 rw [cmd_comp (b := .for_) (by rfl)]
 refine comp_of ?_ (by simp [Nd.kind]) rfl
 show forTail (some_ (lev k).cmd) [105] [[⟨0, [49], false⟩], [⟨0, [50], false⟩]] (tW kDo :: (T ++ [tL, tW kDone])) = _
 unfold forTail
 show (some_ (lev k).cmd (T ++ [tL, tW kDone])).bind _ = _
 rw [ok_bind (in_some hT hk (by simp [tW, tOp, tL]) (by rfl))]
 rfl
theorem nest_case (hT : listK (lev k).cmd T = .ok ks []) (hk : ks ≠ []) : (lev (k + 1)).cmd (tW kCase :: tW [120] :: tW kIn :: tL :: tOp [40] :: tW [120] :: tOp [41] :: (T ++ [tL, tOp [59, 59], tL, tW kEsac])) = .ok (.mk 12 [] false [] [[⟨0, [120], false⟩]] [] [.mk 13 [] false [] [[⟨0, [120], false⟩]] [] [ndL ks]]) [] := by
 rw [cmd_comp (b := .case_) (by rfl)]
 refine comp_of ?_ (by simp [Nd.kind]) rfl
 have ha : arm (list (lev k).cmd) (tOp [40] :: tW [120] :: tOp [41] :: (T ++ [tL, tOp [59, 59], tL, tW kEsac])) = .ok (.mk 13 [] false [] [[⟨0, [120], false⟩]] [] [ndL ks]) [tL, tW kEsac] := by
  obtain ⟨X, hX⟩ : ∃ X, T ++ [tL, tOp [59, 59], tL, tW kEsac] = X := ⟨_, rfl⟩
  have hl := plist_of (listK_in (t := tOp [59, 59]) (r := [tL, tW kEsac]) (ln := tL) rfl hT (by simp [tOp]) (by rfl))
  rw [hX] at hl ⊢
  unfold arm
  rw [ok_bind (show wordP (if isOp [40] (tOp [40] :: tW [120] :: tOp [41] :: X) = true then (tOp [40] :: tW [120] :: tOp [41] :: X).tail else tOp [40] :: tW [120] :: tOp [41] :: X) = .ok [⟨0, [120], false⟩] (tOp [41] :: X) from rfl)]
  rw [ok_bind (show armW (tOp [41] :: X).length [[⟨0, [120], false⟩]] (tOp [41] :: X) = .ok [[⟨0, [120], false⟩]] (tOp [41] :: X) from rfl)]
  rw [ok_bind (show want [41] (tOp [41] :: X) = .ok () X from rfl), ok_bind hl]
  rfl
 show ((armsL (arm (list (lev k).cmd)) ((T ++ [tL, tOp [59, 59], tL, tW kEsac]).length + 4 + 1) [] (tL :: tOp [40] :: tW [120] :: tOp [41] :: (T ++ [tL, tOp [59, 59], tL, tW kEsac]))).bind _) = _
 have hb : armsL (arm (list (lev k).cmd)) ((T ++ [tL, tOp [59, 59], tL, tW kEsac]).length + 4 + 1) [] (tL :: tOp [40] :: tW [120] :: tOp [41] :: (T ++ [tL, tOp [59, 59], tL, tW kEsac])) = .ok [.mk 13 [] false [] [[⟨0, [120], false⟩]] [] [ndL ks]] [tW kEsac] := by
  unfold armsL
  show (arm (list (lev k).cmd) (tOp [40] :: tW [120] :: tOp [41] :: (T ++ [tL, tOp [59, 59], tL, tW kEsac]))).bind _ = _
  rw [ok_bind ha]
  rfl
 rw [ok_bind hb]
 rfl
theorem nest_fun (hT : listK (lev k).cmd T = .ok ks []) (hk : ks ≠ []) : (lev (k + 2)).cmd (tW [102] :: tOp [40] :: tOp [41] :: tW [123] :: (T ++ [tL, tW [125]])) = .ok (.mk 14 [102] false [] [] [] [.mk 7 [] false [] [] [] [ndL ks]]) [] := by
 show cmdF (compK (k + 1)) (some (lev (k + 1)).comp) (tW [102] :: tOp [40] :: tOp [41] :: tW [123] :: (T ++ [tL, tW [125]])) = _
 unfold cmdF
 rw [show blockOf (tW [102] :: tOp [40] :: tOp [41] :: tW [123] :: (T ++ [tL, tW [125]])) = none from rfl]
 show funF (lev (k + 1)).comp (tW [102] :: tOp [40] :: tOp [41] :: tW [123] :: (T ++ [tL, tW [125]])) = _
 show ((lev (k + 1)).comp .grp (tW [123] :: (T ++ [tL, tW [125]]))).bind _ = _
 rw [ok_bind (show (lev (k + 1)).comp .grp (tW [123] :: (T ++ [tL, tW [125]])) = _ from (cmd_comp (b := .grp) (by rfl)).symm.trans (nest_grp hT hk))]
 rfl
/-- The eight scripts. -/
def nestT (T : List Tok) : List (List Tok) :=
 [tOp [40] :: (T ++ [tL, tOp [41]]), tW [123] :: (T ++ [tL, tW [125]]), tW kIf :: (T ++ tL :: tW kThen :: (T ++ [tL, tW kFi])), tW kWhile :: (T ++ tL :: tW kDo :: (T ++ [tL, tW kDone])), tW kUntil :: (T ++ tL :: tW kDo :: (T ++ [tL, tW kDone])),
  tW kFor :: tW [105] :: tW kIn :: tW [49] :: tW [50] :: tL :: tW kDo :: (T ++ [tL, tW kDone]), tW kCase :: tW [120] :: tW kIn :: tL :: tOp [40] :: tW [120] :: tOp [41] :: (T ++ [tL, tOp [59, 59], tL, tW kEsac]), tW [102] :: tOp [40] :: tOp [41] :: tW [123] :: (T ++ [tL, tW [125]])]
def nestN (ks : List Nd) : List Nd :=
 [.mk 6 [] false [] [] [] [ndL ks], .mk 7 [] false [] [] [] [ndL ks], .mk 8 [] false [] [] [] [ndL ks, ndL ks], .mk 9 [] false [] [] [] [ndL ks, ndL ks], .mk 10 [] false [] [] [] [ndL ks, ndL ks],
  .mk 11 [105] false [] [[⟨0, [49], false⟩], [⟨0, [50], false⟩]] [] [ndL ks], .mk 12 [] false [] [[⟨0, [120], false⟩]] [] [.mk 13 [] false [] [[⟨0, [120], false⟩]] [] [ndL ks]], .mk 14 [102] false [] [] [] [.mk 7 [] false [] [] [] [ndL ks]]]
theorem nest_deep {j : Nat} {t : Tok} {ts : List Tok} {x : Nd} (hj : k ≤ j) (h : (lev j).cmd (t :: ts) = .ok x []) (h3 : t.kind ≠ 3) (he : isEnds (t :: ts) = false) (hb : isKw [[33]] (t :: ts) = false) : parseK k (t :: ts) = .ok [ndP x] [] ∨ ∃ m, parseK k (t :: ts) = .bad 2 m := by
 have h1 := listK_one h h3 he hb
 rcases dn_listK (dn_lev k j hj).1 (t :: ts) _ _ h1 with h2 | ⟨m, h2⟩
 ·exact .inl (parseK_of h2)
 ·refine .inr ⟨m, ?_⟩
  unfold parseK
  rw [h2]; rfl
/-- They contain the script, or are too deep. -/
theorem nests (hT : listK (lev k).cmd T = .ok ks []) (hk : ks ≠ []) (i : Nat) (ts : List Tok) (x : Nd) (h1 : (nestT T)[i]? = some ts) (h2 : (nestN ks)[i]? = some x) : parseK k ts = .ok [ndP x] [] ∨ ∃ m, parseK k ts = .bad 2 m := by
 have hi : i < 8 := by
  have := (List.getElem?_eq_some_iff.1 h1).1
  simpa [nestT] using this
 rcases (show i = 0 ∨ i = 1 ∨ i = 2 ∨ i = 3 ∨ i = 4 ∨ i = 5 ∨ i = 6 ∨ i = 7 by omega) with rfl | rfl | rfl | rfl | rfl | rfl | rfl | rfl <;> (cases h1; cases h2)
 ·exact nest_deep (Nat.le_succ k) (nest_sub hT hk) (by simp [tW, tOp, tL]) (by rfl) (by rfl)
 ·exact nest_deep (Nat.le_succ k) (nest_grp hT hk) (by simp [tW, tOp, tL]) (by rfl) (by rfl)
 ·exact nest_deep (Nat.le_succ k) (nest_iff hT hk) (by simp [tW, tOp, tL]) (by rfl) (by rfl)
 ·exact nest_deep (Nat.le_succ k) (nest_whl hT hk) (by simp [tW, tOp, tL]) (by rfl) (by rfl)
 ·exact nest_deep (Nat.le_succ k) (nest_unt hT hk) (by simp [tW, tOp, tL]) (by rfl) (by rfl)
 ·exact nest_deep (Nat.le_succ k) (nest_for hT hk) (by simp [tW, tOp, tL]) (by rfl) (by rfl)
 ·exact nest_deep (Nat.le_succ k) (nest_case hT hk) (by simp [tW, tOp, tL]) (by rfl) (by rfl)
 ·exact nest_deep (show k ≤ k + 2 by omega) (nest_fun hT hk) (by simp [tW, tOp, tL]) (by rfl) (by rfl)
end
end Go.Proofs.YtgboffbbpmileaaGreatDoor
