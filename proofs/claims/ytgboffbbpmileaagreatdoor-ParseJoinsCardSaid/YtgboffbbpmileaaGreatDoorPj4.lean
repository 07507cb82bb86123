/- Lemmas and walks for the law of this seat (part 4). -/
import Derived.Test.YtgboffbbpmileaaGreatDoorPj3
import Derived.Test.YtgboffbbpmileaaGreatDoorProg
import Derived.WalkKit
import Derived.Handy
import Derived.Deep.Light
import Derived.WalkSmall
import Derived.StillTailTactics
import Derived.Lib.Hide
/- Joins, blanks, quotes, parts. Of no program. -/
set_option linter.unusedVariables false
set_option linter.unusedSimpArgs false
namespace Go.Proofs.YtgboffbbpmileaaGreatDoor
open Go
/-! Lines move alike. -/
def Tok.up (k : Nat) (t : Tok) : Tok := { t with line := t.line + k }
def Rup (k : Nat) : R St → R St
 | .ok (ps, l, n) => .ok (ps, l, n + k)
 | .bad n => .bad (n + k)
def Step.up (k : Nat) : Step → Step
 | .skip r n => .skip r (n + k)
 | .tok t r n => .tok (t.up k) r (n + k)
 | .bad n => .bad (n + k)
def Fin.up (k : Nat) : Fin → Fin
 | .fin n => .fin (n + k)
 | .bad n => .bad (n + k)
theorem dollar_up (k : Nat) (ps : List Prt) (s : Bytes) (n : Nat) (q : Bool) : dollar ps s (n + k) q = Rup k (dollar ps s n q) := by
 unfold dollar
 split
 ·split
  ·rfl
  ·simp only [Rup]; congr 3; omega
 ·split
  ·split
   ·rfl
   ·split <;> rfl
  ·split <;> rfl
theorem double_up (k : Nat) : ∀ (f n0 : Nat) (ps : List Prt) (l : Bytes) (n : Nat), double f (n0 + k) (ps, l, n + k) = Rup k (double f n0 (ps, l, n)) := by
 intro f
 induction f with
 | zero => intro n0 ps l n; rfl
 | succ f ih =>
  intro n0 ps l n
  cases l with
  | nil => rfl
  | cons c t =>
   rw [double_cons, double_cons]
   split
   ·rfl
   ·split
    ·rw [dollar_up]
     cases dollar ps t n true with
     | bad m => rfl
     | ok z => obtain ⟨z1, z2, z3⟩ := z; exact ih _ _ _ _
    ·split
     ·split
      ·split
       ·exact ih _ _ _ _
       ·exact ih _ _ _ _
      ·exact ih _ _ _ _
     ·rw [show n + k + lf [c] = n + lf [c] + k by omega]; exact ih _ _ _ _
theorem piece_up (k : Nat) (ps : List Prt) (c : UInt8) (t : Bytes) (n : Nat) : piece ps c t (n + k) = Rup k (piece ps c t n) := by
 unfold piece
 split
 ·split
  ·rfl
  ·simp only [Rup]; congr 3; omega
 ·split
  ·exact double_up k _ _ _ _ _
  ·split
   ·split
    ·rfl
    ·split
     ·simp only [Rup]; congr 3; omega
     ·rfl
   ·split
    ·exact dollar_up k _ _ _ _
    ·rfl
theorem word_up (k : Nat) : ∀ (f : Nat) (ps : List Prt) (l : Bytes) (n : Nat), word f (ps, l, n + k) = Rup k (word f (ps, l, n)) := by
 intro f
 induction f with
 | zero => intro ps l n; rfl
 | succ f ih =>
  intro ps l n
  cases l with
  | nil => rfl
  | cons c t =>
   rw [word_cons, word_cons]
   split
   ·rfl
   ·rw [piece_up]
    cases piece ps c t n with
    | bad m => rfl
    | ok z => obtain ⟨z1, z2, z3⟩ := z; exact ih _ _ _
theorem ioS_up (k : Nat) (l : Bytes) (fd : Int) (n0 n : Nat) : ioS l fd (n0 + k) (n + k) = (ioS l fd n0 n).up k := by
 unfold ioS
 split <;> rfl
theorem step_up (k : Nat) (c : UInt8) (t : Bytes) (n : Nat) : step c t (n + k) = (step c t n).up k := by
 unfold step
 split
 ·rfl
 ·split
  ·rfl
  ·split
   ·simp only [Step.up, Tok.up]; congr 1; omega
   ·split
    ·split <;> rfl
    ·split
     ·rfl
     ·split
      ·exact ioS_up k _ _ _ _
      ·split
       ·simp only [Step.up]; congr 1; omega
       ·rw [word_up]
        cases word (t.length + 2) ([], c :: t, n) with
        | bad m => rfl
        | ok z =>
         obtain ⟨ps, r, m⟩ := z
         simp only [Rup]
         split
         ·split
          ·exact ioS_up k _ _ _ _
          ·rfl
         ·rfl
theorem rawl_up (k : Nat) : ∀ (d : Nat) (l : Bytes) (n : Nat), l.length ≤ d → rawl l (n + k) = ((rawl l n).1.map (Tok.up k), (rawl l n).2.up k) := by
 intro d
 induction d with
 | zero =>
  intro l n hl
  obtain rfl := List.eq_nil_of_length_eq_zero (Nat.le_zero.1 hl)
  rfl
 | succ d ih =>
  intro l n hl
  cases l with
  | nil => rfl
  | cons c t =>
   have hlt := step_lt c t n
   rw [rawl_cons, rawl_cons, step_up]
   cases hs : step c t n with
   | bad m => rfl
   | skip r m =>
    rw [hs] at hlt
    simp only [Step.rest, List.length_cons] at hlt hl
    simp only [Step.up]
    exact ih r m (by omega)
   | tok x r m =>
    rw [hs] at hlt
    simp only [Step.rest, List.length_cons] at hlt hl
    simp only [Step.up]
    rw [ih r m (by omega)]; rfl
/-! The theorem on two scripts. -/
theorem rawl_lf (b : Bytes) (m : Nat) : rawl (10 :: b) m = (⟨3, [], [], [], -1, m⟩ :: (rawl b (m + 1)).1, (rawl b (m + 1)).2) := by
 rw [rawl_cons]; rfl
theorem rawl_join (a b : Bytes) (n m : Nat) (h : (rawl a n).2 = .fin m) (he : a.getLast? ≠ some 92) : rawl (a ++ 10 :: b) n = ((rawl a n).1 ++ ⟨3, [], [], [], -1, m⟩ :: (rawl b (m + 1)).1, (rawl b (m + 1)).2) := by
 rw [rawl_more (.inl rfl) b (fun m => rfl) _ a n m (Nat.le_refl _) h he, rawl_lf]
/-- Blanks. -/
def blank (c : UInt8) : Prop := c = 32 ∨ c = 9
theorem rawl_blank {c : UInt8} (h : blank c) (t : Bytes) (n : Nat) : rawl (c :: t) n = rawl t n := by
 rw [rawl_cons]
 have : step c t n = .skip t n := by unfold step; rw [if_pos (show c = 32 ∨ c = 9 from h)]
 rw [this]
theorem rawl_comment (u t : Bytes) (n : Nat) (h : 10 ∉ u) : rawl (35 :: (u ++ 10 :: t)) n = rawl (10 :: t) n := by
 rw [rawl_cons]
 have hs : step 35 (u ++ 10 :: t) n = .skip ((u ++ 10 :: t).dropWhile (· != 10)) n := rfl
 rw [hs]
 simp only
 rw [drop_none _ u _ (fun c hc => by rw [bne_iff_ne]; rintro rfl; exact h hc)]
 rfl
/-! Quoting. -/
theorem brk_none {c : UInt8} : ∀ (s r : Bytes), c ∉ s → brk c (s ++ c :: r) = some (s, r)
 | [], r, _ => by rw [List.nil_append, brk, if_pos rfl]
 | d :: s, r, h => by
  rw [List.cons_append, brk, if_neg (fun e => h (by rw [e]; simp)), brk_none s r (fun hm => h (List.mem_cons_of_mem _ hm))]; rfl
def stop (r : Bytes) : Prop := r = [] ∨ ∃ c t, r = c :: t ∧ ends c = true
theorem word_stop (f : Nat) (ps : List Prt) (r : Bytes) (n : Nat) (h : stop r) : word f (ps, r, n) = .ok (ps, r, n) := by
 cases f with
 | zero => rfl
 | succ f =>
  rcases h with rfl | ⟨c, t, rfl, h⟩
  ·rfl
  ·rw [word_cons, if_pos h]
/-! A script within parentheses is read again as it was. -/
def closer : Option Nat → UInt8
 | some _ => 41
 | none => 34
theorem scan_head : ∀ (f : Nat) (m : Option Nat) (t : Bytes) (e : UInt8) (x r : Bytes), scan f m t = some (e :: x, r) → t.head? = some e := by
 intro f m t e x r h
 cases f with
 | zero => cases m <;> cases h
 | succ f =>
  cases t with
  | nil => cases m <;> cases h
  | cons c t =>
   have one : ∀ (o : Option (Bytes × Bytes)) (g : Bytes → Bytes), (o.map fun x => (c :: g x.1, x.2)) = some (e :: x, r) → c = e := by
    intro o g h
    cases o with
    | none => cases h
    | some y => simp only [Option.map_some, Option.some.injEq, Prod.mk.injEq, List.cons.injEq] at h; exact h.1.1
   have two : ∀ (o o' : Option (Bytes × Bytes)) (g : Bytes → Bytes → Bytes) (k : Bytes × Bytes → Option (Bytes × Bytes)), (o.bind fun y => (k y).map fun x => (c :: g y.1 x.1, x.2)) = some (e :: x, r) → c = e := by
    intro o o' g k h
    cases o with
    | none => cases h
    | some y => simp only [Option.bind_some] at h; exact one _ _ h
   show some c = some e
   congr 1
   cases m with
   | some d =>
    rw [scan_some] at h
    split at h
    ·rename_i hc; subst hc
     split at h
     ·cases h
     ·exact one _ (fun z => _ :: z) h
    ·split at h
     ·rename_i hc; subst hc; exact two _ none (fun a b => a ++ 39 :: b) _ h
     ·split at h
      ·rename_i hc; subst hc; exact two _ none (fun a b => a ++ 34 :: b) _ h
      ·split at h
       ·rename_i hc; subst hc; exact one _ id h
       ·split at h
        ·rename_i hc; subst hc
         split at h
         ·cases h
         ·exact one _ id h
        ·exact one _ id h
   | none =>
    rw [scan_none] at h
    split at h
    ·cases h
    ·split at h
     ·rename_i hc; subst hc
      split at h
      ·cases h
      ·exact one _ (fun z => _ :: z) h
     ·split at h
      ·rename_i hc; obtain ⟨hc, _⟩ := hc; subst hc; exact two _ none (fun a b => 40 :: (a ++ 41 :: b)) _ h
      ·exact one _ id h
theorem scan_pre : ∀ (f : Nat) (m : Option Nat) (s a r : Bytes), scan f m s = some (a, r) → ∀ (g : Nat) (x : Bytes), f ≤ g → scan g m (a ++ closer m :: x) = some (a, x) := by
 intro f
 induction f with
 | zero => intro m s a r h; cases m <;> cases h
 | succ f ih =>
  intro m s a r h g x hg
  obtain ⟨g, rfl⟩ : ∃ g', g = g' + 1 := ⟨g - 1, by omega⟩
  cases s with
  | nil => cases m <;> cases h
  | cons c t =>
   have get : ∀ (o : Option (Bytes × Bytes)) (k : Bytes → Bytes), (o.map fun x => (k x.1, x.2)) = some (a, r) → ∃ y, o = some (y, r) ∧ a = k y := by
    intro o k h
    cases o with
    | none => cases h
    | some y =>
     obtain ⟨y1, y2⟩ := y
     simp only [Option.map_some, Option.some.injEq, Prod.mk.injEq] at h
     exact ⟨y1, by rw [h.2], h.1.symm⟩
   cases m with
   | some d =>
    rw [scan_some] at h
    by_cases h92 : c = 92
    ·subst h92
     rw [if_pos rfl] at h
     cases t with
     | nil => cases h
     | cons e t' =>
      obtain ⟨y, h1, rfl⟩ := get _ (fun z => 92 :: e :: z) h
      rw [List.cons_append, List.cons_append, scan_some, if_pos rfl]
      simp only
      rw [ih _ _ _ _ h1 g x (by omega)]; rfl
    rw [if_neg h92] at h
    by_cases h39 : c = 39
    ·subst h39
     rw [if_pos rfl] at h
     cases hb : brk 39 t with
     | none => rw [hb] at h; cases h
     | some z =>
      obtain ⟨z1, z2⟩ := z
      rw [hb] at h
      simp only [Option.bind_some] at h
      obtain ⟨y, h1, rfl⟩ := get _ (fun w => 39 :: (z1 ++ 39 :: w)) h
      have := brk_none z1 (y ++ closer (some d) :: x) (brk_text hb).2
      rw [List.cons_append, List.append_assoc, List.cons_append, scan_some, if_neg (by decide), if_pos rfl, this]
      simp only [Option.bind_some]
      rw [ih _ _ _ _ h1 g x (by omega)]; rfl
    rw [if_neg h39] at h
    by_cases h34 : c = 34
    ·subst h34
     rw [if_pos rfl] at h
     cases hb : scan f none t with
     | none => rw [hb] at h; cases h
     | some z =>
      obtain ⟨z1, z2⟩ := z
      rw [hb] at h
      simp only [Option.bind_some] at h
      obtain ⟨y, h1, rfl⟩ := get _ (fun w => 34 :: (z1 ++ 34 :: w)) h
      have := ih _ _ _ _ hb g (y ++ closer (some d) :: x) (by omega)
      rw [List.cons_append, List.append_assoc, List.cons_append, scan_some, if_neg (by decide), if_neg (by decide), if_pos rfl]
      rw [show closer none = 34 from rfl] at this
      rw [this]
      simp only [Option.bind_some]
      rw [ih _ _ _ _ h1 g x (by omega)]; rfl
    rw [if_neg h34] at h
    by_cases h40 : c = 40
    ·subst h40
     rw [if_pos rfl] at h
     obtain ⟨y, h1, rfl⟩ := get _ (fun w => 40 :: w) h
     rw [List.cons_append, scan_some, if_neg (by decide), if_neg (by decide), if_neg (by decide), if_pos rfl]
     have := ih _ _ _ _ h1 g x (by omega)
     rw [show closer (some (d + 1)) = closer (some d) from rfl] at this
     rw [this]; rfl
    rw [if_neg h40] at h
    by_cases h41 : c = 41
    ·subst h41
     rw [if_pos rfl] at h
     by_cases hd : d = 1
     ·subst hd
      rw [if_pos rfl] at h
      simp only [Option.some.injEq, Prod.mk.injEq] at h
      obtain ⟨rfl, rfl⟩ := h
      rfl
     ·rw [if_neg hd] at h
      obtain ⟨y, h1, rfl⟩ := get _ (fun w => 41 :: w) h
      rw [List.cons_append, scan_some, if_neg (by decide), if_neg (by decide), if_neg (by decide), if_neg (by decide), if_pos rfl, if_neg hd]
      have := ih _ _ _ _ h1 g x (by omega)
      rw [show closer (some (d - 1)) = closer (some d) from rfl] at this
      rw [this]; rfl
    ·rw [if_neg h41] at h
     obtain ⟨y, h1, rfl⟩ := get _ (fun w => c :: w) h
     rw [List.cons_append, scan_some, if_neg h92, if_neg h39, if_neg h34, if_neg h40, if_neg h41, ih _ _ _ _ h1 g x (by omega)]; rfl
   | none =>
    rw [scan_none] at h
    by_cases h34 : c = 34
    ·rw [if_pos h34] at h
     simp only [Option.some.injEq, Prod.mk.injEq] at h
     obtain ⟨rfl, rfl⟩ := h
     rfl
    rw [if_neg h34] at h
    by_cases h92 : c = 92
    ·subst h92
     rw [if_pos rfl] at h
     cases t with
     | nil => cases h
     | cons e t' =>
      obtain ⟨y, h1, rfl⟩ := get _ (fun z => 92 :: e :: z) h
      rw [List.cons_append, List.cons_append, scan_none, if_neg (by decide), if_pos rfl]
      simp only
      rw [ih _ _ _ _ h1 g x (by omega)]; rfl
    rw [if_neg h92] at h
    by_cases h36 : c = 36 ∧ t.head? = some 40
    ·rw [if_pos h36] at h
     obtain ⟨rfl, _⟩ := h36
     cases hb : scan f (some 1) (t.drop 1) with
     | none => rw [hb] at h; cases h
     | some z =>
      obtain ⟨z1, z2⟩ := z
      rw [hb] at h
      simp only [Option.bind_some] at h
      obtain ⟨y, h1, rfl⟩ := get _ (fun w => 36 :: 40 :: (z1 ++ 41 :: w)) h
      have := ih _ _ _ _ hb g (y ++ closer none :: x) (by omega)
      rw [List.cons_append, List.cons_append, List.append_assoc, List.cons_append, scan_none, if_neg (by decide), if_neg (by decide), if_pos ⟨rfl, rfl⟩]
      rw [show closer (some 1) = 41 from rfl] at this
      simp only [List.drop_succ_cons, List.drop_zero]
      rw [this]
      simp only [Option.bind_some]
      rw [ih _ _ _ _ h1 g x (by omega)]; rfl
    ·rw [if_neg h36] at h
     obtain ⟨y, h1, rfl⟩ := get _ (fun w => c :: w) h
     have hn : ¬ (c = 36 ∧ (y ++ closer none :: x).head? = some 40) := by
      rintro ⟨e1, e2⟩
      cases y with
      | nil => cases e2
      | cons e y =>
       have := scan_head _ _ _ _ _ _ h1
       simp only [List.cons_append, List.head?_cons] at e2
       injection e2 with e2
       exact h36 ⟨e1, by rw [this, e2]⟩
     rw [List.cons_append, scan_none, if_neg h34, if_neg h92, if_neg hn, ih _ _ _ _ h1 g x (by omega)]; rfl
theorem scan_fuel : ∀ (f g : Nat) (m : Option Nat) (s : Bytes), s.length < f → s.length < g → scan f m s = scan g m s := by
 intro f
 induction f with
 | zero => intro g m s h; omega
 | succ f ih =>
  intro g m s hf hg
  obtain ⟨g, rfl⟩ : ∃ g', g = g' + 1 := ⟨g - 1, by omega⟩
  cases s with
  | nil => cases m <;> rfl
  | cons c t =>
   simp only [List.length_cons] at hf hg
   have st : ∀ m', scan f m' t = scan g m' t := fun m' => ih g m' t (by omega) (by omega)
   cases m with
   | some d =>
    rw [scan_some, scan_some]
    split
    ·split
     ·rfl
     ·rename_i e t'
      simp only [List.length_cons] at hf hg
      rw [ih g _ t' (by omega) (by omega)]
    ·split
     ·cases hb : brk 39 t with
      | none => rfl
      | some y =>
       obtain ⟨y1, y2⟩ := y
       have := congrArg List.length (brk_text hb).1
       simp only [List.length_append, List.length_cons] at this
       simp only [Option.bind_some]
       rw [ih g _ y2 (by omega) (by omega)]
     ·split
      ·rw [st]
       cases hb : scan g none t with
       | none => rfl
       | some y =>
        obtain ⟨y1, y2⟩ := y
        have := scan_len _ _ _ _ _ hb
        simp only [Option.bind_some]
        rw [ih g _ y2 (by omega) (by omega)]
      ·split
       ·rw [st]
       ·split
        ·split
         ·rfl
         ·rw [st]
        ·rw [st]
   | none =>
    rw [scan_none, scan_none]
    split
    ·rfl
    ·split
     ·split
      ·rfl
      ·rename_i e t'
       simp only [List.length_cons] at hf hg
       rw [ih g _ t' (by omega) (by omega)]
     ·split
      ·rw [ih g (some 1) (t.drop 1) (by rw [List.length_drop]; omega) (by rw [List.length_drop]; omega)]
       cases hb : scan g (some 1) (t.drop 1) with
       | none => rfl
       | some y =>
        obtain ⟨y1, y2⟩ := y
        have := scan_len _ _ _ _ _ hb
        rw [List.length_drop] at this
        simp only [Option.bind_some]
        rw [ih g _ y2 (by omega) (by omega)]
      ·rw [st]
/-- What stands within parentheses, with its end. -/
def SubOK (a : Bytes) : Prop := parens (a ++ [41]) = some (a, [])
theorem parens_ok {s a r : Bytes} (h : parens s = some (a, r)) : SubOK a := by
 unfold SubOK parens at *
 have h1 := scan_pre _ _ _ _ _ h (s.length + 1 + (a ++ [41]).length + 1) [] (by omega)
 rw [scan_fuel _ (s.length + 1 + (a ++ [41]).length + 1) _ _ (by omega) (by omega)]
 exact h1
/-- A variable's name, within braces. -/
def VarOK (a : Bytes) : Prop := a ≠ [] ∧ 125 ∉ a ∧ param a = a.length
theorem namedT_take : ∀ s : Bytes, namedT (s.take (namedT s)) = namedT s ∧ ∀ c ∈ s.take (namedT s), c ≠ 125
 | [] => by simp [namedT]
 | c :: t => by
  rw [namedT]
  split
  ·rename_i h
   obtain ⟨h1, h2⟩ := namedT_take t
   rw [List.take_succ_cons, namedT, if_pos h, h1]
   refine ⟨rfl, fun d hd => ?_⟩
   rcases List.mem_cons.1 hd with rfl | hd
   ·rintro rfl; revert h; decide
   ·exact h2 d hd
  ·simp [namedT]
theorem named_take (s : Bytes) : named (s.take (named s)) = named s ∧ ∀ c ∈ s.take (named s), c ≠ 125 := by
 cases s with
 | nil => simp [named]
 | cons c t =>
  rw [named]
  split
  ·rename_i h
   obtain ⟨h1, h2⟩ := namedT_take t
   rw [List.take_succ_cons, named, if_pos h, h1]
   refine ⟨rfl, fun d hd => ?_⟩
   rcases List.mem_cons.1 hd with rfl | hd
   ·rintro rfl; revert h; decide
   ·exact h2 d hd
  ·simp [named]
theorem param_named {s : Bytes} {n : Nat} (h : named s = n + 1) : param s = n + 1 := by unfold param; rw [h]
theorem param_one {c : UInt8} {t : Bytes} (h : named (c :: t) = 0) : param (c :: t) = if special c then 1 else 0 := by unfold param; rw [h]
theorem param_ok {s : Bytes} (h : 0 < param s) : VarOK (s.take (param s)) := by
 have hle := param_le s
 have hl : (s.take (param s)).length = param s := by rw [List.length_take]; omega
 have hne : s.take (param s) ≠ [] := fun e => by rw [e] at hl; simp at hl; omega
 unfold VarOK
 rw [hl]
 refine ⟨hne, ?_⟩
 cases hn : named s with
 | succ n =>
  rw [param_named hn]
  obtain ⟨h1, h2⟩ := named_take s
  rw [hn] at h1 h2
  exact ⟨fun hm => h2 _ hm rfl, param_named h1⟩
 | zero =>
  cases s with
  | nil => cases h
  | cons c t =>
   rw [param_one hn] at h ⊢
   by_cases hs : special c = true
   ·rw [if_pos hs] at h ⊢
    have hc : alpha c = false := by
     rw [named] at hn
     cases ha : alpha c
     ·rfl
     ·rw [ha] at hn; simp at hn
    refine ⟨?_, ?_⟩
    ·simp; rintro rfl; revert hs; decide
    ·show param [c] = 1
     have : named [c] = 0 := by rw [named, hc]; rfl
     rw [param_one this, if_pos hs]
   ·rw [if_neg hs] at h; omega
theorem brace_ok {s a r : Bytes} (h : brk 125 s = some (a, r)) (h2 : ¬ (a = [] ∨ param a ≠ a.length)) : VarOK a := by
 simp only [not_or, Decidable.not_not] at h2
 exact ⟨h2.1, (brk_text h).2, h2.2⟩
/-! The parts of a word. -/
def bareC (c : UInt8) : Bool := !ends c && c != 34 && c != 39 && c != 36 && c != 92
def bare (t : Bytes) : Prop := t ≠ [] ∧ ∀ c ∈ t, bareC c = true
def PartOK (p : Prt) : Prop := (p.k = 0 ∧ (p.q = false → bare p.t)) ∨ (p.k = 1 ∧ VarOK p.t) ∨ (p.k = 2 ∧ SubOK p.t)
/-- No two texts next to each other are alike. -/
def Adj : List Prt → Prop
 | [] => True
 | [_] => True
 | a :: b :: l => ¬ (a.k = 0 ∧ b.k = 0 ∧ a.q = b.q) ∧ Adj (b :: l)
def WF (ps : List Prt) : Prop := (∀ p ∈ ps, PartOK p) ∧ Adj ps
theorem wf_nil : WF [] := ⟨by simp, trivial⟩
theorem wf_tail {p : Prt} {ps : List Prt} (h : WF (p :: ps)) : WF ps := by
 refine ⟨fun q hq => h.1 q (List.mem_cons_of_mem _ hq), ?_⟩
 cases ps with
 | nil => trivial
 | cons a l => exact h.2.2
theorem addT_head (p : Prt) : ∀ (ps : List Prt) (s : Bytes) (q : Bool), ∃ p' l, addT (p :: ps) s q = p' :: l ∧ p'.k = p.k ∧ p'.q = p.q
 | [], s, q => by
  rw [addT]
  split
  ·rename_i h; exact ⟨_, _, rfl, h.1.symm, h.2.symm⟩
  ·exact ⟨_, _, rfl, rfl, rfl⟩
 | b :: l, s, q => ⟨_, _, rfl, rfl, rfl⟩
theorem addT_ne (ps : List Prt) (s : Bytes) (q : Bool) : addT ps s q ≠ [] := by
 cases ps with
 | nil => simp [addT]
 | cons p ps =>
  obtain ⟨p', l, h, _⟩ := addT_head p ps s q
  rw [h]; simp
theorem addT_wf : ∀ (ps : List Prt) (s : Bytes) (q : Bool), WF ps → (q = true ∨ bare s) → WF (addT ps s q)
 | [], s, q, _, hq => by
  refine ⟨fun p hp => ?_, trivial⟩
  simp only [addT, List.mem_singleton] at hp
  subst hp
  left
  refine ⟨rfl, fun h => ?_⟩
  rcases hq with e | e
  ·simp only at h; rw [e] at h; cases h
  ·exact e
 | [p], s, q, h, hq => by
  have hp := h.1 p (by simp)
  rw [addT]
  split
  ·rename_i hk
   refine ⟨fun x hx => ?_, trivial⟩
   simp only [List.mem_singleton] at hx
   subst hx
   left
   refine ⟨rfl, fun hf => ?_⟩
   simp only at hf ⊢
   rcases hq with e | e
   ·rw [e] at hf; cases hf
   ·rcases hp with ⟨_, h2⟩ | ⟨h2, _⟩ | ⟨h2, _⟩
    ·obtain ⟨b1, b2⟩ := h2 (by rw [hk.2]; exact hf)
     refine ⟨by simp [b1], fun c hc => ?_⟩
     rcases List.mem_append.1 hc with hc | hc
     ·exact b2 c hc
     ·exact e.2 c hc
    ·rw [hk.1] at h2; cases h2
    ·rw [hk.1] at h2; cases h2
  ·rename_i hk
   refine ⟨fun x hx => ?_, ?_⟩
   ·rcases List.mem_cons.1 hx with rfl | hx
    ·exact hp
    ·simp only [List.mem_singleton] at hx
     subst hx
     left
     refine ⟨rfl, fun hf => ?_⟩
     rcases hq with e | e
     ·simp only at hf; rw [e] at hf; cases hf
     ·exact e
   ·exact ⟨fun e => hk ⟨e.1, e.2.2⟩, trivial⟩
 | p :: b :: l, s, q, h, hq => by
  have ih := addT_wf (b :: l) s q (wf_tail h) hq
  have e : addT (p :: b :: l) s q = p :: addT (b :: l) s q := rfl
  rw [e]
  obtain ⟨p', l', he, hk, hq'⟩ := addT_head b l s q
  rw [he] at ih ⊢
  refine ⟨fun x hx => ?_, ?_, ih.2⟩
  ·rcases List.mem_cons.1 hx with rfl | hx
   ·exact h.1 _ (by simp)
   ·exact ih.1 x hx
  ·rw [hk, hq']; exact h.2.1
theorem snoc_wf : ∀ (ps : List Prt) (p : Prt), WF ps → PartOK p → p.k ≠ 0 → WF (ps ++ [p])
 | [], p, _, hp, _ => ⟨fun x hx => by simp at hx; subst hx; exact hp, trivial⟩
 | [a], p, h, hp, hk => by
  refine ⟨fun x hx => ?_, fun e => hk e.2.1, trivial⟩
  simp only [List.cons_append, List.nil_append, List.mem_cons, List.not_mem_nil, or_false] at hx
  rcases hx with rfl | rfl
  ·exact h.1 _ (by simp)
  ·exact hp
 | a :: b :: l, p, h, hp, hk => by
  have ih := snoc_wf (b :: l) p (wf_tail h) hp hk
  refine ⟨fun x hx => ?_, h.2.1, ih.2⟩
  rcases List.mem_cons.1 hx with rfl | hx
  ·exact h.1 _ (by simp)
  ·exact ih.1 x hx
/-- What holds of a state within a word: well formed, and the line has not gone back. -/
def Good (n0 : Nat) (st : St) : Prop := WF st.1 ∧ st.1 ≠ [] ∧ n0 ≤ st.2.2
theorem dollar_good {ps : List Prt} {s : Bytes} {n n0 : Nat} {q : Bool} {st : St} (hw : WF ps) (hn : n0 ≤ n) (h : dollar ps s n q = .ok st) : Good n0 st := by
 unfold dollar at h
 split at h
 ·cases hp : parens (s.drop 1) with
  | none => rw [hp] at h; cases h
  | some z =>
   obtain ⟨a, r⟩ := z
   rw [hp] at h
   injection h with h
   rw [← h]
   exact ⟨snoc_wf _ _ hw (.inr (.inr ⟨rfl, parens_ok hp⟩)) (by simp), by simp, by simp only; omega⟩
 ·split at h
  ·cases hp : brk 125 (s.drop 1) with
   | none => rw [hp] at h; cases h
   | some z =>
    obtain ⟨a, r⟩ := z
    rw [hp] at h
    simp only at h
    split at h
    ·cases h
    ·rename_i hc
     injection h with h
     rw [← h]
     exact ⟨snoc_wf _ _ hw (.inr (.inl ⟨rfl, brace_ok hp hc⟩)) (by simp), by simp, hn⟩
  ·split at h
   ·rename_i hpp
    injection h with h
    rw [← h]
    exact ⟨snoc_wf _ _ hw (.inr (.inl ⟨rfl, param_ok hpp⟩)) (by simp), by simp, hn⟩
   ·injection h with h
    rw [← h]
    exact ⟨addT_wf _ _ _ hw (.inl rfl), addT_ne _ _ _, hn⟩
theorem double_good {m0 n0 : Nat} : ∀ (f : Nat) (ps : List Prt) (l : Bytes) (n : Nat) (st : St), WF ps → ps ≠ [] → n0 ≤ n → double f m0 (ps, l, n) = .ok st → Good n0 st := by
 intro f
 induction f with
 | zero => intro ps l n st _ _ _ h; cases h
 | succ f ih =>
  intro ps l n st hw hne hn h
  cases l with
  | nil => cases h
  | cons c t =>
   rw [double_cons] at h
   split at h
   ·injection h with h; rw [← h]; exact ⟨hw, hne, hn⟩
   ·split at h
    ·cases hd : dollar ps t n true with
     | bad m => rw [hd] at h; cases h
     | ok z =>
      rw [hd] at h
      obtain ⟨z1, z2, z3⟩ := z
      obtain ⟨g1, g2, g3⟩ := dollar_good hw hn hd
      exact ih _ _ _ _ g1 g2 g3 h
    ·have ha : ∀ s, WF (addT ps s true) := fun s => addT_wf _ _ _ hw (.inl rfl)
     split at h
     ·split at h
      ·split at h
       ·exact ih _ _ _ _ (ha _) (addT_ne _ _ _) hn h
       ·exact ih _ _ _ _ (ha _) (addT_ne _ _ _) hn h
      ·exact ih _ _ _ _ (ha _) (addT_ne _ _ _) hn h
     ·exact ih _ _ _ _ (ha _) (addT_ne _ _ _) (by omega) h
theorem piece_good {ps : List Prt} {c : UInt8} {t : Bytes} {n n0 : Nat} {st : St} (hw : WF ps) (hn : n0 ≤ n) (hc : ends c = false) (hne : ps ≠ [] ∨ ¬ (c = 92 ∧ t.head? = some 10)) (h : piece ps c t n = .ok st) : Good n0 st := by
 have ha : ∀ s, WF (addT ps s true) := fun s => addT_wf _ _ _ hw (.inl rfl)
 unfold piece at h
 split at h
 ·cases hb : brk 39 t with
  | none => rw [hb] at h; cases h
  | some z =>
   obtain ⟨a, r⟩ := z
   rw [hb] at h
   injection h with h
   rw [← h]
   exact ⟨ha _, addT_ne _ _ _, by simp only; omega⟩
 ·rename_i h39
  split at h
  ·exact double_good _ _ _ _ _ (ha _) (addT_ne _ _ _) hn h
  ·rename_i h34
   split at h
   ·rename_i h92
    split at h
    ·injection h with h; rw [← h]; exact ⟨ha _, addT_ne _ _ _, hn⟩
    ·split at h
     ·rename_i hd
      injection h with h; rw [← h]
      refine ⟨hw, ?_, by simp only; omega⟩
      rcases hne with e | e
      ·exact e
      ·exact absurd ⟨h92, by rw [hd]; rfl⟩ e
     ·injection h with h; rw [← h]; exact ⟨ha _, addT_ne _ _ _, hn⟩
   ·rename_i h92
    split at h
    ·exact dollar_good hw hn h
    ·rename_i h36
     injection h with h; rw [← h]
     refine ⟨addT_wf _ _ _ hw (.inr ⟨by simp, fun d hd => ?_⟩), addT_ne _ _ _, hn⟩
     simp at hd; subst hd
     unfold bareC
     simp [hc, h34, h39, h36, h92]
theorem word_good {n0 : Nat} : ∀ (f : Nat) (ps : List Prt) (l : Bytes) (n : Nat) (st : St), WF ps → ps ≠ [] → n0 ≤ n → word f (ps, l, n) = .ok st → Good n0 st := by
 intro f
 induction f with
 | zero => intro ps l n st hw hne hn h; injection h with h; rw [← h]; exact ⟨hw, hne, hn⟩
 | succ f ih =>
  intro ps l n st hw hne hn h
  cases l with
  | nil => rw [word] at h; injection h with h; rw [← h]; exact ⟨hw, hne, hn⟩
  | cons c t =>
   rw [word_cons] at h
   split at h
   ·injection h with h; rw [← h]; exact ⟨hw, hne, hn⟩
   ·rename_i hc
    cases hp : piece ps c t n with
    | bad m => rw [hp] at h; cases h
    | ok z =>
     rw [hp] at h
     obtain ⟨z1, z2, z3⟩ := z
     obtain ⟨g1, g2, g3⟩ := piece_good hw hn (by simpa using hc) (.inl hne) hp
     exact ih _ _ _ _ g1 g2 g3 h
def TokOK (t : Tok) : Prop := t.kind ≤ 3 ∧ (t.kind = 0 → WF t.parts ∧ t.parts ≠ [] ∧ t.plain = plainOf t.parts) ∧ (t.kind ≠ 0 → t.parts = [] ∧ t.plain = []) ∧ (t.kind ≠ 2 → t.fd = -1)
def Step.good (n : Nat) : Step → Prop
 | .skip _ m => n ≤ m
 | .tok t _ m => TokOK t ∧ t.line = n ∧ n ≤ m
 | .bad _ => True
theorem ioS_good (l : Bytes) (fd : Int) (n m : Nat) (h : n ≤ m) : (ioS l fd n m).good n := by
 unfold ioS
 split <;> exact ⟨⟨by simp [ioT], by simp [ioT], by simp [ioT], by simp [ioT]⟩, rfl, h⟩
theorem step_good (c : UInt8) (t : Bytes) (n : Nat) : (step c t n).good n := by
 have op : ∀ s, TokOK (opT s n) := fun s => ⟨by simp [opT], by simp [opT], by simp [opT], by simp [opT]⟩
 unfold step
 split
 ·exact Nat.le_refl _
 ·split
  ·exact Nat.le_refl _
  ·rename_i h32 h35
   split
   ·exact ⟨⟨by simp, by simp, by simp, by simp⟩, rfl, by omega⟩
   ·rename_i h10
    split
    ·split
     ·exact ⟨op _, rfl, Nat.le_refl _⟩
     ·exact ⟨op _, rfl, Nat.le_refl _⟩
    ·rename_i h124
     split
     ·exact ⟨op _, rfl, Nat.le_refl _⟩
     ·rename_i h40
      split
      ·exact ioS_good _ _ _ _ (Nat.le_refl _)
      ·rename_i h60
       split
       ·show n ≤ n + 1; omega
       ·rename_i h92
        cases hw : word (t.length + 2) ([], c :: t, n) with
        | bad m => trivial
        | ok st =>
         obtain ⟨ps, r, m⟩ := st
         have he : ends c = false := by
          simp only [not_or] at h32 h124 h40 h60
          unfold ends
          simp [h32.1, h32.2, h10, h124.1, h124.2.1, h124.2.2, h40.1, h40.2, h60.1, h60.2]
         have hg : Good n (ps, r, m) := by
          rw [word_cons, he] at hw
          simp only [Bool.false_eq_true, if_false] at hw
          cases hp : piece [] c t n with
          | bad m => rw [hp] at hw; cases hw
          | ok z =>
           rw [hp] at hw
           obtain ⟨z1, z2, z3⟩ := z
           obtain ⟨g1, g2, g3⟩ := piece_good wf_nil (Nat.le_refl n) he (.inr h92) hp
           exact word_good _ _ _ _ _ g1 g2 g3 hw
         obtain ⟨g1, g2, g3⟩ := hg
         have hok : Step.good n (.tok ⟨0, [], plainOf ps, ps, -1, n⟩ r m) := ⟨⟨by simp, fun _ => ⟨g1, g2, rfl⟩, by simp, by simp⟩, rfl, g3⟩
         simp only
         split
         ·split
          ·exact ioS_good _ _ _ _ g3
          ·exact hok
         ·exact hok
/-- The lines do not go back. -/
def Lines : Nat → List Tok → Nat → Prop
 | n, [], m => n ≤ m
 | n, t :: ts, m => n ≤ t.line ∧ Lines t.line ts m
end Go.Proofs.YtgboffbbpmileaaGreatDoor
/- Places. Of no program. -/
set_option linter.unusedVariables false
set_option linter.unusedSimpArgs false
namespace Go.Proofs.YtgboffbbpmileaaGreatDoor
open Go
/-! Places within a string: the program's way to say what scan and brk say. -/
theorem brk_ix (c : UInt8) : ∀ l : Bytes, (brk c l = none ∧ Lib.indexByte l c = -1) ∨ ∃ a r, brk c l = some (a, r) ∧ Lib.indexByte l c = a.length
 | [] => .inl ⟨rfl, rfl⟩
 | d :: t => by
  rw [brk, Lib.indexByte]
  by_cases h : d = c
  ·subst h; right; exact ⟨[], t, by simp, by simp⟩
  ·rw [if_neg h, beq_false_of_ne h]
   rcases brk_ix c t with ⟨h1, h2⟩ | ⟨a, r, h1, h2⟩
   ·left; rw [h1, h2]; exact ⟨rfl, rfl⟩
   ·right; refine ⟨d :: a, r, by rw [h1]; rfl, ?_⟩
    rw [h2]
    have : ((a.length : Int) == -1) = false := beq_false_of_ne (by omega)
    rw [this]; simp
def closerB : Option Nat → UInt8
 | none => 34
 | some _ => 41
theorem scan_text : ∀ (f : Nat) (m : Option Nat) (s a r : Bytes), scan f m s = some (a, r) → s = a ++ closerB m :: r := by
 intro f
 induction f with
 | zero => intro m s a r h; cases m <;> cases h
 | succ f ih =>
  intro m s a r h
  cases s with
  | nil => cases m <;> cases h
  | cons c t =>
   have one : ∀ (m' : Option Nat) (t' : Bytes) (g : Bytes → Bytes) (p : Bytes), ((scan f m' t').map fun x => (g x.1, x.2)) = some (a, r) → closerB m' = closerB m → (∀ x, g x = p ++ x) → c :: t = p ++ t' → c :: t = a ++ closerB m :: r := by
    intro m' t' g p h hc hg hp
    cases hs : scan f m' t' with
    | none => rw [hs] at h; cases h
    | some y =>
     obtain ⟨y1, y2⟩ := y
     rw [hs] at h
     simp only [Option.map_some, Option.some.injEq, Prod.mk.injEq] at h
     obtain ⟨rfl, rfl⟩ := h
     rw [hp, hg, ih _ _ _ _ hs, hc, List.append_assoc]
   cases m with
   | some d =>
    rw [scan_some] at h
    split at h
    ·rename_i h92
     subst h92
     split at h
     ·cases h
     ·rename_i e t'
      exact one _ _ (fun z => 92 :: e :: z) [92, e] h rfl (fun _ => rfl) rfl
    ·split at h
     ·rename_i h39
      subst h39
      cases hb : brk 39 t with
      | none => rw [hb] at h; cases h
      | some y =>
       rw [hb] at h
       simp only [Option.bind_some] at h
       obtain ⟨h1, _⟩ := brk_text (a := y.1) (r := y.2) hb
       refine one _ _ (fun z => 39 :: (y.1 ++ 39 :: z)) (39 :: (y.1 ++ [39])) h rfl (fun _ => by simp) ?_
       rw [h1]; simp
     ·split at h
      ·rename_i h34
       subst h34
       cases hb : scan f none t with
       | none => rw [hb] at h; cases h
       | some y =>
        rw [hb] at h
        simp only [Option.bind_some] at h
        have h1 := ih _ _ y.1 y.2 hb
        refine one _ _ (fun z => 34 :: (y.1 ++ 34 :: z)) (34 :: (y.1 ++ [34])) h rfl (fun _ => by simp) ?_
        rw [h1]; simp [closerB]
      ·split at h
       ·rename_i h40
        subst h40
        exact one _ _ (fun z => 40 :: z) [40] h rfl (fun _ => rfl) rfl
       ·split at h
        ·rename_i h41
         subst h41
         split at h
         ·simp only [Option.some.injEq, Prod.mk.injEq] at h
          obtain ⟨rfl, rfl⟩ := h
          rfl
         ·exact one _ _ (fun z => 41 :: z) [41] h rfl (fun _ => rfl) rfl
        ·exact one _ _ (fun z => c :: z) [c] h rfl (fun _ => rfl) rfl
   | none =>
    rw [scan_none] at h
    split at h
    ·rename_i h34
     subst h34
     simp only [Option.some.injEq, Prod.mk.injEq] at h
     obtain ⟨rfl, rfl⟩ := h
     rfl
    ·split at h
     ·rename_i h92
      subst h92
      split at h
      ·cases h
      ·rename_i e t'
       exact one _ _ (fun z => 92 :: e :: z) [92, e] h rfl (fun _ => rfl) rfl
     ·split at h
      ·rename_i h36
       obtain ⟨rfl, h40⟩ := h36
       cases hb : scan f (some 1) (t.drop 1) with
       | none => rw [hb] at h; cases h
       | some y =>
        rw [hb] at h
        simp only [Option.bind_some] at h
        have h1 := ih _ _ y.1 y.2 hb
        refine one _ _ (fun z => 36 :: 40 :: (y.1 ++ 41 :: z)) (36 :: 40 :: (y.1 ++ [41])) h rfl (fun _ => by simp) ?_
        cases t with
        | nil => cases h40
        | cons e t =>
         simp only [List.head?_cons, Option.some.injEq] at h40
         subst h40
         simp only [List.drop_succ_cons, List.drop_zero] at h1
         rw [h1]; simp [closerB]
      ·exact one _ _ (fun z => c :: z) [c] h rfl (fun _ => rfl) rfl
/-- The place at which what begins at the place i ends; -1 if it does not. -/
def pl (i : Nat) : Option (Bytes × Bytes) → Int
 | none => -1
 | some x => (i : Int) + x.1.length
def cr (m : Option Nat) (i : Nat) (l : Bytes) : Int := pl i (scan (l.length + 1) m l)
theorem cr_of {m : Option Nat} {i f : Nat} {l : Bytes} (h : l.length < f) : cr m i l = pl i (scan f m l) := by
 unfold cr; rw [scan_fuel (l.length + 1) f m l (by omega) h]
theorem pl_map (i n : Nat) (g : Bytes → Bytes) (hg : ∀ x, (g x).length = x.length + n) (o : Option (Bytes × Bytes)) : pl i (o.map fun x => (g x.1, x.2)) = pl (i + n) o := by
 cases o with
 | none => rfl
 | some x => simp only [pl, Option.map_some, hg]; omega
theorem cr_nil (m : Option Nat) (i : Nat) : cr m i [] = -1 := by cases m <;> rfl
theorem cr_one (m : Option Nat) (i : Nat) : cr m i [92] = -1 := by cases m <;> rfl
theorem cr_esc (m : Option Nat) (i : Nat) (e : UInt8) (t : Bytes) : cr m i (92 :: e :: t) = cr m (i + 2) t := by
 have h : cr m (i + 2) t = pl (i + 2) (scan (t.length + 2) m t) := cr_of (by omega)
 rw [h]
 show pl i (scan (t.length + 2 + 1) m (92 :: e :: t)) = _
 cases m with
 | none => exact pl_map i 2 (fun x => 92 :: e :: x) (fun _ => rfl) _
 | some d => exact pl_map i 2 (fun x => 92 :: e :: x) (fun _ => rfl) _
theorem cr_sq (d i : Nat) (t : Bytes) : (Lib.indexByte t 39 = -1 ∧ cr (some d) i (39 :: t) = -1) ∨ ∃ n : Nat, Lib.indexByte t 39 = n ∧ n < t.length ∧ cr (some d) i (39 :: t) = cr (some d) (i + n + 2) (t.drop (n + 1)) := by
 rcases brk_ix 39 t with ⟨h1, h2⟩ | ⟨a, r, h1, h2⟩
 ·left; refine ⟨h2, ?_⟩
  show pl i (scan (t.length + 1 + 1) (some d) (39 :: t)) = _
  rw [scan_some, if_neg (by decide), if_pos rfl, h1]; rfl
 ·right
  obtain ⟨ht, _⟩ := brk_text h1
  refine ⟨a.length, h2, by rw [ht]; simp, ?_⟩
  have hd : t.drop (a.length + 1) = r := by rw [ht]; simp [← List.drop_drop]
  have hlt : r.length < t.length + 1 := by rw [ht]; simp; omega
  rw [hd, cr_of hlt]
  show pl i (scan (t.length + 1 + 1) (some d) (39 :: t)) = _
  rw [scan_some, if_neg (by decide), if_pos rfl, h1]
  exact pl_map i (a.length + 2) (fun x => 39 :: (a ++ 39 :: x)) (fun x => by simp; omega) _
theorem sub_pl {m : Option Nat} {t : Bytes} : (cr m 0 t = -1 ∧ ∀ f, t.length < f → scan f m t = none) ∨ ∃ (n : Nat) (a r : Bytes), cr m 0 t = n ∧ n = a.length ∧ n < t.length ∧ r = t.drop (n + 1) ∧ ∀ f, t.length < f → scan f m t = some (a, r) := by
 cases h : scan (t.length + 1) m t with
 | none => left; exact ⟨by unfold cr; rw [h]; rfl, fun f hf => by rw [← h]; exact scan_fuel _ _ _ _ hf (by omega)⟩
 | some y =>
  obtain ⟨a, r⟩ := y
  right
  have ht := scan_text _ _ _ _ _ h
  refine ⟨a.length, a, r, by unfold cr; rw [h]; simp [pl], rfl, ?_, ?_, fun f hf => by rw [← h]; exact scan_fuel _ _ _ _ hf (by omega)⟩
  ·have := congrArg List.length ht; simp at this; omega
  ·have e : t.drop (a.length + 1) = (a ++ closerB m :: r).drop (a.length + 1) := congrArg _ ht
   rw [e]; simp [← List.drop_drop]
theorem cr_dq (d i : Nat) (t : Bytes) : (cr none 0 t = -1 ∧ cr (some d) i (34 :: t) = -1) ∨ ∃ n : Nat, cr none 0 t = n ∧ n < t.length ∧ cr (some d) i (34 :: t) = cr (some d) (i + n + 2) (t.drop (n + 1)) := by
 have hs : cr (some d) i (34 :: t) = pl i ((scan (t.length + 1) none t).bind fun y => (scan (t.length + 1) (some d) y.2).map fun x => (34 :: (y.1 ++ 34 :: x.1), x.2)) := by
  show pl i (scan (t.length + 1 + 1) (some d) (34 :: t)) = _
  rw [scan_some, if_neg (by decide), if_neg (by decide), if_pos rfl]
 rcases sub_pl (m := none) (t := t) with ⟨h1, h2⟩ | ⟨n, a, r, h1, h2, h3, h4, h5⟩
 ·left; exact ⟨h1, by rw [hs, h2 _ (by omega)]; rfl⟩
 ·right
  refine ⟨n, h1, h3, ?_⟩
  rw [hs, h5 _ (by omega), ← h4]
  have : r.length < t.length + 1 := by rw [h4, List.length_drop]; omega
  rw [cr_of this]
  exact pl_map i (n + 2) (fun x => 34 :: (a ++ 34 :: x)) (fun x => by simp; omega) _
theorem cr_op (d i : Nat) (t : Bytes) : cr (some d) i (40 :: t) = cr (some (d + 1)) (i + 1) t := by
 show pl i (scan (t.length + 1 + 1) (some d) (40 :: t)) = _
 rw [scan_some, if_neg (by decide), if_neg (by decide), if_neg (by decide), if_pos rfl, cr_of (Nat.lt_succ_self _)]
 exact pl_map i 1 (fun x => 40 :: x) (fun x => by simp) _
theorem cr_cl (i : Nat) (t : Bytes) : cr (some 1) i (41 :: t) = i := by
 show pl i (scan (t.length + 1 + 1) (some 1) (41 :: t)) = _
 rw [scan_some, if_neg (by decide), if_neg (by decide), if_neg (by decide), if_neg (by decide), if_pos rfl, if_pos rfl]
 simp [pl]
theorem cr_down (d i : Nat) (t : Bytes) (hd : d ≠ 1) : cr (some d) i (41 :: t) = cr (some (d - 1)) (i + 1) t := by
 show pl i (scan (t.length + 1 + 1) (some d) (41 :: t)) = _
 rw [scan_some, if_neg (by decide), if_neg (by decide), if_neg (by decide), if_neg (by decide), if_pos rfl, if_neg hd, cr_of (Nat.lt_succ_self _)]
 exact pl_map i 1 (fun x => 41 :: x) (fun x => by simp) _
theorem cr_else (d i : Nat) (c : UInt8) (t : Bytes) (h1 : c ≠ 92) (h2 : c ≠ 39) (h3 : c ≠ 34) (h4 : c ≠ 40) (h5 : c ≠ 41) : cr (some d) i (c :: t) = cr (some d) (i + 1) t := by
 show pl i (scan (t.length + 1 + 1) (some d) (c :: t)) = _
 rw [scan_some, if_neg h1, if_neg h2, if_neg h3, if_neg h4, if_neg h5, cr_of (Nat.lt_succ_self _)]
 exact pl_map i 1 (fun x => c :: x) (fun x => by simp) _
theorem cq_end (i : Nat) (t : Bytes) : cr none i (34 :: t) = i := by
 show pl i (scan (t.length + 1 + 1) none (34 :: t)) = _
 rw [scan_none, if_pos rfl]; simp [pl]
theorem cq_sub (i : Nat) (t : Bytes) : (cr (some 1) 0 t = -1 ∧ cr none i (36 :: 40 :: t) = -1) ∨ ∃ n : Nat, cr (some 1) 0 t = n ∧ n < t.length ∧ cr none i (36 :: 40 :: t) = cr none (i + n + 3) (t.drop (n + 1)) := by
 have hs : cr none i (36 :: 40 :: t) = pl i ((scan (t.length + 2) (some 1) t).bind fun y => (scan (t.length + 2) none y.2).map fun x => (36 :: 40 :: (y.1 ++ 41 :: x.1), x.2)) := by
  show pl i (scan (t.length + 2 + 1) none (36 :: 40 :: t)) = _
  rw [scan_none, if_neg (by decide), if_neg (by decide), if_pos (by simp)]
  rfl
 rcases sub_pl (m := some 1) (t := t) with ⟨h1, h2⟩ | ⟨n, a, r, h1, h2, h3, h4, h5⟩
 ·left; exact ⟨h1, by rw [hs, h2 _ (by omega)]; rfl⟩
 ·right
  refine ⟨n, h1, h3, ?_⟩
  rw [hs, h5 _ (by omega), ← h4]
  have : r.length < t.length + 2 := by rw [h4, List.length_drop]; omega
  rw [cr_of this]
  exact pl_map i (n + 3) (fun x => 36 :: 40 :: (a ++ 41 :: x)) (fun x => by simp; omega) _
theorem cq_else (i : Nat) (c : UInt8) (t : Bytes) (h1 : c ≠ 34) (h2 : c ≠ 92) (h3 : ¬ (c = 36 ∧ t.head? = some 40)) : cr none i (c :: t) = cr none (i + 1) t := by
 show pl i (scan (t.length + 1 + 1) none (c :: t)) = _
 rw [scan_none, if_neg h1, if_neg h2, if_neg h3, cr_of (Nat.lt_succ_self _)]
 exact pl_map i 1 (fun x => c :: x) (fun x => by simp) _
theorem cr_parens (t : Bytes) : (parens t = none ∧ cr (some 1) 0 t = -1) ∨ ∃ (a r : Bytes), parens t = some (a, r) ∧ cr (some 1) 0 t = a.length ∧ a.length < t.length ∧ a = t.take a.length ∧ r = t.drop (a.length + 1) := by
 rcases sub_pl (m := some 1) (t := t) with ⟨h1, h2⟩ | ⟨n, a, r, h1, h2, h3, h4, h5⟩
 ·left; exact ⟨h2 _ (by omega), h1⟩
 ·right
  have h6 := h5 (t.length + 1) (by omega)
  refine ⟨a, r, h6, by rw [h1, h2], by omega, ?_, by rw [h4, h2]⟩
  have := scan_text _ _ _ _ _ h6
  have e : t.take a.length = (a ++ closerB (some 1) :: r).take a.length := congrArg _ this
  rw [e]; simp
def tot (ps : List Prt) : Nat := (ps.map (·.t.length)).sum
theorem tot_snoc (ps : List Prt) (p : Prt) : tot (ps ++ [p]) = tot ps + p.t.length := by simp [tot]
/-- How much a word's parts hold. -/
def sz (ps : List Prt) : Nat := ps.length + tot ps
theorem sz_snoc (ps : List Prt) (p : Prt) : sz (ps ++ [p]) = sz ps + 1 + p.t.length := by unfold sz; rw [tot_snoc]; simp; omega
theorem addT_sz : ∀ (ps : List Prt) (s : Bytes) (q : Bool), sz (addT ps s q) ≤ sz ps + 1 + s.length
 | [], s, q => by simp [addT, sz, tot]
 | [p], s, q => by
  rw [addT]
  split <;> simp [sz, tot] <;> omega
 | a :: b :: i, s, q => by
  show sz (a :: addT (b :: i) s q) ≤ _
  have := addT_sz (b :: i) s q
  simp [sz, tot] at this ⊢
  omega
theorem lf_le (a : Bytes) : lf a ≤ a.length := List.count_le_length
theorem dollar_sz {ps : List Prt} {s : Bytes} {n : Nat} {q : Bool} {st : St} (h : dollar ps s n q = .ok st) : sz st.1 + st.2.1.length ≤ sz ps + s.length + 2 ∧ n ≤ st.2.2 ∧ st.2.2 + st.2.1.length ≤ n + s.length ∧ st.2.1.length ≤ s.length := by
 unfold dollar at h
 split at h
 ·rename_i h40
  cases hp : parens (s.drop 1) with
  | none => rw [hp] at h; cases h
  | some z =>
   obtain ⟨a, r⟩ := z
   rw [hp] at h
   injection h with h
   rw [← h]
   have ht := congrArg List.length (scan_text _ _ _ _ _ hp)
   simp only [List.length_drop, List.length_append, List.length_cons] at ht
   have := lf_le a
   simp only [sz_snoc]
   omega
 ·split at h
  ·cases hp : brk 125 (s.drop 1) with
   | none => rw [hp] at h; cases h
   | some z =>
    obtain ⟨a, r⟩ := z
    rw [hp] at h
    simp only at h
    split at h
    ·cases h
    ·injection h with h
     rw [← h]
     have ht := congrArg List.length (brk_text hp).1
     simp only [List.length_drop, List.length_append, List.length_cons] at ht
     simp only [sz_snoc]
     omega
  ·split at h
   ·injection h with h; rw [← h]
    have := param_le s
    simp only [sz_snoc, List.length_take, List.length_drop]
    omega
   ·injection h with h; rw [← h]
    have := addT_sz ps [36] true
    simp only [List.length_cons, List.length_nil] at this ⊢
    omega
theorem double_fuel (n0 : Nat) : ∀ (f g : Nat) (ps : List Prt) (l : Bytes) (n : Nat), l.length < f → l.length < g → double f n0 (ps, l, n) = double g n0 (ps, l, n) := by
 intro f
 induction f with
 | zero => intro g ps l n h; omega
 | succ f ih =>
  intro g ps l n h1 h2
  obtain ⟨g, rfl⟩ : ∃ g', g = g' + 1 := ⟨g - 1, by omega⟩
  cases l with
  | nil => rfl
  | cons c t =>
   simp only [List.length_cons] at h1 h2
   rw [double_cons, double_cons]
   by_cases h34 : c = 34
   ·rw [if_pos h34, if_pos h34]
   rw [if_neg h34, if_neg h34]
   by_cases h36 : c = 36
   ·rw [if_pos h36, if_pos h36]
    cases hd : dollar ps t n true with
    | bad m => rfl
    | ok x =>
     obtain ⟨ps', r, m⟩ := x
     have : r.length ≤ t.length := (dollar_sz hd).2.2.2
     exact ih g ps' r m (by omega) (by omega)
   rw [if_neg h36, if_neg h36]
   by_cases h92 : c = 92
   ·rw [if_pos h92, if_pos h92]
    cases t with
    | nil => exact ih _ _ _ _ (by omega) (by omega)
    | cons d r =>
     simp only [List.length_cons] at h1 h2
     show (if esc d then _ else _) = (if esc d then _ else _)
     split
     ·exact ih _ _ _ _ (by omega) (by omega)
     ·exact ih _ _ _ _ (by simp only [List.length_cons]; omega) (by simp only [List.length_cons]; omega)
   rw [if_neg h92, if_neg h92]
   exact ih _ _ _ _ (by omega) (by omega)
def dbl (n0 : Nat) (x : St) : R St := double (x.2.1.length + 1) n0 x
theorem dbl_of (n0 f : Nat) (ps : List Prt) (l : Bytes) (n : Nat) (h : l.length < f) : double f n0 (ps, l, n) = dbl n0 (ps, l, n) := double_fuel n0 _ _ _ _ _ h (Nat.lt_succ_self _)
theorem dbl_nil (n0 : Nat) (ps : List Prt) (n : Nat) : dbl n0 (ps, [], n) = .bad n0 := rfl
theorem dbl_end (n0 : Nat) (ps : List Prt) (t : Bytes) (n : Nat) : dbl n0 (ps, 34 :: t, n) = .ok (ps, t, n) := by
 show double (t.length + 1 + 1) n0 _ = _
 rw [double_cons, if_pos rfl]
theorem dbl_dollar (n0 : Nat) (ps : List Prt) (t : Bytes) (n : Nat) : dbl n0 (ps, 36 :: t, n) = (match dollar ps t n true with
  | .bad m => .bad m
  | .ok x => dbl n0 x) := by
 show double (t.length + 1 + 1) n0 _ = _
 rw [double_cons, if_neg (by decide), if_pos rfl]
 cases hd : dollar ps t n true with
 | bad m => rfl
 | ok x =>
  obtain ⟨ps', r, m⟩ := x
  have : r.length ≤ t.length := (dollar_sz hd).2.2.2
  exact dbl_of n0 _ _ _ _ (by omega)
theorem dbl_esc (n0 : Nat) (ps : List Prt) (d : UInt8) (r : Bytes) (n : Nat) (h : esc d = true) : dbl n0 (ps, 92 :: d :: r, n) = dbl n0 (addT ps [d] true, r, n) := by
 show double (r.length + 1 + 1 + 1) n0 _ = _
 rw [double_cons, if_neg (by decide), if_neg (by decide), if_pos rfl]
 show (if esc d then _ else _) = _
 rw [if_pos h]
 exact dbl_of n0 _ _ _ _ (by omega)
theorem dbl_one (n0 : Nat) (ps : List Prt) (c : UInt8) (t : Bytes) (n : Nat) (h1 : c ≠ 34) (h2 : c ≠ 36) (h3 : c ≠ 92 ∨ ∀ d r, t = d :: r → esc d = false) : dbl n0 (ps, c :: t, n) = dbl n0 (addT ps [c] true, t, n + lf [c]) := by
 show double (t.length + 1 + 1) n0 _ = _
 rw [double_cons, if_neg h1, if_neg h2]
 by_cases h92 : c = 92
 ·subst h92
  rw [if_pos rfl]
  cases t with
  | nil => rfl
  | cons d r =>
   have := (h3.resolve_left (by simp)) d r rfl
   show (if esc d then _ else _) = _
   rw [if_neg (by rw [this]; simp)]
   exact dbl_of n0 _ _ _ _ (by simp)
 ·rw [if_neg h92]
  exact dbl_of n0 _ _ _ _ (by omega)
/-- The bounds that hold on the way. -/
def Sz (at_ ln : Nat) (ps : List Prt) : Prop := sz ps ≤ 2 * at_ ∧ ln ≤ at_ + 1
end Go.Proofs.YtgboffbbpmileaaGreatDoor
set_option maxRecDepth 20000
set_option maxHeartbeats 4000000
set_option linter.unusedVariables false
set_option linter.unusedSimpArgs false
namespace Go.Proofs.YtgboffbbpmileaaGreatDoor
open Go Go.RowKit
/-- The cells of a part. -/
def ptc (p : Prt) : List Value := [.int .i64 p.k, bs p.t, .bool p.q]
def PtL (LP : List (Nat × Obj)) (v : Value) (ps : List Prt) : Prop :=
 (LP = [] ∧ v = .slice none 0 0 ∧ ps = []) ∨ ∃ g cap cur, LP = [(g, .cells cur 118 (0, 0))] ∧ v = .slice (some ⟨g, 0, none⟩) ps.length cap ∧ RowB 3 cur cap ps.length (ps.flatMap ptc)
theorem snoc_of {α : Type} (l : List α) : l = [] ∨ ∃ i x, l = i ++ [x] := by
 rcases l.eq_nil_or_concat with h | ⟨i, x, h⟩
 ·exact .inl h
 ·exact .inr ⟨i, x, by simpa using h⟩
theorem addT_snoc : ∀ (i : List Prt) (p : Prt) (s : Bytes) (q : Bool), addT (i ++ [p]) s q = if p.k = 0 ∧ p.q = q then i ++ [⟨0, p.t ++ s, q⟩] else i ++ [p, ⟨0, s, q⟩]
 | [], p, s, q => by simp [addT]
 | [a], p, s, q => by
  show a :: addT [p] s q = _
  rw [addT]; split <;> rfl
 | a :: b :: i, p, s, q => by
  show a :: addT (b :: (i ++ [p])) s q = _
  have := addT_snoc (b :: i) p s q
  rw [List.cons_append] at this
  rw [this]; split <;> rfl
theorem ptc_len (ps : List Prt) : (ps.flatMap ptc).length = 3 * ps.length := by
 induction ps with
 | nil => rfl
 | cons a r ih => simp [List.flatMap_cons, ih, ptc]; omega
theorem bs_list (b : ByteArray) : bs b.data.toList = .string b := by simp [bs]
theorem infoPt : (Tryz.prog.info? 118).map (fun i => (i.zero, i.size, i.bytes)) = some (some (.agg #[.int .i64 0, .string ⟨#[]⟩, .bool false]), 3, 32) := by kernel_rfl
theorem ptc_one (p : Prt) : ∀ u ∈ ptc p, u.oneCell' = true := by
 intro u hu
 simp only [ptc, bs, List.mem_cons, List.not_mem_nil, or_false] at hu
 rcases hu with rfl | rfl | rfl <;> rfl
theorem text_is (q : Nat) (v : Value) (w : World) (LP : List (Nat × Obj)) (ps : List Prt) (hL : Kn (q :: keys LP) w w ((q, .cells #[v] 135 (0, 0)) :: LP)) (hP : PtL LP v ps) (s : ByteArray) (qd : Bool) (hn : ps.length ≤ 100000) (ht : tot ps + s.size ≤ 1000000) :
    Calls Tryz.prog 113 #[.pointer (some ⟨q, 0, none⟩), .string s, .bool qd] w fun e w' => e = .returned (.tuple #[]) ∧ ∃ v' LP', PtL LP' v' (addT ps s.data.toList qd) ∧ Kn (q :: keys LP) w w' ((q, .cells #[v'] 135 (0, 0)) :: LP') := by
  obtain ⟨i0, hi, hz0, hz1, hz2⟩ := info_parts infoPt
  rcases hP with ⟨rfl, rfl, rfl⟩ | ⟨g, cap, cur, rfl, rfl, hr⟩
  · have hF := hL.fx
    go_enter Tryz.func113, Tryz.ntmps113
    go_wp2_with ((at_builtin; refine zL ?_; clear hF hL; intro W hL hF; refine wpList_append_nilX rfl _ _ 135 rfl 118 i0 _ Tryz.underlying135 hi hz0 (by rw [hz1]; rfl) (by rw [hz1]; decide) hL  rfl _ _ _ (ptc ⟨0, s.data.toList, qd⟩) rfl (by rw [hz1]; rfl) (fun j u hu => by rw [Go.WideShapes.add_plain, Nat.zero_add, World.cell?, hL.has _ List.mem_cons_self]; simpa [ptc, bs_list] using hu) (ptc_one _) (by unfold maxLen; omega) (by rw [hz2]; omega) (by omega) ?_; intro g2 cap2 cur2 W2 hL2 hg2 hr2; clear hL hF; have hL := hL2; clear hL2; have hF := hL.fx))
    refine kn_body ?_; clear hF hL; intro W hL; simp only [kfb] at hL; have hF := hL.fx
    go_end0
    rw [hz1] at hr2
    refine ⟨rfl, .slice (some ⟨g2, 0, none⟩) 1 cap2, _, .inr ⟨g2, cap2, cur2, rfl, rfl, by simpa [addT] using hr2⟩, hL.pick (by simp) ?_⟩
    have := hL.nd
    (simp at this ⊢); grind
  · rcases snoc_of ps with rfl | ⟨i, p, rfl⟩
    · have e0 : decide ((([] : List Prt).length : Int) > 0) = false := by decide
      have hF := hL.fx
      go_enter Tryz.func113, Tryz.ntmps113
      go_wp2_with ((at_builtin; refine zL ?_; clear hF hL; intro W hL hF; refine wpList_append_blkX rfl _ _ 135 rfl 118 i0 _ Tryz.underlying135 hi hz0 (by rw [hz1]; rfl) (by rw [hz1]; decide) hL 2 _ _ _ _ _ rfl (by rw [hz1]; exact hr) rfl _ _ _ (ptc ⟨0, s.data.toList, qd⟩) rfl (by rw [hz1]; rfl) (fun j u hu => by rw [Go.WideShapes.add_plain, Nat.zero_add, World.cell?, hL.has _ List.mem_cons_self]; simpa [ptc, bs_list] using hu) (ptc_one _) (by unfold maxLen; omega) (by rw [hz2]; omega) (by omega) ?_; intro g2 cap2 cur2 W2 hL2 hr2; clear hL hF; have hL := hL2; clear hL2; simp only [List.eraseIdx_cons_zero, List.eraseIdx_cons_succ] at hL; have hF := hL.fx))
      refine kn_body ?_; clear hF hL; intro W hL; simp only [kfb] at hL; have hF := hL.fx
      go_end0
      rw [hz1] at hr2
      refine ⟨rfl, .slice (some ⟨g2, 0, none⟩) 1 cap2, _, .inr ⟨g2, cap2, cur2, rfl, rfl, ?_⟩, hL.pick (by simp) ?_⟩
      · simpa [addT] using hr2
      · have := hL.nd
        (simp at this ⊢); grind
    obtain ⟨n, hn1⟩ : ∃ n, (i ++ [p]).length = n := ⟨_, rfl⟩
    have hn2 : n = i.length + 1 := by rw [← hn1]; simp
    have s1 : IntKind.i64.wrap ((n : Int) - 1) = (i.length : Int) := by rw [IntWalk.i64_in _ (by omega)]; omega
    have e0 : decide ((n : Int) > 0) = true := by simp; omega
    have s2 : (0 : Int) ≤ (i.length : Int) := by omega
    have s3 : (i.length : Int) < (n : Int) := by omega
    rw [hn1] at hL hr
    have hc : ∀ j u, (ptc p)[j]? = some u → cur[i.length * 3 + j]? = some u := fun j u hj => hr.get (by
      rw [Nat.mul_comm i.length 3, List.flatMap_append, List.getElem?_append_right (by rw [ptc_len]; omega), ptc_len]
      simpa using hj)
    have c0 : cur[i.length * 3]? = _ := hc 0 _ rfl
    have c1 := hc 1 _ rfl
    have c2 := hc 2 _ rfl
    have HN := Lib.hid hn2
    clear hn2
    by_cases hk : p.k = 0
    · have b0 : ((p.k : Int) == 0) = true := by simp [hk]
      by_cases hq : p.q = qd
      · have b2 : (p.q == qd) = true := by simp [hq]
        obtain ⟨u, hu⟩ : ∃ u : ByteArray, bs p.t = .string u := ⟨_, rfl⟩
        have hul : u.data.toList = p.t := by
          simp only [bs, Value.string.injEq] at hu
          rw [← hu]
        rw [hu] at c1
        have hus : u.size = p.t.length := by rw [← hul]; simp
        have hmax : u.size + s.size ≤ 1000000 := by rw [tot_snoc] at ht; omega
        have m1 : ¬ IntKind.i64.max < (u.size : Int) + (s.size : Int) := by have : IntKind.i64.max = 9223372036854775807 := by decide
                                                                            omega
        have m2 : ¬ IntKind.i64.max < ((u.size + s.size : Nat) : Int) := by have : IntKind.i64.max = 9223372036854775807 := by decide
                                                                            omega
        have hF := hL.fx
        go_enter Tryz.func113, Tryz.ntmps113
        go_wp2
        refine kn_body ?_; clear hF hL; intro W hL; have hF := hL.fx
        refine bodyPost_ret (by simp [results, Tryz.results113, go_sem, *]; try rfl) rfl ?_
        refine ⟨rfl, .slice (some ⟨g, 0, none⟩) n cap, _, .inr ⟨g, cap, cur.setIfInBounds (i.length * 3 + 1) (.string (u ++ s)), rfl, ?_, ?_⟩, hL.pick (by simp) ?_⟩
        · rw [addT_snoc, if_pos ⟨hk, hq⟩]; simp at hn1 ⊢; omega
        · rw [addT_snoc, if_pos ⟨hk, hq⟩]
          have h1 := hr.set (i.length * 3 + 1) (.string (u ++ s))
          have h2 : (i ++ [(⟨0, p.t ++ s.data.toList, qd⟩ : Prt)]).length = n := by rw [← hn1]; simp
          rw [h2]
          have h3 : ((i ++ [p]).flatMap ptc).set (i.length * 3 + 1) (.string (u ++ s)) = (i ++ [(⟨0, p.t ++ s.data.toList, qd⟩ : Prt)]).flatMap ptc := by
            rw [List.flatMap_append, List.flatMap_append, List.set_append_right _ _ (by rw [ptc_len]; omega), ptc_len]
            have : i.length * 3 + 1 - 3 * i.length = 1 := by omega
            rw [this]
            have h4 : Value.string (u ++ s) = bs (p.t ++ s.data.toList) := by
              rw [← hul]; unfold bs; congr 1
            rw [h4]
            simp [ptc, hk, hq]
          rw [← h3]; exact h1
        · have := hL.nd
          (simp at this ⊢); grind
      · have b2 : (p.q == qd) = false := by simp [hq]
        have hadd : ¬ (p.k = 0 ∧ p.q = qd) := fun h => hq h.2
        have hF := hL.fx
        go_enter Tryz.func113, Tryz.ntmps113
        go_wp2_with ((at_builtin; refine zL ?_; clear hF hL; intro W hL hF; refine wpList_append_blkX rfl _ _ 135 rfl 118 i0 _ Tryz.underlying135 hi hz0 (by rw [hz1]; rfl) (by rw [hz1]; decide) hL 2 _ _ _ _ _ rfl (by rw [hz1]; exact hr) rfl _ _ _ (ptc ⟨0, s.data.toList, qd⟩) rfl (by rw [hz1]; rfl) (fun j u hu => by rw [Go.WideShapes.add_plain, Nat.zero_add, World.cell?, hL.has _ List.mem_cons_self]; simpa [ptc, bs_list] using hu) (ptc_one _) (by unfold maxLen; omega) (by rw [hz2]; omega) (by omega) ?_; intro g2 cap2 cur2 W2 hL2 hr2; clear hL hF; have hL := hL2; clear hL2; simp only [List.eraseIdx_cons_zero, List.eraseIdx_cons_succ] at hL; have hF := hL.fx))
        refine kn_body ?_; clear hF hL; intro W hL; simp only [kfb] at hL; have hF := hL.fx
        go_end0
        rw [hz1] at hr2
        refine ⟨rfl, .slice (some ⟨g2, 0, none⟩) (n + 1) cap2, _, .inr ⟨g2, cap2, cur2, rfl, (by rw [addT_snoc, if_neg hadd]; simp at hn1 ⊢; omega), ?_⟩, hL.pick (by simp) ?_⟩
        · rw [addT_snoc, if_neg hadd]
          have : (i ++ [p, ⟨0, s.data.toList, qd⟩]).length = n + 1 := by simp at hn1 ⊢; omega
          rw [this]
          simpa using hr2
        · have := hL.nd
          (simp at this ⊢); grind
    · have b0 : ((p.k : Int) == 0) = false := by simp; omega
      have hadd : ¬ (p.k = 0 ∧ p.q = qd) := fun h => hk h.1
      have hF := hL.fx
      go_enter Tryz.func113, Tryz.ntmps113
      go_wp2_with ((at_builtin; refine zL ?_; clear hF hL; intro W hL hF; refine wpList_append_blkX rfl _ _ 135 rfl 118 i0 _ Tryz.underlying135 hi hz0 (by rw [hz1]; rfl) (by rw [hz1]; decide) hL 2 _ _ _ _ _ rfl (by rw [hz1]; exact hr) rfl _ _ _ (ptc ⟨0, s.data.toList, qd⟩) rfl (by rw [hz1]; rfl) (fun j u hu => by rw [Go.WideShapes.add_plain, Nat.zero_add, World.cell?, hL.has _ List.mem_cons_self]; simpa [ptc, bs_list] using hu) (ptc_one _) (by unfold maxLen; omega) (by rw [hz2]; omega) (by omega) ?_; intro g2 cap2 cur2 W2 hL2 hr2; clear hL hF; have hL := hL2; clear hL2; simp only [List.eraseIdx_cons_zero, List.eraseIdx_cons_succ] at hL; have hF := hL.fx))
      refine kn_body ?_; clear hF hL; intro W hL; simp only [kfb] at hL; have hF := hL.fx
      go_end0
      rw [hz1] at hr2
      refine ⟨rfl, .slice (some ⟨g2, 0, none⟩) (n + 1) cap2, _, .inr ⟨g2, cap2, cur2, rfl, (by rw [addT_snoc, if_neg hadd]; simp at hn1 ⊢; omega), ?_⟩, hL.pick (by simp) ?_⟩
      · rw [addT_snoc, if_neg hadd]
        have : (i ++ [p, ⟨0, s.data.toList, qd⟩]).length = n + 1 := by simp at hn1 ⊢; omega
        rw [this]
        simpa using hr2
      · have := hL.nd
        (simp at this ⊢); grind
end Go.Proofs.YtgboffbbpmileaaGreatDoor
