/- Lemmas and walks for the law of this seat (part 12). -/
import Derived.Test.YtgboffbbpmileaaGreatDoorPj11
import Derived.Test.YtgboffbbpmileaaGreatDoorProg
import Derived.WalkKit
import Derived.Handy
import Derived.Deep.Light
import Derived.WalkSmall
import Derived.StillTailTactics
import Derived.Lib.Hide
/- The parser as plain functions on tokens; what it leaves. Of no program. -/
set_option linter.unusedVariables false
set_option linter.unusedSimpArgs false
namespace Go.Proofs.YtgboffbbpmileaaGreatDoor
open Go
/-- A node of the tree: kind, name, negated, assignments, words, redirections (descriptor, kind, word), kids. -/
inductive Nd where
 | mk (kind : Nat) (name : Bytes) (neg : Bool) (asg : List (Bytes × List Prt)) (ws : List (List Prt)) (rs : List (Int × Nat × List Prt)) (kids : List Nd)
def Nd.kind : Nd → Nat | .mk k _ _ _ _ _ _ => k
def Nd.name : Nd → Bytes | .mk _ n _ _ _ _ _ => n
def Nd.neg : Nd → Bool | .mk _ _ g _ _ _ _ => g
def Nd.asg : Nd → List (Bytes × List Prt) | .mk _ _ _ a _ _ _ => a
def Nd.ws : Nd → List (List Prt) | .mk _ _ _ _ w _ _ => w
def Nd.rs : Nd → List (Int × Nat × List Prt) | .mk _ _ _ _ _ r _ => r
def Nd.kids : Nd → List Nd | .mk _ _ _ _ _ _ l => l
def Nd.setRs : Nd → List (Int × Nat × List Prt) → Nd | .mk k n g a w _ l, r => .mk k n g a w r l
def Nd.addKid : Nd → Nd → Nd | .mk k n g a w r l, x => .mk k n g a w r (l ++ [x])
/-- What is parsed, and the tokens that are left; or an error (1 syntax, 2 too much), and how many tokens were left there. -/
inductive PR (α : Type) where
 | ok (a : α) (r : List Tok)
 | bad (e : Nat) (m : Nat)
def PR.bind {α β : Type} : PR α → (α → List Tok → PR β) → PR β
 | .ok a r, f => f a r
 | .bad e m, _ => .bad e m
abbrev Pa (α : Type) := List Tok → PR α
def syn {α : Type} (ts : List Tok) : PR α := .bad 1 ts.length
def full {α : Type} (ts : List Tok) : PR α := .bad 2 ts.length
def isOp (s : Bytes) : List Tok → Bool
 | t :: _ => t.kind == 1 && t.text == s
 | [] => false
def isKw (l : List Bytes) : List Tok → Bool
 | t :: _ => t.kind == 0 && (t.plain != [] && l.contains t.plain)
 | [] => false
def isK (k : Nat) : List Tok → Bool
 | t :: _ => t.kind == k
 | [] => false
def kThen : Bytes := [116, 104, 101, 110]
def kElif : Bytes := [101, 108, 105, 102]
def kElse : Bytes := [101, 108, 115, 101]
def kFi : Bytes := [102, 105]
def kDo : Bytes := [100, 111]
def kDone : Bytes := [100, 111, 110, 101]
def kEsac : Bytes := [101, 115, 97, 99]
def kIn : Bytes := [105, 110]
def kIf : Bytes := [105, 102]
def kWhile : Bytes := [119, 104, 105, 108, 101]
def kUntil : Bytes := [117, 110, 116, 105, 108]
def kFor : Bytes := [102, 111, 114]
def kCase : Bytes := [99, 97, 115, 101]
def enders : List Bytes := [kThen, kElif, kElse, kFi, kDo, kDone, kEsac, [125]]
def closers : List Bytes := [kThen, kElif, kElse, kFi, kDo, kDone, kEsac, [125], kIn, [33]]
def want (s : Bytes) (ts : List Tok) : PR Unit := if isOp s ts || isKw [s] ts then .ok () ts.tail else syn ts
def wordP : Pa (List Prt)
 | t :: r => if t.kind = 0 then .ok t.parts r else syn (t :: r)
 | [] => syn []
def lines (ts : List Tok) : List Tok := ts.dropWhile (·.kind == 3)
def isEnds : List Tok → Bool
 | [] => true
 | t :: r => isOp [41] (t :: r) || isOp [59, 59] (t :: r) || isKw enders (t :: r)
def itemL (pi : Pa Nd) : Nat → Nd → Pa Nd
 | 0, n, ts => .ok n ts
 | f + 1, n, ts => if isOp [38, 38] ts || isOp [124, 124] ts then
   (pi (lines ts.tail)).bind fun x r => itemL pi f (.mk (if isOp [124, 124] ts then 3 else 2) [] false [] [] [] [n, x]) r
  else .ok n ts
def item (pi : Pa Nd) (ts : List Tok) : PR Nd := (pi ts).bind fun n r => itemL pi r.length n r
def pipeL (cmd : Pa Nd) : Nat → List Nd → Pa (List Nd)
 | 0, l, ts => .ok l ts
 | f + 1, l, ts => if isOp [124] ts then (cmd (lines ts.tail)).bind fun x r => pipeL cmd f (l ++ [x]) r else .ok l ts
def pipe (cmd : Pa Nd) (ts : List Tok) : PR Nd :=
 (cmd (if isKw [[33]] ts then ts.tail else ts)).bind fun x r => (pipeL cmd r.length [x] r).bind fun l r => .ok (.mk 1 [] (isKw [[33]] ts) [] [] [] l) r
def sep (ts : List Tok) : Bool := isOp [38] ts || isOp [59] ts || isK 3 ts
def back (ts : List Tok) (x : Nd) : Nd := if isOp [38] ts then .mk 5 [] false [] [] [] [x] else x
def listL (it : Pa Nd) : Nat → List Nd → Pa (List Nd)
 | 0, l, ts => .ok l ts
 | f + 1, l, ts => if isEnds (lines ts) then .ok l (lines ts) else
  (it (lines ts)).bind fun x r => if sep r then listL it f (l ++ [back r x]) r.tail else .ok (l ++ [back r x]) r
/-- The items of a list. -/
def listK (cmd : Pa Nd) (ts : List Tok) : PR (List Nd) := listL (item (pipe cmd)) (ts.length + 1) [] ts
def list (cmd : Pa Nd) (ts : List Tok) : PR Nd := (listK cmd ts).bind fun l r => .ok (.mk 4 [] false [] [] [] l) r
def some_ (cmd : Pa Nd) (ts : List Tok) : PR Nd := (list cmd ts).bind fun n r => if n.kids.isEmpty then syn r else .ok n r
def rxKind (s : Bytes) : Nat := if s = [60] then 0 else if s = [62] then 1 else if s = [62, 62] then 2 else 3
def mkRedir (t : Tok) (w : List Prt) : Int × Nat × List Prt := (if t.fd < 0 then (min 1 (rxKind t.text) : Nat) else t.fd, rxKind t.text, w)
def redir : Pa (Int × Nat × List Prt)
 | t :: r => (wordP r).bind fun w r => .ok (mkRedir t w) r
 | [] => syn []
def redirsL : Nat → List (Int × Nat × List Prt) → Pa (List (Int × Nat × List Prt))
 | 0, l, ts => .ok l ts
 | f + 1, l, ts => if isK 2 ts then (redir ts).bind fun x r => redirsL f (l ++ [x]) r else .ok l ts
def isName : Bytes → Bool
 | [] => false
 | c :: t => alpha c && t.all fun c => alpha c || digit c
def cutEq : Bytes → Option (Bytes × Bytes)
 | [] => none
 | c :: t => if c = 61 then some ([], t) else (cutEq t).map fun x => (c :: x.1, x.2)
def assignment : List Prt → Option (Bytes × List Prt)
 | [] => none
 | p :: ps => if p.k = 0 ∧ p.q = false then (match cutEq p.t with
   | some (n, v) => if isName n then some (n, if v.isEmpty then ps else ⟨0, v, false⟩ :: ps) else none
   | none => none) else none
/-- The state of a simple command: assignments, words, redirections. -/
structure Sim where
 a : List (Bytes × List Prt)
 w : List (List Prt)
 r : List (Int × Nat × List Prt)
def Sim.word (x : Sim) (p : List Prt) : Sim := match assignment p with
 | some y => if x.w.isEmpty then ⟨x.a ++ [y], x.w, x.r⟩ else ⟨x.a, x.w ++ [p], x.r⟩
 | none => ⟨x.a, x.w ++ [p], x.r⟩
def Sim.nd (x : Sim) : Nd := .mk 0 [] false x.a x.w x.r []
def simpleL : Nat → Sim → Pa Nd
 | 0, x, ts => .ok x.nd ts
 | f + 1, x, ts => match ts with
  | [] => .ok x.nd []
  | t :: r => if t.kind = 2 then (redir (t :: r)).bind fun y r => simpleL f ⟨x.a, x.w, x.r ++ [y]⟩ r
   else if t.kind = 0 then simpleL f (x.word t.parts) r
   else .ok x.nd (t :: r)
def simple (ts : List Tok) : PR Nd := if isK 0 ts || isK 2 ts then simpleL ts.length ⟨[], [], []⟩ ts else syn ts
/-- The compound commands. -/
inductive Blk where
 | sub | grp | iff | whl | unt | for_ | case_
 deriving DecidableEq
def blkWord (s : Bytes) : Option Blk :=
 if s = [123] then some .grp else if s = kIf then some .iff else if s = kWhile then some .whl else if s = kUntil then some .unt
 else if s = kFor then some .for_ else if s = kCase then some .case_ else none
def blockOf (ts : List Tok) : Option Blk := if isOp [40] ts then some .sub else match ts with
 | t :: _ => if t.kind = 0 then blkWord t.plain else none
 | [] => none
def between (so : Pa Nd) (kind : Nat) (first : Bytes) (second : Option Bytes) (ts : List Tok) : PR Nd :=
 (so ts).bind fun a r => (want first r).bind fun _ r => (so r).bind fun b r => match second with
  | some s => (want s r).bind fun _ r => .ok (.mk kind [] false [] [] [] [a, b]) r
  | none => .ok (.mk kind [] false [] [] [] [a, b]) r
def closed (so : Pa Nd) (kind : Nat) (close : Bytes) (ts : List Tok) : PR Nd := (so ts).bind fun a r => (want close r).bind fun _ r => .ok (.mk kind [] false [] [] [] [a]) r
def forWords : List Tok → List (List Prt) × List Tok
 | t :: r => if t.kind = 0 then ((t.parts :: (forWords r).1), (forWords r).2) else ([], t :: r)
 | [] => ([], [])
def forTail (so : Pa Nd) (name : Bytes) (ws : List (List Prt)) (ts : List Tok) : PR Nd :=
 (want kDo (lines ts)).bind fun _ r => (so r).bind fun b r => (want kDone r).bind fun _ r => .ok (.mk 11 name false [] ws [] [b]) r
def allW : List (List Prt) := [[⟨1, [64], true⟩]]
def forIn (so : Pa Nd) (name : Bytes) (ts : List Tok) : PR Nd :=
 if isOp [59] (forWords ts).2 || isK 3 (forWords ts).2 then forTail so name (forWords ts).1 (forWords ts).2.tail else syn (forWords ts).2
def loopP (so : Pa Nd) : Pa Nd
 | t :: r => if t.kind = 0 ∧ isName t.plain = true then
   (if isKw [kIn] (lines r) then forIn so t.plain (lines r).tail
   else forTail so t.plain allW (if isOp [59] (lines r) && !isK 3 r then (lines r).tail else lines r))
  else syn (t :: r)
 | [] => syn []
def armW : Nat → List (List Prt) → Pa (List (List Prt))
 | 0, l, ts => .ok l ts
 | f + 1, l, ts => if isOp [124] ts then (wordP ts.tail).bind fun w r => armW f (l ++ [w]) r else .ok l ts
def arm (li : Pa Nd) (ts : List Tok) : PR Nd :=
 (wordP (if isOp [40] ts then ts.tail else ts)).bind fun w r => (armW r.length [w] r).bind fun ws r => (want [41] r).bind fun _ r =>
  (li r).bind fun n r => (want [59, 59] r).bind fun _ r => .ok (.mk 13 [] false [] ws [] [n]) r
def armsL (ar : Pa Nd) : Nat → List Nd → Pa (List Nd)
 | 0, l, ts => .ok l ts
 | f + 1, l, ts => if isKw [kEsac] (lines ts) then .ok l (lines ts) else (ar (lines ts)).bind fun x r => armsL ar f (l ++ [x]) r
def choice (li : Pa Nd) (ts : List Tok) : PR Nd :=
 (wordP ts).bind fun w r => (want kIn (lines r)).bind fun _ r => (armsL (arm li) (r.length + 1) [] r).bind fun l r => (want kEsac r).bind fun _ r => .ok (.mk 12 [] false [] [w] [] l) r
/-- What follows the first token of a compound command. -/
def body (li so conds : Pa Nd) : Blk → Pa Nd
 | .sub => closed so 6 [41]
 | .grp => closed so 7 [125]
 | .iff => conds
 | .whl => between so 9 kDo (some kDone)
 | .unt => between so 10 kDo (some kDone)
 | .for_ => loopP so
 | .case_ => choice li
def condF (so : Pa Nd) (inner : Option (Pa Nd)) (ts : List Tok) : PR Nd :=
 (between so 8 kThen none ts).bind fun n r =>
  if isKw [kElse] r then (so r.tail).bind fun c r => .ok (n.addKid c) r
  else if isKw [kElif] r then (match inner with
   | none => full r
   | some c => (c r.tail).bind fun x r => .ok (n.addKid x) r)
  else .ok n r
def compF (bo : Blk → Pa Nd) (bk : Blk) (ts : List Tok) : PR Nd :=
 (bo bk ts.tail).bind fun n r => (if n.kind = 8 then want kFi r else .ok () r).bind fun _ r => (redirsL r.length n.rs r).bind fun l r => .ok (n.setRs l) r
def isFn : List Tok → Bool
 | t :: r => t.kind == 0 && isName t.plain && isOp [40] r
 | [] => false
def funF (comp : Blk → Pa Nd) : Pa Nd
 | t :: r => if isOp [41] r.tail then (match blockOf (lines r.tail.tail) with
   | none => syn (lines r.tail.tail)
   | some bk => (comp bk (lines r.tail.tail)).bind fun x r => .ok (.mk 14 t.plain false [] [] [] [x]) r) else syn r.tail
 | [] => syn []
def cmdF (comp : Blk → Pa Nd) (inner : Option (Blk → Pa Nd)) (ts : List Tok) : PR Nd := match blockOf ts with
 | some bk => comp bk ts
 | none => if isKw closers ts then syn ts else if isFn ts then (match inner with
   | none => full ts
   | some c => funF c ts) else simple ts
/-- The parsers of commands, of what follows an if, and of compound commands, where k more levels may be entered. -/
structure Lev where
 cmd : Pa Nd
 conds : Pa Nd
 comp : Blk → Pa Nd
def lev : Nat → Lev
 | 0 => ⟨cmdF (fun _ ts => full ts) none, condF (some_ (cmdF (fun _ ts => full ts) none)) none, fun _ ts => full ts⟩
 | k + 1 =>
  let comp := compF (body (list (lev k).cmd) (some_ (lev k).cmd) (lev k).conds)
  ⟨cmdF comp (some (lev k).comp), condF (some_ (cmdF comp (some (lev k).comp))) (some (lev k).conds), comp⟩
def parseK (k : Nat) (ts : List Tok) : PR (List Nd) := (listK (lev k).cmd ts).bind fun l r => if r.isEmpty then .ok l [] else syn r
/-- What is left is an end of the tokens, shorter by d at least. -/
def Wi {α : Type} (p : PR α) (ts : List Tok) (d : Nat) : Prop := match p with
 | .ok _ r => r <:+ ts ∧ r.length + d ≤ ts.length
 | .bad _ m => m ≤ ts.length
theorem Wi.ok {α : Type} {a : α} {r ts : List Tok} {d : Nat} (h1 : r <:+ ts) (h2 : r.length + d ≤ ts.length) : Wi (.ok a r) ts d := ⟨h1, h2⟩
theorem Wi.bind {α β : Type} {p : PR α} {f : α → List Tok → PR β} {ts : List Tok} {d1 d2 : Nat} (h : Wi p ts d1) (hf : ∀ a r, p = .ok a r → Wi (f a r) r d2) : Wi (p.bind f) ts (d1 + d2) := by
 cases p with
 | bad e m => exact h
 | ok a r =>
  have h2 := hf a r rfl
  show Wi (f a r) ts (d1 + d2)
  obtain ⟨h3, h4⟩ := h
  cases hfa : f a r with
  | bad e m => rw [hfa] at h2; have h2 : m ≤ r.length := h2; show m ≤ ts.length; omega
  | ok b r2 =>
   rw [hfa] at h2
   exact ⟨h2.1.trans h3, by have := h2.2; omega⟩
theorem Wi.le {α : Type} {p : PR α} {ts : List Tok} {d d' : Nat} (h : Wi p ts d) (hd : d' ≤ d) : Wi p ts d' := by
 cases p with
 | bad e m => exact h
 | ok a r => exact ⟨h.1, by have := h.2; omega⟩
theorem Wi.up {α : Type} {p : PR α} {ts us : List Tok} {d k : Nat} (h : Wi p ts d) (hs : ts <:+ us) (hk : ts.length + k ≤ us.length) : Wi p us (d + k) := by
 cases p with
 | bad e m => have h : m ≤ ts.length := h; show m ≤ us.length; omega
 | ok a r => exact ⟨h.1.trans hs, by have := h.2; omega⟩
theorem Wi.up0 {α : Type} {p : PR α} {ts us : List Tok} {d : Nat} (h : Wi p ts d) (hs : ts <:+ us) : Wi p us d := h.up (k := 0) hs hs.length_le
theorem wi_syn {α : Type} {ts us : List Tok} {d : Nat} (h : ts.length ≤ us.length) : Wi (syn ts : PR α) us d := h
theorem wi_full {α : Type} {ts us : List Tok} {d : Nat} (h : ts.length ≤ us.length) : Wi (full ts : PR α) us d := h
theorem lines_suf (ts : List Tok) : lines ts <:+ ts := List.dropWhile_suffix _
theorem lines_len (ts : List Tok) : (lines ts).length ≤ ts.length := (lines_suf ts).length_le
theorem tail_suf (ts : List Tok) : ts.tail <:+ ts := List.tail_suffix ts
theorem op_ne {s : Bytes} {ts : List Tok} (h : isOp s ts = true) : ts ≠ [] := by rintro rfl; cases h
theorem kw_ne {l : List Bytes} {ts : List Tok} (h : isKw l ts = true) : ts ≠ [] := by rintro rfl; cases h
theorem k_ne {k : Nat} {ts : List Tok} (h : isK k ts = true) : ts ≠ [] := by rintro rfl; cases h
theorem tail_lt {ts : List Tok} (h : ts ≠ []) : ts.tail.length + 1 = ts.length := by
 cases ts with
 | nil => exact absurd rfl h
 | cons t r => rfl
theorem wi_want (s : Bytes) (ts : List Tok) : Wi (want s ts) ts 1 := by
 unfold want
 split
 ·rename_i h
  have : ts ≠ [] := by
   rcases Bool.or_eq_true _ _ ▸ h with h | h
   ·exact op_ne h
   ·exact kw_ne h
  exact .ok (tail_suf ts) (by rw [tail_lt this]; exact Nat.le_refl _)
 ·exact wi_syn (Nat.le_refl _)
theorem wi_word (ts : List Tok) : Wi (wordP ts) ts 1 := by
 cases ts with
 | nil => exact wi_syn (Nat.le_refl _)
 | cons t r =>
  simp only [wordP]
  split
  ·exact .ok (List.suffix_cons _ _) (Nat.le_refl _)
  ·exact wi_syn (Nat.le_refl _)
theorem wi_redir (ts : List Tok) : Wi (redir ts) ts 2 := by
 cases ts with
 | nil => exact wi_syn (Nat.le_refl _)
 | cons t r =>
  unfold redir
  have := (Wi.bind (d2 := 0) (wi_word r) (f := fun w r => .ok (mkRedir t w) r) fun w r _ => .ok (List.suffix_refl _) (Nat.le_refl _)).up (k := 1) (List.suffix_cons t r) (Nat.le_refl _)
  exact this
theorem wi_redirsL : ∀ (f : Nat) (l : List (Int × Nat × List Prt)) (ts : List Tok), Wi (redirsL f l ts) ts 0
 | 0, l, ts => .ok (List.suffix_refl _) (Nat.le_refl _)
 | f + 1, l, ts => by
  unfold redirsL
  split
  ·exact (Wi.bind (d2 := 0) (wi_redir ts) fun x r _ => wi_redirsL f (l ++ [x]) r).le (by omega)
  ·exact .ok (List.suffix_refl _) (Nat.le_refl _)
/-- .. of a parser. -/
def Wp {α : Type} (P : Pa α) (d : Nat) : Prop := ∀ ts, Wi (P ts) ts d
section
variable {cmd it pi li so ar : Pa Nd} {d : Nat}
theorem wi_itemL (h : Wp pi 0) : ∀ (f : Nat) (n : Nd) (ts : List Tok), Wi (itemL pi f n ts) ts 0
 | 0, n, ts => .ok (List.suffix_refl _) (Nat.le_refl _)
 | f + 1, n, ts => by
  unfold itemL
  split
  ·exact (Wi.bind (d2 := 0) ((h _).up0 ((lines_suf _).trans (tail_suf ts))) fun x r _ => wi_itemL h f _ r).le (by omega)
  ·exact .ok (List.suffix_refl _) (Nat.le_refl _)
theorem wi_item (h : Wp pi d) : Wp (item pi) d := fun ts =>
 Wi.bind (d2 := 0) (h ts) fun n r _ => wi_itemL (fun ts => (h ts).le (Nat.zero_le _)) _ n r
theorem wi_pipeL (h : Wp cmd 0) : ∀ (f : Nat) (l : List Nd) (ts : List Tok), Wi (pipeL cmd f l ts) ts 0
 | 0, l, ts => .ok (List.suffix_refl _) (Nat.le_refl _)
 | f + 1, l, ts => by
  unfold pipeL
  split
  ·exact (Wi.bind (d2 := 0) ((h _).up0 ((lines_suf _).trans (tail_suf ts))) fun x r _ => wi_pipeL h f _ r).le (by omega)
  ·exact .ok (List.suffix_refl _) (Nat.le_refl _)
theorem wi_pipe (h : Wp cmd d) : Wp (pipe cmd) d := fun ts => by
 have h0 : Wp cmd 0 := fun ts => (h ts).le (Nat.zero_le _)
 refine Wi.bind (d2 := 0) (d1 := d) ?_ fun x r _ => Wi.bind (d1 := 0) (d2 := 0) (wi_pipeL h0 _ _ r) fun l r _ => .ok (List.suffix_refl _) (Nat.le_refl _)
 split
 ·exact (h _).up0 (tail_suf ts)
 ·exact h ts
theorem sep_ne {ts : List Tok} (h : sep ts = true) : ts ≠ [] := by rintro rfl; cases h
theorem wi_listL (h : Wp it 1) : ∀ (f : Nat) (l : List Nd) (ts : List Tok), Wi (listL it f l ts) ts 0
 | 0, l, ts => .ok (List.suffix_refl _) (Nat.le_refl _)
 | f + 1, l, ts => by
  unfold listL
  split
  ·exact .ok (lines_suf ts) (lines_len ts)
  ·refine (Wi.bind (d1 := 1) (d2 := 0) ((h _).up0 (lines_suf ts)) fun x r _ => ?_).le (Nat.zero_le _)
   split
   ·exact ((wi_listL h f _ r.tail).up0 (tail_suf r))
   ·exact .ok (List.suffix_refl _) (Nat.le_refl _)
theorem wi_listK (h : Wp cmd 1) : Wp (listK cmd) 0 := fun ts => wi_listL (wi_item (wi_pipe h)) _ _ _
theorem wi_list (h : Wp cmd 1) : Wp (list cmd) 0 := fun ts => Wi.bind (d1 := 0) (d2 := 0) (wi_listK h ts) fun l r _ => .ok (List.suffix_refl _) (Nat.le_refl _)
theorem wi_some (h : Wp cmd 1) : Wp (some_ cmd) 0 := fun ts => Wi.bind (d1 := 0) (d2 := 0) (wi_list h ts) fun n r _ => by
 split
 ·exact wi_syn (Nat.le_refl _)
 ·exact .ok (List.suffix_refl _) (Nat.le_refl _)
theorem wi_simpleL : ∀ (f : Nat) (x : Sim) (ts : List Tok), Wi (simpleL f x ts) ts 0
 | 0, x, ts => .ok (List.suffix_refl _) (Nat.le_refl _)
 | f + 1, x, [] => .ok (List.suffix_refl _) (Nat.le_refl _)
 | f + 1, x, t :: r => by
  unfold simpleL
  simp only
  split
  ·exact (Wi.bind (d2 := 0) (wi_redir (t :: r)) fun y r _ => wi_simpleL f _ r).le (by omega)
  ·split
   ·exact (wi_simpleL f _ r).up0 (List.suffix_cons t r)
   ·exact .ok (List.suffix_refl _) (Nat.le_refl _)
theorem wi_simple : Wp simple 1 := fun ts => by
 unfold simple
 split
 ·rename_i h
  cases ts with
  | nil => cases h
  | cons t r =>
   show Wi (simpleL (r.length + 1) _ (t :: r)) _ _
   unfold simpleL
   simp only
   split
   ·exact (Wi.bind (d2 := 0) (wi_redir (t :: r)) fun y r _ => wi_simpleL _ _ r).le (by omega)
   ·split
    ·exact (wi_simpleL _ _ r).up (k := 1) (List.suffix_cons t r) (Nat.le_refl _)
    ·rename_i h2 h3
     exfalso
     simp only [isK, Bool.or_eq_true, beq_iff_eq] at h
     rcases h with h | h
     ·exact h3 h
     ·exact h2 h
 ·exact wi_syn (Nat.le_refl _)
theorem wi_between (h : Wp so 0) (k : Nat) (f : Bytes) (s : Option Bytes) : Wp (between so k f s) 0 := fun ts =>
 (Wi.bind (d1 := 0) (d2 := 1 + (0 + 0)) (h ts) fun a r _ => Wi.bind (wi_want f r) fun _ r _ => Wi.bind (d1 := 0) (d2 := 0) (h r) fun b r _ => by
  cases s with
  | none => exact .ok (List.suffix_refl _) (Nat.le_refl _)
  | some s => exact (Wi.bind (d2 := 0) (wi_want s r) fun _ r _ => .ok (List.suffix_refl _) (Nat.le_refl _)).le (by omega)).le (by omega)
theorem wi_closed (h : Wp so 0) (k : Nat) (c : Bytes) : Wp (closed so k c) 0 := fun ts =>
 (Wi.bind (d1 := 0) (d2 := 1) (h ts) fun a r _ => Wi.bind (d2 := 0) (wi_want c r) fun _ r _ => .ok (List.suffix_refl _) (Nat.le_refl _)).le (by omega)
theorem forWords_suf : ∀ ts : List Tok, (forWords ts).2 <:+ ts
 | [] => List.suffix_refl _
 | t :: r => by
  unfold forWords
  split
  ·exact (forWords_suf r).trans (List.suffix_cons t r)
  ·exact List.suffix_refl _
theorem wi_forTail (h : Wp so 0) (n : Bytes) (ws : List (List Prt)) : Wp (forTail so n ws) 0 := fun ts =>
 (Wi.bind (d1 := 1) (d2 := 0 + 1) ((wi_want kDo (lines ts)).up0 (lines_suf ts)) fun _ r _ => Wi.bind (h r) fun b r _ => Wi.bind (d2 := 0) (wi_want kDone r) fun _ r _ => .ok (List.suffix_refl _) (Nat.le_refl _)).le (by omega)
theorem wi_loop (h : Wp so 0) : Wp (loopP so) 0 := fun ts => by
 cases ts with
 | nil => exact wi_syn (Nat.le_refl _)
 | cons t r =>
  simp only [loopP]
  have hr : r <:+ t :: r := List.suffix_cons t r
  split
  ·split
   ·have h1 : (lines r).tail <:+ t :: r := ((tail_suf _).trans (lines_suf r)).trans hr
    have h2 := (forWords_suf (lines r).tail).trans h1
    unfold forIn
    split
    ·exact (wi_forTail h _ _ _).up0 ((tail_suf _).trans h2)
    ·exact wi_syn h2.length_le
   ·refine (wi_forTail h _ _ _).up0 ?_
    split
    ·exact ((tail_suf _).trans (lines_suf r)).trans hr
    ·exact (lines_suf r).trans hr
  ·exact wi_syn (Nat.le_refl _)
theorem wi_armW : ∀ (f : Nat) (l : List (List Prt)) (ts : List Tok), Wi (armW f l ts) ts 0
 | 0, l, ts => .ok (List.suffix_refl _) (Nat.le_refl _)
 | f + 1, l, ts => by
  unfold armW
  split
  ·exact (Wi.bind (d2 := 0) ((wi_word ts.tail).up0 (tail_suf ts)) fun w r _ => wi_armW f _ r).le (by omega)
  ·exact .ok (List.suffix_refl _) (Nat.le_refl _)
theorem wi_arm (h : Wp li 0) : Wp (arm li) 1 := fun ts => by
 unfold arm
 refine (Wi.bind (d1 := 1) (d2 := 0 + (1 + (0 + 1))) ?_ fun w r _ => Wi.bind (d1 := 0) (wi_armW _ _ r) fun ws r _ => Wi.bind (wi_want _ r) fun _ r _ => Wi.bind (h r) fun n r _ => Wi.bind (d2 := 0) (wi_want _ r) fun _ r _ => .ok (List.suffix_refl _) (Nat.le_refl _)).le (by omega)
 split
 ·exact (wi_word _).up0 (tail_suf ts)
 ·exact wi_word ts
theorem wi_armsL (h : Wp ar 1) : ∀ (f : Nat) (l : List Nd) (ts : List Tok), Wi (armsL ar f l ts) ts 0
 | 0, l, ts => .ok (List.suffix_refl _) (Nat.le_refl _)
 | f + 1, l, ts => by
  unfold armsL
  split
  ·exact .ok (lines_suf ts) (lines_len ts)
  ·exact (Wi.bind (d1 := 1) (d2 := 0) ((h _).up0 (lines_suf ts)) fun x r _ => wi_armsL h f _ r).le (Nat.zero_le _)
theorem wi_choice (h : Wp li 0) : Wp (choice li) 0 := fun ts =>
 (Wi.bind (d1 := 1) (d2 := 1 + (0 + 1)) (wi_word ts) fun w r _ => Wi.bind ((wi_want kIn (lines r)).up0 (lines_suf r)) fun _ r _ => Wi.bind (wi_armsL (wi_arm h) _ _ r) fun l r _ => Wi.bind (d2 := 0) (wi_want kEsac r) fun _ r _ => .ok (List.suffix_refl _) (Nat.le_refl _)).le (by omega)
theorem wi_body {conds : Pa Nd} (h1 : Wp li 0) (h2 : Wp so 0) (h3 : Wp conds 0) : ∀ b, Wp (body li so conds b) 0
 | .sub => wi_closed h2 _ _
 | .grp => wi_closed h2 _ _
 | .iff => h3
 | .whl => show Wp (between so 9 kDo (some kDone)) 0 from wi_between h2 _ _ _
 | .unt => show Wp (between so 10 kDo (some kDone)) 0 from wi_between h2 _ _ _
 | .for_ => wi_loop h2
 | .case_ => wi_choice h1
theorem wi_condF {inner : Option (Pa Nd)} (h : Wp so 0) (hi : ∀ c, inner = some c → Wp c 0) : Wp (condF so inner) 0 := fun ts => by
 unfold condF
 refine Wi.bind (d1 := 0) (d2 := 0) (wi_between h 8 kThen none ts) fun n r _ => ?_
 split
 ·exact (Wi.bind (d1 := 0) (d2 := 0) ((h _).up0 (tail_suf r)) fun c r _ => .ok (List.suffix_refl _) (Nat.le_refl _))
 ·split
  ·cases inner with
   | none => exact wi_full (Nat.le_refl _)
   | some c => exact Wi.bind (d1 := 0) (d2 := 0) ((hi c rfl _).up0 (tail_suf r)) fun x r _ => .ok (List.suffix_refl _) (Nat.le_refl _)
  ·exact .ok (List.suffix_refl _) (Nat.le_refl _)
theorem block_ne {ts : List Tok} {b : Blk} (h : blockOf ts = some b) : ts ≠ [] := by rintro rfl; cases h
theorem wi_compF {bo : Blk → Pa Nd} (h : ∀ b, Wp (bo b) 0) (bk : Blk) (ts : List Tok) (hn : ts ≠ []) : Wi (compF bo bk ts) ts 1 := by
 unfold compF
 have := Wi.bind (d1 := 0) (d2 := 0 + 0) (h bk ts.tail) (f := fun n r => (if n.kind = 8 then want kFi r else .ok () r).bind fun _ r => (redirsL r.length n.rs r).bind fun l r => .ok (n.setRs l) r) fun n r _ => by
  refine Wi.bind (d1 := 0) ?_ fun _ r _ => Wi.bind (d1 := 0) (d2 := 0) (wi_redirsL _ _ r) fun l r _ => .ok (List.suffix_refl _) (Nat.le_refl _)
  split
  ·exact (wi_want _ _).le (by omega)
  ·exact .ok (List.suffix_refl _) (Nat.le_refl _)
 exact this.up (k := 1) (tail_suf ts) (by rw [tail_lt hn]; exact Nat.le_refl _)
/-- .. of the parsers of compound commands, where one begins. -/
def Wc (comp : Blk → Pa Nd) : Prop := ∀ b ts, ts ≠ [] → Wi (comp b ts) ts 1
theorem wi_funF {comp : Blk → Pa Nd} (h : Wc comp) : Wp (funF comp) 1 := fun ts => by
 cases ts with
 | nil => exact wi_syn (Nat.le_refl _)
 | cons t r =>
  simp only [funF]
  have h1 : r.tail <:+ t :: r := (tail_suf r).trans (List.suffix_cons t r)
  have h2 : lines r.tail.tail <:+ t :: r := (lines_suf _).trans ((tail_suf _).trans h1)
  split
  ·split
   ·exact wi_syn h2.length_le
   ·rename_i bk hb
    exact Wi.bind (d1 := 1) (d2 := 0) ((h bk _ (block_ne hb)).up0 h2) fun x r _ => .ok (List.suffix_refl _) (Nat.le_refl _)
  ·exact wi_syn h1.length_le
theorem wi_cmdF {comp : Blk → Pa Nd} {inner : Option (Blk → Pa Nd)} (h : Wc comp) (hi : ∀ c, inner = some c → Wc c) : Wp (cmdF comp inner) 1 := fun ts => by
 unfold cmdF
 split
 ·rename_i bk hb
  exact h bk ts (block_ne hb)
 ·split
  ·exact wi_syn (Nat.le_refl _)
  ·split
   ·cases inner with
    | none => exact wi_full (Nat.le_refl _)
    | some c => exact wi_funF (hi c rfl) ts
   ·exact wi_simple ts
end
theorem wi_lev : ∀ k : Nat, Wp (lev k).cmd 1 ∧ Wp (lev k).conds 0 ∧ Wc (lev k).comp
 | 0 => by
  have h1 : Wc (fun _ ts => full ts) := fun b ts _ => wi_full (Nat.le_refl _)
  have h2 := wi_cmdF (inner := none) h1 (fun c h => by cases h)
  have h3 := wi_condF (inner := none) (wi_some h2) (fun c h => by cases h)
  exact ⟨h2, h3, h1⟩
 | k + 1 => by
  obtain ⟨i1, i2, i3⟩ := wi_lev k
  have h1 : Wc (compF (body (list (lev k).cmd) (some_ (lev k).cmd) (lev k).conds)) := fun b ts hn => wi_compF (wi_body (wi_list i1) (wi_some i1) i2) b ts hn
  have h2 := wi_cmdF (inner := some (lev k).comp) h1 (fun c h => by cases h; exact i3)
  have h3 := wi_condF (inner := some (lev k).conds) (wi_some h2) (fun c h => by cases h; exact i2)
  exact ⟨h2, h3, h1⟩
end Go.Proofs.YtgboffbbpmileaaGreatDoor
set_option linter.unusedVariables false
set_option linter.unusedSimpArgs false
namespace Go.Proofs.YtgboffbbpmileaaGreatDoor
open Go Go.RowKit
/-- A row of elements of k cells, in a block that is none of Y. -/
def RowY (k : Nat) (Y : List Nat) (w : World) (v : Value) (xs : List (List Value)) : Prop :=
 ∃ ao cap, v = .slice ao xs.length cap ∧ xs.length ≤ cap ∧ ∀ (j : Nat) cs, xs[j]? = some cs → ∃ g o, ao = some ⟨g, o, none⟩ ∧ g ∉ Y ∧ g < w.heap.size ∧ ∀ (c : Nat) x, cs[c]? = some x → w.cell? ⟨g, o + j * k + c, none⟩ = some x
theorem RowY.nil {k : Nat} {Y : List Nat} {w : World} : RowY k Y w (.slice none 0 0) [] := ⟨none, 0, rfl, Nat.le_refl _, fun j cs h => by simp at h⟩
theorem RowY.kn {k : Nat} {Y Y' : List Nat} {w w' : World} {L : List (Nat × Obj)} {v : Value} {xs : List (List Value)} (h : RowY k Y w v xs) (kn : Kn Y w w' L) (hy : ∀ y ∈ Y', y ∈ Y ∨ w.heap.size ≤ y) : RowY k Y' w' v xs := by
 obtain ⟨ao, cap, h1, h2, h3⟩ := h
 refine ⟨ao, cap, h1, h2, fun j cs hj => ?_⟩
 obtain ⟨g, o, h4, h5, h6, h7⟩ := h3 j cs hj
 refine ⟨g, o, h4, fun hm => ?_, Nat.lt_of_lt_of_le h6 kn.size, fun c x hx => (cell_same (kn.block g h6 h5)).trans (h7 c x hx)⟩
 rcases hy g hm with e | e
 ·exact h5 e
 ·omega
theorem RowY.sub {k : Nat} {Y Y' : List Nat} {w : World} {v : Value} {xs : List (List Value)} (h : RowY k Y w v xs) (hy : ∀ y ∈ Y', y ∈ Y ∨ w.heap.size ≤ y) : RowY k Y' w v xs := h.kn (Kn.refl Y w) hy
theorem RowY.rowk {k : Nat} {Y : List Nat} {w : World} {v : Value} {xs : List (List Value)} (h : RowY k Y w v xs) : RowK k w v xs := by
 obtain ⟨ao, cap, h1, h2, h3⟩ := h
 exact ⟨ao, cap, h1, fun j cs hj => by obtain ⟨g, o, h4, h5, h6, h7⟩ := h3 j cs hj; exact ⟨g, o, h4, h7⟩⟩
/-- .. of what stood in an elder world, below which nothing of Y lies. -/
theorem RowK.rowY {k : Nat} {Y : List Nat} {w0 w : World} {v : Value} {xs : List (List Value)} (h : RowK k w0 v xs) (hc : ∃ ao n cap, v = .slice ao n cap ∧ n ≤ cap) (hne : ∀ cs ∈ xs, cs ≠ []) (hb : Below w0.heap.size w0 w) (hy : ∀ y ∈ Y, w0.heap.size ≤ y) : RowY k Y w v xs := by
 obtain ⟨ao, cap, rfl, h2⟩ := h
 obtain ⟨_, _, _, e, hc⟩ := hc
 injection e with e1 e2 e3
 subst e1 e2 e3
 refine ⟨ao, cap, rfl, hc, fun j cs hj => ?_⟩
 obtain ⟨g, o, h3, h4⟩ := h2 j cs hj
 have hg : g < w0.heap.size := by
  cases cs with
  | nil => exact absurd rfl (hne _ (List.mem_of_getElem? hj))
  | cons x r => exact cell_lt (h4 0 x rfl)
 exact ⟨g, o, h3, fun hm => by have := hy g hm; omega, Nat.lt_of_lt_of_le hg hb.size, fun c x hx => cell_ext (h4 c x hx) hb⟩
def PRow (Y : List Nat) (w : World) (v : Value) (ps : List Prt) : Prop := RowY 3 Y w v (ps.map ptc)
def asc (x : (Bytes × List Prt) × Value) : List Value := [bs x.1.1, x.2]
def rsc (x : (Int × Nat × List Prt) × Value) : List Value := [.int .i64 x.1.1, .int .i64 x.1.2.1, x.2]
def CapK (v : Value) : Prop := ∃ ao n cap, v = .slice ao n cap ∧ n ≤ cap
/-- A node: its seven cells. -/
inductive NodeIs (Y : List Nat) (w : World) : Nd → List Value → Prop
 | mk (kind : Nat) (name : Bytes) (neg : Bool) (al : List ((Bytes × List Prt) × Value)) (ws : List (List Prt × Value)) (rs : List ((Int × Nat × List Prt) × Value)) (ks : List (Nd × List Value)) (va vw vr vk : Value)
  (h1 : RowY 2 Y w va (al.map asc)) (h2 : ∀ x ∈ al, PRow Y w x.2 x.1.2) (h3 : RowY 1 Y w vw (ws.map fun x => [x.2])) (h4 : ∀ x ∈ ws, PRow Y w x.2 x.1)
  (h5 : RowY 3 Y w vr (rs.map rsc)) (h6 : ∀ x ∈ rs, PRow Y w x.2 x.1.2.2) (h7 : RowY 7 Y w vk (ks.map (·.2))) (h8 : ∀ x ∈ ks, NodeIs Y w x.1 x.2) :
  NodeIs Y w (.mk kind name neg (al.map (·.1)) (ws.map (·.1)) (rs.map (·.1)) (ks.map (·.1))) [.int .i64 kind, bs name, .bool neg, va, vw, vr, vk]
theorem NodeIs.kn {Y Y' : List Nat} {w w' : World} {L : List (Nat × Obj)} {n : Nd} {cs : List Value} (h : NodeIs Y w n cs) (k : Kn Y w w' L) (hy : ∀ y ∈ Y', y ∈ Y ∨ w.heap.size ≤ y) : NodeIs Y' w' n cs := by
 induction h with
 | mk kind name neg al ws rs ks va vw vr vk h1 h2 h3 h4 h5 h6 h7 h8 ih =>
  exact .mk kind name neg al ws rs ks va vw vr vk (h1.kn k hy) (fun x hx => (h2 x hx).kn k hy) (h3.kn k hy) (fun x hx => (h4 x hx).kn k hy) (h5.kn k hy) (fun x hx => (h6 x hx).kn k hy) (h7.kn k hy) ih
theorem NodeIs.sub {Y Y' : List Nat} {w : World} {n : Nd} {cs : List Value} (h : NodeIs Y w n cs) (hy : ∀ y ∈ Y', y ∈ Y ∨ w.heap.size ≤ y) : NodeIs Y' w n cs := h.kn (Kn.refl Y w) hy
theorem NodeIs.next {F F' : List (Nat × Obj)} {w w' : World} {n : Nd} {cs : List Value} (h : NodeIs (keys F) w n cs) (k : Kn (keys F) w w' F') : NodeIs (keys F') w' n cs :=
 h.kn k fun y hy => by obtain ⟨p, hp, rfl⟩ := List.mem_map.1 hy; rcases k.own p hp with e | e; exact .inr e; exact .inl e
/-- A block that holds no nodes. -/
def NoNd (W0 : World) (g : Nat) : Prop := ∀ c t f, W0.heap[g]? = some (.cells c t f) → t ≠ 41
def TyN (W0 : World) (v : Value) : Prop := ∀ a n c, v = .slice (some a) n c → NoNd W0 a.block
/-- The tokens of the parser, al they stand in the world in which Lex left them, and the keywords. -/
structure PEnv (W0 : World) (g o cap : Nat) (tvs : List (Tok × Value)) : Prop where
 cells : ∀ (i : Nat) x, tvs[i]? = some x → ∀ (c : Nat) u, (tkc x)[c]? = some u → W0.cell? ⟨g, o + i * 6 + c, none⟩ = some u
 parts : ∀ x ∈ tvs, RowK 3 W0 x.2 (x.1.parts.map ptc) ∧ CapK x.2
 tyn : ∀ x ∈ tvs, TyN W0 x.2
 len : tvs.length ≤ cap
 pos : 0 < tvs.length
 max : tvs.length ≤ 100000
 word : ∀ x ∈ tvs, x.1.text.length ≤ 100000 ∧ x.1.plain.length ≤ 100000 ∧ x.1.parts.length ≤ 100000 ∧ ∀ p ∈ x.1.parts, p.t.length ≤ 100000
 last : ∀ (i : Nat) x, tvs[i]? = some x → (x.1.kind = 4 ↔ i + 1 = tvs.length)
 fin : ∀ x, tvs[tvs.length - 1]? = some x → x.1.text = [] ∧ x.1.plain = []
 mx : ∃ m : Int, W0.cell? ⟨1, 0, none⟩ = some (.int .i64 m)
 clo : ∃ cg co cc, W0.cell? ⟨0, 0, none⟩ = some (.slice (some ⟨cg, co, none⟩) 10 cc) ∧ 10 ≤ cc ∧ ∀ (j : Nat) s, closers[j]? = some s → W0.cell? ⟨cg, co + j, none⟩ = some (bs s)
/-- The tokens without their end, without lines. -/
def TT (tvs : List (Tok × Value)) : List Tok := tvs.dropLast.map fun x => { x.1 with line := 0 }
theorem TT_len (tvs : List (Tok × Value)) : (TT tvs).length = tvs.length - 1 := by unfold TT; simp
/-- The parser's tokens from the place i on. -/
def AtV (g o cap : Nat) (tvs : List (Tok × Value)) (i : Nat) (v : Value) : Prop := i < tvs.length ∧ v = .slice (some ⟨g, o + i * 6, none⟩) (tvs.length - i) (cap - i)
def lineAt (tvs : List (Tok × Value)) (m : Nat) : Nat := (tvs[tvs.length - 1 - m]?.map fun x => x.1.line).getD 0
/-- The error's number. -/
def ecode (er : Nat) : Int := if er = 2 then 6 else 27
/-- What the parser answers: at its end in the place j. -/
def POut (b d : Nat) (g o cap : Nat) (tvs : List (Tok × Value)) (w : World) {α : Type} (V : α → Value → World → Prop) (p : PR α) (e : Ending) (w' : World) : Prop := match p with
 | .ok a r => ∃ v j vj, e = .returned v ∧ V a v w' ∧ Hid (AtV g o cap tvs j vj ∧ r = (TT tvs).drop j) ∧ Kn [b] w w' [(b, .cells #[vj, .int .i64 (d : Int)] 73 (0, 0))]
 | .bad er m => ∃ vj dj, e = .panicked [{ v := .iface 70 (.agg #[.int .i64 (ecode er), .int .i64 (lineAt tvs m)]), recovered := false }] ∧ Kn [b] w w' [(b, .cells #[vj, .int .i64 dj] 73 (0, 0))]
section
variable {W0 : World} {g o cap : Nat} {tvs : List (Tok × Value)} (E : PEnv W0 g o cap tvs)
theorem drop_at (E : PEnv W0 g o cap tvs) {i : Nat} {x : Tok × Value} (hx : tvs[i]? = some x) : ((TT tvs).drop i = [] ∧ x.1.kind = 4 ∧ x.1.text = [] ∧ x.1.plain = []) ∨ ((TT tvs).drop i = { x.1 with line := 0 } :: (TT tvs).drop (i + 1) ∧ x.1.kind ≠ 4 ∧ i + 1 < tvs.length) := by
 have hi := (List.getElem?_eq_some_iff.1 hx).1
 by_cases h : i + 1 = tvs.length
 ·left
  have h2 := E.fin x (by rw [show tvs.length - 1 = i by omega]; exact hx)
  exact ⟨List.drop_eq_nil_of_le (by rw [TT_len]; omega), (E.last i x hx).2 h, h2.1, h2.2⟩
 ·right
  refine ⟨?_, fun e => h ((E.last i x hx).1 e), by omega⟩
  have h3 : (TT tvs)[i]? = some { x.1 with line := 0 } := by
   unfold TT
   rw [List.getElem?_map, List.getElem?_dropLast, if_pos (by omega), hx]
   rfl
  obtain ⟨h4, h5⟩ := List.getElem?_eq_some_iff.1 h3
  rw [List.drop_eq_getElem_cons h4, h5]
theorem op_at (E : PEnv W0 g o cap tvs) {i : Nat} {x : Tok × Value} (hx : tvs[i]? = some x) (s : Bytes) : isOp s ((TT tvs).drop i) = (((x.1.kind : Int) == 1) && (x.1.text == s)) := by
 rcases drop_at E hx with ⟨h1, h2, h3, h4⟩ | ⟨h1, h2, h3⟩
 ·rw [h1, h2]; rfl
 ·rw [h1]
  show (x.1.kind == 1 && _) = _
  congr 1
  rw [Bool.eq_iff_iff, beq_iff_eq, beq_iff_eq]
  omega
theorem kw_at (E : PEnv W0 g o cap tvs) {i : Nat} {x : Tok × Value} (hx : tvs[i]? = some x) (l : List Bytes) : isKw l ((TT tvs).drop i) = (((x.1.kind : Int) == 0) && ((x.1.plain != []) && l.contains x.1.plain)) := by
 rcases drop_at E hx with ⟨h1, h2, h3, h4⟩ | ⟨h1, h2, h3⟩
 ·rw [h1, h2]; rfl
 ·rw [h1]
  show (x.1.kind == 0 && _) = _
  congr 1
  rw [Bool.eq_iff_iff, beq_iff_eq, beq_iff_eq]
  omega
theorem k_at (E : PEnv W0 g o cap tvs) {i : Nat} {x : Tok × Value} (hx : tvs[i]? = some x) (k : Nat) (hk : k ≠ 4) : isK k ((TT tvs).drop i) = ((x.1.kind : Int) == (k : Int)) := by
 rcases drop_at E hx with ⟨h1, h2, h3, h4⟩ | ⟨h1, h2, h3⟩
 ·rw [h1, h2]
  exact (beq_false_of_ne (by omega)).symm
 ·rw [h1]
  show (x.1.kind == k) = _
  rw [Bool.eq_iff_iff, beq_iff_eq, beq_iff_eq]
  omega
theorem line_at {i : Nat} {x : Tok × Value} (hx : tvs[i]? = some x) (m : Nat) (hm : m = ((TT tvs).drop i).length) : lineAt tvs m = x.1.line := by
 have hi := (List.getElem?_eq_some_iff.1 hx).1
 rw [List.length_drop, TT_len] at hm
 unfold lineAt
 rw [show tvs.length - 1 - m = i by omega, hx]
 rfl
end
end Go.Proofs.YtgboffbbpmileaaGreatDoor
set_option maxRecDepth 20000
set_option maxHeartbeats 4000000
set_option linter.unusedVariables false
set_option linter.unusedSimpArgs false
namespace Go.Proofs.YtgboffbbpmileaaGreatDoor
open Go Go.RowKit
theorem kn_o1 {b g o : Nat} {v : Value} {w W : World} {L : List (Nat × Obj)} (hL : Kn [b] w W L) (h : w.cell? ⟨g, o, none⟩ = some v) (hg : g ≠ b) : W.cell? ⟨g, o, none⟩ = some v :=
 (cell_same (hL.block g (cell_lt h) (by simpa using hg))).trans h
theorem kn_o0 {g o : Nat} {v : Value} {w W : World} {L : List (Nat × Obj)} (hL : Kn [] w W L) (h : w.cell? ⟨g, o, none⟩ = some v) : W.cell? ⟨g, o, none⟩ = some v :=
 (cell_same (hL.block g (cell_lt h) (by simp))).trans h
theorem tkf0 (kd fd ln : Int) (tx pl : ByteArray) (pa : Option Addr) (pn pc : Nat) : ∀ w : World, (Instr.field 76 (.agg #[.int .i64 kd, .string tx, .string pl, .slice pa pn pc, .int .i64 fd, .int .i64 ln]) 0).run Tryz.prog w = .ok (.int .i64 kd) w := fun _ => by kernel_rfl
theorem tkf1 (kd fd ln : Int) (tx pl : ByteArray) (pa : Option Addr) (pn pc : Nat) : ∀ w : World, (Instr.field 76 (.agg #[.int .i64 kd, .string tx, .string pl, .slice pa pn pc, .int .i64 fd, .int .i64 ln]) 1).run Tryz.prog w = .ok (.string tx) w := fun _ => by kernel_rfl
theorem tkf2 (kd fd ln : Int) (tx pl : ByteArray) (pa : Option Addr) (pn pc : Nat) : ∀ w : World, (Instr.field 76 (.agg #[.int .i64 kd, .string tx, .string pl, .slice pa pn pc, .int .i64 fd, .int .i64 ln]) 2).run Tryz.prog w = .ok (.string pl) w := fun _ => by kernel_rfl
theorem tkf3 (kd fd ln : Int) (tx pl : ByteArray) (pa : Option Addr) (pn pc : Nat) : ∀ w : World, (Instr.field 76 (.agg #[.int .i64 kd, .string tx, .string pl, .slice pa pn pc, .int .i64 fd, .int .i64 ln]) 3).run Tryz.prog w = .ok (.slice pa pn pc) w := fun _ => by kernel_rfl
theorem tkf4 (kd fd ln : Int) (tx pl : ByteArray) (pa : Option Addr) (pn pc : Nat) : ∀ w : World, (Instr.field 76 (.agg #[.int .i64 kd, .string tx, .string pl, .slice pa pn pc, .int .i64 fd, .int .i64 ln]) 4).run Tryz.prog w = .ok (.int .i64 fd) w := fun _ => by kernel_rfl
theorem tkf5 (kd fd ln : Int) (tx pl : ByteArray) (pa : Option Addr) (pn pc : Nat) : ∀ w : World, (Instr.field 76 (.agg #[.int .i64 kd, .string tx, .string pl, .slice pa pn pc, .int .i64 fd, .int .i64 ln]) 5).run Tryz.prog w = .ok (.int .i64 ln) w := fun _ => by kernel_rfl
theorem next_is (b g q n cap : Nat) (v2 : Value) (w : World) (hb : w.heap[b]? = some (.cells #[.slice (some ⟨g, q, none⟩) (n) (cap), v2] 73 (0, 0))) (hn : 1 ≤ n) (kd fd ln : Int) (tx pl : ByteArray) (pa : Option Addr) (pn pc : Nat) (h0 : w.cell? ⟨g, q, none⟩ = some (.int .i64 kd)) (h1 : w.cell? ⟨g, q + 1, none⟩ = some (.string tx)) (h2 : w.cell? ⟨g, q + 2, none⟩ = some (.string pl)) (h3 : w.cell? ⟨g, q + 3, none⟩ = some (.slice pa pn pc)) (h4 : w.cell? ⟨g, q + 4, none⟩ = some (.int .i64 fd)) (h5 : w.cell? ⟨g, q + 5, none⟩ = some (.int .i64 ln)) (hgb : g ≠ b) :
  Calls Tryz.prog 27 #[.pointer (some ⟨b, 0, none⟩)] w fun e w' => e = .returned (.agg #[.int .i64 kd, .string tx, .string pl, .slice pa pn pc, .int .i64 fd, .int .i64 ln]) ∧ Below w.heap.size w w' := by
 have HB := Lib.hid hb
 have hL : Kn [b] w w [(b, .cells #[.slice (some ⟨g, q, none⟩) (n) (cap), v2] 73 (0, 0))] := Kn.one hb
 have hg := cell_lt h0
 clear hb
 have hF := hL.fx
 go_enter Tryz.func27, Tryz.ntmps27
 go_wp2
 refine kn_body ?_; clear hF hL; intro W hL; have hF := hL.fx
 refine bodyPost_ret (by simp [results, Tryz.results27, go_sem, *]; try rfl) rfl ?_
 exact ⟨rfl, kn_back (hL.sub (by repeat' (first | exact List.Sublist.refl _ | apply List.Sublist.cons))) HB.out⟩
theorem pass_is (b g q n cap : Nat) (v2 : Value) (w : World) (hb : w.heap[b]? = some (.cells #[.slice (some ⟨g, q, none⟩) (n) (cap), v2] 73 (0, 0))) (hn : 2 ≤ n) (kd fd ln : Int) (tx pl : ByteArray) (pa : Option Addr) (pn pc : Nat) (h0 : w.cell? ⟨g, q, none⟩ = some (.int .i64 kd)) (h1 : w.cell? ⟨g, q + 1, none⟩ = some (.string tx)) (h2 : w.cell? ⟨g, q + 2, none⟩ = some (.string pl)) (h3 : w.cell? ⟨g, q + 3, none⟩ = some (.slice pa pn pc)) (h4 : w.cell? ⟨g, q + 4, none⟩ = some (.int .i64 fd)) (h5 : w.cell? ⟨g, q + 5, none⟩ = some (.int .i64 ln)) (hgb : g ≠ b) (hc : n ≤ cap) :
  Calls Tryz.prog 53 #[.pointer (some ⟨b, 0, none⟩)] w fun e w' => e = .returned (.agg #[.int .i64 kd, .string tx, .string pl, .slice pa pn pc, .int .i64 fd, .int .i64 ln]) ∧ Kn [b] w w' [(b, .cells #[.slice (some ⟨g, q + 6, none⟩) (n - 1) (cap - 1), v2] 73 (0, 0))] := by
 have HB := Lib.hid hb
 have hL : Kn [b] w w [(b, .cells #[.slice (some ⟨g, q, none⟩) (n) (cap), v2] 73 (0, 0))] := Kn.one hb
 have hg := cell_lt h0
 clear hb
 have hF := hL.fx
 have e1 : decide ((1 : Int) < (n : Int)) = true := decide_eq_true (by omega)
 have e2 : decide (1 < n) = true := decide_eq_true (by omega)
 have e3 : ¬ cap = 1 := by omega
 have e4 : ¬ n = 1 := by omega
 go_enter Tryz.func53, Tryz.ntmps53
 go_wp2
 refine kn_body ?_; clear hF hL; intro W hL; simp only [kfb] at hL; have hF := hL.fx
 refine bodyPost_ret (by simp [results, Tryz.results53, go_sem, *]; try rfl) rfl ?_
 exact ⟨rfl, hL.sub (by repeat' (first | exact List.Sublist.refl _ | apply List.Sublist.cons))⟩
theorem fail_is (er : Int) (b g q n cap : Nat) (v2 : Value) (w : World) (hb : w.heap[b]? = some (.cells #[.slice (some ⟨g, q, none⟩) (n) (cap), v2] 73 (0, 0))) (hn : 1 ≤ n) (kd fd ln : Int) (tx pl : ByteArray) (pa : Option Addr) (pn pc : Nat) (h0 : w.cell? ⟨g, q, none⟩ = some (.int .i64 kd)) (h1 : w.cell? ⟨g, q + 1, none⟩ = some (.string tx)) (h2 : w.cell? ⟨g, q + 2, none⟩ = some (.string pl)) (h3 : w.cell? ⟨g, q + 3, none⟩ = some (.slice pa pn pc)) (h4 : w.cell? ⟨g, q + 4, none⟩ = some (.int .i64 fd)) (h5 : w.cell? ⟨g, q + 5, none⟩ = some (.int .i64 ln)) (hgb : g ≠ b) :
  Calls Tryz.prog 28 #[.pointer (some ⟨b, 0, none⟩), .int .i64 er] w fun e w' => e = .panicked [{ v := .iface 70 (.agg #[.int .i64 er, .int .i64 ln]), recovered := false }] ∧ Below w.heap.size w w' := by
 have HB := Lib.hid hb
 have hL : Kn [b] w w [(b, .cells #[.slice (some ⟨g, q, none⟩) (n) (cap), v2] 73 (0, 0))] := Kn.one hb
 have hg := cell_lt h0
 clear hb
 have hF := hL.fx
 go_enter Tryz.func28, Tryz.ntmps28
 have f5 := tkf5 kd fd ln tx pl pa pn pc
 go_wp2_with (first | ((with_reducible refine zS ?_); clear hL; intro W hL hF) | (go_at_call 27; refine zC (fun W hL => next_is b g q n cap v2 _ (by (exact hL.has _ List.mem_cons_self)) (by omega) kd fd ln tx pl pa pn pc (kn_o1 hL h0 hgb) (kn_o1 hL h1 hgb) (kn_o1 hL h2 hgb) (kn_o1 hL h3 hgb) (kn_o1 hL h4 hgb) (kn_o1 hL h5 hgb) hgb) ?_; clear hF hL; intro W hL hF))
 exact ⟨rfl, rfl, kn_back (hL.sub (by repeat' ((exact List.Sublist.refl _)))) HB.out⟩
end Go.Proofs.YtgboffbbpmileaaGreatDoor
set_option maxRecDepth 20000
set_option maxHeartbeats 4000000
set_option linter.unusedVariables false
set_option linter.unusedSimpArgs false
namespace Go.Proofs.YtgboffbbpmileaaGreatDoor
open Go Go.RowKit
theorem op_is (s : ByteArray) (b g q n cap : Nat) (v2 : Value) (w : World) (hb : w.heap[b]? = some (.cells #[.slice (some ⟨g, q, none⟩) (n) (cap), v2] 73 (0, 0))) (hn : 1 ≤ n) (kd fd ln : Int) (tx pl : ByteArray) (pa : Option Addr) (pn pc : Nat) (h0 : w.cell? ⟨g, q, none⟩ = some (.int .i64 kd)) (h1 : w.cell? ⟨g, q + 1, none⟩ = some (.string tx)) (h2 : w.cell? ⟨g, q + 2, none⟩ = some (.string pl)) (h3 : w.cell? ⟨g, q + 3, none⟩ = some (.slice pa pn pc)) (h4 : w.cell? ⟨g, q + 4, none⟩ = some (.int .i64 fd)) (h5 : w.cell? ⟨g, q + 5, none⟩ = some (.int .i64 ln)) (hgb : g ≠ b) :
  Calls Tryz.prog 52 #[.pointer (some ⟨b, 0, none⟩), .string s] w fun e w' => e = .returned (.bool ((kd == 1) && (tx.toList == s.toList))) ∧ Below w.heap.size w w' := by
 have HB := Lib.hid hb
 have hL : Kn [b] w w [(b, .cells #[.slice (some ⟨g, q, none⟩) (n) (cap), v2] 73 (0, 0))] := Kn.one hb
 have hg := cell_lt h0
 clear hb
 have hF := hL.fx
 obtain ⟨k1, hk1⟩ : ∃ k : Bool, (kd == 1) = k := ⟨_, rfl⟩
 obtain ⟨k2, hk2⟩ : ∃ k : Bool, (tx.toList == s.toList) = k := ⟨_, rfl⟩
 rw [hk1, hk2]
 have f0 := tkf0 kd fd ln tx pl pa pn pc; have f1 := tkf1 kd fd ln tx pl pa pn pc; have f2 := tkf2 kd fd ln tx pl pa pn pc; have f3 := tkf3 kd fd ln tx pl pa pn pc; have f4 := tkf4 kd fd ln tx pl pa pn pc; have f5 := tkf5 kd fd ln tx pl pa pn pc
 cases k1 <;> cases k2 <;> (
  go_enter Tryz.func52, Tryz.ntmps52
  go_wp2_with (first | ((with_reducible refine zS ?_); clear hL; intro W hL hF) | (go_at_call 27; refine zC (fun W hL => next_is b g q n cap v2 _ (by (exact hL.has _ List.mem_cons_self)) (by omega) kd fd ln tx pl pa pn pc (kn_o1 hL h0 hgb) (kn_o1 hL h1 hgb) (kn_o1 hL h2 hgb) (kn_o1 hL h3 hgb) (kn_o1 hL h4 hgb) (kn_o1 hL h5 hgb) hgb) ?_; clear hF hL; intro W hL hF))
  refine kn_body ?_; clear hF hL; intro W hL; have hF := hL.fx
  refine bodyPost_ret (by simp [results, Tryz.results52, go_sem, *]; try rfl) rfl ?_
  exact ⟨rfl, kn_back (hL.sub (by repeat' ((exact List.Sublist.refl _)))) HB.out⟩)
theorem keyword_is (zb zo m zc : Nat) (zs : List ByteArray) (hm : Hid (m = zs.length)) (hm2 : m ≤ 100) (b g q n cap : Nat) (v2 : Value) (w : World) (hb : w.heap[b]? = some (.cells #[.slice (some ⟨g, q, none⟩) (n) (cap), v2] 73 (0, 0))) (hn : 1 ≤ n) (kd fd ln : Int) (tx pl : ByteArray) (pa : Option Addr) (pn pc : Nat) (h0 : w.cell? ⟨g, q, none⟩ = some (.int .i64 kd)) (h1 : w.cell? ⟨g, q + 1, none⟩ = some (.string tx)) (h2 : w.cell? ⟨g, q + 2, none⟩ = some (.string pl)) (h3 : w.cell? ⟨g, q + 3, none⟩ = some (.slice pa pn pc)) (h4 : w.cell? ⟨g, q + 4, none⟩ = some (.int .i64 fd)) (h5 : w.cell? ⟨g, q + 5, none⟩ = some (.int .i64 ln)) (hgb : g ≠ b) (hz : ∀ j, j < zs.length → w.cell? ⟨zb, zo + j, none⟩ = some (.string (zs.getD j ByteArray.empty))) (hzb : zb ≠ b) :
    Calls Tryz.prog 86 #[.pointer (some ⟨b, 0, none⟩), .slice (some ⟨zb, zo, none⟩) m zc] w fun e w' => e = .returned (.bool ((kd == 0) && ((pl.toList != []) && Lib.containsS zs pl))) ∧ Below w.heap.size w w' := by
  have HB := Lib.hid hb
  have hL : Kn [b] w w [(b, .cells #[.slice (some ⟨g, q, none⟩) (n) (cap), v2] 73 (0, 0))] := Kn.one hb
  have hg := cell_lt h0
  clear hb
  have hF := hL.fx
  obtain ⟨k1, hk1⟩ : ∃ k : Bool, (kd == 0) = k := ⟨_, rfl⟩
  obtain ⟨k2, hk2⟩ : ∃ k : Bool, (pl.toList == []) = k := ⟨_, rfl⟩
  obtain ⟨k3, hk3⟩ : ∃ k : Bool, Lib.containsS zs pl = k := ⟨_, rfl⟩
  rw [hk1, show (pl.toList != []) = !k2 by rw [← hk2]; rfl, hk3]
  have HC := Lib.hid (fun W (hL : Kn [b] w W [(b, .cells #[.slice (some ⟨g, q, none⟩) (n) (cap), v2] 73 (0, 0))]) => (Tryz.slices_Contains_string zb zo m zc zs pl W (by have := hm.out; omega) (by omega) (fun j hj => kn_o1 hL (hz j hj) hzb)).mono (R' := fun e w' => e = .returned (.bool k3) ∧ w' = W) fun e w' h => ⟨by rw [h.1, List.take_of_length_le (by have := hm.out; omega), hk3], h.2⟩)
  clear hz hk3
  have f0 := tkf0 kd fd ln tx pl pa pn pc; have f1 := tkf1 kd fd ln tx pl pa pn pc; have f2 := tkf2 kd fd ln tx pl pa pn pc; have f3 := tkf3 kd fd ln tx pl pa pn pc; have f4 := tkf4 kd fd ln tx pl pa pn pc; have f5 := tkf5 kd fd ln tx pl pa pn pc
  cases k1 <;> cases k2 <;> (
    go_enter Tryz.func86, Tryz.ntmps86
    go_wp2_with (first | ((with_reducible refine kn_list_set ?_); clear hL; intro W hL; have hF := hL.facts) | (go_at_call 27; refine kn_calls ?_; clear hF hL; intro W hL; have hF := hL.fx; (with_reducible refine (next_is b g q n cap v2 _ (by (exact hL.has _ List.mem_cons_self)) (by omega) kd fd ln tx pl pa pn pc (kn_o1 hL h0 hgb) (kn_o1 hL h1 hgb) (kn_o1 hL h2 hgb) (kn_o1 hL h3 hgb) (kn_o1 hL h4 hgb) (kn_o1 hL h5 hgb) hgb).mono ?_); rintro e W ⟨rfl, hb⟩; replace hL := hL.below hb; clear hb hF; have hF := hL.fx) | (go_at_call 104; refine kn_calls ?_; clear hF hL; intro W hL; have hF := hL.fx; (with_reducible refine (HC.out _ hL).mono ?_); rintro e w' ⟨rfl, rfl⟩))
    refine kn_body ?_; clear hF hL; intro W hL; have hF := hL.fx
    refine bodyPost_ret (by simp [results, Tryz.results86, go_sem, *]; try rfl) rfl ?_
    exact ⟨rfl, kn_back (hL.sub (by repeat' ((exact List.Sublist.refl _)))) HB.out⟩)
end Go.Proofs.YtgboffbbpmileaaGreatDoor
set_option linter.unusedVariables false
set_option linter.unusedSimpArgs false
namespace Go.Proofs.YtgboffbbpmileaaGreatDoor
open Go Go.RowKit
theorem tok6 {W0 : World} {g o cap : Nat} {tvs : List (Tok × Value)} (E : PEnv W0 g o cap tvs) {w : World} (hB : Below W0.heap.size W0 w) {i : Nat} {x : Tok × Value} (hx : tvs[i]? = some x) (pa : Option Addr) (pn pc : Nat) (hx2 : x.2 = .slice pa pn pc) : w.cell? ⟨g, o + i * 6, none⟩ = some (.int .i64 (x.1.kind : Int)) ∧ w.cell? ⟨g, o + i * 6 + 1, none⟩ = some (.string ⟨x.1.text.toArray⟩) ∧ w.cell? ⟨g, o + i * 6 + 2, none⟩ = some (.string ⟨x.1.plain.toArray⟩) ∧ w.cell? ⟨g, o + i * 6 + 3, none⟩ = some (.slice pa pn pc) ∧ w.cell? ⟨g, o + i * 6 + 4, none⟩ = some (.int .i64 x.1.fd) ∧ w.cell? ⟨g, o + i * 6 + 5, none⟩ = some (.int .i64 (x.1.line : Int)) := by
 have h := fun c u hu => cell_ext (E.cells i x hx c u hu) hB
 refine ⟨h 0 _ rfl, h 1 _ rfl, h 2 _ rfl, ?_, h 4 _ rfl, h 5 _ rfl⟩
 rw [← hx2]; exact h 3 _ rfl
theorem next_i {W0 : World} {g o cap : Nat} {tvs : List (Tok × Value)} (E : PEnv W0 g o cap tvs) (b i : Nat) (v : Value) (d : Int) (w : World) (hB : Below W0.heap.size W0 w) (hbb : W0.heap.size ≤ b) (hv : Hid (AtV g o cap tvs i v)) (hb : w.heap[b]? = some (.cells #[v, .int .i64 d] 73 (0, 0))) {x : Tok × Value} (hx : tvs[i]? = some x) (pa : Option Addr) (pn pc : Nat) (hx2 : x.2 = .slice pa pn pc) : Calls Tryz.prog 27 #[.pointer (some ⟨b, 0, none⟩)] w fun e w' => e = .returned (.agg #[.int .i64 (x.1.kind : Int), .string ⟨x.1.text.toArray⟩, .string ⟨x.1.plain.toArray⟩, .slice pa pn pc, .int .i64 x.1.fd, .int .i64 (x.1.line : Int)]) ∧ Below w.heap.size w w' := by
 obtain ⟨hi, rfl⟩ := hv.out
 have hlen := E.len
 have hc := tok6 E hB hx pa pn pc hx2
 have hgb : g ≠ b := by have := cell_lt (tok6 E (Below.refl _ W0) hx pa pn pc hx2).1; omega
 exact next_is b g (o + i * 6) (tvs.length - i) (cap - i) (.int .i64 d) w hb (by omega) x.1.kind x.1.fd x.1.line ⟨x.1.text.toArray⟩ ⟨x.1.plain.toArray⟩ pa pn pc hc.1 hc.2.1 hc.2.2.1 hc.2.2.2.1 hc.2.2.2.2.1 hc.2.2.2.2.2 hgb
theorem pass_i {W0 : World} {g o cap : Nat} {tvs : List (Tok × Value)} (E : PEnv W0 g o cap tvs) (b i : Nat) (v : Value) (d : Int) (w : World) (hB : Below W0.heap.size W0 w) (hbb : W0.heap.size ≤ b) (hv : Hid (AtV g o cap tvs i v)) (hb : w.heap[b]? = some (.cells #[v, .int .i64 d] 73 (0, 0))) {x : Tok × Value} (hx : tvs[i]? = some x) (pa : Option Addr) (pn pc : Nat) (hx2 : x.2 = .slice pa pn pc) (h4 : x.1.kind ≠ 4) : Calls Tryz.prog 53 #[.pointer (some ⟨b, 0, none⟩)] w fun e w' => e = .returned (.agg #[.int .i64 (x.1.kind : Int), .string ⟨x.1.text.toArray⟩, .string ⟨x.1.plain.toArray⟩, .slice pa pn pc, .int .i64 x.1.fd, .int .i64 (x.1.line : Int)]) ∧ ∃ vj, Hid (AtV g o cap tvs (i + 1) vj) ∧ Kn [b] w w' [(b, .cells #[vj, .int .i64 d] 73 (0, 0))] := by
 obtain ⟨hi, rfl⟩ := hv.out
 have hlen := E.len
 have hc := tok6 E hB hx pa pn pc hx2
 have hgb : g ≠ b := by have := cell_lt (tok6 E (Below.refl _ W0) hx pa pn pc hx2).1; omega
 have h5 : i + 1 < tvs.length := by rcases drop_at E hx with h | h; exact absurd h.2.1 h4; exact h.2.2
 refine (pass_is b g (o + i * 6) (tvs.length - i) (cap - i) (.int .i64 d) w hb (by omega) x.1.kind x.1.fd x.1.line ⟨x.1.text.toArray⟩ ⟨x.1.plain.toArray⟩ pa pn pc hc.1 hc.2.1 hc.2.2.1 hc.2.2.2.1 hc.2.2.2.2.1 hc.2.2.2.2.2 hgb (by omega)).mono fun e w' h => ⟨h.1, _, Lib.hid ⟨h5, ?_⟩, h.2⟩
 rw [show o + (i + 1) * 6 = o + i * 6 + 6 by omega, show tvs.length - (i + 1) = tvs.length - i - 1 by omega, show cap - (i + 1) = cap - i - 1 by omega]
theorem fail_i {W0 : World} {g o cap : Nat} {tvs : List (Tok × Value)} (E : PEnv W0 g o cap tvs) (b i : Nat) (v : Value) (d : Int) (w : World) (hB : Below W0.heap.size W0 w) (hbb : W0.heap.size ≤ b) (hv : Hid (AtV g o cap tvs i v)) (hb : w.heap[b]? = some (.cells #[v, .int .i64 d] 73 (0, 0))) {x : Tok × Value} (hx : tvs[i]? = some x) (pa : Option Addr) (pn pc : Nat) (hx2 : x.2 = .slice pa pn pc) (er : Nat) (k : Int) (dd : Nat) (her : Hid (ecode er = (k : Int))) (m : Nat) (hm : Hid (m = ((TT tvs).drop i).length)) : Calls Tryz.prog 28 #[.pointer (some ⟨b, 0, none⟩), .int .i64 k] w fun e w' => POut b dd g o cap tvs w (α := Unit) (fun _ _ _ => False) (.bad er m) e w' := by
 obtain ⟨hi, rfl⟩ := hv.out
 have hlen := E.len
 have hc := tok6 E hB hx pa pn pc hx2
 have hgb : g ≠ b := by have := cell_lt (tok6 E (Below.refl _ W0) hx pa pn pc hx2).1; omega
 refine (fail_is k b g (o + i * 6) (tvs.length - i) (cap - i) (.int .i64 d) w hb (by omega) x.1.kind x.1.fd x.1.line ⟨x.1.text.toArray⟩ ⟨x.1.plain.toArray⟩ pa pn pc hc.1 hc.2.1 hc.2.2.1 hc.2.2.2.1 hc.2.2.2.2.1 hc.2.2.2.2.2 hgb).mono fun e w' h => ?_
 obtain ⟨h1, h2⟩ := h
 exact ⟨_, d, by rw [h1, her.out, line_at hx m hm.out], (Kn.one hb).below h2⟩
theorem op_i {W0 : World} {g o cap : Nat} {tvs : List (Tok × Value)} (E : PEnv W0 g o cap tvs) (b i : Nat) (v : Value) (d : Int) (w : World) (hB : Below W0.heap.size W0 w) (hbb : W0.heap.size ≤ b) (hv : Hid (AtV g o cap tvs i v)) (hb : w.heap[b]? = some (.cells #[v, .int .i64 d] 73 (0, 0))) {x : Tok × Value} (hx : tvs[i]? = some x) (pa : Option Addr) (pn pc : Nat) (hx2 : x.2 = .slice pa pn pc) (s : ByteArray) : Calls Tryz.prog 52 #[.pointer (some ⟨b, 0, none⟩), .string s] w fun e w' => e = .returned (.bool (isOp s.data.toList ((TT tvs).drop i))) ∧ Below w.heap.size w w' := by
 obtain ⟨hi, rfl⟩ := hv.out
 have hlen := E.len
 have hc := tok6 E hB hx pa pn pc hx2
 have hgb : g ≠ b := by have := cell_lt (tok6 E (Below.refl _ W0) hx pa pn pc hx2).1; omega
 rw [op_at E hx, show (x.1.text == s.data.toList) = ((⟨x.1.text.toArray⟩ : ByteArray).toList == s.toList) by rw [Lib.toList_data, Lib.toList_data]]
 exact op_is s b g (o + i * 6) (tvs.length - i) (cap - i) (.int .i64 d) w hb (by omega) x.1.kind x.1.fd x.1.line ⟨x.1.text.toArray⟩ ⟨x.1.plain.toArray⟩ pa pn pc hc.1 hc.2.1 hc.2.2.1 hc.2.2.2.1 hc.2.2.2.2.1 hc.2.2.2.2.2 hgb
theorem key_i {W0 : World} {g o cap : Nat} {tvs : List (Tok × Value)} (E : PEnv W0 g o cap tvs) (b i : Nat) (v : Value) (d : Int) (w : World) (hB : Below W0.heap.size W0 w) (hbb : W0.heap.size ≤ b) (hv : Hid (AtV g o cap tvs i v)) (hb : w.heap[b]? = some (.cells #[v, .int .i64 d] 73 (0, 0))) {x : Tok × Value} (hx : tvs[i]? = some x) (pa : Option Addr) (pn pc : Nat) (hx2 : x.2 = .slice pa pn pc) (zb zo m zc : Nat) (zs : List ByteArray) (ks : List Bytes) (hks : Hid (ks = zs.map fun z => z.data.toList)) (hm : Hid (m = zs.length)) (hm2 : m ≤ 100) (hz : ∀ j, j < zs.length → w.cell? ⟨zb, zo + j, none⟩ = some (.string (zs.getD j ByteArray.empty))) (hzb : zb ≠ b) : Calls Tryz.prog 86 #[.pointer (some ⟨b, 0, none⟩), .slice (some ⟨zb, zo, none⟩) m zc] w fun e w' => e = .returned (.bool (isKw ks ((TT tvs).drop i))) ∧ Below w.heap.size w w' := by
 obtain ⟨hi, rfl⟩ := hv.out
 have hlen := E.len
 have hc := tok6 E hB hx pa pn pc hx2
 have hgb : g ≠ b := by have := cell_lt (tok6 E (Below.refl _ W0) hx pa pn pc hx2).1; omega
 rw [kw_at E hx, show (x.1.plain != []) = ((⟨x.1.plain.toArray⟩ : ByteArray).toList != []) by rw [Lib.toList_data], show ks.contains x.1.plain = Lib.containsS zs ⟨x.1.plain.toArray⟩ by
  rw [hks.out, Bool.eq_iff_iff, Lib.containsS_iff, List.contains_iff_mem, List.mem_map]
  exact ⟨fun ⟨z, hz, e⟩ => by rw [← e]; exact hz, fun h => ⟨_, h, by simp⟩⟩]
 exact keyword_is zb zo m zc zs hm hm2 b g (o + i * 6) (tvs.length - i) (cap - i) (.int .i64 d) w hb (by omega) x.1.kind x.1.fd x.1.line ⟨x.1.text.toArray⟩ ⟨x.1.plain.toArray⟩ pa pn pc hc.1 hc.2.1 hc.2.2.1 hc.2.2.2.1 hc.2.2.2.2.1 hc.2.2.2.2.2 hgb hz hzb
end Go.Proofs.YtgboffbbpmileaaGreatDoor
