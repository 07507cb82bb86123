/- The tokens of a script, as plain functions on bytes. Of no program. -/
import Derived.Lib.Bytealg
set_option linter.unusedVariables false
namespace Go.Proofs.YtflfaobbfhjmmaaDoor
open Go
abbrev Bytes := List UInt8
/-- A part of a word: its kind (0 text, 1 variable, 2 substitution), its text, whether it is quoted. -/
structure Prt where
  k : Nat
  t : Bytes
  q : Bool
  deriving DecidableEq
/-- A token: kind 0 word, 1 operator, 2 redirection, 3 line, 4 end. -/
structure Tok where
  kind : Nat
  text : Bytes
  plain : Bytes
  parts : List Prt
  fd : Int
  line : Nat
  deriving DecidableEq
/-- What is read, or the line of an error. -/
inductive R (α : Type) where
  | ok (a : α)
  | bad (line : Nat)
def lf (l : Bytes) : Nat := l.count 10
def alpha (c : UInt8) : Bool := c == 95 || (97 ≤ c.toNat && c.toNat ≤ 122) || (65 ≤ c.toNat && c.toNat ≤ 90)
def digit (c : UInt8) : Bool := 48 ≤ c.toNat && c.toNat ≤ 57
def namedT : Bytes → Nat
  | [] => 0
  | c :: t => if alpha c || digit c then namedT t + 1 else 0
/-- The length of the name with which a string begins. -/
def named : Bytes → Nat
  | [] => 0
  | c :: t => if alpha c then namedT t + 1 else 0
def special (c : UInt8) : Bool := digit c || c == 35 || c == 63 || c == 36 || c == 33 || c == 64 || c == 42
/-- .. and of the parameter. -/
def param (s : Bytes) : Nat := match named s with
  | n + 1 => n + 1
  | 0 => match s with
    | [] => 0
    | c :: _ => if special c then 1 else 0
/-- What stands before the first c, and what behind it. -/
def brk (c : UInt8) : Bytes → Option (Bytes × Bytes)
  | [] => none
  | d :: t => if d = c then some ([], t) else (brk c t).map fun x => (d :: x.1, x.2)
/-- The script within parentheses (some depth), or what stands within double quotes (none): what it is, and what follows its end. -/
def scan : Nat → Option Nat → Bytes → Option (Bytes × Bytes)
  | 0, _, _ => none
  | _ + 1, _, [] => none
  | f + 1, some d, c :: t =>
    if c = 92 then (match t with
      | [] => none
      | e :: t => (scan f (some d) t).map fun x => (92 :: e :: x.1, x.2))
    else if c = 39 then (brk 39 t).bind fun y => (scan f (some d) y.2).map fun x => (39 :: (y.1 ++ 39 :: x.1), x.2)
    else if c = 34 then (scan f none t).bind fun y => (scan f (some d) y.2).map fun x => (34 :: (y.1 ++ 34 :: x.1), x.2)
    else if c = 40 then (scan f (some (d + 1)) t).map fun x => (40 :: x.1, x.2)
    else if c = 41 then (if d = 1 then some ([], t) else (scan f (some (d - 1)) t).map fun x => (41 :: x.1, x.2))
    else (scan f (some d) t).map fun x => (c :: x.1, x.2)
  | f + 1, none, c :: t =>
    if c = 34 then some ([], t)
    else if c = 92 then (match t with
      | [] => none
      | e :: t => (scan f none t).map fun x => (92 :: e :: x.1, x.2))
    else if c = 36 ∧ t.head? = some 40 then (scan f (some 1) (t.drop 1)).bind fun y => (scan f none y.2).map fun x => (36 :: 40 :: (y.1 ++ 41 :: x.1), x.2)
    else (scan f none t).map fun x => (c :: x.1, x.2)
def parens (s : Bytes) : Option (Bytes × Bytes) := scan (s.length + 1) (some 1) s
/-- Literal text behind the parts of a word. -/
def addT : List Prt → Bytes → Bool → List Prt
  | [], s, q => [⟨0, s, q⟩]
  | [p], s, q => if p.k = 0 ∧ p.q = q then [⟨0, p.t ++ s, q⟩] else [p, ⟨0, s, q⟩]
  | p :: ps, s, q => p :: addT ps s q
/-- The state within a word: its parts, what follows, the line. -/
abbrev St := List Prt × Bytes × Nat
/-- Behind a dollar. -/
def dollar (ps : List Prt) (s : Bytes) (n : Nat) (q : Bool) : R St :=
  if s.head? = some 40 then (match parens (s.drop 1) with
    | none => .bad n
    | some (a, r) => .ok (ps ++ [⟨2, a, q⟩], r, n + lf a))
  else if s.head? = some 123 then (match brk 125 (s.drop 1) with
    | none => .bad n
    | some (a, r) => if a = [] ∨ param a ≠ a.length then .bad n else .ok (ps ++ [⟨1, a, q⟩], r, n))
  else if 0 < param s then .ok (ps ++ [⟨1, s.take (param s), q⟩], s.drop (param s), n)
  else .ok (addT ps [36] true, s, n)
def esc (c : UInt8) : Bool := c == 34 || c == 36 || c == 92
/-- Within double quotes, which began in the line n0. -/
def double : Nat → Nat → St → R St
  | 0, n0, _ => .bad n0
  | f + 1, n0, (ps, l, n) => match l with
    | [] => .bad n0
    | c :: t =>
      if c = 34 then .ok (ps, t, n)
      else if c = 36 then (match dollar ps t n true with
        | .bad m => .bad m
        | .ok x => double f n0 x)
      else if c = 92 then (match t with
        | d :: r => if esc d then double f n0 (addT ps [d] true, r, n) else double f n0 (addT ps [92] true, t, n)
        | [] => double f n0 (addT ps [92] true, t, n))
      else double f n0 (addT ps [c] true, t, n + lf [c])
/-- A piece of a word: what begins with c. -/
def piece (ps : List Prt) (c : UInt8) (t : Bytes) (n : Nat) : R St :=
  if c = 39 then (match brk 39 t with
    | none => .bad n
    | some (a, r) => .ok (addT ps a true, r, n + lf a))
  else if c = 34 then double (t.length + 1) n (addT ps [] true, t, n)
  else if c = 92 then (match t with
    | [] => .ok (addT ps [92] true, [], n)
    | d :: r => if d = 10 then .ok (ps, r, n + 1) else .ok (addT ps [d] true, r, n))
  else if c = 36 then dollar ps t n false
  else .ok (addT ps [c] false, t, n)
def ends (c : UInt8) : Bool := c == 32 || c == 9 || c == 10 || c == 124 || c == 38 || c == 59 || c == 40 || c == 41 || c == 60 || c == 62
def word : Nat → St → R St
  | 0, x => .ok x
  | f + 1, (ps, l, n) => match l with
    | [] => .ok (ps, [], n)
    | c :: t => if ends c then .ok (ps, l, n) else match piece ps c t n with
      | .bad m => .bad m
      | .ok x => word f x
def plainOf : List Prt → Bytes
  | [p] => if p.k = 0 ∧ p.q = false then p.t else []
  | _ => []
/-- The number that a word of one or two digits is. -/
def number (s : Bytes) : Option Int := match s with
  | [a] => if digit a then some ((a.toNat : Int) - 48) else none
  | [a, b] => if digit a && digit b then some (((a.toNat : Int) - 48) * 10 + ((b.toNat : Int) - 48)) else none
  | _ => none
inductive Step where
  | skip (rest : Bytes) (line : Nat)
  | tok (t : Tok) (rest : Bytes) (line : Nat)
  | bad (line : Nat)
def opT (text : Bytes) (n : Nat) : Tok := ⟨1, text, [], [], -1, n⟩
def ioT (text : Bytes) (fd : Int) (n : Nat) : Tok := ⟨2, text, [], [], fd, n⟩
/-- A redirection: l begins with < or >. -/
def ioS (l : Bytes) (fd : Int) (n0 n : Nat) : Step :=
  if l.take 2 = [62, 62] ∨ l.take 2 = [62, 38] then .tok (ioT (l.take 2) fd n0) (l.drop 2) n else .tok (ioT (l.take 1) fd n0) (l.drop 1) n
/-- What stands between tokens, or a token: what begins with c. -/
def step (c : UInt8) (t : Bytes) (n : Nat) : Step :=
  if c = 32 ∨ c = 9 then .skip t n
  else if c = 35 then .skip (t.dropWhile (· != 10)) n
  else if c = 10 then .tok ⟨3, [], [], [], -1, n⟩ t (n + 1)
  else if c = 124 ∨ c = 38 ∨ c = 59 then (if t.head? = some c then .tok (opT [c, c] n) (t.drop 1) n else .tok (opT [c] n) t n)
  else if c = 40 ∨ c = 41 then .tok (opT [c] n) t n
  else if c = 60 ∨ c = 62 then ioS (c :: t) (-1) n n
  else if c = 92 ∧ t.head? = some 10 then .skip (t.drop 1) (n + 1)
  else match word (t.length + 2) ([], c :: t, n) with
    | .bad m => .bad m
    | .ok (ps, r, m) => match number (plainOf ps) with
      | some fd => if r.head? = some 60 ∨ r.head? = some 62 then ioS r fd n m else .tok ⟨0, [], plainOf ps, ps, -1, n⟩ r m
      | none => .tok ⟨0, [], plainOf ps, ps, -1, n⟩ r m
inductive Res where
  | ok (l : List Tok)
  | err (full : Bool) (line : Nat)
def endT (n : Nat) : Tok := ⟨4, [], [], [], -1, n⟩
def run : Nat → List Tok → Bytes → Nat → Res
  | 0, out, _, n => .ok (out ++ [endT n])
  | f + 1, out, l, n => match l with
    | [] => .ok (out ++ [endT n])
    | c :: t => match step c t n with
      | .bad m => .err false m
      | .skip r m => run f out r m
      | .tok x r m => if 2000 ≤ out.length then .err true x.line else run f (out ++ [x]) r m
def lex (s : Bytes) : Res := if 8000 < s.length then .err true 0 else run (s.length + 1) [] s 1
end Go.Proofs.YtflfaobbfhjmmaaDoor
