/- Lemmas and walks for the law of this seat (part 3). -/
import Derived.Test.YtgboffbbpmileaaGreatDoorPj2
import Derived.Lib.Bytealg
import Derived.Lib.ItoaNum
import Derived.Lib.AtoiAll
import Derived.Lib.ItoaLen
import Derived.Test.YtgboffbbpmileaaGreatDoorProg
import Derived.WalkKit
import Derived.Handy
import Derived.Deep.Light
import Derived.WalkSmall
import Derived.StillTailTactics
import Derived.Lib.Hide
import Derived.IntWalk
import Derived.WalkLawsBesides
/- The tokens of a script, as plain functions on bytes. Of no program. -/
set_option linter.unusedVariables false
set_option linter.unusedSimpArgs false
namespace Go.Proofs.YtgboffbbpmileaaGreatDoor
open Go
abbrev Bytes := List UInt8
/-- A part of a word: its kind (0 text, 1 variable, 2 substitution), its text, whether it is quoted. -/
structure Prt where
 k : Nat
 t : Bytes
 q : Bool
 deriving DecidableEq
/-- A token: kind 0 word, 1 operator, 2 redirection, 3 line, 4 end. -/
structure Tok where
 kind : Nat
 text : Bytes
 plain : Bytes
 parts : List Prt
 fd : Int
 line : Nat
 deriving DecidableEq
/-- What is read, or the line of an error. -/
inductive R (α : Type) where
 | ok (a : α)
 | bad (line : Nat)
def lf (l : Bytes) : Nat := l.count 10
def alpha (c : UInt8) : Bool := c == 95 || (97 ≤ c.toNat && c.toNat ≤ 122) || (65 ≤ c.toNat && c.toNat ≤ 90)
def digit (c : UInt8) : Bool := 48 ≤ c.toNat && c.toNat ≤ 57
def namedT : Bytes → Nat
 | [] => 0
 | c :: t => if alpha c || digit c then namedT t + 1 else 0
/-- The length of the name with which a string begins. -/
def named : Bytes → Nat
 | [] => 0
 | c :: t => if alpha c then namedT t + 1 else 0
def special (c : UInt8) : Bool := digit c || c == 35 || c == 63 || c == 36 || c == 33 || c == 64 || c == 42
/-- .. and of the parameter. -/
def param (s : Bytes) : Nat := match named s with
 | n + 1 => n + 1
 | 0 => match s with
  | [] => 0
  | c :: _ => if special c then 1 else 0
/-- What stands before the first c, and what behind it. -/
def brk (c : UInt8) : Bytes → Option (Bytes × Bytes)
 | [] => none
 | d :: t => if d = c then some ([], t) else (brk c t).map fun x => (d :: x.1, x.2)
/-- The script within parentheses (some depth), or what stands within double quotes (none): what it is, and what follows its end. -/
def scan : Nat → Option Nat → Bytes → Option (Bytes × Bytes)
 | 0, _, _ => none
 | _ + 1, _, [] => none
 | f + 1, some d, c :: t =>
  if c = 92 then (match t with
   | [] => none
   | e :: t => (scan f (some d) t).map fun x => (92 :: e :: x.1, x.2))
  else if c = 39 then (brk 39 t).bind fun y => (scan f (some d) y.2).map fun x => (39 :: (y.1 ++ 39 :: x.1), x.2)
  else if c = 34 then (scan f none t).bind fun y => (scan f (some d) y.2).map fun x => (34 :: (y.1 ++ 34 :: x.1), x.2)
  else if c = 40 then (scan f (some (d + 1)) t).map fun x => (40 :: x.1, x.2)
  else if c = 41 then (if d = 1 then some ([], t) else (scan f (some (d - 1)) t).map fun x => (41 :: x.1, x.2))
  else (scan f (some d) t).map fun x => (c :: x.1, x.2)
 | f + 1, none, c :: t =>
  if c = 34 then some ([], t)
  else if c = 92 then (match t with
   | [] => none
   | e :: t => (scan f none t).map fun x => (92 :: e :: x.1, x.2))
  else if c = 36 ∧ t.head? = some 40 then (scan f (some 1) (t.drop 1)).bind fun y => (scan f none y.2).map fun x => (36 :: 40 :: (y.1 ++ 41 :: x.1), x.2)
  else (scan f none t).map fun x => (c :: x.1, x.2)
def parens (s : Bytes) : Option (Bytes × Bytes) := scan (s.length + 1) (some 1) s
/-- Literal text behind the parts of a word. -/
def addT : List Prt → Bytes → Bool → List Prt
 | [], s, q => [⟨0, s, q⟩]
 | [p], s, q => if p.k = 0 ∧ p.q = q then [⟨0, p.t ++ s, q⟩] else [p, ⟨0, s, q⟩]
 | p :: ps, s, q => p :: addT ps s q
/-- The state within a word: its parts, what follows, the line. -/
abbrev St := List Prt × Bytes × Nat
/-- Behind a dollar. -/
def dollar (ps : List Prt) (s : Bytes) (n : Nat) (q : Bool) : R St :=
 if s.head? = some 40 then (match parens (s.drop 1) with
  | none => .bad n
  | some (a, r) => .ok (ps ++ [⟨2, a, q⟩], r, n + lf a))
 else if s.head? = some 123 then (match brk 125 (s.drop 1) with
  | none => .bad n
  | some (a, r) => if a = [] ∨ param a ≠ a.length then .bad n else .ok (ps ++ [⟨1, a, q⟩], r, n))
 else if 0 < param s then .ok (ps ++ [⟨1, s.take (param s), q⟩], s.drop (param s), n)
 else .ok (addT ps [36] true, s, n)
def esc (c : UInt8) : Bool := c == 34 || c == 36 || c == 92
/-- Within double quotes, which began in the line n0. -/
def double : Nat → Nat → St → R St
 | 0, n0, _ => .bad n0
 | f + 1, n0, (ps, l, n) => match l with
  | [] => .bad n0
  | c :: t =>
   if c = 34 then .ok (ps, t, n)
   else if c = 36 then (match dollar ps t n true with
    | .bad m => .bad m
    | .ok x => double f n0 x)
   else if c = 92 then (match t with
    | d :: r => if esc d then double f n0 (addT ps [d] true, r, n) else double f n0 (addT ps [92] true, t, n)
    | [] => double f n0 (addT ps [92] true, t, n))
   else double f n0 (addT ps [c] true, t, n + lf [c])
/-- A piece of a word: what begins with c. -/
def piece (ps : List Prt) (c : UInt8) (t : Bytes) (n : Nat) : R St :=
 if c = 39 then (match brk 39 t with
  | none => .bad n
  | some (a, r) => .ok (addT ps a true, r, n + lf a))
 else if c = 34 then double (t.length + 1) n (addT ps [] true, t, n)
 else if c = 92 then (match t with
  | [] => .ok (addT ps [92] true, [], n)
  | d :: r => if d = 10 then .ok (ps, r, n + 1) else .ok (addT ps [d] true, r, n))
 else if c = 36 then dollar ps t n false
 else .ok (addT ps [c] false, t, n)
def ends (c : UInt8) : Bool := c == 32 || c == 9 || c == 10 || c == 124 || c == 38 || c == 59 || c == 40 || c == 41 || c == 60 || c == 62
def word : Nat → St → R St
 | 0, x => .ok x
 | f + 1, (ps, l, n) => match l with
  | [] => .ok (ps, [], n)
  | c :: t => if ends c then .ok (ps, l, n) else match piece ps c t n with
   | .bad m => .bad m
   | .ok x => word f x
def plainOf : List Prt → Bytes
 | [p] => if p.k = 0 ∧ p.q = false then p.t else []
 | _ => []
/-- The number that a word of one or two digits is. -/
def number (s : Bytes) : Option Int := match s with
 | [a] => if digit a then some ((a.toNat : Int) - 48) else none
 | [a, b] => if digit a && digit b then some (((a.toNat : Int) - 48) * 10 + ((b.toNat : Int) - 48)) else none
 | _ => none
inductive Step where
 | skip (rest : Bytes) (line : Nat)
 | tok (t : Tok) (rest : Bytes) (line : Nat)
 | bad (line : Nat)
def opT (text : Bytes) (n : Nat) : Tok := ⟨1, text, [], [], -1, n⟩
def ioT (text : Bytes) (fd : Int) (n : Nat) : Tok := ⟨2, text, [], [], fd, n⟩
/-- A redirection: l begins with < or >. -/
def ioS (l : Bytes) (fd : Int) (n0 n : Nat) : Step :=
 if l.take 2 = [62, 62] ∨ l.take 2 = [62, 38] then .tok (ioT (l.take 2) fd n0) (l.drop 2) n else .tok (ioT (l.take 1) fd n0) (l.drop 1) n
/-- What stands between tokens, or a token: what begins with c. -/
def step (c : UInt8) (t : Bytes) (n : Nat) : Step :=
 if c = 32 ∨ c = 9 then .skip t n
 else if c = 35 then .skip (t.dropWhile (· != 10)) n
 else if c = 10 then .tok ⟨3, [], [], [], -1, n⟩ t (n + 1)
 else if c = 124 ∨ c = 38 ∨ c = 59 then (if t.head? = some c then .tok (opT [c, c] n) (t.drop 1) n else .tok (opT [c] n) t n)
 else if c = 40 ∨ c = 41 then .tok (opT [c] n) t n
 else if c = 60 ∨ c = 62 then ioS (c :: t) (-1) n n
 else if c = 92 ∧ t.head? = some 10 then .skip (t.drop 1) (n + 1)
 else match word (t.length + 2) ([], c :: t, n) with
  | .bad m => .bad m
  | .ok (ps, r, m) => match number (plainOf ps) with
   | some fd => if r.head? = some 60 ∨ r.head? = some 62 then ioS r fd n m else .tok ⟨0, [], plainOf ps, ps, -1, n⟩ r m
   | none => .tok ⟨0, [], plainOf ps, ps, -1, n⟩ r m
inductive Res where
 | ok (l : List Tok)
 | err (full : Bool) (line : Nat)
def endT (n : Nat) : Tok := ⟨4, [], [], [], -1, n⟩
def run : Nat → List Tok → Bytes → Nat → Res
 | 0, out, _, n => .ok (out ++ [endT n])
 | f + 1, out, l, n => match l with
  | [] => .ok (out ++ [endT n])
  | c :: t => match step c t n with
   | .bad m => .err false m
   | .skip r m => run f out r m
   | .tok x r m => if 2000 ≤ out.length then .err true x.line else run f (out ++ [x]) r m
def lex (s : Bytes) : Res := if 8000 < s.length then .err true 0 else run (s.length + 1) [] s 1
end Go.Proofs.YtgboffbbpmileaaGreatDoor
/- Numbers as text: what the digits spell, that no two numbers have one text, and that a number's text is read back. Of no program. -/
set_option linter.unusedVariables false
set_option linter.unusedSimpArgs false
namespace Go.Proofs.YtgboffbbpmileaaGreatDoor
open Go
def val (l : List UInt8) : Nat := l.foldl (fun s d => s * 10 + (d.toNat - 48)) 0
end Go.Proofs.YtgboffbbpmileaaGreatDoor
/- Strings as lists of bytes. Of no program. -/
set_option linter.unusedVariables false
set_option linter.unusedSimpArgs false
namespace Go.Proofs.YtgboffbbpmileaaGreatDoor
open Go
theorem szl (x : ByteArray) : x.data.toList.length = x.size := by simp
theorem ext_list (s : ByteArray) (i j : Nat) : (s.extract i j).data.toList = (s.data.toList.take j).drop i := by
 rw [ByteArray.data_extract, Array.toList_extract]
 simp [List.extract, List.drop_take]
theorem byte_at {s : ByteArray} {i : Nat} {c : UInt8} (h : s.data.toList[i]? = some c) (hi : i < s.size) : s[i]'hi = c := by
 have h1 : s.data.toList[i]? = some (s[i]'hi) := by
  rw [List.getElem?_eq_getElem (by simpa using hi)]
  rfl
 rw [h] at h1; exact (Option.some.inj h1).symm
end Go.Proofs.YtgboffbbpmileaaGreatDoor
set_option maxRecDepth 20000
set_option maxHeartbeats 4000000
set_option linter.unusedVariables false
set_option linter.unusedSimpArgs false
namespace Go.Proofs.YtgboffbbpmileaaGreatDoor
open Go Go.RowKit
theorem kn_back {b : Nat} {o : Obj} {w W : World} (h : Kn [b] w W [(b, o)]) (hb : w.heap[b]? = some o) : Below w.heap.size w W :=
 ⟨h.os, h.tape, h.output, h.size, fun g hg => by
  by_cases e : g = b
  ·subst e; rw [hb]; exact h.has _ List.mem_cons_self
  ·exact h.block g hg (by simpa using e)⟩
theorem rest_is (src p : ByteArray) (at_ : Nat) (line : Int) (v : Value) (b : Nat) (w : World) (hb : w.heap[b]? = some (.cells #[.string src, .int .i64 (at_), .int .i64 (line), v] 111 (0, 0))) (hat : at_ ≤ src.size) (hs : src.size ≤ 100000) (r : Bool) (hr : Lib.hasPrefix (src.data.toList.drop at_) p.data.toList = r) :
  Calls Tryz.prog 83 #[.pointer (some ⟨b, 0, none⟩), .string p] w fun e w' => e = .returned (.bool r) ∧ Below w.heap.size w w' := by
 obtain ⟨u, hu⟩ : ∃ u, src.extract at_ src.size = u := ⟨_, rfl⟩
 have hul : u.data.toList = src.data.toList.drop at_ := by
  have := szl src
  rw [← hu, ext_list, List.take_of_length_le (by omega)]
 have HP : Hid (∀ W, Calls Tryz.prog 101 #[.string u, .string p] W fun e w' => e = .returned (.bool r) ∧ w' = W) := Lib.hid fun W => by
  have := Tryz.strings_HasPrefix u p W
  rw [hul, hr] at this; exact this
 have HB := Lib.hid hb
 have hL : Kn [b] w w [(b, .cells #[.string src, .int .i64 (at_), .int .i64 (line), v] 111 (0, 0))] := Kn.one hb
 clear hr hul hb
 have hF := hL.fx
 go_enter Tryz.func83, Tryz.ntmps83
 go_wp2_with (first | ((with_reducible refine zS ?_); clear hL; intro W hL hF) | ((with_reducible refine at_region 1 ?_); refine zW [0, 1, 2, 3, 4, 5, 6, 7, 8, 9, 10, 11] [0, 1, 2, 3, 4, 5, 6, 7, 8, 9, 11] [10] [0, 1, 2, 4, 5, 6, 8, 9, 11] ?_; clear hF hL; intro ι F hne hC hG; (repeat (first | (refine cS ?_) | (refine cF hC ?_; intro K hK; go_big_quiet_op; go_big_quiet_on) | (refine cP ?_; intro K hK; go_big_quiet_op; go_big_quiet_on) | (refine cC ?_; intro W hL; have hF := hL.fx; simp only [zA, Act.eval]; go_at_call 101; (with_reducible refine (HP.out _).mono ?_); rintro e W' ⟨rfl, rfl⟩; refine zB ?_; clear hL hF hC hG; intro ι F hne hC hG; simp only [Act.put, zT]) | (refine cN ?_; intro W hL; have hF := hL.facts; go_wp2; refine zB2 ?_; clear hL hC hG; intro ι F hne hC hG))); refine cwk_nil ?_; clear hC hG; intro W hL; have hF := hL.fx))
 refine bodyPost_ret (by simp [results, Tryz.results83, go_sem, *]; try rfl) rfl ?_
 exact ⟨rfl, kn_back hL HB.out⟩
theorem skip_is (src : ByteArray) (at_ n : Nat) (line : Int) (v : Value) (b : Nat) (w : World) (hb : w.heap[b]? = some (.cells #[.string src, .int .i64 (at_), .int .i64 (line), v] 111 (0, 0))) (hat : at_ + n ≤ src.size) (hs : src.size ≤ 100000) (hl0 : 0 ≤ line) (hl1 : line ≤ 1000000) (c : Int) (hc0 : 0 ≤ c) (hc1 : c ≤ 1000000) (hc : Lib.countByte ((src.data.toList.take (at_ + n)).drop at_) 10 = c) :
  Calls Tryz.prog 80 #[.pointer (some ⟨b, 0, none⟩), .int .i64 n] w fun e w' => e = .returned (.tuple #[]) ∧ Kn [b] w w' [(b, .cells #[.string src, .int .i64 ((at_ : Int) + n), .int .i64 (line + c), v] 111 (0, 0))] := by
 obtain ⟨u, hu⟩ : ∃ u, src.extract at_ (at_ + n) = u := ⟨_, rfl⟩
 have HC : Hid (∀ W, Calls Tryz.prog 98 #[.string u, .string ⟨#[10]⟩] W fun e w' => e = .returned (.int .i64 c) ∧ w' = W) := Lib.hid fun W => by
  have := Tryz.strings_Count_one u 10 W
  rw [← hu, ext_list, hc, hu] at this; exact this
 have hL : Kn [b] w w [(b, .cells #[.string src, .int .i64 (at_), .int .i64 (line), v] 111 (0, 0))] := Kn.one hb
 have s1 : IntKind.i64.wrap ((at_ : Int) + n) = (at_ : Int) + n := by rw [IntWalk.i64_in _ (by omega)]
 have s2 : ((at_ : Int) + n).toNat = at_ + n := by omega
 have s3 : (at_ : Int) ≤ (at_ : Int) + n := by omega
 have s4 : (at_ : Int) + n ≤ src.size := by omega
 have s5 : 0 ≤ (at_ : Int) + n := by omega
 have s6 : IntKind.i64.wrap (line + c) = line + c := by rw [IntWalk.i64_in _ (by omega)]
 have HC2 := Lib.hid hc
 clear hb hc
 have hF := hL.fx
 go_enter Tryz.func80, Tryz.ntmps80
 go_wp2_with (first | ((with_reducible refine zS ?_); clear hL; intro W hL hF) | ((with_reducible refine at_region 0 ?_); refine zW [0, 1, 2, 3, 4, 5, 6, 7, 8, 9, 10, 11, 12, 13, 14, 15, 16, 17, 18, 19, 20, 21, 22, 23] [0, 1, 2, 3, 4, 5, 6, 7, 8, 9, 10, 11, 12, 13, 14, 15, 16, 17, 18, 20, 21, 22] [23] [0, 1, 2, 4, 5, 6, 8, 9, 10, 12, 13, 14, 16, 17, 18, 20, 21, 22] ?_; clear hF hL; intro ι F hne hC hG; (repeat (first | (refine cS ?_) | (refine cF hC ?_; intro K hK; go_big_quiet_op; go_big_quiet_on) | (refine cP ?_; intro K hK; go_big_quiet_op; go_big_quiet_on) | (refine cC ?_; intro W hL; have hF := hL.fx; simp only [zA, Act.eval]; go_at_call 98; (with_reducible refine (HC.out _).mono ?_); rintro e W' ⟨rfl, rfl⟩; refine zO ?_; clear hL hF; simp only [Act.put, zT]) | (refine cN ?_; intro W hL; have hF := hL.fx; go_wp2; refine zB2 ?_; clear hL hF hC hG; intro ι F hne hC hG))); refine cwk_nil ?_; clear hC hG; intro W hL; simp only [kfb] at hL; have hF := hL.fx))
 go_end0
 exact ⟨rfl, kn_here⟩
end Go.Proofs.YtgboffbbpmileaaGreatDoor
set_option maxRecDepth 20000
set_option maxHeartbeats 4000000
set_option linter.unusedVariables false
set_option linter.unusedSimpArgs false
namespace Go.Proofs.YtgboffbbpmileaaGreatDoor
open Go Go.RowKit
def bs (l : Bytes) : Value := .string ⟨l.toArray⟩
/-- The cells of a token, whose parts are v. -/
def tkc (x : Tok × Value) : List Value := [.int .i64 x.1.kind, bs x.1.text, bs x.1.plain, x.2, .int .i64 x.1.fd, .int .i64 x.1.line]
def tkv (x : Tok × Value) : Value := .agg (tkc x).toArray
def OutL (LO : List (Nat × Obj)) (v : Value) (tvs : List (Tok × Value)) : Prop :=
 (LO = [] ∧ v = .slice none 0 0 ∧ tvs = []) ∨ ∃ g cap cur, LO = [(g, .cells cur 76 (0, 0))] ∧ v = .slice (some ⟨g, 0, none⟩) tvs.length cap ∧ RowB 6 cur cap tvs.length (tvs.flatMap tkc)
theorem add_full (src : ByteArray) (at_ line : Int) (v : Value) (b : Nat) (w : World) (LO : List (Nat × Obj)) (tvs : List (Tok × Value)) (hL : Kn (b :: keys LO) w w ((b, .cells #[.string src, .int .i64 (at_), .int .i64 (line), v] 111 (0, 0)) :: LO)) (hO : OutL LO v tvs) (tv : Tok × Value) (hfull : 2000 ≤ tvs.length) :
  Calls Tryz.prog 100 #[.pointer (some ⟨b, 0, none⟩), tkv tv] w fun e w' => e = .panicked [{ v := .iface 107 (.agg #[.int .i64 6, .int .i64 tv.1.line]), recovered := false }] ∧ Kn (b :: keys LO) w w' [] := by
 rcases hO with ⟨_, _, rfl⟩ | ⟨g, cap, cur, rfl, rfl, hr⟩
 ·simp at hfull
 have HR := Lib.hid hr
 have e1 : decide ((tvs.length : Int) ≥ 2000) = true := by simp; omega
 obtain ⟨n, hn⟩ : ∃ n, tvs.length = n := ⟨_, rfl⟩
 rw [hn] at e1
 clear hr
 have hF := hL.fx
 go_enter Tryz.func100, Tryz.ntmps100
 unfold tkv tkc
 go_wp2
 exact ⟨rfl, rfl, kn_here.sub (List.nil_sublist _)⟩
end Go.Proofs.YtgboffbbpmileaaGreatDoor
set_option maxRecDepth 20000
set_option maxHeartbeats 4000000
set_option linter.unusedVariables false
set_option linter.unusedSimpArgs false
namespace Go.Proofs.YtgboffbbpmileaaGreatDoor
open Go Go.RowKit
theorem infoT : (Tryz.prog.info? 76).map (fun i => (i.zero, i.size, i.bytes)) = some (some (.agg #[.int .i64 0, .string ⟨#[]⟩, .string ⟨#[]⟩, .slice none 0 0, .int .i64 0, .int .i64 0]), 6, 80) := by kernel_rfl
theorem info_parts {t : TypeId} {z : Option Value} {s b : Nat} (h : (Tryz.prog.info? t).map (fun i => (i.zero, i.size, i.bytes)) = some (z, s, b)) : ∃ i, Tryz.prog.info? t = some i ∧ i.zero = z ∧ i.size = s ∧ i.bytes = b := by
 cases hi : Tryz.prog.info? t with
 | none => rw [hi] at h; simp at h
 | some i => rw [hi] at h; simp at h; exact ⟨i, rfl, h.1, h.2.1, h.2.2⟩
theorem tkc_one (x : Tok × Value) (h : x.2.oneCell' = true) : ∀ u ∈ tkc x, u.oneCell' = true := by
 intro u hu
 simp only [tkc, bs, List.mem_cons, List.not_mem_nil, or_false] at hu
 rcases hu with rfl | rfl | rfl | rfl | rfl | rfl <;> first | rfl | exact h
theorem add_ok (src : ByteArray) (at_ line : Int) (v : Value) (b : Nat) (w : World) (LO : List (Nat × Obj)) (tvs : List (Tok × Value)) (hL : Kn (b :: keys LO) w w ((b, .cells #[.string src, .int .i64 (at_), .int .i64 (line), v] 111 (0, 0)) :: LO)) (hO : OutL LO v tvs) (tv : Tok × Value) (htv : tv.2.oneCell' = true) (hfull : tvs.length < 2000) :
  Calls Tryz.prog 100 #[.pointer (some ⟨b, 0, none⟩), tkv tv] w fun e w' => e = .returned (.tuple #[]) ∧ ∃ v' LO', OutL LO' v' (tvs ++ [tv]) ∧ Kn (b :: keys LO) w w' ((b, .cells #[.string src, .int .i64 (at_), .int .i64 (line), v'] 111 (0, 0)) :: LO') := by
 obtain ⟨i0, hi, hz0, hz1, hz2⟩ := info_parts infoT
 rcases hO with ⟨rfl, rfl, rfl⟩ | ⟨g, cap, cur, rfl, rfl, hr⟩
 ·clear hfull
  have hF := hL.fx
  go_enter Tryz.func100, Tryz.ntmps100
  unfold tkv
  simp only [tkc]
  go_wp2_with ((with_reducible refine at_region 3 ?_); refine zW [0, 1, 2, 3, 4, 5, 6, 7, 8, 9, 10] [0, 1, 2, 3, 4, 5, 8, 9] [7, 10] [0, 1, 2, 3, 8, 9] ?_; clear hF hL; intro ι F hne hC hG; (repeat (first | (refine cF hC ?_; intro K hK; go_big_quiet_op; go_big_quiet_on) | (refine cP ?_; intro K hK; go_big_quiet_op; go_big_quiet_on) | (refine cN ?_; intro W hL; have hF := hL.fx; at_builtin; refine wpList_append_nilX rfl _ _ 66 rfl 76 i0 _ Tryz.underlying66 hi hz0 (by rw [hz1]; rfl) (by rw [hz1]; decide) hL  rfl _ _ _ (tkc tv) rfl (by rw [hz1]; rfl) (fun j u hu => by rw [Go.WideShapes.add_plain, Nat.zero_add, World.cell?, hL.has _ List.mem_cons_self]; simpa [tkc] using hu) (tkc_one tv htv) (by unfold maxLen; omega) (by rw [hz2]; omega) (by omega) ?_; intro g2 cap2 cur2 W2 hL2 hg2 hr2; clear hL; have hL := hL2; clear hL2; have hF := hL.fx; go_wp2; refine zB2 ?_; clear hL hF hC hG; intro ι F hne hC hG) | (refine cN ?_; intro W hL; have hF := hL.fx; go_wp2; (first | (refine zB2 ?_; clear hL hF hC hG; intro ι F hne hC hG) | (refine zO2 ?_; clear hL hF))))); refine cwk_nil ?_; clear hC hG; intro W hL; simp only [kfb] at hL; have hF := hL.fx)
  go_end0
  rw [hz1] at hr2
  refine ⟨rfl, .slice (some ⟨g2, 0, none⟩) ([] ++ [tv]).length cap2, _, .inr ⟨g2, cap2, cur2, rfl, rfl, by simpa using hr2⟩, hL.pick (by simp) ?_⟩
  have := hL.nd
  (simp at this ⊢); ((grind))
 ·have e1 : decide ((tvs.length : Int) ≥ 2000) = false := by simp; omega
  have hF := hL.fx
  go_enter Tryz.func100, Tryz.ntmps100
  unfold tkv
  simp only [tkc]
  go_wp2_with ((with_reducible refine at_region 3 ?_); refine kn_wp ?_; clear hF hL; intro W hL; have hF := hL.fx; refine kn_region [0, 1, 2, 3, 4, 5, 6, 7, 8, 9, 10] [0, 1, 2, 3, 4, 5, 8, 9] [7, 10] [0, 1, 2, 3, 8, 9] (by kernel_rfl) (by kernel_rfl) (List.Sublist.cons_cons _ (List.Sublist.cons_cons _ (List.Sublist.cons _ (List.Sublist.refl _)))) ?_; clear hF hL; intro ι F hne hC hFF; have hG := fun n => (hFF n).fx; clear hFF; (repeat (first | (refine cF hC ?_; intro K hK; go_big_quiet_op; go_big_quiet_on) | (refine cP ?_; intro K hK; go_big_quiet_op; go_big_quiet_on) | (refine cN ?_; intro W hL; have hF := hL.fx; at_builtin; refine wpList_append_blkX rfl _ _ 66 rfl 76 i0 _ Tryz.underlying66 hi hz0 (by rw [hz1]; rfl) (by rw [hz1]; decide) hL 3 _ _ _ _ _ rfl (by rw [hz1]; exact hr) rfl _ _ _ (tkc tv) rfl (by rw [hz1]; rfl) (fun j u hu => by rw [Go.WideShapes.add_plain, Nat.zero_add, World.cell?, hL.has _ List.mem_cons_self]; simpa [tkc] using hu) (tkc_one tv htv) (by unfold maxLen; omega) (by rw [hz2]; omega) (by omega) ?_; intro g2 cap2 cur2 W2 hL2 hr2; clear hL; have hL := hL2; clear hL2; simp only [List.eraseIdx_cons_zero, List.eraseIdx_cons_succ] at hL; have hF := hL.fx; go_wp2; refine zB2 ?_; clear hL hF hC hG; intro ι F hne hC hG) | (refine cN ?_; intro W hL; have hF := hL.fx; go_wp2; refine anchQ_normal ?_; (first | (refine owedB _ (by rfl) ?_; clear hL hF hC hG; intro ι F hne hC hFF; have hG := fun n => (hFF n).fx; clear hFF) | (refine owed0 _ (by repeat' (first | (with_reducible exact List.Sublist.refl _) | (with_reducible apply List.Sublist.cons_cons) | (with_reducible apply List.Sublist.cons))) ?_; clear hL hF))))); refine cwk_nil ?_; clear hC hG; intro W hL; simp only [kfb] at hL; have hF := hL.fx)
  go_end0
  rw [hz1] at hr2
  refine ⟨rfl, .slice (some ⟨g2, 0, none⟩) (tvs ++ [tv]).length cap2, _, .inr ⟨g2, cap2, cur2, rfl, rfl, by simpa using hr2⟩, hL.pick (by simp) ?_⟩
  have := hL.nd
  (simp at this ⊢); ((grind))
end Go.Proofs.YtgboffbbpmileaaGreatDoor
/- What follows a gap changes nothing. Of no program. -/
set_option linter.unusedVariables false
set_option linter.unusedSimpArgs false
namespace Go.Proofs.YtgboffbbpmileaaGreatDoor
open Go
/-! What follows a string changes nothing of what is read of it. -/
theorem brk_more {c : UInt8} : ∀ {s a r : Bytes} (x : Bytes), brk c s = some (a, r) → brk c (s ++ x) = some (a, r ++ x)
 | [], a, r, x, h => by simp [brk] at h
 | d :: t, a, r, x, h => by
  rw [brk] at h
  rw [List.cons_append, brk]
  split at h
  ·rename_i hd
   rw [if_pos hd]
   simp only [Option.some.injEq, Prod.mk.injEq] at h
   obtain ⟨rfl, rfl⟩ := h
   rfl
  ·rename_i hd
   rw [if_neg hd]
   cases hb : brk c t with
   | none => rw [hb] at h; cases h
   | some y =>
    obtain ⟨y1, y2⟩ := y
    rw [hb] at h
    simp only [Option.map_some, Option.some.injEq, Prod.mk.injEq] at h
    obtain ⟨rfl, rfl⟩ := h
    rw [brk_more x hb]; rfl
theorem brk_text {c : UInt8} : ∀ {s a r : Bytes}, brk c s = some (a, r) → s = a ++ c :: r ∧ c ∉ a
 | [], a, r, h => by simp [brk] at h
 | d :: t, a, r, h => by
  rw [brk] at h
  split at h
  ·rename_i hd
   simp only [Option.some.injEq, Prod.mk.injEq] at h
   obtain ⟨rfl, rfl⟩ := h
   subst hd
   exact ⟨rfl, by simp⟩
  ·rename_i hd
   cases hb : brk c t with
   | none => rw [hb] at h; cases h
   | some y =>
    obtain ⟨y1, y2⟩ := y
    rw [hb] at h
    simp only [Option.map_some, Option.some.injEq, Prod.mk.injEq] at h
    obtain ⟨rfl, rfl⟩ := h
    obtain ⟨h1, h2⟩ := brk_text hb
    refine ⟨by rw [h1]; rfl, ?_⟩
    intro hm
    rcases List.mem_cons.1 hm with e | hm
    ·exact hd e.symm
    ·exact h2 hm
theorem scan_some (f d : Nat) (c : UInt8) (t : Bytes) : scan (f + 1) (some d) (c :: t) =
  (if c = 92 then (match t with
   | [] => none
   | e :: t => (scan f (some d) t).map fun x => (92 :: e :: x.1, x.2))
  else if c = 39 then (brk 39 t).bind fun y => (scan f (some d) y.2).map fun x => (39 :: (y.1 ++ 39 :: x.1), x.2)
  else if c = 34 then (scan f none t).bind fun y => (scan f (some d) y.2).map fun x => (34 :: (y.1 ++ 34 :: x.1), x.2)
  else if c = 40 then (scan f (some (d + 1)) t).map fun x => (40 :: x.1, x.2)
  else if c = 41 then (if d = 1 then some ([], t) else (scan f (some (d - 1)) t).map fun x => (41 :: x.1, x.2))
  else (scan f (some d) t).map fun x => (c :: x.1, x.2)) := rfl
theorem scan_none (f : Nat) (c : UInt8) (t : Bytes) : scan (f + 1) none (c :: t) =
  (if c = 34 then some ([], t)
  else if c = 92 then (match t with
   | [] => none
   | e :: t => (scan f none t).map fun x => (92 :: e :: x.1, x.2))
  else if c = 36 ∧ t.head? = some 40 then (scan f (some 1) (t.drop 1)).bind fun y => (scan f none y.2).map fun x => (36 :: 40 :: (y.1 ++ 41 :: x.1), x.2)
  else (scan f none t).map fun x => (c :: x.1, x.2)) := rfl
theorem scan_len : ∀ (f : Nat) (m : Option Nat) (s a r : Bytes), scan f m s = some (a, r) → r.length < s.length := by
 intro f
 induction f with
 | zero => intro m s a r h; cases m <;> cases h
 | succ f ih =>
  intro m s a r h
  cases s with
  | nil => cases m <;> cases h
  | cons c t =>
   have one : ∀ (m' : Option Nat) (t' : Bytes) (g : Bytes → Bytes), ((scan f m' t').map fun x => (g x.1, x.2)) = some (a, r) → t'.length ≤ t.length → r.length < (c :: t).length := by
    intro m' t' g h hl
    cases hs : scan f m' t' with
    | none => rw [hs] at h; cases h
    | some y =>
     obtain ⟨y1, y2⟩ := y
     rw [hs] at h
     simp only [Option.map_some, Option.some.injEq, Prod.mk.injEq] at h
     obtain ⟨_, rfl⟩ := h
     have := ih _ _ _ _ hs
     simp only [List.length_cons]; omega
   cases m with
   | some d =>
    rw [scan_some] at h
    split at h
    ·split at h
     ·cases h
     ·rename_i e t'
      exact one _ _ (fun z => 92 :: e :: z) h (by simp)
    ·split at h
     ·cases hb : brk 39 t with
      | none => rw [hb] at h; cases h
      | some y =>
       rw [hb] at h
       simp only [Option.bind_some] at h
       obtain ⟨h1, _⟩ := brk_text (a := y.1) (r := y.2) hb
       have := congrArg List.length h1
       simp only [List.length_append, List.length_cons] at this
       exact one _ _ (fun z => 39 :: (y.1 ++ 39 :: z)) h (by omega)
     ·split at h
      ·cases hb : scan f none t with
       | none => rw [hb] at h; cases h
       | some y =>
        rw [hb] at h
        simp only [Option.bind_some] at h
        have := ih _ _ y.1 y.2 hb
        exact one _ _ (fun z => 34 :: (y.1 ++ 34 :: z)) h (by omega)
      ·split at h
       ·exact one _ _ (fun z => 40 :: z) h (by simp)
       ·split at h
        ·split at h
         ·simp only [Option.some.injEq, Prod.mk.injEq] at h
          obtain ⟨_, rfl⟩ := h
          simp
         ·exact one _ _ (fun z => 41 :: z) h (by simp)
        ·exact one _ _ (fun z => c :: z) h (by simp)
   | none =>
    rw [scan_none] at h
    split at h
    ·simp only [Option.some.injEq, Prod.mk.injEq] at h
     obtain ⟨_, rfl⟩ := h
     simp
    ·split at h
     ·split at h
      ·cases h
      ·rename_i e t'
       exact one _ _ (fun z => 92 :: e :: z) h (by simp)
     ·split at h
      ·cases hb : scan f (some 1) (t.drop 1) with
       | none => rw [hb] at h; cases h
       | some y =>
        rw [hb] at h
        simp only [Option.bind_some] at h
        have := ih _ _ y.1 y.2 hb
        rw [List.length_drop] at this
        exact one _ _ (fun z => 36 :: 40 :: (y.1 ++ 41 :: z)) h (by omega)
      ·exact one _ _ (fun z => c :: z) h (by simp)
/-- Scanning goes alike with more fuel, and with something behind. -/
theorem scan_more : ∀ (f : Nat) (m : Option Nat) (s a r : Bytes), scan f m s = some (a, r) → ∀ (g : Nat) (x : Bytes), f ≤ g → scan g m (s ++ x) = some (a, r ++ x) := by
 intro f
 induction f with
 | zero => intro m s a r h; cases m <;> cases h
 | succ f ih =>
  intro m s a r h g x hg
  obtain ⟨g, rfl⟩ : ∃ g', g = g' + 1 := ⟨g - 1, by omega⟩
  cases s with
  | nil => cases m <;> cases h
  | cons c t =>
   have one : ∀ (m' : Option Nat) (t' : Bytes) (k : Bytes → Bytes), ((scan f m' t').map fun x => (k x.1, x.2)) = some (a, r) → ((scan g m' (t' ++ x)).map fun x => (k x.1, x.2)) = some (a, r ++ x) := by
    intro m' t' k h
    cases hs : scan f m' t' with
    | none => rw [hs] at h; cases h
    | some y =>
     obtain ⟨y1, y2⟩ := y
     rw [hs] at h
     simp only [Option.map_some, Option.some.injEq, Prod.mk.injEq] at h
     obtain ⟨rfl, rfl⟩ := h
     rw [ih _ _ _ _ hs g x (by omega)]; rfl
   rw [List.cons_append]
   cases m with
   | some d =>
    rw [scan_some] at h ⊢
    by_cases h92 : c = 92
    ·rw [if_pos h92] at h ⊢
     cases t with
     | nil => cases h
     | cons e t' => exact one _ _ (fun z => 92 :: e :: z) h
    rw [if_neg h92] at h ⊢
    by_cases h39 : c = 39
    ·rw [if_pos h39] at h ⊢
     cases hb : brk 39 t with
     | none => rw [hb] at h; cases h
     | some y =>
      rw [hb] at h
      simp only [Option.bind_some] at h
      rw [brk_more (a := y.1) (r := y.2) x hb]
      exact one _ _ (fun z => 39 :: (y.1 ++ 39 :: z)) h
    rw [if_neg h39] at h ⊢
    by_cases h34 : c = 34
    ·rw [if_pos h34] at h ⊢
     cases hb : scan f none t with
     | none => rw [hb] at h; cases h
     | some y =>
      rw [hb] at h
      simp only [Option.bind_some] at h
      rw [ih _ _ y.1 y.2 hb g x (by omega)]
      exact one _ _ (fun z => 34 :: (y.1 ++ 34 :: z)) h
    rw [if_neg h34] at h ⊢
    by_cases h40 : c = 40
    ·rw [if_pos h40] at h ⊢
     exact one _ _ (fun z => 40 :: z) h
    rw [if_neg h40] at h ⊢
    by_cases h41 : c = 41
    ·rw [if_pos h41] at h ⊢
     by_cases hd : d = 1
     ·rw [if_pos hd] at h ⊢
      simp only [Option.some.injEq, Prod.mk.injEq] at h
      obtain ⟨rfl, rfl⟩ := h
      rfl
     ·rw [if_neg hd] at h ⊢
      exact one _ _ (fun z => 41 :: z) h
    ·rw [if_neg h41] at h ⊢
     exact one _ _ (fun z => c :: z) h
   | none =>
    rw [scan_none] at h ⊢
    by_cases h34 : c = 34
    ·rw [if_pos h34] at h ⊢
     simp only [Option.some.injEq, Prod.mk.injEq] at h
     obtain ⟨rfl, rfl⟩ := h
     rfl
    rw [if_neg h34] at h ⊢
    by_cases h92 : c = 92
    ·rw [if_pos h92] at h ⊢
     cases t with
     | nil => cases h
     | cons e t' => exact one _ _ (fun z => 92 :: e :: z) h
    rw [if_neg h92] at h ⊢
    by_cases h36 : c = 36 ∧ t.head? = some 40
    ·rw [if_pos h36] at h
     have ht : t ≠ [] := by rintro rfl; simp at h36
     have h36' : c = 36 ∧ (t ++ x).head? = some 40 := by
      refine ⟨h36.1, ?_⟩
      cases t with
      | nil => exact absurd rfl ht
      | cons e t => exact h36.2
     rw [if_pos h36']
     have hdr : (t ++ x).drop 1 = t.drop 1 ++ x := by
      cases t with
      | nil => exact absurd rfl ht
      | cons e t => rfl
     rw [hdr]
     cases hb : scan f (some 1) (t.drop 1) with
     | none => rw [hb] at h; cases h
     | some y =>
      rw [hb] at h
      simp only [Option.bind_some] at h
      rw [ih _ _ y.1 y.2 hb g x (by omega)]
      exact one _ _ (fun z => 36 :: 40 :: (y.1 ++ 41 :: z)) h
    ·rw [if_neg h36] at h
     by_cases h36' : c = 36 ∧ (t ++ x).head? = some 40
     ·exfalso
      cases t with
      | nil =>
       -- nothing can close
       cases f <;> cases h
      | cons e t => exact h36 h36'
     ·rw [if_neg h36']
      exact one _ _ (fun z => c :: z) h
theorem parens_more {s a r : Bytes} (x : Bytes) (h : parens s = some (a, r)) : parens (s ++ x) = some (a, r ++ x) :=
 scan_more _ _ _ _ _ h _ x (by simp)
theorem brk_suffix {c : UInt8} {s a r : Bytes} (h : brk c s = some (a, r)) : r <:+ s := by
 obtain ⟨h1, _⟩ := brk_text h
 exact ⟨a ++ [c], by rw [h1]; simp⟩
theorem scan_suffix : ∀ (f : Nat) (m : Option Nat) (s a r : Bytes), scan f m s = some (a, r) → r <:+ s := by
 intro f
 induction f with
 | zero => intro m s a r h; cases m <;> cases h
 | succ f ih =>
  intro m s a r h
  cases s with
  | nil => cases m <;> cases h
  | cons c t =>
   have one : ∀ (m' : Option Nat) (t' : Bytes) (g : Bytes → Bytes), ((scan f m' t').map fun x => (g x.1, x.2)) = some (a, r) → t' <:+ t → r <:+ c :: t := by
    intro m' t' g h hl
    cases hs : scan f m' t' with
    | none => rw [hs] at h; cases h
    | some y =>
     obtain ⟨y1, y2⟩ := y
     rw [hs] at h
     simp only [Option.map_some, Option.some.injEq, Prod.mk.injEq] at h
     obtain ⟨_, rfl⟩ := h
     exact ((ih _ _ _ _ hs).trans hl).trans (List.suffix_cons _ _)
   cases m with
   | some d =>
    rw [scan_some] at h
    split at h
    ·split at h
     ·cases h
     ·rename_i e t'
      exact one _ _ (fun z => 92 :: e :: z) h (List.suffix_cons _ _)
    ·split at h
     ·cases hb : brk 39 t with
      | none => rw [hb] at h; cases h
      | some y =>
       rw [hb] at h
       simp only [Option.bind_some] at h
       exact one _ _ (fun z => 39 :: (y.1 ++ 39 :: z)) h (brk_suffix (a := y.1) hb)
     ·split at h
      ·cases hb : scan f none t with
       | none => rw [hb] at h; cases h
       | some y =>
        rw [hb] at h
        simp only [Option.bind_some] at h
        exact one _ _ (fun z => 34 :: (y.1 ++ 34 :: z)) h (ih _ _ y.1 y.2 hb)
      ·split at h
       ·exact one _ _ (fun z => 40 :: z) h (List.suffix_refl _)
       ·split at h
        ·split at h
         ·simp only [Option.some.injEq, Prod.mk.injEq] at h
          obtain ⟨_, rfl⟩ := h
          exact List.suffix_cons _ _
         ·exact one _ _ (fun z => 41 :: z) h (List.suffix_refl _)
        ·exact one _ _ (fun z => c :: z) h (List.suffix_refl _)
   | none =>
    rw [scan_none] at h
    split at h
    ·simp only [Option.some.injEq, Prod.mk.injEq] at h
     obtain ⟨_, rfl⟩ := h
     exact List.suffix_cons _ _
    ·split at h
     ·split at h
      ·cases h
      ·rename_i e t'
       exact one _ _ (fun z => 92 :: e :: z) h (List.suffix_cons _ _)
     ·split at h
      ·cases hb : scan f (some 1) (t.drop 1) with
       | none => rw [hb] at h; cases h
       | some y =>
        rw [hb] at h
        simp only [Option.bind_some] at h
        exact one _ _ (fun z => 36 :: 40 :: (y.1 ++ 41 :: z)) h ((ih _ _ y.1 y.2 hb).trans (List.drop_suffix _ _))
      ·exact one _ _ (fun z => c :: z) h (List.suffix_refl _)
/-- A byte that ends a word and is none of the bytes with a meaning within names, dollars, numbers: a blank or a line feed. -/
def gap (c : UInt8) : Prop := c = 10 ∨ c = 32 ∨ c = 9
theorem gap_alpha {c : UInt8} (h : gap c) : alpha c = false ∧ digit c = false ∧ special c = false ∧ ends c = true := by
 rcases h with rfl | rfl | rfl <;> decide
theorem namedT_more {y : UInt8} (hy : gap y) (x : Bytes) : ∀ s : Bytes, namedT (s ++ y :: x) = namedT s
 | [] => by
  obtain ⟨h1, h2, _⟩ := gap_alpha hy
  show namedT (y :: x) = 0
  rw [namedT, h1, h2]; rfl
 | c :: t => by
  rw [List.cons_append, namedT, namedT, namedT_more hy x t]
theorem named_more {y : UInt8} (hy : gap y) (x : Bytes) : ∀ s : Bytes, named (s ++ y :: x) = named s
 | [] => by
  obtain ⟨h1, _⟩ := gap_alpha hy
  show named (y :: x) = 0
  rw [named, h1]; rfl
 | c :: t => by
  rw [List.cons_append, named, named, namedT_more hy x t]
theorem param_more {y : UInt8} (hy : gap y) (x s : Bytes) : param (s ++ y :: x) = param s := by
 unfold param
 rw [named_more hy]
 cases named s with
 | succ n => rfl
 | zero =>
  cases s with
  | nil => simp [(gap_alpha hy).2.2.1]
  | cons c t => rfl
theorem namedT_le : ∀ s : Bytes, namedT s ≤ s.length
 | [] => Nat.le_refl _
 | c :: t => by
  rw [namedT]
  have := namedT_le t
  split <;> simp only [List.length_cons] <;> omega
theorem named_le : ∀ s : Bytes, named s ≤ s.length
 | [] => Nat.le_refl _
 | c :: t => by
  rw [named]
  have := namedT_le t
  split <;> simp only [List.length_cons] <;> omega
theorem param_le (s : Bytes) : param s ≤ s.length := by
 unfold param
 have := named_le s
 split
 ·rename_i n h; omega
 ·split
  ·simp
  ·split <;> simp
theorem dollar_more {y : UInt8} (hy : gap y) (x : Bytes) {ps : List Prt} {s : Bytes} {n : Nat} {q : Bool} {st : St} (h : dollar ps s n q = .ok st) : dollar ps (s ++ y :: x) n q = .ok (st.1, st.2.1 ++ y :: x, st.2.2) := by
 have hh : ∀ c : UInt8, ¬ gap c → ((s ++ y :: x).head? = some c ↔ s.head? = some c) := fun c hc => by
  cases s with
  | nil => simp; rintro rfl; exact hc hy
  | cons d t => simp
 unfold dollar at h ⊢
 by_cases h40 : s.head? = some 40
 ·rw [if_pos h40] at h
  rw [if_pos ((hh 40 (by rintro (h | h | h) <;> cases h)).2 h40)]
  have hd : (s ++ y :: x).drop 1 = s.drop 1 ++ y :: x := by
   cases s with
   | nil => simp at h40
   | cons d t => rfl
  rw [hd]
  cases hp : parens (s.drop 1) with
  | none => rw [hp] at h; cases h
  | some z =>
   obtain ⟨a, r⟩ := z
   rw [hp] at h
   rw [parens_more _ hp]
   injection h with h
   rw [← h]
 rw [if_neg h40] at h
 rw [if_neg (fun e => h40 ((hh 40 (by rintro (h | h | h) <;> cases h)).1 e))]
 by_cases h123 : s.head? = some 123
 ·rw [if_pos h123] at h
  rw [if_pos ((hh 123 (by rintro (h | h | h) <;> cases h)).2 h123)]
  have hd : (s ++ y :: x).drop 1 = s.drop 1 ++ y :: x := by
   cases s with
   | nil => simp at h123
   | cons d t => rfl
  rw [hd]
  cases hp : brk 125 (s.drop 1) with
  | none => rw [hp] at h; cases h
  | some z =>
   obtain ⟨a, r⟩ := z
   rw [hp] at h
   rw [brk_more _ hp]
   simp only at h ⊢
   split at h
   ·cases h
   ·rename_i hc
    rw [if_neg hc]
    injection h with h
    rw [← h]
 rw [if_neg h123] at h
 rw [if_neg (fun e => h123 ((hh 123 (by rintro (h | h | h) <;> cases h)).1 e))]
 rw [param_more hy]
 split at h
 ·rename_i hp
  rw [if_pos hp]
  injection h with h
  rw [← h]
  simp only
  rw [List.take_append_of_le_length (param_le s), List.drop_append_of_le_length (param_le s)]
 ·rename_i hp
  rw [if_neg hp]
  injection h with h
  rw [← h]
/-- What a step leaves is a rest of what there was. -/
theorem dollar_rest {ps : List Prt} {s : Bytes} {n : Nat} {q : Bool} {st : St} (h : dollar ps s n q = .ok st) : st.2.1 <:+ s := by
 unfold dollar at h
 split at h
 ·rename_i h40
  cases hp : parens (s.drop 1) with
  | none => rw [hp] at h; cases h
  | some z =>
   obtain ⟨a, r⟩ := z
   rw [hp] at h
   injection h with h
   rw [← h]
   exact (scan_suffix _ _ _ _ _ hp).trans (List.drop_suffix _ _)
 ·split at h
  ·cases hp : brk 125 (s.drop 1) with
   | none => rw [hp] at h; cases h
   | some z =>
    obtain ⟨a, r⟩ := z
    rw [hp] at h
    simp only at h
    split at h
    ·cases h
    ·injection h with h
     rw [← h]
     exact (brk_suffix hp).trans (List.drop_suffix _ _)
  ·split at h
   ·injection h with h; rw [← h]; exact List.drop_suffix _ _
   ·injection h with h; rw [← h]; exact List.suffix_refl _
theorem double_cons (f n0 : Nat) (ps : List Prt) (c : UInt8) (t : Bytes) (n : Nat) : double (f + 1) n0 (ps, c :: t, n) =
   (if c = 34 then .ok (ps, t, n)
   else if c = 36 then (match dollar ps t n true with
    | .bad m => .bad m
    | .ok x => double f n0 x)
   else if c = 92 then (match t with
    | d :: r => if esc d then double f n0 (addT ps [d] true, r, n) else double f n0 (addT ps [92] true, t, n)
    | [] => double f n0 (addT ps [92] true, t, n))
   else double f n0 (addT ps [c] true, t, n + lf [c])) := rfl
theorem word_cons (f : Nat) (ps : List Prt) (c : UInt8) (t : Bytes) (n : Nat) : word (f + 1) (ps, c :: t, n) = (if ends c then .ok (ps, c :: t, n) else match piece ps c t n with
    | .bad m => .bad m
    | .ok x => word f x) := rfl
theorem double_more {y : UInt8} (hy : gap y) (x : Bytes) (n0 : Nat) : ∀ (f : Nat) (ps : List Prt) (l : Bytes) (n : Nat) (st : St), double f n0 (ps, l, n) = .ok st → ∀ g, f ≤ g → double g n0 (ps, l ++ y :: x, n) = .ok (st.1, st.2.1 ++ y :: x, st.2.2) := by
 intro f
 induction f with
 | zero => intro ps l n st h; cases h
 | succ f ih =>
  intro ps l n st h g hg
  obtain ⟨g, rfl⟩ : ∃ g', g = g' + 1 := ⟨g - 1, by omega⟩
  cases l with
  | nil => cases h
  | cons c t =>
   rw [double_cons] at h
   rw [List.cons_append, double_cons]
   by_cases h34 : c = 34
   ·rw [if_pos h34] at h ⊢
    injection h with h
    rw [← h]
   rw [if_neg h34] at h ⊢
   by_cases h36 : c = 36
   ·rw [if_pos h36] at h ⊢
    cases hd : dollar ps t n true with
    | bad m => rw [hd] at h; cases h
    | ok z =>
     rw [hd] at h
     rw [dollar_more hy x hd]
     obtain ⟨z1, z2, z3⟩ := z
     exact ih _ _ _ _ h g (by omega)
   rw [if_neg h36] at h ⊢
   by_cases h92 : c = 92
   ·rw [if_pos h92] at h ⊢
    cases t with
    | nil =>
     exfalso
     cases f <;> cases h
    | cons d r =>
     simp only [List.cons_append] at h ⊢
     split at h
     ·rename_i he
      rw [if_pos he]
      exact ih _ _ _ _ h g (by omega)
     ·rename_i he
      rw [if_neg he]
      exact ih _ (d :: r) _ _ h g (by omega)
   ·rw [if_neg h92] at h ⊢
    exact ih _ _ _ _ h g (by omega)
theorem double_rest (n0 : Nat) : ∀ (f : Nat) (ps : List Prt) (l : Bytes) (n : Nat) (st : St), double f n0 (ps, l, n) = .ok st → st.2.1 <:+ l := by
 intro f
 induction f with
 | zero => intro ps l n st h; cases h
 | succ f ih =>
  intro ps l n st h
  cases l with
  | nil => cases h
  | cons c t =>
   rw [double_cons] at h
   split at h
   ·injection h with h; rw [← h]; exact List.suffix_cons _ _
   ·split at h
    ·cases hd : dollar ps t n true with
     | bad m => rw [hd] at h; cases h
     | ok z =>
      rw [hd] at h
      obtain ⟨z1, z2, z3⟩ := z
      exact ((ih _ _ _ _ h).trans (dollar_rest hd)).trans (List.suffix_cons _ _)
    ·split at h
     ·split at h
      ·split at h
       ·exact ((ih _ _ _ _ h).trans (List.suffix_cons _ _)).trans (List.suffix_cons _ _)
       ·exact (ih _ _ _ _ h).trans (List.suffix_cons _ _)
      ·exact (ih _ _ _ _ h).trans (List.suffix_cons _ _)
     ·exact (ih _ _ _ _ h).trans (List.suffix_cons _ _)
theorem piece_more {y : UInt8} (hy : gap y) (x : Bytes) {ps : List Prt} {c : UInt8} {t : Bytes} {n : Nat} {st : St} (h : piece ps c t n = .ok st) (he : c ≠ 92 ∨ t ≠ []) : piece ps c (t ++ y :: x) n = .ok (st.1, st.2.1 ++ y :: x, st.2.2) := by
 unfold piece at h ⊢
 by_cases h39 : c = 39
 ·rw [if_pos h39] at h ⊢
  cases hb : brk 39 t with
  | none => rw [hb] at h; cases h
  | some z =>
   obtain ⟨a, r⟩ := z
   rw [hb] at h
   rw [brk_more _ hb]
   injection h with h
   rw [← h]
 rw [if_neg h39] at h ⊢
 by_cases h34 : c = 34
 ·rw [if_pos h34] at h ⊢
  exact double_more hy x n _ _ _ _ _ h _ (by simp only [List.length_append]; omega)
 rw [if_neg h34] at h ⊢
 by_cases h92 : c = 92
 ·rw [if_pos h92] at h ⊢
  cases t with
  | nil => rcases he with he | he; exact absurd h92 he; exact absurd rfl he
  | cons d r =>
   simp only [List.cons_append] at h ⊢
   split at h
   ·rename_i hd
    rw [if_pos hd]
    injection h with h
    rw [← h]
   ·rename_i hd
    rw [if_neg hd]
    injection h with h
    rw [← h]
 rw [if_neg h92] at h ⊢
 by_cases h36 : c = 36
 ·rw [if_pos h36] at h ⊢
  exact dollar_more hy x h
 ·rw [if_neg h36] at h ⊢
  injection h with h
  rw [← h]
theorem piece_rest {ps : List Prt} {c : UInt8} {t : Bytes} {n : Nat} {st : St} (h : piece ps c t n = .ok st) : st.2.1 <:+ t := by
 unfold piece at h
 split at h
 ·cases hb : brk 39 t with
  | none => rw [hb] at h; cases h
  | some z =>
   obtain ⟨a, r⟩ := z
   rw [hb] at h
   injection h with h
   rw [← h]
   exact brk_suffix hb
 ·split at h
  ·exact double_rest _ _ _ _ _ _ h
  ·split at h
   ·split at h
    ·injection h with h; rw [← h]; exact List.suffix_refl _
    ·split at h
     ·injection h with h; rw [← h]; exact List.suffix_cons _ _
     ·injection h with h; rw [← h]; exact List.suffix_cons _ _
   ·split at h
    ·exact dollar_rest h
    ·injection h with h; rw [← h]; exact List.suffix_refl _
theorem last_rest {l r : Bytes} (h : r <:+ l) (he : l.getLast? ≠ some 92) : r.getLast? ≠ some 92 := by
 obtain ⟨u, rfl⟩ := h
 cases r with
 | nil => simp
 | cons a r =>
  intro e
  apply he
  rw [List.getLast?_append, e]; rfl
theorem word_more {y : UInt8} (hy : gap y) (x : Bytes) : ∀ (f : Nat) (ps : List Prt) (l : Bytes) (n : Nat) (st : St), word f (ps, l, n) = .ok st → l.length < f → l.getLast? ≠ some 92 → ∀ g, f ≤ g → word g (ps, l ++ y :: x, n) = .ok (st.1, st.2.1 ++ y :: x, st.2.2) := by
 intro f
 induction f with
 | zero => intro ps l n st h hl; omega
 | succ f ih =>
  intro ps l n st h hl he g hg
  obtain ⟨g, rfl⟩ : ∃ g', g = g' + 1 := ⟨g - 1, by omega⟩
  cases l with
  | nil =>
   rw [word] at h
   injection h with h
   rw [List.nil_append, word_cons]
   rw [if_pos (gap_alpha hy).2.2.2, ← h]; rfl
  | cons c t =>
   rw [word_cons] at h
   rw [List.cons_append, word_cons]
   split at h
   ·rename_i hc
    rw [if_pos hc]
    injection h with h
    rw [← h]; rfl
   ·rename_i hc
    rw [if_neg hc]
    cases hp : piece ps c t n with
    | bad m => rw [hp] at h; cases h
    | ok z =>
     rw [hp] at h
     obtain ⟨z1, z2, z3⟩ := z
     have hlc : c ≠ 92 ∨ t ≠ [] := by
      cases t with
      | nil => left; rintro rfl; exact he rfl
      | cons a t => right; simp
     have hs := piece_rest hp
     have hsl := hs.length_le
     simp only at hs hsl
     rw [piece_more hy x hp hlc]
     simp only [List.length_cons] at hl
     exact ih _ _ _ _ h (by omega) (last_rest (hs.trans (List.suffix_cons _ _)) he) g (by omega)
theorem word_rest : ∀ (f : Nat) (ps : List Prt) (l : Bytes) (n : Nat) (st : St), word f (ps, l, n) = .ok st → st.2.1 <:+ l := by
 intro f
 induction f with
 | zero => intro ps l n st h; injection h with h; rw [← h]; exact List.suffix_refl _
 | succ f ih =>
  intro ps l n st h
  cases l with
  | nil => rw [word] at h; injection h with h; rw [← h]; exact List.suffix_refl _
  | cons c t =>
   rw [word_cons] at h
   split at h
   ·injection h with h; rw [← h]; exact List.suffix_refl _
   ·cases hp : piece ps c t n with
    | bad m => rw [hp] at h; cases h
    | ok z =>
     rw [hp] at h
     obtain ⟨z1, z2, z3⟩ := z
     exact ((ih _ _ _ _ h).trans (piece_rest hp)).trans (List.suffix_cons _ _)
def Step.more (z : Bytes) : Step → Step
 | .skip r n => .skip (r ++ z) n
 | .tok t r n => .tok t (r ++ z) n
 | .bad n => .bad n
theorem take2_more {y : UInt8} (hy : gap y) (x l : Bytes) : ((l ++ y :: x).take 2 = [62, 62] ∨ (l ++ y :: x).take 2 = [62, 38]) ↔ (l.take 2 = [62, 62] ∨ l.take 2 = [62, 38]) := by
 have n62 : y ≠ 62 := by rintro rfl; rcases hy with h | h | h <;> cases h
 have n38 : y ≠ 38 := by rintro rfl; rcases hy with h | h | h <;> cases h
 match l with
 | [] => simp [n62]
 | [a] => simp [n62, n38]
 | a :: b :: l => simp
theorem ioS_more {y : UInt8} (hy : gap y) (x l : Bytes) (hl : l ≠ []) (fd : Int) (n0 n : Nat) : ioS (l ++ y :: x) fd n0 n = (ioS l fd n0 n).more (y :: x) := by
 have h1 : (l ++ y :: x).take 1 = l.take 1 ∧ (l ++ y :: x).drop 1 = l.drop 1 ++ y :: x := by
  cases l with
  | nil => exact absurd rfl hl
  | cons a l => exact ⟨rfl, rfl⟩
 unfold ioS
 by_cases h : l.take 2 = [62, 62] ∨ l.take 2 = [62, 38]
 ·have h2 : (l ++ y :: x).take 2 = l.take 2 ∧ (l ++ y :: x).drop 2 = l.drop 2 ++ y :: x := by
   match l, h with
   | [], h => rcases h with h | h <;> cases h
   | [a], h => rcases h with h | h <;> cases h
   | a :: b :: l, _ => exact ⟨rfl, rfl⟩
  rw [if_pos h, if_pos ((take2_more hy x l).2 h), h2.1, h2.2]; rfl
 ·rw [if_neg h, if_neg (fun e => h ((take2_more hy x l).1 e)), h1.1, h1.2]; rfl
theorem drop_more (p : UInt8 → Bool) : ∀ (t z : Bytes), (∃ c ∈ t, p c = false) → (t ++ z).dropWhile p = t.dropWhile p ++ z
 | [], z, h => by obtain ⟨c, hc, _⟩ := h; cases hc
 | c :: t, z, h => by
  rw [List.cons_append, List.dropWhile_cons, List.dropWhile_cons]
  cases hp : p c
  ·rfl
  ·simp only [if_true]
   refine drop_more p t z ?_
   obtain ⟨d, hd, h2⟩ := h
   rcases List.mem_cons.1 hd with rfl | hd
   ·rw [hp] at h2; cases h2
   ·exact ⟨d, hd, h2⟩
theorem drop_none (p : UInt8 → Bool) : ∀ (t z : Bytes), (∀ c ∈ t, p c = true) → (t ++ z).dropWhile p = z.dropWhile p
 | [], z, h => rfl
 | c :: t, z, h => by
  rw [List.cons_append, List.dropWhile_cons, if_pos (h c (by simp))]
  exact drop_none p t z fun d hd => h d (List.mem_cons_of_mem _ hd)
theorem drop_all (p : UInt8 → Bool) (t : Bytes) (h : ∀ c ∈ t, p c = true) : t.dropWhile p = [] := by
 have := drop_none p t [] h
 simpa using this
/-- A step that is no comment without a line feed. -/
theorem step_more {y : UInt8} (hy : gap y) (x : Bytes) {c : UInt8} {t : Bytes} {n : Nat} (hb : ∀ m, step c t n ≠ .bad m) (he : (c :: t).getLast? ≠ some 92) (hc : c ≠ 35 ∨ 10 ∈ t) : step c (t ++ y :: x) n = (step c t n).more (y :: x) := by
 have hh : ∀ d : UInt8, ¬ gap d → ((t ++ y :: x).head? = some d ↔ t.head? = some d) := fun d hd => by
  cases t with
  | nil => simp; rintro rfl; exact hd hy
  | cons d t => simp
 have hdr : t ≠ [] → (t ++ y :: x).drop 1 = t.drop 1 ++ y :: x := fun h => by
  cases t with
  | nil => exact absurd rfl h
  | cons d t => rfl
 unfold step at hb ⊢
 by_cases h1 : c = 32 ∨ c = 9
 ·rw [if_pos h1, if_pos h1]; rfl
 rw [if_neg h1] at hb ⊢
 rw [if_neg h1]
 by_cases h2 : c = 35
 ·rw [if_pos h2, if_pos h2]
  have h10 : 10 ∈ t := by rcases hc with h | h; exact absurd h2 h; exact h
  rw [drop_more _ t _ ⟨10, h10, rfl⟩]; rfl
 rw [if_neg h2] at hb ⊢
 rw [if_neg h2]
 by_cases h3 : c = 10
 ·rw [if_pos h3, if_pos h3]; rfl
 rw [if_neg h3] at hb ⊢
 rw [if_neg h3]
 by_cases h4 : c = 124 ∨ c = 38 ∨ c = 59
 ·rw [if_pos h4, if_pos h4]
  have hg : ¬ gap c := by rintro (h | h | h) <;> subst h <;> rcases h4 with h | h | h <;> cases h
  by_cases h5 : t.head? = some c
  ·rw [if_pos h5, if_pos ((hh c hg).2 h5), hdr (by rintro rfl; cases h5)]; rfl
  ·rw [if_neg h5, if_neg (fun e => h5 ((hh c hg).1 e))]; rfl
 rw [if_neg h4] at hb ⊢
 rw [if_neg h4]
 by_cases h5 : c = 40 ∨ c = 41
 ·rw [if_pos h5, if_pos h5]; rfl
 rw [if_neg h5] at hb ⊢
 rw [if_neg h5]
 by_cases h6 : c = 60 ∨ c = 62
 ·rw [if_pos h6, if_pos h6]
  exact ioS_more hy x (c :: t) (by simp) _ _ _
 rw [if_neg h6] at hb ⊢
 rw [if_neg h6]
 by_cases h7 : c = 92 ∧ t.head? = some 10
 ·have h8 : c = 92 ∧ (t ++ y :: x).head? = some 10 := by
   refine ⟨h7.1, ?_⟩
   cases t with
   | nil => cases h7.2
   | cons d t => exact h7.2
  rw [if_pos h7, if_pos h8, hdr (by rintro rfl; cases h7.2)]; rfl
 rw [if_neg h7] at hb ⊢
 have h8 : ¬ (c = 92 ∧ (t ++ y :: x).head? = some 10) := by
  rintro ⟨e1, e2⟩
  cases t with
  | nil => subst e1; exact he rfl
  | cons d t => exact h7 ⟨e1, e2⟩
 rw [if_neg h8]
 cases hw : word (t.length + 2) ([], c :: t, n) with
 | bad m => rw [hw] at hb; exact absurd rfl (hb m)
 | ok st =>
  obtain ⟨ps, r, m⟩ := st
  have hm := word_more hy x _ _ _ _ _ hw (by simp only [List.length_cons]; omega) he ((t ++ y :: x).length + 2) (by simp only [List.length_append]; omega)
  rw [List.cons_append] at hm
  rw [hm]
  simp only
  cases hnum : number (plainOf ps) with
  | none => rfl
  | some fd =>
   simp only
   have hr : ((r ++ y :: x).head? = some 60 ∨ (r ++ y :: x).head? = some 62) ↔ (r.head? = some 60 ∨ r.head? = some 62) := by
    cases r with
    | nil =>
     simp
     constructor <;> (rintro rfl; rcases hy with h | h | h <;> cases h)
    | cons d r => simp
   by_cases h9 : r.head? = some 60 ∨ r.head? = some 62
   ·rw [if_pos h9, if_pos (hr.2 h9)]
    exact ioS_more hy x r (by rintro rfl; rcases h9 with h | h <;> cases h) _ _ _
   ·rw [if_neg h9, if_neg (fun e => h9 (hr.1 e))]; rfl
/-- What is left behind a step. -/
def Step.rest : Step → Bytes
 | .skip r _ => r
 | .tok _ r _ => r
 | .bad _ => []
theorem ioS_rest (l : Bytes) (fd : Int) (n0 n : Nat) : (ioS l fd n0 n).rest <:+ l := by
 unfold ioS
 split <;> exact List.drop_suffix _ _
theorem step_rest (c : UInt8) (t : Bytes) (n : Nat) : (step c t n).rest <:+ c :: t := by
 have ht : t <:+ c :: t := List.suffix_cons _ _
 unfold step
 split
 ·exact ht
 ·split
  ·exact (List.dropWhile_suffix _).trans ht
  ·split
   ·exact ht
   ·split
    ·split
     ·exact (List.drop_suffix _ _).trans ht
     ·exact ht
    ·split
     ·exact ht
     ·split
      ·exact ioS_rest _ _ _ _
      ·split
       ·exact (List.drop_suffix _ _).trans ht
       ·cases hw : word (t.length + 2) ([], c :: t, n) with
        | bad m => exact List.nil_suffix
        | ok st =>
         obtain ⟨ps, r, m⟩ := st
         have h2 := word_rest _ _ _ _ _ hw
         simp only
         split
         ·split
          ·exact (ioS_rest _ _ _ _).trans h2
          ·exact h2
         ·exact h2
/-- How reading ends: at the end, with its line; or with an error. -/
inductive Fin where
 | fin (line : Nat)
 | bad (line : Nat)
/-- All tokens, without a limit. -/
def raw : Nat → Bytes → Nat → List Tok × Fin
 | 0, _, n => ([], .fin n)
 | _ + 1, [], n => ([], .fin n)
 | f + 1, c :: t, n => match step c t n with
  | .bad m => ([], .bad m)
  | .skip r m => raw f r m
  | .tok x r m => (x :: (raw f r m).1, (raw f r m).2)
theorem raw_cons (f : Nat) (c : UInt8) (t : Bytes) (n : Nat) : raw (f + 1) (c :: t) n = (match step c t n with
  | .bad m => ([], .bad m)
  | .skip r m => raw f r m
  | .tok x r m => (x :: (raw f r m).1, (raw f r m).2)) := rfl
theorem step_lt (c : UInt8) (t : Bytes) (n : Nat) : (step c t n).rest.length < (c :: t).length := by
 have hd : ∀ k, (t.drop k).length < (c :: t).length := fun k => by rw [List.length_drop]; simp only [List.length_cons]; omega
 unfold step
 split
 ·simp [Step.rest]
 ·split
  ·have := (List.dropWhile_suffix (l := t) (p := (· != 10))).length_le
   simp only [Step.rest, List.length_cons]; omega
  ·split
   ·simp [Step.rest]
   ·split
    ·split
     ·exact hd 1
     ·simp [Step.rest]
    ·split
     ·simp [Step.rest]
     ·split
      ·unfold ioS
       split
       ·simp [Step.rest]; omega
       ·simp [Step.rest]
      ·split
       ·exact hd 1
       ·rename_i h32 h35 h10 h124 h40 h60 h92
        cases hw : word (t.length + 2) ([], c :: t, n) with
        | bad m => simp [Step.rest]
        | ok st =>
         obtain ⟨ps, r, m⟩ := st
         -- a word's first piece takes at least its first byte
         have hr : r.length < (c :: t).length := by
          rw [word_cons] at hw
          have he : ends c = false := by
           simp only [not_or] at h32 h124 h40 h60
           unfold ends
           simp [h32.1, h32.2, h10, h124.1, h124.2.1, h124.2.2, h40.1, h40.2, h60.1, h60.2]
          rw [he] at hw
          simp only [Bool.false_eq_true, if_false] at hw
          cases hp : piece [] c t n with
          | bad m => rw [hp] at hw; cases hw
          | ok z =>
           rw [hp] at hw
           obtain ⟨z1, z2, z3⟩ := z
           have h1 := (piece_rest hp).length_le
           have h2 := (word_rest _ _ _ _ _ hw).length_le
           simp only at h1 h2
           simp only [List.length_cons]; omega
         simp only
         split
         ·split
          ·have := (ioS_rest r (by assumption) n m).length_le
           omega
          ·exact hr
         ·exact hr
theorem raw_fuel : ∀ (f g : Nat) (l : Bytes) (n : Nat), l.length < f → l.length < g → raw f l n = raw g l n := by
 intro f
 induction f with
 | zero => intro g l n h; omega
 | succ f ih =>
  intro g l n hf hg
  obtain ⟨g, rfl⟩ : ∃ g', g = g' + 1 := ⟨g - 1, by omega⟩
  cases l with
  | nil => rfl
  | cons c t =>
   rw [raw_cons, raw_cons]
   have hl := step_lt c t n
   cases hs : step c t n with
   | bad m => rfl
   | skip r m =>
    rw [hs] at hl
    simp only [Step.rest, List.length_cons] at hl hf hg
    exact ih g r m (by omega) (by omega)
   | tok x r m =>
    rw [hs] at hl
    simp only [Step.rest, List.length_cons] at hl hf hg
    simp only
    rw [ih g r m (by omega) (by omega)]
def rawl (l : Bytes) (n : Nat) : List Tok × Fin := raw (l.length + 1) l n
theorem rawl_nil (n : Nat) : rawl [] n = ([], .fin n) := rfl
theorem rawl_cons (c : UInt8) (t : Bytes) (n : Nat) : rawl (c :: t) n = (match step c t n with
  | .bad m => ([], .bad m)
  | .skip r m => rawl r m
  | .tok x r m => (x :: (rawl r m).1, (rawl r m).2)) := by
 have hl := step_lt c t n
 unfold rawl
 rw [raw_cons]
 cases hs : step c t n with
 | bad m => rfl
 | skip r m =>
  rw [hs] at hl
  simp only [Step.rest] at hl
  exact raw_fuel _ _ _ _ (by omega) (by omega)
 | tok x r m =>
  rw [hs] at hl
  simp only [Step.rest] at hl
  simp only
  rw [raw_fuel (c :: t).length (r.length + 1) r m (by omega) (by omega)]
/-- The limit, laid on what is read. -/
def lim (out : List Tok) (x : List Tok × Fin) : Res :=
 match x.1[2000 - out.length]? with
 | some t => .err true t.line
 | none => match x.2 with
  | .bad m => .err false m
  | .fin n => .ok (out ++ x.1 ++ [endT n])
theorem run_lim : ∀ (f : Nat) (out : List Tok) (l : Bytes) (n : Nat), l.length < f → out.length ≤ 2000 → run f out l n = lim out (rawl l n) := by
 intro f
 induction f with
 | zero => intro out l n h; omega
 | succ f ih =>
  intro out l n hf ho
  cases l with
  | nil => rw [run, rawl_nil]; simp [lim]
  | cons c t =>
   have hl := step_lt c t n
   rw [rawl_cons]
   show (match step c t n with
    | .bad m => Res.err false m
    | .skip r m => run f out r m
    | .tok x r m => if 2000 ≤ out.length then .err true x.line else run f (out ++ [x]) r m) = _
   cases hs : step c t n with
   | bad m => simp [lim]
   | skip r m =>
    rw [hs] at hl
    simp only [Step.rest, List.length_cons] at hl hf
    exact ih out r m (by omega) ho
   | tok x r m =>
    rw [hs] at hl
    simp only [Step.rest, List.length_cons] at hl hf
    simp only
    by_cases h2 : 2000 ≤ out.length
    ·rw [if_pos h2]
     unfold lim
     rw [show 2000 - out.length = 0 by omega]
     rfl
    ·rw [if_neg h2, ih (out ++ [x]) r m (by omega) (by simp; omega)]
     unfold lim
     rw [List.length_append, List.length_singleton, show 2000 - out.length = (2000 - (out.length + 1)) + 1 by omega, List.getElem?_cons_succ]
     cases (rawl r m).1[2000 - (out.length + 1)]? with
     | some z => rfl
     | none =>
      cases hz : (rawl r m).2 with
      | bad m => simp
      | fin m => simp
theorem lex_lim (s : Bytes) (h : s.length ≤ 8000) : lex s = lim [] (rawl s 1) := by
 unfold lex
 rw [if_neg (by omega), run_lim _ _ _ _ (by omega) (by simp)]
/-- What follows a gap is read as if it stood alone. -/
theorem rawl_more {y : UInt8} (hy : gap y) (x : Bytes) (hc : ∀ m, rawl ((y :: x).dropWhile (· != 10)) m = rawl (y :: x) m) : ∀ (k : Nat) (l : Bytes) (n m : Nat), l.length ≤ k → (rawl l n).2 = .fin m → l.getLast? ≠ some 92 → rawl (l ++ y :: x) n = ((rawl l n).1 ++ (rawl (y :: x) m).1, (rawl (y :: x) m).2) := by
 intro k
 induction k with
 | zero =>
  intro l n m hl h he
  obtain rfl := List.eq_nil_of_length_eq_zero (Nat.le_zero.1 hl)
  rw [rawl_nil] at h ⊢
  injection h with h
  subst h; rfl
 | succ k ih =>
  intro l n m hl h he
  cases l with
  | nil =>
   rw [rawl_nil] at h ⊢
   injection h with h
   subst h; rfl
  | cons c t =>
   have hlt := step_lt c t n
   have hsuf := step_rest c t n
   rw [rawl_cons] at h ⊢
   rw [List.cons_append, rawl_cons]
   by_cases hcm : c ≠ 35 ∨ 10 ∈ t
   ·have hnb : ∀ m, step c t n ≠ .bad m := fun m e => by rw [e] at h; cases h
    rw [step_more hy x hnb he hcm]
    cases hs : step c t n with
    | bad m => exact absurd hs (hnb m)
    | skip r m' =>
     rw [hs] at h hlt hsuf
     simp only [Step.rest, List.length_cons] at hlt hl
     exact ih r m' m (by omega) h (last_rest hsuf he)
    | tok z r m' =>
     rw [hs] at h hlt hsuf
     simp only [Step.rest, List.length_cons] at hlt hl
     simp only [Step.more]
     rw [ih r m' m (by omega) h (last_rest hsuf he)]
     rfl
   ·-- a comment up to the end
    simp only [not_or, Decidable.not_not] at hcm
    obtain ⟨rfl, h10⟩ := hcm
    have hs : ∀ u, step 35 u n = .skip (u.dropWhile (· != 10)) n := fun u => rfl
    have hal : ∀ c ∈ t, (c != 10) = true := fun c hc => by
     rw [bne_iff_ne]; rintro rfl; exact h10 hc
    rw [hs] at h ⊢
    rw [hs]
    simp only at h ⊢
    rw [drop_all _ t hal, rawl_nil] at h ⊢
    rw [drop_none _ t _ hal, hc n]
    injection h with h
    subst h; rfl
end Go.Proofs.YtgboffbbpmileaaGreatDoor
