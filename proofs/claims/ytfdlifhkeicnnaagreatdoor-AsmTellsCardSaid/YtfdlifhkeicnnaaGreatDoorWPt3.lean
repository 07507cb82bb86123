/- Lemmas and walks for the law LawTells (part 3). -/
import Derived.Test.YtfdlifhkeicnnaaGreatDoorWPt2
import Derived.Lib.ItoaNum
import Derived.Lib.AtoiAll
import Derived.Lib.ItoaLen
import Derived.Lib.Bytealg
import Derived.Laws.AppendOwn
/- Numbers as text: what the digits spell, that no two numbers have one text, and that a number's text is read back. Of no program. -/
set_option linter.unusedVariables false
set_option linter.unusedSimpArgs false
namespace Go.Proofs.YtfdlifhkeicnnaaGreatDoor
open Go
def val (l : List UInt8) : Nat := l.foldl (fun s d => s * 10 + (d.toNat - 48)) 0
theorem val_snoc (l : List UInt8) (d : UInt8) : val (l ++ [d]) = val l * 10 + (d.toNat - 48) := by simp [val, List.foldl_append]
theorem digit_nat (k : Nat) (h : k < 10) : (UInt8.ofNat (48 + k)).toNat = 48 + k := by rw [UInt8.toNat_ofNat']; omega
theorem val_digits (k : Nat) : val (Lib.decDigits k) = k := by
 induction k using Nat.strongRecOn with
 | _ k ih =>
  rw [Lib.decDigits]
  split
  ·rename_i h
   show 0 * 10 + ((UInt8.ofNat (48 + k)).toNat - 48) = k
   rw [digit_nat k h]; omega
  ·rename_i h
   rw [val_snoc, ih (k / 10) (by omega), digit_nat _ (by omega)]; omega
theorem digits_in (k : Nat) : ∀ d ∈ Lib.decDigits k, 48 ≤ d.toNat ∧ d.toNat ≤ 57 := by
 induction k using Nat.strongRecOn with
 | _ k ih =>
  rw [Lib.decDigits]
  split
  ·rename_i h; intro d hd; rw [List.mem_singleton] at hd; subst hd; rw [digit_nat k h]; omega
  ·rename_i h
   intro d hd
   rcases List.mem_append.1 hd with hd | hd
   ·exact ih (k / 10) (by omega) d hd
   ·rw [List.mem_singleton] at hd; subst hd; rw [digit_nat (k % 10) (by omega)]; omega
theorem digits_ne (k : Nat) : Lib.decDigits k ≠ [] := by
 rw [Lib.decDigits]; split <;> simp
theorem val_acc : ∀ (l : List UInt8) (a : Nat), l.foldl (fun s d => s * 10 + (d.toNat - 48)) a = a * 10 ^ l.length + val l
 | [], a => by simp [val]
 | d :: l, a => by
  have h1 := val_acc l (a * 10 + (d.toNat - 48))
  have h2 := val_acc l (0 * 10 + (d.toNat - 48))
  simp only [List.foldl_cons, List.length_cons, val] at h1 h2 ⊢
  rw [h1, h2, Nat.pow_succ]
  simp only [Nat.add_mul, Nat.zero_mul, Nat.zero_add, Nat.mul_assoc, Nat.mul_comm 10]
  omega
theorem val_cons (d : UInt8) (l : List UInt8) : val (d :: l) = (d.toNat - 48) * 10 ^ l.length + val l := by
 have := val_acc l (0 * 10 + (d.toNat - 48))
 simpa [val] using this
theorem parse_digits : ∀ (l : List UInt8) (a : Nat), (∀ d ∈ l, 48 ≤ d.toNat ∧ d.toNat ≤ 57) → a * 10 ^ l.length + val l < 18446744073709551616 → Lib.parseUint10 a l = .ok (a * 10 ^ l.length + val l)
 | [], a, _, _ => by simp [Lib.parseUint10, val]
 | d :: l, a, hd, hb => by
  have h1 := hd d (by simp)
  have hv := val_cons d l
  have hp : 0 < 10 ^ l.length := Nat.pow_pos (by decide)
  have e : a * 10 ^ (d :: l).length + val (d :: l) = (a * 10 + (d.toNat - 48)) * 10 ^ l.length + val l := by
   rw [hv, List.length_cons, Nat.pow_succ, Nat.add_mul, Nat.mul_assoc, Nat.mul_comm 10]; omega
  rw [e] at hb ⊢
  have hs : a * 10 + (d.toNat - 48) ≤ (a * 10 + (d.toNat - 48)) * 10 ^ l.length := Nat.le_mul_of_pos_right _ hp
  unfold Lib.parseUint10
  rw [if_pos h1, if_neg (by omega), if_neg (by omega)]
  exact parse_digits l _ (fun x hx => hd x (List.mem_cons_of_mem _ hx)) hb
theorem parse_dec (k : Nat) (h : k < 18446744073709551616) : Lib.parseMag (Lib.decDigits k) = .ok k := by
 unfold Lib.parseMag
 rw [if_neg (digits_ne k), parse_digits _ 0 (digits_in k) (by rw [val_digits]; omega), val_digits]
 simp
/-- What Itoa writes, Atoi reads. -/
theorem atoi_itoa {n : Int} (h0 : -9223372036854775808 ≤ n) (h1 : n ≤ 9223372036854775807) : Lib.atoiAll (Lib.itoa n) = .ok n := by
 unfold Lib.itoa
 split
 ·rename_i hn
  unfold Lib.atoiAll
  have e : (45 : UInt8).toNat = 45 := rfl
  simp only [e, or_true, if_true]
  rw [parse_dec _ (by omega)]
  simp only [not_true, false_and, if_false]
  rw [if_neg (by simp; omega)]
  congr 1; omega
 ·rename_i hn
  cases hd : Lib.decDigits n.toNat with
  | nil => exact absurd hd (digits_ne _)
  | cons c r =>
   have hc := digits_in n.toNat c (by rw [hd]; simp)
   unfold Lib.atoiAll
   simp only
   rw [if_neg (by omega), ← hd, parse_dec _ (by omega)]
   simp only
   rw [if_neg (by omega), if_neg (by omega), if_neg (by omega)]
   congr 1; omega
/-- The number whose text a list is, if there is one among Go's ints. -/
def canon (l : List UInt8) : Option Int := match Lib.atoiAll l with
 | .ok n => if Lib.itoa n = l then some n else none
 | _ => none
theorem canon_itoa {n : Int} (h0 : -9223372036854775808 ≤ n) (h1 : n ≤ 9223372036854775807) : canon (Lib.itoa n) = some n := by
 unfold canon; rw [atoi_itoa h0 h1]; simp
theorem atoi_range {l : List UInt8} {n : Int} (h : Lib.atoiAll l = .ok n) : -9223372036854775808 ≤ n ∧ n ≤ 9223372036854775807 := by
 unfold Lib.atoiAll at h
 split at h
 ·cases h
 ·simp only at h
  split at h
  ·cases h
  ·cases h
  ·rename_i u hu
   split at h
   ·cases h
   ·rename_i c1
    split at h
    ·cases h
    ·rename_i c2
     injection h with h
     split at h <;> omega
theorem canon_some {l : List UInt8} {n : Int} (h : canon l = some n) : Lib.itoa n = l ∧ -9223372036854775808 ≤ n ∧ n ≤ 9223372036854775807 := by
 unfold canon at h
 split at h
 ·rename_i m hm
  split at h
  ·rename_i he
   obtain rfl := Option.some.inj h
   exact ⟨he, atoi_range hm⟩
  ·cases h
 ·cases h
abbrev Bytes := List UInt8
def hexB (n : Nat) : UInt8 := [48, 49, 50, 51, 52, 53, 54, 55, 56, 57, 97, 98, 99, 100, 101, 102].getD n 0
def qb (c : UInt8) : Bytes :=
 if c = 34 ∨ c = 92 then [92, c] else if c = 10 then [92, 110] else if 32 ≤ c.toNat ∧ c.toNat ≤ 126 then [c] else [92, 120, hexB (c.toNat / 16), hexB (c.toNat % 16)]
def quoteB (s : Bytes) : Bytes := 34 :: (s.flatMap qb ++ [34])
def magicB (c : UInt8) : Bool := c = 42 || c = 63 || c = 91 || c = 92
def eb (c : UInt8) : Bytes := if magicB c then [92, c] else [c]
theorem hex_at (m : Nat) (h : m < (⟨#[48, 49, 50, 51, 52, 53, 54, 55, 56, 57, 97, 98, 99, 100, 101, 102]⟩ : ByteArray).size) : (⟨#[48, 49, 50, 51, 52, 53, 54, 55, 56, 57, 97, 98, 99, 100, 101, 102]⟩ : ByteArray)[m]'h = hexB m := by
 have h2 : m < 16 := h
 have : m = 0 ∨ m = 1 ∨ m = 2 ∨ m = 3 ∨ m = 4 ∨ m = 5 ∨ m = 6 ∨ m = 7 ∨ m = 8 ∨ m = 9 ∨ m = 10 ∨ m = 11 ∨ m = 12 ∨ m = 13 ∨ m = 14 ∨ m = 15 := by omega
 rcases this with h | h | h | h | h | h | h | h | h | h | h | h | h | h | h | h <;> subst h <;> rfl
theorem qb_len (c : UInt8) : (qb c).length ≤ 4 := by unfold qb; split <;> (try split) <;> (try split) <;> simp
theorem flat_le {α : Type} (enc : α → Bytes) (c : Nat) : ∀ l : List α, (∀ x ∈ l, (enc x).length ≤ c) → (l.flatMap enc).length ≤ l.length * c
 | [], _ => by simp
 | x :: l, h => by
  have h1 := flat_le enc c l (fun y hy => h y (List.mem_cons_of_mem _ hy))
  have h2 := h x (by simp)
  simp only [List.flatMap_cons, List.length_append, List.length_cons, Nat.add_mul]; omega
theorem flat_take {α : Type} (f : α → Bytes) {l : List α} {k : Nat} {x : α} (h : l[k]? = some x) : (l.take (k + 1)).flatMap f = (l.take k).flatMap f ++ f x := by
 rw [List.take_add_one, h]; simp
theorem szl (x : ByteArray) : x.data.toList.length = x.size := by simp
theorem ba_ext {x y : ByteArray} (h : x.data.toList = y.data.toList) : x = y := by
 cases x; cases y; congr 1; exact Array.toList_inj.1 h
theorem ext_list (s : ByteArray) (i j : Nat) : (s.extract i j).data.toList = (s.data.toList.take j).drop i := by
 rw [ByteArray.data_extract, Array.toList_extract]
 simp [List.extract, List.drop_take]
theorem byte_at {s : ByteArray} {i : Nat} {c : UInt8} (h : s.data.toList[i]? = some c) (hi : i < s.size) : s[i]'hi = c := by
 have h1 : s.data.toList[i]? = some (s[i]'hi) := by
  rw [List.getElem?_eq_getElem (by simpa using hi)]
  rfl
 rw [h] at h1; exact (Option.some.inj h1).symm
theorem nb34 : ((34 : UInt8).toNat : Int) = 34 := rfl
theorem nb92 : ((92 : UInt8).toNat : Int) = 92 := rfl
theorem nb10 : ((10 : UInt8).toNat : Int) = 10 := rfl
/-- The result, or the number of an error. -/
inductive Rs (α : Type) where
 | ok (a : α)
 | bad (e : Nat)
 deriving DecidableEq
def Rs.bind {α β : Type} : Rs α → (α → Rs β) → Rs β
 | .ok a, f => f a
 | .bad e, _ => .bad e
/-- The bytes of a name. -/
def nameC (first : Bool) (c : UInt8) : Bool := c == 95 || (97 ≤ c.toNat && c.toNat ≤ 122) || (65 ≤ c.toNat && c.toNat ≤ 90) || (!first && 48 ≤ c.toNat && c.toNat ≤ 57)
def named : Bytes → Bool
 | [] => false
 | c :: t => nameC true c && t.all (nameC false)
def hd (x : UInt8) : List Bytes → List Bytes
 | [] => [[x]]
 | p :: ps => (x :: p) :: ps
/-- A string divided at a byte that is not in a quotation, at most m times; q: within a quotation. -/
def dv (c : UInt8) : Nat → Bool → Bytes → List Bytes
 | _, _, [] => [[]]
 | m, q, x :: t =>
  if x = 34 then hd x (dv c m (!q) t)
  else if x = 92 ∧ q = true then (match t with
   | [] => [[x]]
   | y :: r => hd x (hd y (dv c m q r)))
  else if x = c ∧ q = false ∧ 0 < m then [] :: dv c (m - 1) q t
  else hd x (dv c m q t)
def blank (c : UInt8) : Bool := c == 32 || c == 9
def trim (s : Bytes) : Bytes := (s.reverse.dropWhile blank).reverse.dropWhile blank
/-- What a line says. -/
structure Stm where
 labels : List Bytes
 op : Bytes
 ops : List Bytes
 deriving DecidableEq
/-- The labels of a line, and what follows them. -/
def readL : Nat → Bytes → List Bytes × Bytes
 | 0, r => ([], r)
 | f + 1, r => match dv 58 1 false r with
  | a :: b :: _ => (trim a :: (readL f (trim b)).1, (readL f (trim b)).2)
  | _ => ([], r)
def rest (line : Bytes) : Bytes := trim ((dv 59 1 false line).headD [])
def read (line : Bytes) : Stm :=
 let x := readL ((rest line).length + 1) (rest line)
 let op := x.2.takeWhile (fun c => !blank c)
 let tl := x.2.drop op.length
 ⟨x.1, op, if tl = [] then [] else (dv 44 x.2.length false tl).map trim⟩
def aligned (n : Nat) : Nat := (n + 3) / 4 * 4
/-- What the other packages answer: text.Int, text.Unquote, isa.Find, isa.Form, asm.Call, isa.Valid, isa.Encode. -/
structure Oth where
 int : Bytes → Option Int
 unq : Bytes → Option Bytes
 find : Bytes → Option Nat
 form : Nat → Nat
 call : Bytes → Option Nat
 valid : Nat → Int → Int → Int → Bool
 enc : Nat → Int → Int → Int → Bytes
variable (O : Oth)
def number (s : Bytes) (lo hi : Int) : Rs Int := match O.int s with
 | none => .bad 2
 | some n => if lo ≤ n ∧ n ≤ hi then .ok n else .bad 3
/-- The labels, with their addresses. -/
abbrev Labs := List (Bytes × Nat)
def look (L : Labs) (s : Bytes) : Option Nat := (L.find? (·.1 == s)).map (·.2)
def address (L : Labs) (s : Bytes) (last : Bool) : Rs Nat :=
 if named s then (match look L s with
  | some n => .ok n
  | none => if last then .bad 4 else .ok 0)
 else .bad 2
def byteOf (n : Int) : UInt8 := UInt8.ofNat (n % 256).toNat
def mapR {α β : Type} (f : α → Rs β) : List α → Rs (List β)
 | [] => .ok []
 | a :: l => match f a with
  | .bad e => .bad e
  | .ok b => match mapR f l with
   | .bad e => .bad e
   | .ok bs => .ok (b :: bs)
def dByte : Bytes := [46, 98, 121, 116, 101]
def dWord : Bytes := [46, 119, 111, 114, 100]
def dText : Bytes := [46, 116, 101, 120, 116]
def dSpace : Bytes := [46, 115, 112, 97, 99, 101]
def isDir (op : Bytes) : Bool := op == dByte || op == dWord || op == dText || op == dSpace
/-- The bytes of a directive. -/
def direct (L : Labs) (x : Stm) (last : Bool) : Rs Bytes :=
 if x.op = dByte then
  if x.ops = [] ∨ x.ops.any (fun s => (O.int s).isNone) then .bad 2
  else (match mapR (fun s => number O s (-128) 255) x.ops with
   | .bad e => .bad e
   | .ok l => .ok (l.map byteOf))
 else if x.op = dWord then
  if x.ops = [] ∨ x.ops.any (fun s => (O.int s).isNone && !named s) then .bad 2
  else (match mapR (fun s => if named s then (match address L s last with
    | .bad e => .bad e
    | .ok n => .ok (n : Int)) else number O s (-2147483648) 4294967295) x.ops with
   | .bad e => .bad e
   | .ok l => .ok (l.flatMap fun n => [byteOf n, byteOf (n / 256), byteOf (n / 65536), byteOf (n / 16777216)]))
 else if x.op = dText then (match x.ops with
  | [s] => (match O.unq s with
   | some u => .ok u
   | none => .bad 2)
  | _ => .bad 2)
 else (match x.ops with
  | [s] => (match number O s 0 4096 with
   | .ok n => .ok (List.replicate n.toNat 0)
   | .bad e => .bad e)
  | _ => .bad 2)
def register (s : Bytes) : Rs Int := match s with
 | [114, d] => if 48 ≤ d.toNat ∧ d.toNat ≤ 55 then .ok ((d.toNat : Int) - 48) else .bad 2
 | _ => .bad 2
def integer (s : Bytes) : Rs Int := match O.int s with
 | some n => .ok n
 | none => .bad 2
def target (L : Labs) (at_ op : Nat) (s : Bytes) (last : Bool) : Rs Int := match O.int s with
 | some n => .ok n
 | none =>
  if op = 25 ∨ op = 26 ∨ op = 27 ∨ op = 28 ∨ op = 30 then (match address L s last with
   | .bad e => .bad e
   | .ok n => .ok ((n : Int) - (64 + at_ + 4)))
  else if op = 2 then (match address L s last with
   | .bad e => .bad e
   | .ok n => .ok (n : Int))
  else if op = 31 then (match O.call s with
   | some n => .ok (n : Int)
   | none => .bad 2)
  else .bad 2
/-- How many operands a format has. -/
def many (form : Nat) : Nat := [0, 1, 2, 3, 3, 2, 1].getD form 0
/-- An instruction: its registers and number. -/
def instr (L : Labs) (x : Stm) (at_ op : Nat) (last : Bool) : Rs (Int × Int × Int) :=
 if x.ops.length ≠ many (O.form op) then .bad 2
 else match O.form op, x.ops with
  | 1, [a] => (register a).bind fun a => .ok (a, 0, 0)
  | 2, [a, b] => (register a).bind fun a => (register b).bind fun b => .ok (a, b, 0)
  | 3, [a, b, c] => (register a).bind fun a => (register b).bind fun b => (register c).bind fun c => .ok (a, b, c)
  | 4, [a, b, c] => (register a).bind fun a => (register b).bind fun b => (integer O c).bind fun c => .ok (a, b, c)
  | 5, [a, b] => (register a).bind fun a => (target O L at_ op b last).bind fun b => .ok (a, b, 0)
  | 6, [b] => (target O L at_ op b last).bind fun b => .ok (0, b, 0)
  | _, _ => .ok (0, 0, 0)
/-- The labels of a line, at an address. -/
def addL (L : Labs) (a : Nat) : List Bytes → Rs Labs
 | [] => .ok L
 | s :: l => if (look L s).isSome then .bad 5 else addL (L ++ [(s, a)]) a l
/-- The first pass: the length behind a statement, its place, and the labels. -/
def measure (x : Stm) (size : Nat) (L : Labs) : Rs (Nat × Nat × Labs) :=
 let ins := O.find x.op
 let at_ := if ins.isSome ∨ x.op = dWord then aligned size else size
 if x.labels.any (fun s => !named s) then .bad 2
 else if x.op ≠ [] ∧ ins = none ∧ isDir x.op = false then .bad 2
 else (addL L (64 + at_) x.labels).bind fun L =>
  if x.op = [] ∧ x.ops ≠ [] then .bad 2
  else (match ins with
   | some op => (instr O L x at_ op false).bind fun _ => .ok 4
   | none => if x.op = [] then .ok 0 else (direct O L x false).bind fun b => .ok b.length).bind fun n =>
   if 4096 < at_ + n then .bad 6 else .ok (at_ + n, at_, L)
/-- The second pass. -/
def emit (L : Labs) (x : Stm) (at_ : Nat) (code : Bytes) : Rs Bytes :=
 if x.op = [] then .ok code
 else
  let code := code ++ List.replicate (at_ - code.length) 0
  if isDir x.op then (direct O L x true).bind fun b => .ok (code ++ b)
  else match O.find x.op with
   | none => .ok code
   | some op => (instr O L x at_ op true).bind fun i => if O.valid op i.1 i.2.1 i.2.2 then .ok (code ++ O.enc op i.1 i.2.1 i.2.2) else .bad 3
/-- A pass over the lines: the error and its line. -/
inductive Ans (α : Type) where
 | ok (a : α)
 | bad (e line : Nat)
def pass1 : List Stm → Nat → Nat → Labs → Ans (List (Stm × Nat) × Nat × Labs)
 | [], _, size, L => .ok ([], size, L)
 | x :: l, n, size, L => match measure O x size L with
  | .bad e => .bad e n
  | .ok (size', at_, L') => match pass1 l (n + 1) size' L' with
   | .bad e m => .bad e m
   | .ok (r, s, L'') => .ok ((x, at_) :: r, s, L'')
def pass2 (L : Labs) : List (Stm × Nat) → Nat → Bytes → Ans Bytes
 | [], _, code => .ok code
 | (x, at_) :: l, n, code => match emit O L x at_ code with
  | .bad e => .bad e n
  | .ok code => pass2 L l (n + 1) code
/-- What Assemble answers, for the lines of a source. -/
def asm (lines : List Bytes) : Ans Bytes := match pass1 O (lines.map read) 1 0 [] with
 | .bad e m => .bad e m
 | .ok (r, _, L) => pass2 O L r 1 []
theorem pass1_snoc (y : Stm) : ∀ (l : List Stm) (n size : Nat) (L : Labs), pass1 O (l ++ [y]) n size L = (match pass1 O l n size L with
  | .bad e m => .bad e m
  | .ok (r, s, L') => match measure O y s L' with
   | .bad e => .bad e (n + l.length)
   | .ok (s', at_, L'') => .ok (r ++ [(y, at_)], s', L''))
 | [], n, size, L => by
  show (match measure O y size L with | _ => _) = _
  cases measure O y size L with
  | bad e => rfl
  | ok x => rfl
 | x :: l, n, size, L => by
  rw [List.cons_append]
  unfold pass1
  cases measure O x size L with
  | bad e => rfl
  | ok z =>
   obtain ⟨s, a, L'⟩ := z
   simp only
   rw [pass1_snoc y l (n + 1) s L']
   cases pass1 O l (n + 1) s L' with
   | bad e m => rfl
   | ok w =>
    obtain ⟨r, s2, L2⟩ := w
    simp only
    cases measure O y s2 L2 with
    | bad e =>
     simp only [List.length_cons]
     congr 1; omega
    | ok v => rfl
theorem pass2_snoc (L : Labs) (y : Stm) (a : Nat) : ∀ (l : List (Stm × Nat)) (n : Nat) (code : Bytes), pass2 O L (l ++ [(y, a)]) n code = (match pass2 O L l n code with
  | .bad e m => .bad e m
  | .ok c => match emit O L y a c with
   | .bad e => .bad e (n + l.length)
   | .ok c => .ok c)
 | [], n, code => by
  show (match emit O L y a code with | _ => _) = _
  cases emit O L y a code with
  | bad e => rfl
  | ok x => rfl
 | (x, b) :: l, n, code => by
  rw [List.cons_append]
  unfold pass2
  cases emit O L x b code with
  | bad e => rfl
  | ok c =>
   simp only
   rw [pass2_snoc L y a l (n + 1) c]
   cases pass2 O L l (n + 1) c with
   | bad e m => rfl
   | ok w =>
    simp only
    cases emit O L y a w with
    | bad e =>
     simp only [List.length_cons]
     congr 1; omega
    | ok v => rfl
theorem pass1_len : ∀ (l : List Stm) (n size : Nat) (L : Labs) (r : List (Stm × Nat)) (s : Nat) (L' : Labs), pass1 O l n size L = .ok (r, s, L') → r.length = l.length
 | [], n, size, L, r, s, L', h => by injection h with h; injection h with h1 h2; rw [← h1]; rfl
 | x :: l, n, size, L, r, s, L', h => by
  unfold pass1 at h
  cases hm : measure O x size L with
  | bad e' => rw [hm] at h; cases h
  | ok z =>
   obtain ⟨s1, a, L1⟩ := z
   rw [hm] at h
   simp only at h
   cases hp : pass1 O l (n + 1) s1 L1 with
   | bad e' m' => rw [hp] at h; cases h
   | ok w =>
    obtain ⟨r2, s2, L2⟩ := w
    rw [hp] at h
    injection h with h
    injection h with h1 h2
    rw [← h1, List.length_cons, List.length_cons, pass1_len l (n + 1) s1 L1 r2 s2 L2 hp]
theorem mapR_len {α β : Type} (f : α → Rs β) : ∀ (l : List α) (r : List β), mapR f l = .ok r → r.length = l.length
 | [], r, h => by injection h with h; rw [← h]; rfl
 | a :: l, r, h => by
  unfold mapR at h
  cases hf : f a with
  | bad e => rw [hf] at h; cases h
  | ok b =>
   rw [hf] at h
   simp only at h
   cases hm : mapR f l with
   | bad e => rw [hm] at h; cases h
   | ok bs => rw [hm] at h; injection h with h; rw [← h, List.length_cons, List.length_cons, mapR_len f l bs hm]
theorem flat4 (f : Int → Bytes) (hf : ∀ n, (f n).length = 4) : ∀ l : List Int, (l.flatMap f).length = 4 * l.length
 | [] => rfl
 | a :: l => by rw [List.flatMap_cons, List.length_append, hf, flat4 f hf l, List.length_cons]; omega
/-- How long a directive's bytes are does not depend on the labels. -/
theorem direct_len (L L' : Labs) (x : Stm) (b b' : Bool) (u v : Bytes) (h : direct O L x b = .ok u) (h' : direct O L' x b' = .ok v) : u.length = v.length := by
 unfold direct at h h'
 split at h
 ·rename_i hb
  rw [if_pos hb] at h'
  split at h
  ·cases h
  ·rename_i hc
   rw [if_neg hc] at h'
   cases hm : mapR (fun s => number O s (-128) 255) x.ops with
   | bad e => rw [hm] at h; cases h
   | ok l => rw [hm] at h h'; injection h with h; injection h' with h'; rw [← h, ← h']
 ·rename_i hb
  rw [if_neg hb] at h'
  split at h
  ·rename_i hw
   rw [if_pos hw] at h'
   split at h
   ·cases h
   ·rename_i hc
    rw [if_neg hc] at h'
    split at h
    ·cases h
    ·rename_i l hl
     injection h with h
     split at h'
     ·cases h'
     ·rename_i l' hl'
      injection h' with h'
      rw [← h, ← h', flat4 _ (fun _ => rfl), flat4 _ (fun _ => rfl), mapR_len _ _ _ hl, mapR_len _ _ _ hl']
  ·rename_i hw
   rw [if_neg hw] at h'
   split at h
   ·rename_i ht
    rw [if_pos ht] at h'
    rw [h] at h'
    injection h' with h'; rw [h']
   ·rename_i ht
    rw [if_neg ht] at h'
    rw [h] at h'
    injection h' with h'; rw [h']
/-- What is told of the other packages. -/
structure Oth.Fine (O : Oth) : Prop where
 nil : O.find [] = none
 word : O.find dWord = none
 dir : ∀ op, isDir op = true → O.find op = none
 enc : ∀ op a b c, O.valid op a b c = true → (O.enc op a b c).length = 4
theorem measure_at (F : O.Fine) {x : Stm} {size : Nat} {L : Labs} {s a : Nat} {L' : Labs} (h : measure O x size L = .ok (s, a, L')) : a = (if (O.find x.op).isSome ∨ x.op = dWord then aligned size else size) ∧ s ≤ 4096 ∧ a ≤ s ∧ addL L (64 + a) x.labels = .ok L' ∧ (x.op = [] → s = a) ∧ (∀ op, O.find x.op = some op → s = a + 4) ∧ (O.find x.op = none → x.op ≠ [] → isDir x.op = true ∧ ∃ b, direct O L' x false = .ok b ∧ s = a + b.length) := by
 unfold measure at h
 simp only at h
 split at h
 ·cases h
 ·split at h
  ·cases h
  ·rename_i hop
   generalize ha : (if (O.find x.op).isSome = true ∨ x.op = dWord then aligned size else size) = a0 at h
   cases hL : addL L (64 + a0) x.labels with
   | bad e => rw [hL] at h; cases h
   | ok L2 =>
    rw [hL] at h
    simp only [Rs.bind] at h
    split at h
    ·cases h
    ·rename_i hemp
     cases hf : O.find x.op with
     | some op =>
      rw [hf] at h
      simp only at h
      cases hi : instr O L2 x a0 op false with
      | bad e => rw [hi] at h; cases h
      | ok i =>
       rw [hi] at h
       simp only at h
       split at h
       ·cases h
       ·rename_i hle
        injection h with h
        injection h with h1 h2
        injection h2 with h3 h4
        subst h1; subst h3; subst h4
        exact ⟨rfl, by omega, by omega, hL, fun he => (by rw [he, F.nil] at hf; cases hf), fun _ _ => rfl, fun h => by cases h⟩
     | none =>
      rw [hf] at h
      simp only at h
      by_cases he : x.op = []
      ·rw [if_pos he] at h
       simp only at h
       split at h
       ·cases h
       ·rename_i hle
        injection h with h
        injection h with h1 h2
        injection h2 with h3 h4
        subst h1; subst h3; subst h4
        exact ⟨rfl, by omega, by omega, hL, fun _ => rfl, fun _ h => (by cases h), fun _ h => absurd he h⟩
      ·rw [if_neg he] at h
       cases hd : direct O L2 x false with
       | bad e => rw [hd] at h; cases h
       | ok b =>
        rw [hd] at h
        simp only at h
        split at h
        ·cases h
        ·rename_i hle
         injection h with h
         injection h with h1 h2
         injection h2 with h3 h4
         subst h1; subst h3; subst h4
         rw [hf] at hop
         have hdir : isDir x.op = true := by
          cases hq : isDir x.op with
          | true => rfl
          | false => exact absurd ⟨he, rfl, hq⟩ hop
         exact ⟨rfl, by omega, by omega, hL, fun h => absurd h he, fun _ h => (by cases h), fun _ _ => ⟨hdir, b, hd, rfl⟩⟩
theorem emit_len (F : O.Fine) {x : Stm} {size : Nat} {L L2 : Labs} {s a : Nat} {L' : Labs} (h : measure O x size L = .ok (s, a, L')) {code c : Bytes} (hc : code.length = size) (he : emit O L2 x a code = .ok c) : c.length = s ∧ ∃ z, c = code ++ z := by
 obtain ⟨h1, h2, h3, h4, h5, h6, h7⟩ := measure_at O F h
 have hal : ∀ n, n ≤ aligned n := fun n => by unfold aligned; omega
 unfold emit at he
 split at he
 ·rename_i hop
  injection he with he
  rw [← he, hc]
  have : (O.find x.op).isSome = false := by rw [hop, F.nil]; rfl
  rw [if_neg (by rw [this, hop]; simp [dWord])] at h1
  exact ⟨by rw [h5 hop, h1], [], by simp⟩
 ·rename_i hop
  have hsa : size ≤ a := by
   rw [h1]; split
   ·exact hal size
   ·exact Nat.le_refl _
  have hpad : (code ++ List.replicate (a - code.length) 0).length = a := by simp; omega
  simp only at he
  split at he
  ·rename_i hdir
   cases hd : direct O L2 x true with
   | bad e => rw [hd] at he; cases he
   | ok b =>
    rw [hd] at he
    injection he with he
    obtain ⟨_, b', hb', hs⟩ := h7 (F.dir _ hdir) hop
    have := direct_len O _ _ x _ _ _ _ hb' hd
    rw [← he]
    exact ⟨by rw [List.length_append, hpad]; omega, _, List.append_assoc _ _ _⟩
  ·rename_i hdir
   split at he
   ·rename_i hf
    exact absurd (h7 hf hop).1 (by simpa using hdir)
   ·rename_i op hf
    cases hi : instr O L2 x a op true with
    | bad e => rw [hi] at he; cases he
    | ok i =>
     rw [hi] at he
     simp only [Rs.bind] at he
     split at he
     ·rename_i hv
      injection he with he
      rw [← he]
      exact ⟨by rw [List.length_append, hpad, F.enc _ _ _ _ hv, h6 op hf], _, List.append_assoc _ _ _⟩
     ·cases he
theorem pass_len (F : O.Fine) : ∀ (l : List Stm) (n size : Nat) (L : Labs) (r : List (Stm × Nat)) (s : Nat) (L' LL : Labs) (m : Nat) (code c : Bytes), pass1 O l n size L = .ok (r, s, L') → code.length = size → pass2 O LL r m code = .ok c → c.length = s ∧ ∃ z, c = code ++ z
 | [], n, size, L, r, s, L', LL, m, code, c, h, hc, h2 => by
  injection h with h
  injection h with ha hb
  injection hb with hb hd
  subst ha; subst hb
  injection h2 with h2
  rw [← h2]
  exact ⟨hc, [], by simp⟩
 | x :: l, n, size, L, r, s, L', LL, m, code, c, h, hc, h2 => by
  unfold pass1 at h
  cases hm : measure O x size L with
  | bad e' => rw [hm] at h; cases h
  | ok z =>
   obtain ⟨s1, a, L1⟩ := z
   rw [hm] at h
   simp only at h
   cases hp : pass1 O l (n + 1) s1 L1 with
   | bad e' m' => rw [hp] at h; cases h
   | ok w =>
    obtain ⟨r2, s2, L2⟩ := w
    rw [hp] at h
    injection h with h
    injection h with ha hb
    injection hb with hb hd
    subst ha; subst hb
    unfold pass2 at h2
    cases he : emit O LL x a code with
    | bad e => rw [he] at h2; cases h2
    | ok c1 =>
     rw [he] at h2
     obtain ⟨k1, z1, k2⟩ := emit_len O F hm hc he
     obtain ⟨k3, z2, k4⟩ := pass_len F l _ _ _ _ _ _ LL _ _ _ hp k1 h2
     exact ⟨k3, z1 ++ z2, by rw [k4, k2, List.append_assoc]⟩
/-- What stood before is put ahead of the first piece. -/
def glue (pre : Bytes) : List Bytes → List Bytes
 | [] => [pre]
 | p :: ps => (pre ++ p) :: ps
theorem glue_hd (pre : Bytes) (x : UInt8) (D : List Bytes) : glue pre (hd x D) = glue (pre ++ [x]) D := by
 cases D with
 | nil => rfl
 | cons p ps => simp [glue, hd]
theorem hd_ne (x : UInt8) (D : List Bytes) : hd x D ≠ [] := by cases D <;> simp [hd]
theorem dv_nil (c : UInt8) (m : Nat) (q : Bool) : dv c m q [] = [[]] := by rw [dv]
theorem dv_cons (c : UInt8) (m : Nat) (q : Bool) (x : UInt8) (t : Bytes) : dv c m q (x :: t) = (if x = 34 then hd x (dv c m (!q) t)
  else if x = 92 ∧ q = true then (match t with
   | [] => [[x]]
   | y :: r => hd x (hd y (dv c m q r)))
  else if x = c ∧ q = false ∧ 0 < m then [] :: dv c (m - 1) q t
  else hd x (dv c m q t)) := by
 cases t with
 | nil => conv => lhs; rw [dv]
 | cons y r => conv => lhs; rw [dv]
theorem dv_ne (c : UInt8) (m : Nat) (q : Bool) (s : Bytes) : dv c m q s ≠ [] := by
 cases s with
 | nil => rw [dv_nil]; simp
 | cons x t =>
  rw [dv_cons]
  split
  ·exact hd_ne _ _
  ·split
   ·split
    ·simp
    ·exact hd_ne _ _
   ·split
    ·simp
    ·exact hd_ne _ _
theorem glue_nil {D : List Bytes} (h : D ≠ []) : glue [] D = D := by
 cases D with
 | nil => exact absurd rfl h
 | cons p ps => rfl
/-- Where divide stands: the pieces so far, where the piece began, the place, within a quotation. -/
def DvI (c : UInt8) (most : Nat) (s : Bytes) (V ps : List Bytes) (j k : Nat) (q : Bool) : Prop := V = ps ++ glue ((s.take k).drop j) (dv c (most - ps.length) q (s.drop k))
theorem cut_step {s : Bytes} {j k : Nat} {x : UInt8} (hx : s[k]? = some x) (hj : j ≤ k) : (s.take (k + 1)).drop j = (s.take k).drop j ++ [x] := by
 have hk := (List.getElem?_eq_some_iff.1 hx).1
 rw [List.take_add_one, hx, Option.toList_some, List.drop_append_of_le_length (by rw [List.length_take]; omega)]
theorem drop_step {s : Bytes} {k : Nat} {x : UInt8} (hx : s[k]? = some x) : s.drop k = x :: s.drop (k + 1) := by
 obtain ⟨h1, h2⟩ := List.getElem?_eq_some_iff.1 hx
 rw [List.drop_eq_getElem_cons h1, h2]
variable {c : UInt8} {most : Nat} {s : Bytes} {V ps : List Bytes} {j k : Nat} {q : Bool} {x : UInt8}
theorem dvi_start : DvI c most s (dv c most false s) [] 0 0 false := by
 unfold DvI
 simp [glue_nil (dv_ne _ _ _ _)]
theorem dvi_quote (h : DvI c most s V ps j k q) (hx : s[k]? = some 34) (hj : j ≤ k) : DvI c most s V ps j (k + 1) (!q) := by
 unfold DvI at h ⊢
 rw [h, drop_step hx, dv_cons, if_pos rfl, glue_hd, cut_step hx hj]
theorem dvi_esc (h : DvI c most s V ps j k true) (hx : s[k]? = some 92) (hj : j ≤ k) : DvI c most s V ps j (k + 2) true := by
 unfold DvI at h ⊢
 rw [h, drop_step hx, dv_cons, if_neg (by decide), if_pos ⟨rfl, rfl⟩]
 congr 1
 cases ht : s[k + 1]? with
 | none =>
  have hl : s.length ≤ k + 1 := List.getElem?_eq_none_iff.1 ht
  have hk := (List.getElem?_eq_some_iff.1 hx).1
  have e1 : s.drop (k + 1) = [] := List.drop_eq_nil_of_le hl
  have e2 : s.drop (k + 2) = [] := List.drop_eq_nil_of_le (by omega)
  have e3 : s.take (k + 2) = s.take (k + 1) := by rw [List.take_of_length_le (by omega), List.take_of_length_le (by omega)]
  rw [e1, e2, e3, dv_nil, cut_step hx hj]
  simp [glue]
 | some y =>
  rw [drop_step ht]
  simp only
  rw [glue_hd, glue_hd, ← cut_step hx hj, ← cut_step ht (by omega)]
theorem dvi_cut (h : DvI c most s V ps j k false) (hx : s[k]? = some c) (hj : j ≤ k) (h34 : c ≠ 34) (h92 : c ≠ 92) (hm : ps.length < most) : DvI c most s V (ps ++ [(s.take k).drop j]) (k + 1) (k + 1) false := by
 unfold DvI at h ⊢
 rw [h, drop_step hx, dv_cons, if_neg h34, if_neg (fun h => h92 h.1), if_pos ⟨rfl, rfl, by omega⟩]
 have e : (s.take (k + 1)).drop (k + 1) = [] := List.drop_eq_nil_of_le (by rw [List.length_take]; omega)
 rw [e, glue_nil (dv_ne _ _ _ _), List.length_append, List.length_singleton, Nat.sub_sub]
 simp [glue]
theorem dvi_one (h : DvI c most s V ps j k q) (hx : s[k]? = some x) (hj : j ≤ k) (h34 : x ≠ 34) (h92 : ¬ (x = 92 ∧ q = true)) (hm : ¬ (x = c ∧ q = false ∧ ps.length < most)) : DvI c most s V ps j (k + 1) q := by
 unfold DvI at h ⊢
 rw [h, drop_step hx, dv_cons, if_neg h34, if_neg h92, if_neg (fun ⟨a, b, d⟩ => hm ⟨a, b, by omega⟩), glue_hd, cut_step hx hj]
theorem dvi_end (h : DvI c most s V ps j k q) (hk : s.length ≤ k) : V = ps ++ [s.drop j] := by
 unfold DvI at h
 rw [h, List.drop_eq_nil_of_le hk, dv_nil, List.take_of_length_le hk]
 simp [glue]
def joinC : List Bytes → Bytes
 | [] => []
 | [x] => x
 | x :: y :: r => x ++ 44 :: 32 :: joinC (y :: r)
/-- The bytes of an operand or a name as they are printed. -/
def plainC (c : UInt8) : Prop := c ≠ 34 ∧ c ≠ 44 ∧ c ≠ 58 ∧ c ≠ 59 ∧ blank c = false
def plainW (s : Bytes) : Prop := s ≠ [] ∧ ∀ c ∈ s, plainC c
theorem drop_id {p : UInt8 → Bool} {s : Bytes} (h : ∀ y, s.head? = some y → p y = false) : s.dropWhile p = s := by
 cases s with
 | nil => rfl
 | cons y t => rw [List.dropWhile_cons, if_neg (by rw [h y rfl]; simp)]
theorem trim_id {s : Bytes} (h1 : ∀ y, s.head? = some y → blank y = false) (h2 : ∀ y, s.getLast? = some y → blank y = false) : trim s = s := by
 unfold trim
 rw [drop_id (s := s.reverse) (fun y hy => h2 y (by rw [List.head?_reverse] at hy; exact hy)), List.reverse_reverse, drop_id h1]
def printed (name : Bytes) (ops : List Bytes) : Bytes := if ops = [] then name else name ++ 32 :: joinC ops
/-- How isa prints: a decimal, and what is told of it, of text.Int, and of the instruction set. -/
structure Dec (O : Oth) (dec : Int → Bytes) (name : Nat → Bytes) : Prop where
 int : ∀ n : Int, -9223372036854775808 ≤ n → n ≤ 9223372036854775807 → O.int (dec n) = some n
 word : ∀ n : Int, plainW (dec n)
 small : ∀ k : Nat, k ≤ 7 → dec k = [UInt8.ofNat (48 + k)]
 name : ∀ op, op < 32 → plainW (name op) ∧ O.find (name op) = some op ∧ isDir (name op) = false
def reg (n : Int) : Prop := 0 ≤ n ∧ n ≤ 7
def num (n : Int) : Prop := -9223372036854775808 ≤ n ∧ n ≤ 9223372036854775807
/-- What a valid instruction's operands are. -/
def Kinds (form : Nat) (a b c : Int) : Prop := match form with
 | 0 => a = 0 ∧ b = 0 ∧ c = 0
 | 1 => reg a ∧ b = 0 ∧ c = 0
 | 2 => reg a ∧ reg b ∧ c = 0
 | 3 => reg a ∧ reg b ∧ reg c
 | 4 => reg a ∧ reg b ∧ num c
 | 5 => reg a ∧ num b ∧ c = 0
 | 6 => num b ∧ a = 0 ∧ c = 0
 | _ => False
def opsOf (dec : Int → Bytes) (form : Nat) (a b c : Int) : List Bytes := match form with
 | 1 => [114 :: dec a]
 | 2 => [114 :: dec a, 114 :: dec b]
 | 3 => [114 :: dec a, 114 :: dec b, 114 :: dec c]
 | 4 => [114 :: dec a, 114 :: dec b, dec c]
 | 5 => [114 :: dec a, dec b]
 | 6 => [dec b]
 | _ => []
variable {dec : Int → Bytes} {nm : Nat → Bytes}
/-- What isa.Decode tells. -/
structure Back (O : Oth) (decode : Bytes → Option (Nat × Int × Int × Int)) : Prop where
 ok : ∀ p op a b c, decode p = some (op, a, b, c) → op < 32 ∧ Kinds (O.form op) a b c ∧ O.valid op a b c = true ∧ O.enc op a b c = p
variable {decode : Bytes → Option (Nat × Int × Int × Int)}
/-- Four bytes at a time. -/
def chunks : Nat → Bytes → List Bytes
 | 0, _ => []
 | f + 1, s => if s = [] then [] else s.take 4 :: chunks f (s.drop 4)
end Go.Proofs.YtfdlifhkeicnnaaGreatDoor
namespace Go.Proofs.YtfdlifhkeicnnaaGreatDoor
open Go Go.RowKit
/-- The row of a slice is none of the known blocks. -/
def Fresh (v : Value) (L : List (Nat × Obj)) : Prop := ∀ g, v.ownBlock = some g → g ∉ L.map (·.1)
section
variable {P : Program} {w w' : World} {base n : Nat} {e : TypeId} {size : Nat} {v : Value} {xs : List Value} {X : List Nat} {w0 : World} {L : List (Nat × Obj)}
theorem owns_heap (h : w.ownsRow base e size v n xs) (k : ∀ g, v.ownBlock = some g → w'.heap[g]? = w.heap[g]?) : w'.ownsRow base e size v n xs := by
 obtain ⟨hl, h | ⟨g, cap, cur, rfl, e2, e3, e4⟩⟩ := h
 ·exact ⟨hl, .inl h⟩
 ·exact ⟨hl, .inr ⟨g, cap, cur, rfl, e2, (k g rfl).trans e3, e4⟩⟩
theorem owns_lt (h : w.ownsRow base e size v n xs) {g : Nat} (hg : v.ownBlock = some g) : g < w.heap.size ∧ base ≤ g := by
 obtain ⟨hl, ⟨rfl, _⟩ | ⟨g', cap, cur, rfl, e2, e3, e4⟩⟩ := h
 ·cases hg
 ·obtain rfl : g' = g := Option.some.inj hg
  exact ⟨lt_of_has e3, e2⟩
theorem owns_below (h : w.ownsRow base e size v n xs) (k : Below w.heap.size w w') : w'.ownsRow base e size v n xs := owns_heap h fun g hg => k.block g (owns_lt h hg).1
theorem kn_grown {row : Option Nat} (h : Kn X w0 w L) (hg : w.grownBy w' row) (hrow : ∀ g, row = some g → (w0.heap.size ≤ g ∨ g ∈ X) ∧ g ∉ L.map (·.1)) : Kn X w0 w' L :=
 ⟨hg.os.trans h.os, hg.tape.trans h.tape, hg.output.trans h.output, Nat.le_trans h.size hg.size,
  fun b hb hx => (hg.block b (Nat.lt_of_lt_of_le hb h.size) (fun e => by rcases (hrow b e.symm).1 with c | c; omega; exact hx c)).trans (h.block b hb hx), h.own,
  fun p hp => (hg.block p.1 (h.lt hp) (fun e => (hrow p.1 e.symm).2 (List.mem_map_of_mem hp))).trans (h.has p hp), h.nd⟩
theorem run_append_kn (base : Nat) (t ty e : TypeId) (i : TypeInfo) (z : Value) (ht : P.underlying t = some (.slice e)) (hi : P.info? e = some i) (hz : i.zero = some z)
  (hzs : z.cells.size = i.size) (hsz : 0 < i.size)
  (v : Value) (n : Nat) (xs : List Value) (hown : w.ownsRow base e i.size v n xs)
  (a : Addr) (m c : Nat) (news : List Value) (hl : news.length = m * i.size) (hnews : ∀ j u, news[j]? = some u → w.cell? (a.add j) = some u) (h1 : ∀ u ∈ news, u.oneCell' = true)
  (h63 : n + m ≤ maxLen) (hbytes : (n + m) * i.bytes ≤ 140737488355328) (hbase : base ≤ w.heap.size) :
  ∃ v' w', (Builtin.append_ #[t, t] ty #[v, .slice (some a) m c]).run P w = .ok v' w' ∧ w'.ownsRow base e i.size v' (n + m) (xs ++ news) ∧ w.grownBy w' v.ownBlock ∧ (v'.ownBlock = v.ownBlock ∨ v'.ownBlock = some w.heap.size) := by
 have hsmall : n + m ≤ 9223372036854775807 := by simp only [maxLen] at h63; omega
 obtain ⟨v', w', hr, h2, h3, h4⟩ := run_append_own (P := P) w base t ty e i z i.size i.bytes ht hi hz rfl rfl hzs hsz v n xs hown a m c news hl hnews h1 h63 hbytes hbase
 refine ⟨v', w', hr, h2, h3, ?_⟩
 rcases hown.2 with ⟨rfl, rfl⟩ | ⟨g, cap, cur, rfl, hbg, hg, hnc, hcm, hcs, htake⟩
 ·by_cases hm : m = 0
  ·left; rw [h4.2 ⟨rfl, hm⟩]
  ·have hr' := run_append_nil (P := P) w t ty e i z ht hi hz a m c news hl hnews (by omega) (by omega) (by have hb := hbytes; simp only [Nat.zero_add] at hb; omega)
   rw [hr] at hr'
   injection hr' with e1 e2
   right; rw [e1]; rfl
 ·by_cases hroom : n + m ≤ cap
  ·have hfit : n * i.size + news.length ≤ cur.size := by rw [hl, hcs, ← Nat.add_mul]; exact Nat.mul_le_mul_right _ hroom
   have hr' := run_append_room (P := P) w t ty e i ht hi g n cap cur hg a m c news hl hnews h1 hroom hfit
   rw [hr] at hr'
   injection hr' with e1 e2
   left; rw [e1]; rfl
  ·have holds : ∀ j u, xs[j]? = some u → w.cell? ((⟨g, 0, none⟩ : Addr).add j) = some u := hown.cells (g := g) rfl
   have hr' := run_append_grow (P := P) w t ty e i z ht hi hz ⟨g, 0, none⟩ n cap xs hown.1 holds a m c news hl hnews (by omega) (by omega) (growslice_fits (by omega) hbytes)
   rw [hr] at hr'
   injection hr' with e1 e2
   right; rw [e1]; rfl
theorem wp_append_kn {o : Oper} {a : Act} {K : Act → World → Prop} {Q : Exit → Act → World → Prop} (s x : Operand) (t : TypeId)
  (ho : o.op = .call { callee := .builtin .append, args := #[s, x], argTypes := #[t, t] })
  (e : TypeId) (i : TypeInfo) (z : Value) (ht : P.underlying t = some (.slice e)) (hi : P.info? e = some i) (hz : i.zero = some z) (hzs : z.cells.size = i.size) (hsz : 0 < i.size)
  (v : Value) (n : Nat) (xs : List Value) (hs : a.eval s = v) (hk : Kn X w0 w L) (hown : w.ownsRow w0.heap.size e i.size v n xs) (hf : Fresh v L)
  (ad : Addr) (m c : Nat) (news : List Value) (hx : a.eval x = .slice (some ad) m c) (hl : news.length = m * i.size) (hnews : ∀ j u, news[j]? = some u → w.cell? (ad.add j) = some u) (h1 : ∀ u ∈ news, u.oneCell' = true)
  (h63 : n + m ≤ maxLen) (hbytes : (n + m) * i.bytes ≤ 140737488355328)
  (h : ∀ v' w', Kn X w0 w' L → w'.ownsRow w0.heap.size e i.size v' (n + m) (xs ++ news) → Fresh v' L → K (a.put o.dst v') w') : o.wp P a w K Q := by
 obtain ⟨v', w', hr, h2, h3, h4⟩ := run_append_kn (P := P) w0.heap.size t o.type e i z ht hi hz hzs hsz v n xs hown ad m c news hl hnews h1 h63 hbytes hk.size
 unfold Oper.wp execOp
 simp only [ho, resolve, invoke, builtin, Sem.run_bind, Sem.run_pure, Result.andThen_ok, List.map_toArray, List.map_cons, List.map_nil, hs, hx, hr]
 refine h v' w' (kn_grown hk h3 fun g hg => ⟨.inl (owns_lt hown hg).2, hf g hg⟩) h2 fun g hg hm => ?_
 rcases h4 with e4 | e4
 ·exact hf g (e4 ▸ hg) hm
 ·have : g = w.heap.size := Option.some.inj (hg.symm.trans e4)
  obtain ⟨q, hq, rfl⟩ := List.mem_map.1 hm
  have := hk.lt hq
  omega
theorem wpList_append_kn {ops : Array Oper} {rest : List Oper} {o : Oper} {a : Act} {Q : Exit → Act → World → Prop} (hgd : o.guard = none) (s x : Operand) (t : TypeId)
  (ho : o.op = .call { callee := .builtin .append, args := #[s, x], argTypes := #[t, t] })
  (e : TypeId) (i : TypeInfo) (z : Value) (ht : P.underlying t = some (.slice e)) (hi : P.info? e = some i) (hz : i.zero = some z) (hzs : z.cells.size = i.size) (hsz : 0 < i.size)
  (v : Value) (n : Nat) (xs : List Value) (hs : a.eval s = v) (hk : Kn X w0 w L) (hown : w.ownsRow w0.heap.size e i.size v n xs) (hf : Fresh v L)
  (ad : Addr) (m c : Nat) (news : List Value) (hx : a.eval x = .slice (some ad) m c) (hl : news.length = m * i.size) (hnews : ∀ j u, news[j]? = some u → w.cell? (ad.add j) = some u) (h1 : ∀ u ∈ news, u.oneCell' = true)
  (h63 : n + m ≤ maxLen) (hbytes : (n + m) * i.bytes ≤ 140737488355328)
  (h : ∀ v' w', Kn X w0 w' L → w'.ownsRow w0.heap.size e i.size v' (n + m) (xs ++ news) → Fresh v' L → wpList P ops Q rest (a.put o.dst v') w') : wpList P ops Q (o :: rest) a w :=
 wpList_plain hgd fun _ hK => wp_append_kn s x t ho e i z ht hi hz hzs hsz v n xs hs hk hown hf ad m c news hx hl hnews h1 h63 hbytes fun v' w' h1 h2 h3 => hK _ _ (h v' w' h1 h2 h3)
end
end Go.Proofs.YtfdlifhkeicnnaaGreatDoor
namespace Go.Proofs.YtfdlifhkeicnnaaGreatDoor
open Go Go.RowKit
/-- The block of a slice from its head on: n elements of z cells each, room for cap. -/
structure RowB (z : Nat) (cur : Array Value) (cap n : Nat) (xs : List Value) : Prop where
 size : cur.size = cap * z
 le : n ≤ cap
 capm : cap ≤ maxLen
 take : cur.toList.take (n * z) = xs
 len : xs.length = n * z
theorem RowB.get {z : Nat} {cur : Array Value} {cap n : Nat} {xs : List Value} (h : RowB z cur cap n xs) {k : Nat} {x : Value} (hk : xs[k]? = some x) : cur[k]? = some x := by
 rw [← h.take, List.getElem?_take] at hk
 split at hk
 ·simpa using hk
 ·cases hk
theorem RowB.set {z : Nat} {cur : Array Value} {cap n : Nat} {xs : List Value} (h : RowB z cur cap n xs) (k : Nat) (x : Value) : RowB z (cur.setIfInBounds k x) cap n (xs.set k x) :=
 ⟨by simp [h.size], h.le, h.capm, by rw [← h.take, Array.toList_setIfInBounds, List.take_set], by simp [h.len]⟩
section
variable {P : Program} {w w' : World} {e : TypeId} {z n : Nat} {v : Value} {xs : List Value} {X : List Nat} {w0 : World} {L : List (Nat × Obj)}
theorem own_blk (h : Kn X w0 w L) (ho : w.ownsRow w0.heap.size e z v n xs) (hf : Fresh v L) : (v = .slice none 0 0 ∧ n = 0 ∧ xs = []) ∨
  ∃ g cap cur, v = .slice (some ⟨g, 0, none⟩) n cap ∧ w0.heap.size ≤ g ∧ Kn X w0 w ((g, .cells cur e (0, 0)) :: L) ∧ RowB z cur cap n xs := by
 obtain ⟨hl, ⟨rfl, rfl⟩ | ⟨g, cap, cur, rfl, hg, hc, h1, h2, h3, h4⟩⟩ := ho
 ·left; exact ⟨rfl, rfl, List.eq_nil_of_length_eq_zero (by omega)⟩
 ·right
  refine ⟨g, cap, cur, rfl, hg, ⟨h.os, h.tape, h.output, h.size, h.block, fun p hp => ?_, fun p hp => ?_, ?_⟩, ⟨h3, h1, h2, h4, hl⟩⟩
  ·rcases List.mem_cons.1 hp with rfl | hp
   ·exact .inl hg
   ·exact h.own p hp
  ·rcases List.mem_cons.1 hp with rfl | hp
   ·exact hc
   ·exact h.has p hp
  ·rw [List.map_cons, List.nodup_cons]
   exact ⟨hf g rfl, h.nd⟩
theorem mem_erase {L : List (Nat × Obj)} (nd : (L.map (·.1)).Nodup) {i : Nat} {g : Nat} {o : Obj} (hi : L[i]? = some (g, o)) : g ∉ (L.eraseIdx i).map (·.1) := by
 intro hm
 obtain ⟨hil, hie⟩ := List.getElem?_eq_some_iff.1 hi
 obtain ⟨p, hp, e⟩ := List.mem_map.1 hm
 obtain ⟨j, hj, hje⟩ := List.mem_iff_getElem.1 hp
 have hL : ∃ m, m ≠ i ∧ ∃ hm : m < L.length, L[m] = p := by
  rw [List.getElem_eraseIdx] at hje
  split at hje
  ·exact ⟨j, by omega, by omega, hje⟩
  ·exact ⟨j + 1, by omega, by simp [List.length_eraseIdx, hil] at hj; omega, hje⟩
 obtain ⟨m, hmi, hm, hme⟩ := hL
 have h1 : (L.map (·.1))[m]'(by simpa using hm) = (L.map (·.1))[i]'(by simpa using hil) := by simp [hme, hie, e]
 exact hmi ((List.getElem_inj nd).1 h1)
theorem Kn.erase (h : Kn X w0 w L) (i : Nat) : Kn X w0 w (L.eraseIdx i) := h.sub (List.eraseIdx_sublist L i)
theorem blk_own (h : Kn X w0 w L) {i g cap : Nat} {cur : Array Value} (hi : L[i]? = some (g, .cells cur e (0, 0))) (hg : w0.heap.size ≤ g) (hr : RowB z cur cap n xs) :
  w.ownsRow w0.heap.size e z (.slice (some ⟨g, 0, none⟩) n cap) n xs ∧ Fresh (.slice (some ⟨g, 0, none⟩) n cap) (L.eraseIdx i) := by
 refine ⟨⟨hr.len, .inr ⟨g, cap, cur, rfl, hg, h.has _ (List.mem_of_getElem? hi), hr.le, hr.capm, hr.size, hr.take⟩⟩, fun g' hg' hm => ?_⟩
 obtain rfl : g = g' := Option.some.inj hg'
 exact mem_erase h.nd hi hm
theorem wp_append_blk {o : Oper} {a : Act} {K : Act → World → Prop} {Q : Exit → Act → World → Prop} (s x : Operand) (t : TypeId)
  (ho : o.op = .call { callee := .builtin .append, args := #[s, x], argTypes := #[t, t] })
  (e : TypeId) (i : TypeInfo) (zv : Value) (ht : P.underlying t = some (.slice e)) (hi : P.info? e = some i) (hz : i.zero = some zv) (hzs : zv.cells.size = i.size) (hsz : 0 < i.size)
  (hk : Kn X w0 w L) (j g cap n : Nat) (cur : Array Value) (xs : List Value) (hj : L[j]? = some (g, .cells cur e (0, 0))) (hg : w0.heap.size ≤ g) (hr : RowB i.size cur cap n xs) (hs : a.eval s = .slice (some ⟨g, 0, none⟩) n cap)
  (ad : Addr) (m c : Nat) (news : List Value) (hx : a.eval x = .slice (some ad) m c) (hl : news.length = m * i.size) (hnews : ∀ j u, news[j]? = some u → w.cell? (ad.add j) = some u) (h1 : ∀ u ∈ news, u.oneCell' = true)
  (h63 : n + m ≤ maxLen) (hbytes : (n + m) * i.bytes ≤ 140737488355328) (hpos : 0 < n + m)
  (h : ∀ g' cap' cur' w', Kn X w0 w' ((g', .cells cur' e (0, 0)) :: L.eraseIdx j) → w0.heap.size ≤ g' → RowB i.size cur' cap' (n + m) (xs ++ news) → K (a.put o.dst (.slice (some ⟨g', 0, none⟩) (n + m) cap')) w') : o.wp P a w K Q := by
 obtain ⟨h5, h6⟩ := blk_own hk hj hg hr
 refine wp_append_kn s x t ho e i zv ht hi hz hzs hsz _ n xs hs (hk.erase j) h5 h6 ad m c news hx hl hnews h1 h63 hbytes fun v' w' h7 h8 h9 => ?_
 rcases own_blk h7 h8 h9 with ⟨_, h10, _⟩ | ⟨g', cap', cur', rfl, h10, h11, h12⟩
 ·omega
 ·exact h g' cap' cur' w' h11 h10 h12
theorem wpList_append_blk {ops : Array Oper} {rest : List Oper} {o : Oper} {a : Act} {Q : Exit → Act → World → Prop} (hgd : o.guard = none) (s x : Operand) (t : TypeId)
  (ho : o.op = .call { callee := .builtin .append, args := #[s, x], argTypes := #[t, t] })
  (e : TypeId) (i : TypeInfo) (zv : Value) (ht : P.underlying t = some (.slice e)) (hi : P.info? e = some i) (hz : i.zero = some zv) (hzs : zv.cells.size = i.size) (hsz : 0 < i.size)
  (hk : Kn X w0 w L) (j g cap n : Nat) (cur : Array Value) (xs : List Value) (hj : L[j]? = some (g, .cells cur e (0, 0))) (hg : w0.heap.size ≤ g) (hr : RowB i.size cur cap n xs) (hs : a.eval s = .slice (some ⟨g, 0, none⟩) n cap)
  (ad : Addr) (m c : Nat) (news : List Value) (hx : a.eval x = .slice (some ad) m c) (hl : news.length = m * i.size) (hnews : ∀ j u, news[j]? = some u → w.cell? (ad.add j) = some u) (h1 : ∀ u ∈ news, u.oneCell' = true)
  (h63 : n + m ≤ maxLen) (hbytes : (n + m) * i.bytes ≤ 140737488355328) (hpos : 0 < n + m)
  (h : ∀ g' cap' cur' w', Kn X w0 w' ((g', .cells cur' e (0, 0)) :: L.eraseIdx j) → w0.heap.size ≤ g' → RowB i.size cur' cap' (n + m) (xs ++ news) → wpList P ops Q rest (a.put o.dst (.slice (some ⟨g', 0, none⟩) (n + m) cap')) w') : wpList P ops Q (o :: rest) a w :=
 wpList_plain hgd fun _ hK => wp_append_blk s x t ho e i zv ht hi hz hzs hsz hk j g cap n cur xs hj hg hr hs ad m c news hx hl hnews h1 h63 hbytes hpos fun g' cap' cur' w' h1 h2 h3 => hK _ _ (h g' cap' cur' w' h1 h2 h3)
/-- Append onto a row among the known blocks, of the call's own or one that may change. -/
theorem wp_append_blkX {o : Oper} {a : Act} {K : Act → World → Prop} {Q : Exit → Act → World → Prop} (s x : Operand) (t : TypeId)
  (ho : o.op = .call { callee := .builtin .append, args := #[s, x], argTypes := #[t, t] })
  (e : TypeId) (i : TypeInfo) (zv : Value) (ht : P.underlying t = some (.slice e)) (hi : P.info? e = some i) (hz : i.zero = some zv) (hzs : zv.cells.size = i.size) (hsz : 0 < i.size)
  (hk : Kn X w0 w L) (j g cap n : Nat) (cur : Array Value) (xs : List Value) (hj : L[j]? = some (g, .cells cur e (0, 0))) (hr : RowB i.size cur cap n xs) (hs : a.eval s = .slice (some ⟨g, 0, none⟩) n cap)
  (ad : Addr) (m c : Nat) (news : List Value) (hx : a.eval x = .slice (some ad) m c) (hl : news.length = m * i.size) (hnews : ∀ j u, news[j]? = some u → w.cell? (ad.add j) = some u) (h1 : ∀ u ∈ news, u.oneCell' = true)
  (h63 : n + m ≤ maxLen) (hbytes : (n + m) * i.bytes ≤ 140737488355328) (hpos : 0 < n + m)
  (h : ∀ g' cap' cur' w', Kn X w0 w' ((g', .cells cur' e (0, 0)) :: L.eraseIdx j) → RowB i.size cur' cap' (n + m) (xs ++ news) → K (a.put o.dst (.slice (some ⟨g', 0, none⟩) (n + m) cap')) w') : o.wp P a w K Q := by
 have hm := List.mem_of_getElem? hj
 have hgo := hk.own _ hm
 have hown : w.ownsRow 0 e i.size (.slice (some ⟨g, 0, none⟩) n cap) n xs := ⟨hr.len, .inr ⟨g, cap, cur, rfl, Nat.zero_le _, hk.has _ hm, hr.le, hr.capm, hr.size, hr.take⟩⟩
 obtain ⟨v', w', hrun, h2, h3, h4⟩ := run_append_kn (P := P) 0 t o.type e i zv ht hi hz hzs hsz _ n xs hown ad m c news hl hnews h1 h63 hbytes (Nat.zero_le _)
 have hK : Kn X w0 w' (L.eraseIdx j) := kn_grown (hk.erase j) h3 fun g' hg' => by
  obtain rfl : g = g' := Option.some.inj hg'
  exact ⟨hgo, mem_erase hk.nd hj⟩
 unfold Oper.wp execOp
 simp only [ho, resolve, invoke, builtin, Sem.run_bind, Sem.run_pure, Result.andThen_ok, List.map_toArray, List.map_cons, List.map_nil, hs, hx, hrun]
 obtain ⟨hl2, ⟨_, h0⟩ | ⟨g', cap', cur', rfl, _, hc, k1, k2, k3, k4⟩⟩ := h2
 ·omega
 ·refine h g' cap' cur' w' ⟨hK.os, hK.tape, hK.output, hK.size, hK.block, fun p hp => ?_, fun p hp => ?_, ?_⟩ ⟨k3, k1, k2, k4, hl2⟩
  ·rcases List.mem_cons.1 hp with rfl | hp
   ·rcases h4 with h4 | h4
    ·obtain rfl : g' = g := Option.some.inj h4
     exact hgo
    ·obtain rfl : g' = w.heap.size := Option.some.inj h4
     exact .inl hk.size
   ·exact hK.own p hp
  ·rcases List.mem_cons.1 hp with rfl | hp
   ·exact hc
   ·exact hK.has p hp
  ·rw [List.map_cons, List.nodup_cons]
   refine ⟨fun hm2 => ?_, hK.nd⟩
   rcases h4 with h4 | h4
   ·obtain rfl : g' = g := Option.some.inj h4
    exact mem_erase hk.nd hj hm2
   ·obtain rfl : g' = w.heap.size := Option.some.inj h4
    obtain ⟨q, hq, e2⟩ := List.mem_map.1 hm2
    have := (hk.erase j).lt hq
    simp only at e2; omega
theorem wpList_append_blkX {ops : Array Oper} {rest : List Oper} {o : Oper} {a : Act} {Q : Exit → Act → World → Prop} (hgd : o.guard = none) (s x : Operand) (t : TypeId)
  (ho : o.op = .call { callee := .builtin .append, args := #[s, x], argTypes := #[t, t] })
  (e : TypeId) (i : TypeInfo) (zv : Value) (ht : P.underlying t = some (.slice e)) (hi : P.info? e = some i) (hz : i.zero = some zv) (hzs : zv.cells.size = i.size) (hsz : 0 < i.size)
  (hk : Kn X w0 w L) (j g cap n : Nat) (cur : Array Value) (xs : List Value) (hj : L[j]? = some (g, .cells cur e (0, 0))) (hr : RowB i.size cur cap n xs) (hs : a.eval s = .slice (some ⟨g, 0, none⟩) n cap)
  (ad : Addr) (m c : Nat) (news : List Value) (hx : a.eval x = .slice (some ad) m c) (hl : news.length = m * i.size) (hnews : ∀ j u, news[j]? = some u → w.cell? (ad.add j) = some u) (h1 : ∀ u ∈ news, u.oneCell' = true)
  (h63 : n + m ≤ maxLen) (hbytes : (n + m) * i.bytes ≤ 140737488355328) (hpos : 0 < n + m)
  (h : ∀ g' cap' cur' w', Kn X w0 w' ((g', .cells cur' e (0, 0)) :: L.eraseIdx j) → RowB i.size cur' cap' (n + m) (xs ++ news) → wpList P ops Q rest (a.put o.dst (.slice (some ⟨g', 0, none⟩) (n + m) cap')) w') : wpList P ops Q (o :: rest) a w :=
 wpList_plain hgd fun _ hK => wp_append_blkX s x t ho e i zv ht hi hz hzs hsz hk j g cap n cur xs hj hr hs ad m c news hx hl hnews h1 h63 hbytes hpos fun g' cap' cur' w' h1 h2 => hK _ _ (h g' cap' cur' w' h1 h2)
/-- A row that is nil, or a known block. -/
def RowL (z : Nat) (e : TypeId) (LP : List (Nat × Obj)) (v : Value) (n : Nat) (xs : List Value) : Prop :=
 (LP = [] ∧ v = .slice none 0 0 ∧ n = 0 ∧ xs = []) ∨ ∃ g cap cur, LP = [(g, .cells cur e (0, 0))] ∧ v = .slice (some ⟨g, 0, none⟩) n cap ∧ RowB z cur cap n xs
/-- Append onto nil: the row is a new known block. -/
theorem wpList_append_nilX {ops : Array Oper} {rest : List Oper} {o : Oper} {a : Act} {Q : Exit → Act → World → Prop} (hgd : o.guard = none) (s x : Operand) (t : TypeId)
  (ho : o.op = .call { callee := .builtin .append, args := #[s, x], argTypes := #[t, t] })
  (e : TypeId) (i : TypeInfo) (zv : Value) (ht : P.underlying t = some (.slice e)) (hi : P.info? e = some i) (hz : i.zero = some zv) (hzs : zv.cells.size = i.size) (hsz : 0 < i.size)
  (hk : Kn X w0 w L) (hs : a.eval s = .slice none 0 0)
  (ad : Addr) (m c : Nat) (news : List Value) (hx : a.eval x = .slice (some ad) m c) (hl : news.length = m * i.size) (hnews : ∀ j u, news[j]? = some u → w.cell? (ad.add j) = some u) (h1 : ∀ u ∈ news, u.oneCell' = true)
  (h63 : m ≤ maxLen) (hbytes : m * i.bytes ≤ 140737488355328) (hpos : 0 < m)
  (h : ∀ g' cap' cur' w', Kn X w0 w' ((g', .cells cur' e (0, 0)) :: L) → w0.heap.size ≤ g' → RowB i.size cur' cap' m news → wpList P ops Q rest (a.put o.dst (.slice (some ⟨g', 0, none⟩) m cap')) w') : wpList P ops Q (o :: rest) a w := by
 refine wpList_append_kn hgd s x t ho e i zv ht hi hz hzs hsz _ 0 [] hs hk ⟨by simp, .inl ⟨rfl, rfl⟩⟩ (fun g hg => by cases hg) ad m c news hx hl hnews h1 (by omega) (by rw [Nat.zero_add]; exact hbytes) fun v' w' h7 h8 h9 => ?_
 rw [Nat.zero_add, List.nil_append] at h8
 rcases own_blk h7 h8 h9 with ⟨_, h10, _⟩ | ⟨g', cap', cur', rfl, h10, h11, h12⟩
 ·omega
 ·exact h g' cap' cur' w' h11 h10 h12
/-- Append onto such a row; the elements stand in the block N that has just been made. -/
theorem wpList_append_rowL {ops : Array Oper} {rest : List Oper} {o : Oper} {a : Act} {Q : Exit → Act → World → Prop} (hgd : o.guard = none) (s x : Operand) (t : TypeId)
  (ho : o.op = .call { callee := .builtin .append, args := #[s, x], argTypes := #[t, t] })
  (e : TypeId) (i : TypeInfo) (zv : Value) (ht : P.underlying t = some (.slice e)) (hi : P.info? e = some i) (hz : i.zero = some zv) (hzs : zv.cells.size = i.size) (hsz : 0 < i.size)
  (N : Nat × Obj) (LP R : List (Nat × Obj)) (hk : Kn X w0 w (N :: (LP ++ R))) (n : Nat) (xs : List Value) (v : Value) (hr : RowL i.size e LP v n xs) (hs : a.eval s = v)
  (ad : Addr) (m c : Nat) (news : List Value) (hx : a.eval x = .slice (some ad) m c) (hl : news.length = m * i.size) (hnews : ∀ j u, news[j]? = some u → w.cell? (ad.add j) = some u) (h1 : ∀ u ∈ news, u.oneCell' = true)
  (h63 : n + m ≤ maxLen) (hbytes : (n + m) * i.bytes ≤ 140737488355328) (hpos : 0 < m)
  (h : ∀ g' cap' cur' w', Kn X w0 w' ((g', .cells cur' e (0, 0)) :: N :: R) → RowB i.size cur' cap' (n + m) (xs ++ news) → wpList P ops Q rest (a.put o.dst (.slice (some ⟨g', 0, none⟩) (n + m) cap')) w') : wpList P ops Q (o :: rest) a w := by
 rcases hr with ⟨rfl, rfl, rfl, rfl⟩ | ⟨g, cap, cur, rfl, rfl, hb⟩
 ·refine wpList_append_nilX hgd s x t ho e i zv ht hi hz hzs hsz hk hs ad m c news hx hl hnews h1 (by omega) (by simpa using hbytes) hpos fun g' cap' cur' w' h2 _ h3 => ?_
  have := h g' cap' cur' w' h2 (by simpa using h3)
  simpa using this
 ·exact wpList_append_blkX hgd s x t ho e i zv ht hi hz hzs hsz hk 1 g cap n cur xs rfl hb hs ad m c news hx hl hnews h1 h63 hbytes (by omega) fun g' cap' cur' w' h2 h3 => h g' cap' cur' w' h2 h3
theorem RowL.of_blk {g cap n : Nat} {cur : Array Value} {xs : List Value} (h : RowB z cur cap n xs) : RowL z e [(g, .cells cur e (0, 0))] (.slice (some ⟨g, 0, none⟩) n cap) n xs := .inr ⟨g, cap, cur, rfl, rfl, h⟩
theorem RowL.nil : RowL z e [] (.slice none 0 0) 0 [] := .inl ⟨rfl, rfl, rfl, rfl⟩
end
end Go.Proofs.YtfdlifhkeicnnaaGreatDoor
namespace Go.Proofs.YtfdlifhkeicnnaaGreatDoor
open Go
end Go.Proofs.YtfdlifhkeicnnaaGreatDoor
