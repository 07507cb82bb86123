/- Text as lists of bytes: quoting, escaping. Of no program. -/
import Derived.Test.YtjkohbecmaegmaaDoorNum
import Derived.Lib.Bytealg
namespace Go.Proofs.YtjkohbecmaegmaaDoor
open Go
abbrev Bytes := List UInt8
def hexB (n : Nat) : UInt8 := [48, 49, 50, 51, 52, 53, 54, 55, 56, 57, 97, 98, 99, 100, 101, 102].getD n 0
def qb (c : UInt8) : Bytes :=
  if c = 34 ∨ c = 92 then [92, c] else if c = 10 then [92, 110] else if 32 ≤ c.toNat ∧ c.toNat ≤ 126 then [c] else [92, 120, hexB (c.toNat / 16), hexB (c.toNat % 16)]
def quoteB (s : Bytes) : Bytes := 34 :: (s.flatMap qb ++ [34])
def magicB (c : UInt8) : Bool := c = 42 || c = 63 || c = 91 || c = 92
def eb (c : UInt8) : Bytes := if magicB c then [92, c] else [c]
def escB (s : Bytes) : Bytes := s.flatMap eb
theorem hex_at (m : Nat) (h : m < (⟨#[48, 49, 50, 51, 52, 53, 54, 55, 56, 57, 97, 98, 99, 100, 101, 102]⟩ : ByteArray).size) : (⟨#[48, 49, 50, 51, 52, 53, 54, 55, 56, 57, 97, 98, 99, 100, 101, 102]⟩ : ByteArray)[m]'h = hexB m := by
  have h2 : m < 16 := h
  have : m = 0 ∨ m = 1 ∨ m = 2 ∨ m = 3 ∨ m = 4 ∨ m = 5 ∨ m = 6 ∨ m = 7 ∨ m = 8 ∨ m = 9 ∨ m = 10 ∨ m = 11 ∨ m = 12 ∨ m = 13 ∨ m = 14 ∨ m = 15 := by omega
  rcases this with h | h | h | h | h | h | h | h | h | h | h | h | h | h | h | h <;> subst h <;> rfl
theorem qb_len (c : UInt8) : (qb c).length ≤ 4 := by unfold qb; split <;> (try split) <;> (try split) <;> simp
theorem eb_len (c : UInt8) : (eb c).length ≤ 2 := by unfold eb; split <;> simp
theorem flat_le {α : Type} (enc : α → Bytes) (c : Nat) : ∀ l : List α, (∀ x ∈ l, (enc x).length ≤ c) → (l.flatMap enc).length ≤ l.length * c
  | [], _ => by simp
  | x :: l, h => by
    have h1 := flat_le enc c l (fun y hy => h y (List.mem_cons_of_mem _ hy))
    have h2 := h x (by simp)
    simp only [List.flatMap_cons, List.length_append, List.length_cons, Nat.add_mul]; omega
theorem flat_take {α : Type} (f : α → Bytes) {l : List α} {k : Nat} {x : α} (h : l[k]? = some x) : (l.take (k + 1)).flatMap f = (l.take k).flatMap f ++ f x := by
  rw [List.take_add_one, h]; simp
theorem szl (x : ByteArray) : x.data.toList.length = x.size := by simp
theorem ba_ext {x y : ByteArray} (h : x.data.toList = y.data.toList) : x = y := by
  cases x; cases y; congr 1; exact Array.toList_inj.1 h
theorem ext_list (s : ByteArray) (i j : Nat) : (s.extract i j).data.toList = (s.data.toList.take j).drop i := by
  rw [ByteArray.data_extract, Array.toList_extract]
  simp [List.extract, List.drop_take]
theorem byte_at {s : ByteArray} {i : Nat} {c : UInt8} (h : s.data.toList[i]? = some c) (hi : i < s.size) : s[i]'hi = c := by
  have h1 : s.data.toList[i]? = some (s[i]'hi) := by
    rw [List.getElem?_eq_getElem (by simpa using hi)]
    rfl
  rw [h] at h1; exact (Option.some.inj h1).symm
theorem nb34 : ((34 : UInt8).toNat : Int) = 34 := rfl
theorem nb92 : ((92 : UInt8).toNat : Int) = 92 := rfl
theorem nb10 : ((10 : UInt8).toNat : Int) = 10 := rfl
end Go.Proofs.YtjkohbecmaegmaaDoor
