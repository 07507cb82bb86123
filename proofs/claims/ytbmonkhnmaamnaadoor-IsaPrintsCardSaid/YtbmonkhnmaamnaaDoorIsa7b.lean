import Derived.Test.YtbmonkhnmaamnaaDoorProg
import Derived.WalkKit
import Derived.Handy
import Derived.Deep.Light
import Derived.WalkSmall
import Derived.StillTailTactics
import Derived.Lib.Hide
import Derived.Test.YtbmonkhnmaamnaaDoorReg
import Derived.Test.YtbmonkhnmaamnaaDoorIsa0
import Derived.Test.YtbmonkhnmaamnaaDoorIsa7
import Derived.Test.YtbmonkhnmaamnaaDoorIt
import Derived.Lib.ItoaLen
import Derived.Lib.Join
namespace Go.Proofs.YtbmonkhnmaamnaaDoor
open Go Go.RowKit
set_option linter.unusedSimpArgs false
set_option linter.unusedVariables false

def nameB (op : Int) : ByteArray := namesB.getD op.toNat ByteArray.empty
def regB (n : Int) : ByteArray := (⟨#[114]⟩ : ByteArray) ++ ⟨(Lib.itoa n).toArray⟩
def numS (n : Int) : ByteArray := ⟨(Lib.itoa n).toArray⟩
def joinB (xs : List ByteArray) : ByteArray := ⟨(Lib.join (xs.map (·.data.toList)) [44, 32]).toArray⟩
theorem nameB_size (op : Int) : (nameB op).size ≤ 4 := by
  unfold nameB
  rcases Nat.lt_or_ge op.toNat 32 with h | h
  · have : ∀ k : Fin 32, (namesB.getD k.val ByteArray.empty).size ≤ 4 := by decide +kernel
    exact this ⟨op.toNat, h⟩
  · have e : namesB[op.toNat]? = none := List.getElem?_eq_none (by simpa [namesB] using h)
    rw [List.getD_eq_getElem?_getD, e]; decide
theorem join_length (sep : List UInt8) (m : Nat) : ∀ (xs : List (List UInt8)), (∀ x ∈ xs, x.length ≤ m) → (Lib.join xs sep).length ≤ xs.length * (m + sep.length)
  | [], _ => by simp [Lib.join]
  | [x], h => by have := h x (by simp); simp [Lib.join, List.intercalate]; omega
  | x :: y :: r, h => by
    have h1 := h x (by simp)
    have h2 := join_length sep m (y :: r) (fun z hz => h z (List.mem_cons_of_mem _ hz))
    have e : Lib.join (x :: y :: r) sep = x ++ sep ++ Lib.join (y :: r) sep := by simp [Lib.join, List.intercalate, List.intersperse]
    rw [e, List.length_append, List.length_append]
    simp only [List.length_cons, Nat.add_mul] at h2 ⊢
    omega
theorem num_size (n : Int) (h : -9223372036854775808 ≤ n ∧ n ≤ 9223372036854775807) : (numS n).data.toList.length ≤ 22 := by
  have := Lib.itoa_length_le n h.1 h.2; simp [numS]; omega
theorem num_sz (n : Int) (h : -9223372036854775808 ≤ n ∧ n ≤ 9223372036854775807) : (numS n).size ≤ 22 := by
  have := num_size n h
  rw [Array.length_toList] at this
  exact this
theorem reg_size (n : Int) (h : -9223372036854775808 ≤ n ∧ n ≤ 9223372036854775807) : (regB n).data.toList.length ≤ 22 := by
  have := Lib.itoa_length_le n h.1 h.2; simp [regB]; omega
theorem joinB_size {xs : List ByteArray} (h : ∀ x ∈ xs, x.data.toList.length ≤ 22) (h3 : xs.length ≤ 3) : (joinB xs).size ≤ 100 := by
  have := join_length [44, 32] 22 (xs.map (·.data.toList)) (fun x hx => by obtain ⟨y, hy, rfl⟩ := List.mem_map.1 hx; exact h y hy)
  simp only [List.length_map, List.length_cons, List.length_nil] at this
  show (Lib.join (xs.map (·.data.toList)) [44, 32]).toArray.size ≤ 100
  rw [List.size_toArray]
  have := Nat.mul_le_mul_right 24 h3
  omega
theorem join_any (xs : List ByteArray) (n : Nat) (hn : xs.length = n) (hx : ∀ x ∈ xs, x.data.toList.length ≤ 22) (h3 : xs.length ≤ 3) {X : List Nat} {w0 W : World} {L : List (Nat × Obj)} {b : Nat} (h : Kn X w0 W L) (hm : (b, Obj.cells (xs.map Value.string).toArray 9 (0, 0)) ∈ L) :
    Calls Tryd.prog 27 #[.slice (some ⟨b, 0, none⟩) n n, .string ⟨#[44, 32]⟩] W fun e w' => e = .returned (.string (joinB xs)) ∧ Below W.heap.size W w' := by
  subst hn
  have hl := joinB_size hx h3
  have hl2 : (Lib.join (xs.map (·.data.toList)) [44, 32]).length ≤ 100 := by have := hl; simpa [joinB, ByteArray.size] using this
  exact Tryd.strings_Join b 0 xs.length xs ⟨#[44, 32]⟩ W (fun j x hj => by
    have := h.has _ hm
    simp only at this
    simp [World.cell?, this, hj]) (h.lt hm) (by omega) (Nat.le_refl _) (by simpa using Nat.le_trans hl2 (by decide))

end Go.Proofs.YtbmonkhnmaamnaaDoor
