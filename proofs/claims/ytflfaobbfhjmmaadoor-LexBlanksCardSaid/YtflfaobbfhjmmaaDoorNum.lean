/- Numbers as text: what the digits spell, that no two numbers have one text, and that a number's text is read back. Of no program. -/
import Derived.Lib.ItoaNum
import Derived.Lib.AtoiAll
import Derived.Lib.ItoaLen
namespace Go.Proofs.YtflfaobbfhjmmaaDoor
open Go
def val (l : List UInt8) : Nat := l.foldl (fun s d => s * 10 + (d.toNat - 48)) 0
theorem val_snoc (l : List UInt8) (d : UInt8) : val (l ++ [d]) = val l * 10 + (d.toNat - 48) := by simp [val, List.foldl_append]
theorem digit_nat (k : Nat) (h : k < 10) : (UInt8.ofNat (48 + k)).toNat = 48 + k := by rw [UInt8.toNat_ofNat']; omega
theorem val_digits (k : Nat) : val (Lib.decDigits k) = k := by
  induction k using Nat.strongRecOn with
  | _ k ih =>
    rw [Lib.decDigits]
    split
    · rename_i h
      show 0 * 10 + ((UInt8.ofNat (48 + k)).toNat - 48) = k
      rw [digit_nat k h]; omega
    · rename_i h
      rw [val_snoc, ih (k / 10) (by omega), digit_nat _ (by omega)]; omega
theorem digits_in (k : Nat) : ∀ d ∈ Lib.decDigits k, 48 ≤ d.toNat ∧ d.toNat ≤ 57 := by
  induction k using Nat.strongRecOn with
  | _ k ih =>
    rw [Lib.decDigits]
    split
    · rename_i h; intro d hd; rw [List.mem_singleton] at hd; subst hd; rw [digit_nat k h]; omega
    · rename_i h
      intro d hd
      rcases List.mem_append.1 hd with hd | hd
      · exact ih (k / 10) (by omega) d hd
      · rw [List.mem_singleton] at hd; subst hd; rw [digit_nat (k % 10) (by omega)]; omega
theorem digits_ne (k : Nat) : Lib.decDigits k ≠ [] := by
  rw [Lib.decDigits]; split <;> simp
theorem itoa_inj {m n : Int} (h : Lib.itoa m = Lib.itoa n) : m = n := by
  unfold Lib.itoa at h
  have no : ∀ (k : Nat) (l : List UInt8), Lib.decDigits k = 45 :: l → False := fun k l e => by
    have := digits_in k 45 (by rw [e]; simp)
    simp at this
  split at h <;> split at h
  · have := congrArg val (List.cons.inj h).2
    rw [val_digits, val_digits] at this; omega
  · exact (no _ _ h.symm).elim
  · exact (no _ _ h).elim
  · have := congrArg val h
    rw [val_digits, val_digits] at this; omega
theorem val_acc : ∀ (l : List UInt8) (a : Nat), l.foldl (fun s d => s * 10 + (d.toNat - 48)) a = a * 10 ^ l.length + val l
  | [], a => by simp [val]
  | d :: l, a => by
    have h1 := val_acc l (a * 10 + (d.toNat - 48))
    have h2 := val_acc l (0 * 10 + (d.toNat - 48))
    simp only [List.foldl_cons, List.length_cons, val] at h1 h2 ⊢
    rw [h1, h2, Nat.pow_succ]
    simp only [Nat.add_mul, Nat.zero_mul, Nat.zero_add, Nat.mul_assoc, Nat.mul_comm 10]
    omega
theorem val_cons (d : UInt8) (l : List UInt8) : val (d :: l) = (d.toNat - 48) * 10 ^ l.length + val l := by
  have := val_acc l (0 * 10 + (d.toNat - 48))
  simpa [val] using this
theorem parse_digits : ∀ (l : List UInt8) (a : Nat), (∀ d ∈ l, 48 ≤ d.toNat ∧ d.toNat ≤ 57) → a * 10 ^ l.length + val l < 18446744073709551616 → Lib.parseUint10 a l = .ok (a * 10 ^ l.length + val l)
  | [], a, _, _ => by simp [Lib.parseUint10, val]
  | d :: l, a, hd, hb => by
    have h1 := hd d (by simp)
    have hv := val_cons d l
    have hp : 0 < 10 ^ l.length := Nat.pow_pos (by decide)
    have e : a * 10 ^ (d :: l).length + val (d :: l) = (a * 10 + (d.toNat - 48)) * 10 ^ l.length + val l := by
      rw [hv, List.length_cons, Nat.pow_succ, Nat.add_mul, Nat.mul_assoc, Nat.mul_comm 10]; omega
    rw [e] at hb ⊢
    have hs : a * 10 + (d.toNat - 48) ≤ (a * 10 + (d.toNat - 48)) * 10 ^ l.length := Nat.le_mul_of_pos_right _ hp
    unfold Lib.parseUint10
    rw [if_pos h1, if_neg (by omega), if_neg (by omega)]
    exact parse_digits l _ (fun x hx => hd x (List.mem_cons_of_mem _ hx)) hb
theorem parse_dec (k : Nat) (h : k < 18446744073709551616) : Lib.parseMag (Lib.decDigits k) = .ok k := by
  unfold Lib.parseMag
  rw [if_neg (digits_ne k), parse_digits _ 0 (digits_in k) (by rw [val_digits]; omega), val_digits]
  simp
/-- What Itoa writes, Atoi reads. -/
theorem atoi_itoa {n : Int} (h0 : -9223372036854775808 ≤ n) (h1 : n ≤ 9223372036854775807) : Lib.atoiAll (Lib.itoa n) = .ok n := by
  unfold Lib.itoa
  split
  · rename_i hn
    unfold Lib.atoiAll
    have e : (45 : UInt8).toNat = 45 := rfl
    simp only [e, or_true, if_true]
    rw [parse_dec _ (by omega)]
    simp only [not_true, false_and, if_false]
    rw [if_neg (by simp; omega)]
    congr 1; omega
  · rename_i hn
    cases hd : Lib.decDigits n.toNat with
    | nil => exact absurd hd (digits_ne _)
    | cons c r =>
      have hc := digits_in n.toNat c (by rw [hd]; simp)
      unfold Lib.atoiAll
      simp only
      rw [if_neg (by omega), ← hd, parse_dec _ (by omega)]
      simp only
      rw [if_neg (by omega), if_neg (by omega), if_neg (by omega)]
      congr 1; omega
/-- The number whose text a list is, if there is one among Go's ints. -/
def canon (l : List UInt8) : Option Int := match Lib.atoiAll l with
  | .ok n => if Lib.itoa n = l then some n else none
  | _ => none
theorem canon_itoa {n : Int} (h0 : -9223372036854775808 ≤ n) (h1 : n ≤ 9223372036854775807) : canon (Lib.itoa n) = some n := by
  unfold canon; rw [atoi_itoa h0 h1]; simp
theorem atoi_range {l : List UInt8} {n : Int} (h : Lib.atoiAll l = .ok n) : -9223372036854775808 ≤ n ∧ n ≤ 9223372036854775807 := by
  unfold Lib.atoiAll at h
  split at h
  · cases h
  · simp only at h
    split at h
    · cases h
    · cases h
    · rename_i u hu
      split at h
      · cases h
      · rename_i c1
        split at h
        · cases h
        · rename_i c2
          injection h with h
          split at h <;> omega
theorem canon_some {l : List UInt8} {n : Int} (h : canon l = some n) : Lib.itoa n = l ∧ -9223372036854775808 ≤ n ∧ n ≤ 9223372036854775807 := by
  unfold canon at h
  split at h
  · rename_i m hm
    split at h
    · rename_i he
      obtain rfl := Option.some.inj h
      exact ⟨he, atoi_range hm⟩
    · cases h
  · cases h
theorem canon_iff {l : List UInt8} {n : Int} (h0 : -9223372036854775808 ≤ n) (h1 : n ≤ 9223372036854775807) : canon l = some n ↔ Lib.itoa n = l :=
  ⟨fun h => (canon_some h).1, fun h => by rw [← h]; exact canon_itoa h0 h1⟩
end Go.Proofs.YtflfaobbfhjmmaaDoor
