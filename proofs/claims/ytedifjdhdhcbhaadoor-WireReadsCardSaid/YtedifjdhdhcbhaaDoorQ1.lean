import Derived.Test.YtedifjdhdhcbhaaDoorProg
import Derived.WalkKit
import Derived.Handy
import Derived.Deep.Light
import Derived.WalkSmall
import Derived.StillTailTactics
import Derived.Lib.Hide
import Derived.Test.YtedifjdhdhcbhaaDoorW0
import Derived.Test.YtedifjdhdhcbhaaDoorIt
import Derived.Test.YtedifjdhdhcbhaaDoorW25
namespace Go.Proofs.YtedifjdhdhcbhaaDoor
open Go Go.RowKit
set_option linter.unusedSimpArgs false
set_option linter.unusedVariables false

/-- The digits of a list, added up from the left as a number that is not positive, in Go's ints. -/
def accW (l : Bytes) : Int := l.foldl (fun n c => wrap64 (wrap64 (10 * n) - ((c.toNat : Int) - 48))) 0
theorem accW_snoc (l : Bytes) (c : UInt8) : accW (l ++ [c]) = wrap64 (wrap64 (10 * accW l) - ((c.toNat : Int) - 48)) := by simp [accW, List.foldl_append]
theorem val_snoc' (l : Bytes) (c : UInt8) : val (l ++ [c]) = val l * 10 + (c.toNat - 48) := val_snoc l c
theorem accW_val' : ∀ (k : Nat) (l : Bytes), l.length = k → (∀ d ∈ l, 48 ≤ d.toNat ∧ d.toNat ≤ 57) → val l ≤ 9223372036854775808 → accW l = -(val l : Int)
  | 0, l, h0, _, _ => by obtain rfl := List.eq_nil_of_length_eq_zero h0; simp [accW, val]
  | k + 1, l, h0, hd, hv => by
    rcases List.eq_nil_or_concat l with rfl | ⟨m, c, rfl⟩
    · simp at h0
    · rw [List.concat_eq_append] at *
      have hc := hd c (by simp)
      rw [val_snoc'] at hv
      have h1 := accW_val' k m (by simp at h0; exact h0) (fun d hm => hd d (by simp [hm])) (by omega)
      rw [accW_snoc, h1, val_snoc']
      have e1 : wrap64 (10 * -(val m : Int)) = 10 * -(val m : Int) := by unfold wrap64; omega
      rw [e1]
      unfold wrap64; omega
theorem accW_val (l : Bytes) (hd : ∀ d ∈ l, 48 ≤ d.toNat ∧ d.toNat ≤ 57) (hv : val l ≤ 9223372036854775808) : accW l = -(val l : Int) := accW_val' _ l rfl hd hv
def isD (c : UInt8) : Prop := 48 ≤ c.toNat ∧ c.toNat ≤ 57
def BackSays (s : Bytes) (e : Ending) : Prop := ∃ (n : Int) (ok : Bool), e = .returned (.tuple #[.int .i64 n, .bool ok]) ∧ (ok = true → canon s = some n) ∧ (ok = false → canon s = none)
/-- What a list of digits, with or without a sign, spells. -/
theorem back_pos (s : Bytes) (hn : s.head? ≠ some 45) (n : Int) (hr : minInt ≤ n ∧ n ≤ maxInt) (h : canon s = some n) : wrap64 (-(accW s)) = n := by
  obtain ⟨h1, h2, h3⟩ := canon_some h
  unfold Lib.itoa at h1
  split at h1
  · exfalso; apply hn; rw [← h1]; rfl
  · have hv : val s = n.toNat := by rw [← h1, val_digits]
    have hd : ∀ d ∈ s, 48 ≤ d.toNat ∧ d.toNat ≤ 57 := by rw [← h1]; exact digits_in _
    rw [accW_val s hd (by omega), hv]
    unfold wrap64; omega
theorem back_neg (r : Bytes) (n : Int) (h : canon (45 :: r) = some n) : accW r = n ∧ ∀ d ∈ r, isD d := by
  obtain ⟨h1, h2, h3⟩ := canon_some h
  unfold Lib.itoa at h1
  split at h1
  · injection h1 with _ h1
    have hv : val r = n.natAbs := by rw [← h1, val_digits]
    have hd : ∀ d ∈ r, 48 ≤ d.toNat ∧ d.toNat ≤ 57 := by rw [← h1]; exact digits_in _
    refine ⟨?_, hd⟩
    rw [accW_val r hd (by omega), hv]; omega
  · exfalso
    have := digits_in n.toNat 45 (by rw [h1]; simp)
    simp at this
theorem canon_len {s : Bytes} {n : Int} (h : canon s = some n) : s.length ≤ 20 := by
  obtain ⟨h1, h2, h3⟩ := canon_some h
  rw [← h1]; exact itoa_len h2 h3
theorem canon_dig {s : Bytes} {n : Int} (h : canon s = some n) (hn : s.head? ≠ some 45) : ∀ d ∈ s, isD d := by
  obtain ⟨h1, h2, h3⟩ := canon_some h
  unfold Lib.itoa at h1
  split at h1
  · exfalso; apply hn; rw [← h1]; rfl
  · rw [← h1]; exact digits_in _
theorem wrap_in (n : Int) : minInt ≤ wrap64 n ∧ wrap64 n ≤ maxInt := by unfold wrap64 minInt maxInt; omega
theorem accW_in (l : Bytes) : minInt ≤ accW l ∧ accW l ≤ maxInt := by
  cases List.eq_nil_or_concat l with
  | inl h => subst h; simp [accW, minInt, maxInt]
  | inr h => obtain ⟨m, c, rfl⟩ := h; rw [List.concat_eq_append, accW_snoc]; exact wrap_in _

end Go.Proofs.YtedifjdhdhcbhaaDoor
