import Derived.Test.YtjkohbecmaegmaaDoorProg
import Derived.WalkKit
import Derived.Handy
import Derived.Deep.Light
import Derived.WalkSmall
import Derived.StillTailTactics
import Derived.Lib.Hide
import Derived.Test.YtjkohbecmaegmaaDoorT0
import Derived.Test.YtjkohbecmaegmaaDoorIt
import Derived.Test.YtjkohbecmaegmaaDoorT5
namespace Go.Proofs.YtjkohbecmaegmaaDoor
open Go Go.RowKit
set_option linter.unusedSimpArgs false
set_option linter.unusedVariables false

def whiteB (c : UInt8) : Bool := c == 32 || c == 9 || c == 10
/-- The fields of what is left, behind what the field under way has. -/
def fieldsGo : Bytes → Bytes → List Bytes
  | now, [] => if now = [] then [] else [now]
  | now, c :: t => if whiteB c then (if now = [] then fieldsGo [] t else now :: fieldsGo [] t) else fieldsGo (now ++ [c]) t
def fieldsB (s : Bytes) : List Bytes := fieldsGo [] s
theorem fields_skip : ∀ (u now t : Bytes), (∀ c ∈ u, whiteB c = false) → fieldsGo now (u ++ t) = fieldsGo (now ++ u) t
  | [], now, t, _ => by simp
  | c :: u, now, t, h => by
    rw [List.cons_append, fieldsGo, if_neg (by rw [h c (by simp)]; decide), fields_skip u _ t (fun x hx => h x (List.mem_cons_of_mem _ hx))]
    simp
theorem get_at {s : ByteArray} {i : Nat} {c : UInt8} (h : s.data.toList[i]? = some c) : s.get! i = c := by
  have hi : i < s.size := by rw [← szl]; exact (List.getElem?_eq_some_iff.1 h).1
  have h1 : s.get! i = s.data[i]! := by cases s; rfl
  rw [h1, getElem!_pos s.data i hi]
  have h2 : s.data.toList[i]? = some (s.data[i]'hi) := by
    rw [List.getElem?_eq_getElem (by simpa using hi)]; rfl
  rw [h] at h2; exact (Option.some.inj h2).symm
theorem decode_low (s : ByteArray) (i : Nat) (hb : (s.get! i).toNat < 128) : Utf8.decode s i = ((s.get! i).toNat, 1) := by
  unfold Utf8.decode
  simp only [Nat.add_zero]
  rw [if_pos hb]
theorem decode_high (s : ByteArray) (i : Nat) (hi : i < s.size) (hb : 128 ≤ (s.get! i).toNat) :
    128 ≤ (Utf8.decode s i).1 ∧ 1 ≤ (Utf8.decode s i).2 ∧ i + (Utf8.decode s i).2 ≤ s.size ∧ ∀ k, k < (Utf8.decode s i).2 → 128 ≤ (s.get! (i + k)).toNat := by
  have one : ∀ k, k < 1 → 128 ≤ (s.get! (i + k)).toNat := fun k hk => by obtain rfl : k = 0 := by omega
                                                                         simpa using hb
  have hr : 128 ≤ Utf8.runeError := by unfold Utf8.runeError; omega
  unfold Utf8.decode
  simp only [Nat.add_zero]
  rw [if_neg (by omega)]
  split
  · rename_i h
    simp only [Bool.and_eq_true, decide_eq_true_eq, beq_iff_eq] at h
    split
    · refine ⟨by assumption, by simp, by simp only; omega, fun k hk => ?_⟩
      simp only at hk
      have : k = 0 ∨ k = 1 := by omega
      rcases this with rfl | rfl
      · simpa using hb
      · omega
    · exact ⟨hr, by simp, by simp only; omega, one⟩
  · split
    · rename_i h
      simp only [Bool.and_eq_true, decide_eq_true_eq, beq_iff_eq] at h
      split
      · rename_i h2
        simp only [Bool.and_eq_true, decide_eq_true_eq, ge_iff_le] at h2
        refine ⟨by simp only; omega, by simp, by simp only; omega, fun k hk => ?_⟩
        simp only at hk
        have : k = 0 ∨ k = 1 ∨ k = 2 := by omega
        rcases this with rfl | rfl | rfl
        · simpa using hb
        · omega
        · omega
      · exact ⟨hr, by simp, by simp only; omega, one⟩
    · split
      · rename_i h
        simp only [Bool.and_eq_true, decide_eq_true_eq, beq_iff_eq] at h
        split
        · rename_i h2
          simp only [Bool.and_eq_true, decide_eq_true_eq, ge_iff_le] at h2
          refine ⟨by simp only; omega, by simp, by simp only; omega, fun k hk => ?_⟩
          simp only at hk
          have : k = 0 ∨ k = 1 ∨ k = 2 ∨ k = 3 := by omega
          rcases this with rfl | rfl | rfl | rfl
          · simpa using hb
          · omega
          · omega
          · omega
        · exact ⟨hr, by simp, by simp only; omega, one⟩
      · exact ⟨hr, by simp, by simp only; omega, one⟩

end Go.Proofs.YtjkohbecmaegmaaDoor
