import Derived.Test.YtbmonkhnmaamnaaDoorProg
import Derived.WalkKit
import Derived.Handy
import Derived.Deep.Light
import Derived.WalkSmall
import Derived.StillTailTactics
import Derived.Lib.Hide
import Derived.Test.YtbmonkhnmaamnaaDoorReg
import Derived.Test.YtbmonkhnmaamnaaDoorIsa0
import Derived.Test.YtbmonkhnmaamnaaDoorIsaS
import Derived.Test.YtbmonkhnmaamnaaDoorIsaX
namespace Go.Proofs.YtbmonkhnmaamnaaDoor
open Go Go.RowKit
set_option linter.unusedSimpArgs false
set_option linter.unusedVariables false

def val (l : List UInt8) : Nat := l.foldl (fun s d => s * 10 + (d.toNat - 48)) 0
theorem val_snoc (l : List UInt8) (d : UInt8) : val (l ++ [d]) = val l * 10 + (d.toNat - 48) := by simp [val, List.foldl_append]
theorem digit_nat (k : Nat) (h : k < 10) : (UInt8.ofNat (48 + k)).toNat = 48 + k := by rw [UInt8.toNat_ofNat']; omega
theorem val_digits (k : Nat) : val (Lib.decDigits k) = k := by
  induction k using Nat.strongRecOn with
  | _ k ih =>
    rw [Lib.decDigits]
    split
    · rename_i h
      show 0 * 10 + ((UInt8.ofNat (48 + k)).toNat - 48) = k
      rw [digit_nat k h]; omega
    · rename_i h
      rw [val_snoc, ih (k / 10) (by omega), digit_nat _ (by omega)]; omega
theorem digits_ge (k : Nat) : ∀ d ∈ Lib.decDigits k, 48 ≤ d.toNat := by
  induction k using Nat.strongRecOn with
  | _ k ih =>
    rw [Lib.decDigits]
    split
    · rename_i h; intro d hd; rw [List.mem_singleton] at hd; subst hd; rw [digit_nat k h]; omega
    · rename_i h
      intro d hd
      rcases List.mem_append.1 hd with hd | hd
      · exact ih (k / 10) (by omega) d hd
      · rw [List.mem_singleton] at hd; subst hd; rw [digit_nat (k % 10) (by omega)]; omega
theorem itoa_inj {m n : Int} (h : Lib.itoa m = Lib.itoa n) : m = n := by
  unfold Lib.itoa at h
  have no : ∀ (k : Nat) (l : List UInt8), Lib.decDigits k = 45 :: l → False := fun k l e => by
    have := digits_ge k 45 (by rw [e]; simp)
    simp at this
  split at h <;> split at h
  · have := congrArg val (List.cons.inj h).2
    rw [val_digits, val_digits] at this; omega
  · exact (no _ _ h.symm).elim
  · exact (no _ _ h).elim
  · have := congrArg val h
    rw [val_digits, val_digits] at this; omega
theorem name_clean (op : Int) : ∀ x ∈ (nameB op).data.toList, x ≠ 32 := by
  unfold nameB
  rcases Nat.lt_or_ge op.toNat 32 with h | h
  · have : ∀ k : Fin 32, ∀ x ∈ (namesB.getD k.val ByteArray.empty).data.toList, x ≠ 32 := by decide +kernel
    exact this ⟨op.toNat, h⟩
  · have e : namesB[op.toNat]? = none := List.getElem?_eq_none (by simpa [namesB] using h)
    rw [List.getD_eq_getElem?_getD, e]; intro x hx; simp at hx
theorem name_inj {m n : Int} (m0 : 0 ≤ m) (m1 : m < 32) (n0 : 0 ≤ n) (n1 : n < 32) (h : (nameB m).data.toList = (nameB n).data.toList) : m = n := by
  have e : nameB m = nameB n := ba_ext h
  have a := find_name m.toNat (by omega)
  have b := find_name n.toNat (by omega)
  unfold nameB at e
  rw [e, b] at a; omega
theorem tw_all {l : List UInt8} (h : ∀ x ∈ l, x ≠ 32) (r : List UInt8) : (l ++ 32 :: r).takeWhile (fun x => x != 32) = l := by
  induction l with
  | nil => simp
  | cons x l ih =>
    have hx := h x (by simp)
    simp [hx, ih (fun y hy => h y (List.mem_cons_of_mem _ hy))]
theorem tw_self {l : List UInt8} (h : ∀ x ∈ l, x ≠ 32) : l.takeWhile (fun x => x != 32) = l := by
  induction l with
  | nil => simp
  | cons x l ih =>
    have hx := h x (by simp)
    simp [hx, ih (fun y hy => h y (List.mem_cons_of_mem _ hy))]
def dg (a : Int) : UInt8 := UInt8.ofNat (48 + a.toNat)
theorem reg_list {a : Int} (h0 : 0 ≤ a) (h7 : a ≤ 7) : (regB a).data.toList = [114, dg a] := by
  obtain ⟨k, rfl⟩ := Int.eq_ofNat_of_zero_le h0
  rw [regB, toList_app]
  show [114] ++ Lib.itoa k = _
  rw [itoa_small k (by omega)]
  rfl
theorem dg_inj {a b : Int} (h0 : 0 ≤ a) (h7 : a ≤ 7) (k0 : 0 ≤ b) (k7 : b ≤ 7) (h : dg a = dg b) : a = b := by
  have := congrArg UInt8.toNat h
  unfold dg at this
  rw [digit_nat _ (by omega), digit_nat _ (by omega)] at this; omega
theorem join_inj {f a b c a' b' c' : Int} (hf : f ≠ 0) (h1 : validF f a b c = true) (h2 : validF f a' b' c' = true) (h : (joinB (opsB f a b c)).data.toList = (joinB (opsB f a' b' c')).data.toList) : a = a' ∧ b = b' ∧ c = c' := by
  have hfv : f = 1 ∨ f = 2 ∨ f = 3 ∨ f = 4 ∨ f = 5 ∨ f = 6 := by
    apply Classical.byContradiction
    intro hn
    simp only [not_or] at hn
    simp [validF, hf, hn] at h1
  have num_list : ∀ n : Int, (numS n).data.toList = Lib.itoa n := fun _ => rfl
  rcases hfv with rfl | rfl | rfl | rfl | rfl | rfl <;> simp [validF, inR] at h1 h2
  · simp [opsB, joinB, Lib.join, List.intercalate, List.intersperse, reg_list h1.1.1 h1.1.2, reg_list h2.1.1 h2.1.2] at h
    exact ⟨dg_inj h1.1.1 h1.1.2 h2.1.1 h2.1.2 h, by omega, by omega⟩
  · simp [opsB, joinB, Lib.join, List.intercalate, List.intersperse, reg_list h1.1.1.1 h1.1.1.2, reg_list h2.1.1.1 h2.1.1.2, reg_list h1.1.2.1 h1.1.2.2, reg_list h2.1.2.1 h2.1.2.2] at h
    exact ⟨dg_inj h1.1.1.1 h1.1.1.2 h2.1.1.1 h2.1.1.2 h.1, dg_inj h1.1.2.1 h1.1.2.2 h2.1.2.1 h2.1.2.2 h.2, by omega⟩
  · simp [opsB, joinB, Lib.join, List.intercalate, List.intersperse, reg_list h1.1.1.1 h1.1.1.2, reg_list h2.1.1.1 h2.1.1.2, reg_list h1.1.2.1 h1.1.2.2, reg_list h2.1.2.1 h2.1.2.2, reg_list h1.2.1 h1.2.2, reg_list h2.2.1 h2.2.2] at h
    exact ⟨dg_inj h1.1.1.1 h1.1.1.2 h2.1.1.1 h2.1.1.2 h.1, dg_inj h1.1.2.1 h1.1.2.2 h2.1.2.1 h2.1.2.2 h.2.1, dg_inj h1.2.1 h1.2.2 h2.2.1 h2.2.2 h.2.2⟩
  · simp [opsB, joinB, Lib.join, List.intercalate, List.intersperse, reg_list h1.1.1.1 h1.1.1.2, reg_list h2.1.1.1 h2.1.1.2, reg_list h1.1.2.1 h1.1.2.2, reg_list h2.1.2.1 h2.1.2.2, num_list] at h
    exact ⟨dg_inj h1.1.1.1 h1.1.1.2 h2.1.1.1 h2.1.1.2 h.1, dg_inj h1.1.2.1 h1.1.2.2 h2.1.2.1 h2.1.2.2 h.2.1, itoa_inj h.2.2⟩
  · simp [opsB, joinB, Lib.join, List.intercalate, List.intersperse, reg_list h1.1.1.1 h1.1.1.2, reg_list h2.1.1.1 h2.1.1.2, num_list] at h
    exact ⟨dg_inj h1.1.1.1 h1.1.1.2 h2.1.1.1 h2.1.1.2 h.1, itoa_inj h.2, by omega⟩
  · simp [opsB, joinB, Lib.join, List.intercalate, List.intersperse, num_list] at h
    exact ⟨by omega, itoa_inj h, by omega⟩
theorem print_inj {op a b c op' a' b' c' : Int} (h1 : valid op a b c = true) (h2 : valid op' a' b' c' = true) (h : printS op a b c = printS op' a' b' c') : op = op' ∧ a = a' ∧ b = b' ∧ c = c' := by
  have r1 := valid_range h1
  have r2 := valid_range h2
  rw [printS, printS, if_pos h1, if_pos h2] at h
  have hl := congrArg (fun s : ByteArray => s.data.toList) h
  have t1 : ∀ (o x y z : Int), ((if form o = 0 then nameB o else (nameB o ++ ⟨#[32]⟩) ++ joinB (opsB (form o) x y z)) : ByteArray).data.toList.takeWhile (fun x => x != 32) = (nameB o).data.toList := fun o x y z => by
    split
    · exact tw_self (name_clean o)
    · rw [toList_app, toList_app, List.append_assoc]; exact tw_all (name_clean o) _
  have hn := congrArg (List.takeWhile (fun x => x != 32)) hl
  rw [t1, t1] at hn
  have ho := name_inj r1.1 r1.2 r2.1 r2.2 hn
  subst ho
  refine ⟨rfl, ?_⟩
  unfold valid at h1 h2
  by_cases hf : form op = 0
  · rw [hf] at h1 h2
    simp [validF] at h1 h2
    omega
  · rw [if_neg hf, if_neg hf, toList_app, toList_app, toList_app, toList_app] at hl
    exact join_inj hf h1 h2 (List.append_cancel_left hl)
theorem enc_inj {op a b c op' a' b' c' : Int} (h1 : valid op a b c = true) (h2 : valid op' a' b' c' = true) (h : encS op a b c = encS op' a' b' c') : op = op' ∧ a = a' ∧ b = b' ∧ c = c' := by
  obtain ⟨x, y, z, t, e, _, k1, k2, k3, k4⟩ := enc_dec h1
  obtain ⟨x', y', z', t', e', _, k1', k2', k3', k4'⟩ := enc_dec h2
  rw [e, e'] at h
  have hd := congrArg (fun s : ByteArray => s.data.toList) h
  simp at hd
  obtain ⟨rfl, rfl, rfl, rfl⟩ := hd
  exact ⟨k1.symm.trans k1', k2.symm.trans k2', k3.symm.trans k3', k4.symm.trans k4'⟩

end Go.Proofs.YtbmonkhnmaamnaaDoor
