/- Lemmas and walks for the law of this seat (part 5). -/
import Derived.Test.YtgboffbbpmileaaGreatDoorPj4
import Derived.Test.YtgboffbbpmileaaGreatDoorProg
import Derived.WalkKit
import Derived.Handy
import Derived.Deep.Light
import Derived.WalkSmall
import Derived.StillTailTactics
import Derived.Lib.Hide
import Derived.Shelf.Strings.SlTrimAscii
set_option maxRecDepth 20000
set_option maxHeartbeats 4000000
set_option linter.unusedVariables false
set_option linter.unusedSimpArgs false
namespace Go.Proofs.YtgboffbbpmileaaGreatDoor
open Go Go.RowKit
theorem alpha_nat (c : UInt8) : alpha c = decide (c.toNat = 95 ∨ (97 ≤ c.toNat ∧ c.toNat ≤ 122) ∨ (65 ≤ c.toNat ∧ c.toNat ≤ 90)) := by
 have e : (c == 95) = decide (c.toNat = 95) := by
  by_cases h : c = 95
  ·subst h; rfl
  ·exact (beq_false_of_ne h).trans (decide_eq_false (fun e => h (UInt8.toNat_inj.1 e))).symm
 unfold alpha
 rw [e]
 simp [Bool.decide_or, Bool.decide_and, Bool.or_assoc]
theorem digit_nat' (c : UInt8) : digit c = decide (48 ≤ c.toNat ∧ c.toNat ≤ 57) := by simp [digit]
def nm (k : Nat) (l : Bytes) : Nat := if k = 0 then named l else namedT l
theorem nm_cons (k : Nat) (c : UInt8) (t : Bytes) : nm k (c :: t) = if alpha c || (decide (0 < k) && digit c) then nm (k + 1) t + 1 else 0 := by
 unfold nm
 rw [if_neg (by omega : ¬ k + 1 = 0)]
 by_cases h : k = 0
 ·subst h; simp [named]
 ·rw [if_neg h, namedT]
  have : decide (0 < k) = true := by simp; omega
  rw [this]; simp
theorem nm_nil (k : Nat) : nm k [] = 0 := by unfold nm; split <;> rfl
theorem named_is (s : ByteArray) (hs : s.size ≤ 1000000) (w : World) : Calls Tryz.prog 152 #[.string s] w fun e w' => e = .returned (.int .i64 (named s.data.toList)) ∧ Below w.heap.size w w' := by
 obtain ⟨V, hV⟩ : ∃ V, named s.data.toList = V := ⟨_, rfl⟩
 rw [hV]
 have HV : Hid (0 + nm 0 (s.data.toList.drop 0) = V) := Lib.hid (by rw [← hV]; simp [nm])
 clear hV
 have hsl := szl s
 have hL : Kn [] w w [] := Kn.refl [] w; have hF := hL.fx; go_enter Tryz.func152, Tryz.ntmps152
 go_wp2
 go_loopw [3] (fun i wr => ∃ k : Nat, k ≤ s.size ∧ i = .int .i64 k ∧ Kn [] w wr [] ∧ Hid (k + nm k (s.data.toList.drop k) = V)) (fun i _ => s.size - (intOf i).toNat)
 case atStart => exact ⟨0, by omega, rfl, hL, HV⟩
 case round =>
  obtain ⟨k, hk, rfl, hL1, HV1⟩ := hrel
  clear hL HV
  have hL := hL1
  have HV := HV1
  clear hL1 HV1
  have hF := hL.fx
  by_cases hlt : k < s.size
  ·obtain ⟨c0, hc0⟩ : ∃ c, s.data.toList[k]? = some c := ⟨_, List.getElem?_eq_getElem (by rw [szl]; omega)⟩
   have eb0 := byte_at hc0 (by omega)
   have hd0 : s.data.toList.drop (k) = c0 :: s.data.toList.drop (k + 1) := by
    obtain ⟨h1, h2⟩ := List.getElem?_eq_some_iff.1 hc0
    rw [List.drop_eq_getElem_cons h1, h2]
   have hc256 := c0.toNat_lt
   by_cases hk0 : 0 < k
   ·have q7 : (k : Int) > 0 := by omega
    rcases (show (0 ≤ c0.toNat ∧ c0.toNat ≤ 47) ∨ (48 ≤ c0.toNat ∧ c0.toNat ≤ 57) ∨ (58 ≤ c0.toNat ∧ c0.toNat ≤ 64) ∨ (65 ≤ c0.toNat ∧ c0.toNat ≤ 90) ∨ (91 ≤ c0.toNat ∧ c0.toNat ≤ 94) ∨ (95 ≤ c0.toNat ∧ c0.toNat ≤ 95) ∨ (96 ≤ c0.toNat ∧ c0.toNat ≤ 96) ∨ (97 ≤ c0.toNat ∧ c0.toNat ≤ 122) ∨ (123 ≤ c0.toNat ∧ c0.toNat ≤ 255) by omega) with hr | hr | hr | hr | hr | hr | hr | hr | hr
    ·have q0 : ((c0.toNat : Int) == 95) = false := beq_false_of_ne (by omega); have q1 : ¬ (97 ≤ (c0.toNat : Int)) := (by omega); have q2 : (c0.toNat : Int) ≤ 122 := (by omega); have q3 : ¬ (65 ≤ (c0.toNat : Int)) := (by omega); have q4 : (c0.toNat : Int) ≤ 90 := (by omega); have q5 : ¬ (48 ≤ (c0.toNat : Int)) := (by omega); have q6 : (c0.toNat : Int) ≤ 57 := (by omega)
     have ha : alpha c0 = false := by rw [alpha_nat]; exact decide_eq_false (by omega)
     have hdg : digit c0 = false := by rw [digit_nat']; exact decide_eq_false (by omega)
     go_wp2
     refine bodyPost_ret (by simp [results, Tryz.results152, go_sem, *]; try rfl) rfl ?_
     exact ⟨by rw [← HV.out, hd0, nm_cons]; simp [ha, hdg, hk0], hL.below0⟩
    ·have q0 : ((c0.toNat : Int) == 95) = false := beq_false_of_ne (by omega); have q1 : ¬ (97 ≤ (c0.toNat : Int)) := (by omega); have q2 : (c0.toNat : Int) ≤ 122 := (by omega); have q3 : ¬ (65 ≤ (c0.toNat : Int)) := (by omega); have q4 : (c0.toNat : Int) ≤ 90 := (by omega); have q5 : 48 ≤ (c0.toNat : Int) := (by omega); have q6 : (c0.toNat : Int) ≤ 57 := (by omega)
     have ha : alpha c0 = false := by rw [alpha_nat]; exact decide_eq_false (by omega)
     have hdg : digit c0 = true := by rw [digit_nat']; exact decide_eq_true (by omega)
     go_wp2
     go_roundw
     case rel => exact ⟨k + 1, by omega, by go_num, hL, Lib.hid (by rw [← HV.out, hd0, nm_cons]; simp [ha, hdg, hk0]; try omega)⟩
     case measure => simp [intOf]; omega
    ·have q0 : ((c0.toNat : Int) == 95) = false := beq_false_of_ne (by omega); have q1 : ¬ (97 ≤ (c0.toNat : Int)) := (by omega); have q2 : (c0.toNat : Int) ≤ 122 := (by omega); have q3 : ¬ (65 ≤ (c0.toNat : Int)) := (by omega); have q4 : (c0.toNat : Int) ≤ 90 := (by omega); have q5 : 48 ≤ (c0.toNat : Int) := (by omega); have q6 : ¬ ((c0.toNat : Int) ≤ 57) := (by omega)
     have ha : alpha c0 = false := by rw [alpha_nat]; exact decide_eq_false (by omega)
     have hdg : digit c0 = false := by rw [digit_nat']; exact decide_eq_false (by omega)
     go_wp2
     refine bodyPost_ret (by simp [results, Tryz.results152, go_sem, *]; try rfl) rfl ?_
     exact ⟨by rw [← HV.out, hd0, nm_cons]; simp [ha, hdg, hk0], hL.below0⟩
    ·have q0 : ((c0.toNat : Int) == 95) = false := beq_false_of_ne (by omega); have q1 : ¬ (97 ≤ (c0.toNat : Int)) := (by omega); have q2 : (c0.toNat : Int) ≤ 122 := (by omega); have q3 : 65 ≤ (c0.toNat : Int) := (by omega); have q4 : (c0.toNat : Int) ≤ 90 := (by omega); have q5 : 48 ≤ (c0.toNat : Int) := (by omega); have q6 : ¬ ((c0.toNat : Int) ≤ 57) := (by omega)
     have ha : alpha c0 = true := by rw [alpha_nat]; exact decide_eq_true (by omega)
     have hdg : digit c0 = false := by rw [digit_nat']; exact decide_eq_false (by omega)
     go_wp2
     go_roundw
     case rel => exact ⟨k + 1, by omega, by go_num, hL, Lib.hid (by rw [← HV.out, hd0, nm_cons]; simp [ha, hdg, hk0]; try omega)⟩
     case measure => simp [intOf]; omega
    ·have q0 : ((c0.toNat : Int) == 95) = false := beq_false_of_ne (by omega); have q1 : ¬ (97 ≤ (c0.toNat : Int)) := (by omega); have q2 : (c0.toNat : Int) ≤ 122 := (by omega); have q3 : 65 ≤ (c0.toNat : Int) := (by omega); have q4 : ¬ ((c0.toNat : Int) ≤ 90) := (by omega); have q5 : 48 ≤ (c0.toNat : Int) := (by omega); have q6 : ¬ ((c0.toNat : Int) ≤ 57) := (by omega)
     have ha : alpha c0 = false := by rw [alpha_nat]; exact decide_eq_false (by omega)
     have hdg : digit c0 = false := by rw [digit_nat']; exact decide_eq_false (by omega)
     go_wp2
     refine bodyPost_ret (by simp [results, Tryz.results152, go_sem, *]; try rfl) rfl ?_
     exact ⟨by rw [← HV.out, hd0, nm_cons]; simp [ha, hdg, hk0], hL.below0⟩
    ·have q0 : ((c0.toNat : Int) == 95) = true := beq_iff_eq.2 (by omega); have q1 : ¬ (97 ≤ (c0.toNat : Int)) := (by omega); have q2 : (c0.toNat : Int) ≤ 122 := (by omega); have q3 : 65 ≤ (c0.toNat : Int) := (by omega); have q4 : ¬ ((c0.toNat : Int) ≤ 90) := (by omega); have q5 : 48 ≤ (c0.toNat : Int) := (by omega); have q6 : ¬ ((c0.toNat : Int) ≤ 57) := (by omega)
     have ha : alpha c0 = true := by rw [alpha_nat]; exact decide_eq_true (by omega)
     have hdg : digit c0 = false := by rw [digit_nat']; exact decide_eq_false (by omega)
     go_wp2
     go_roundw
     case rel => exact ⟨k + 1, by omega, by go_num, hL, Lib.hid (by rw [← HV.out, hd0, nm_cons]; simp [ha, hdg, hk0]; try omega)⟩
     case measure => simp [intOf]; omega
    ·have q0 : ((c0.toNat : Int) == 95) = false := beq_false_of_ne (by omega); have q1 : ¬ (97 ≤ (c0.toNat : Int)) := (by omega); have q2 : (c0.toNat : Int) ≤ 122 := (by omega); have q3 : 65 ≤ (c0.toNat : Int) := (by omega); have q4 : ¬ ((c0.toNat : Int) ≤ 90) := (by omega); have q5 : 48 ≤ (c0.toNat : Int) := (by omega); have q6 : ¬ ((c0.toNat : Int) ≤ 57) := (by omega)
     have ha : alpha c0 = false := by rw [alpha_nat]; exact decide_eq_false (by omega)
     have hdg : digit c0 = false := by rw [digit_nat']; exact decide_eq_false (by omega)
     go_wp2
     refine bodyPost_ret (by simp [results, Tryz.results152, go_sem, *]; try rfl) rfl ?_
     exact ⟨by rw [← HV.out, hd0, nm_cons]; simp [ha, hdg, hk0], hL.below0⟩
    ·have q0 : ((c0.toNat : Int) == 95) = false := beq_false_of_ne (by omega); have q1 : 97 ≤ (c0.toNat : Int) := (by omega); have q2 : (c0.toNat : Int) ≤ 122 := (by omega); have q3 : 65 ≤ (c0.toNat : Int) := (by omega); have q4 : ¬ ((c0.toNat : Int) ≤ 90) := (by omega); have q5 : 48 ≤ (c0.toNat : Int) := (by omega); have q6 : ¬ ((c0.toNat : Int) ≤ 57) := (by omega)
     have ha : alpha c0 = true := by rw [alpha_nat]; exact decide_eq_true (by omega)
     have hdg : digit c0 = false := by rw [digit_nat']; exact decide_eq_false (by omega)
     go_wp2
     go_roundw
     case rel => exact ⟨k + 1, by omega, by go_num, hL, Lib.hid (by rw [← HV.out, hd0, nm_cons]; simp [ha, hdg, hk0]; try omega)⟩
     case measure => simp [intOf]; omega
    ·have q0 : ((c0.toNat : Int) == 95) = false := beq_false_of_ne (by omega); have q1 : 97 ≤ (c0.toNat : Int) := (by omega); have q2 : ¬ ((c0.toNat : Int) ≤ 122) := (by omega); have q3 : 65 ≤ (c0.toNat : Int) := (by omega); have q4 : ¬ ((c0.toNat : Int) ≤ 90) := (by omega); have q5 : 48 ≤ (c0.toNat : Int) := (by omega); have q6 : ¬ ((c0.toNat : Int) ≤ 57) := (by omega)
     have ha : alpha c0 = false := by rw [alpha_nat]; exact decide_eq_false (by omega)
     have hdg : digit c0 = false := by rw [digit_nat']; exact decide_eq_false (by omega)
     go_wp2
     refine bodyPost_ret (by simp [results, Tryz.results152, go_sem, *]; try rfl) rfl ?_
     exact ⟨by rw [← HV.out, hd0, nm_cons]; simp [ha, hdg, hk0], hL.below0⟩
   ·obtain rfl : k = 0 := by omega
    have hk0 : ¬ 0 < 0 := by omega
    rcases (show (0 ≤ c0.toNat ∧ c0.toNat ≤ 47) ∨ (48 ≤ c0.toNat ∧ c0.toNat ≤ 57) ∨ (58 ≤ c0.toNat ∧ c0.toNat ≤ 64) ∨ (65 ≤ c0.toNat ∧ c0.toNat ≤ 90) ∨ (91 ≤ c0.toNat ∧ c0.toNat ≤ 94) ∨ (95 ≤ c0.toNat ∧ c0.toNat ≤ 95) ∨ (96 ≤ c0.toNat ∧ c0.toNat ≤ 96) ∨ (97 ≤ c0.toNat ∧ c0.toNat ≤ 122) ∨ (123 ≤ c0.toNat ∧ c0.toNat ≤ 255) by omega) with hr | hr | hr | hr | hr | hr | hr | hr | hr
    ·have q0 : ((c0.toNat : Int) == 95) = false := beq_false_of_ne (by omega); have q1 : ¬ (97 ≤ (c0.toNat : Int)) := (by omega); have q2 : (c0.toNat : Int) ≤ 122 := (by omega); have q3 : ¬ (65 ≤ (c0.toNat : Int)) := (by omega); have q4 : (c0.toNat : Int) ≤ 90 := (by omega); have q5 : ¬ (48 ≤ (c0.toNat : Int)) := (by omega); have q6 : (c0.toNat : Int) ≤ 57 := (by omega)
     have ha : alpha c0 = false := by rw [alpha_nat]; exact decide_eq_false (by omega)
     have hdg : digit c0 = false := by rw [digit_nat']; exact decide_eq_false (by omega)
     go_wp2
     refine bodyPost_ret (by simp [results, Tryz.results152, go_sem, *]; try rfl) rfl ?_
     exact ⟨by rw [← HV.out, hd0, nm_cons]; simp [ha, hdg, hk0], hL.below0⟩
    ·have q0 : ((c0.toNat : Int) == 95) = false := beq_false_of_ne (by omega); have q1 : ¬ (97 ≤ (c0.toNat : Int)) := (by omega); have q2 : (c0.toNat : Int) ≤ 122 := (by omega); have q3 : ¬ (65 ≤ (c0.toNat : Int)) := (by omega); have q4 : (c0.toNat : Int) ≤ 90 := (by omega); have q5 : 48 ≤ (c0.toNat : Int) := (by omega); have q6 : (c0.toNat : Int) ≤ 57 := (by omega)
     have ha : alpha c0 = false := by rw [alpha_nat]; exact decide_eq_false (by omega)
     have hdg : digit c0 = true := by rw [digit_nat']; exact decide_eq_true (by omega)
     go_wp2
     refine bodyPost_ret (by simp [results, Tryz.results152, go_sem, *]; try rfl) rfl ?_
     exact ⟨by rw [← HV.out, hd0, nm_cons]; simp [ha, hdg, hk0], hL.below0⟩
    ·have q0 : ((c0.toNat : Int) == 95) = false := beq_false_of_ne (by omega); have q1 : ¬ (97 ≤ (c0.toNat : Int)) := (by omega); have q2 : (c0.toNat : Int) ≤ 122 := (by omega); have q3 : ¬ (65 ≤ (c0.toNat : Int)) := (by omega); have q4 : (c0.toNat : Int) ≤ 90 := (by omega); have q5 : 48 ≤ (c0.toNat : Int) := (by omega); have q6 : ¬ ((c0.toNat : Int) ≤ 57) := (by omega)
     have ha : alpha c0 = false := by rw [alpha_nat]; exact decide_eq_false (by omega)
     have hdg : digit c0 = false := by rw [digit_nat']; exact decide_eq_false (by omega)
     go_wp2
     refine bodyPost_ret (by simp [results, Tryz.results152, go_sem, *]; try rfl) rfl ?_
     exact ⟨by rw [← HV.out, hd0, nm_cons]; simp [ha, hdg, hk0], hL.below0⟩
    ·have q0 : ((c0.toNat : Int) == 95) = false := beq_false_of_ne (by omega); have q1 : ¬ (97 ≤ (c0.toNat : Int)) := (by omega); have q2 : (c0.toNat : Int) ≤ 122 := (by omega); have q3 : 65 ≤ (c0.toNat : Int) := (by omega); have q4 : (c0.toNat : Int) ≤ 90 := (by omega); have q5 : 48 ≤ (c0.toNat : Int) := (by omega); have q6 : ¬ ((c0.toNat : Int) ≤ 57) := (by omega)
     have ha : alpha c0 = true := by rw [alpha_nat]; exact decide_eq_true (by omega)
     have hdg : digit c0 = false := by rw [digit_nat']; exact decide_eq_false (by omega)
     go_wp2
     go_roundw
     case rel => exact ⟨0 + 1, by omega, by go_num, hL, Lib.hid (by rw [← HV.out, hd0, nm_cons]; simp [ha, hdg, hk0]; try omega)⟩
     case measure => simp [intOf]; omega
    ·have q0 : ((c0.toNat : Int) == 95) = false := beq_false_of_ne (by omega); have q1 : ¬ (97 ≤ (c0.toNat : Int)) := (by omega); have q2 : (c0.toNat : Int) ≤ 122 := (by omega); have q3 : 65 ≤ (c0.toNat : Int) := (by omega); have q4 : ¬ ((c0.toNat : Int) ≤ 90) := (by omega); have q5 : 48 ≤ (c0.toNat : Int) := (by omega); have q6 : ¬ ((c0.toNat : Int) ≤ 57) := (by omega)
     have ha : alpha c0 = false := by rw [alpha_nat]; exact decide_eq_false (by omega)
     have hdg : digit c0 = false := by rw [digit_nat']; exact decide_eq_false (by omega)
     go_wp2
     refine bodyPost_ret (by simp [results, Tryz.results152, go_sem, *]; try rfl) rfl ?_
     exact ⟨by rw [← HV.out, hd0, nm_cons]; simp [ha, hdg, hk0], hL.below0⟩
    ·have q0 : ((c0.toNat : Int) == 95) = true := beq_iff_eq.2 (by omega); have q1 : ¬ (97 ≤ (c0.toNat : Int)) := (by omega); have q2 : (c0.toNat : Int) ≤ 122 := (by omega); have q3 : 65 ≤ (c0.toNat : Int) := (by omega); have q4 : ¬ ((c0.toNat : Int) ≤ 90) := (by omega); have q5 : 48 ≤ (c0.toNat : Int) := (by omega); have q6 : ¬ ((c0.toNat : Int) ≤ 57) := (by omega)
     have ha : alpha c0 = true := by rw [alpha_nat]; exact decide_eq_true (by omega)
     have hdg : digit c0 = false := by rw [digit_nat']; exact decide_eq_false (by omega)
     go_wp2
     go_roundw
     case rel => exact ⟨0 + 1, by omega, by go_num, hL, Lib.hid (by rw [← HV.out, hd0, nm_cons]; simp [ha, hdg, hk0]; try omega)⟩
     case measure => simp [intOf]; omega
    ·have q0 : ((c0.toNat : Int) == 95) = false := beq_false_of_ne (by omega); have q1 : ¬ (97 ≤ (c0.toNat : Int)) := (by omega); have q2 : (c0.toNat : Int) ≤ 122 := (by omega); have q3 : 65 ≤ (c0.toNat : Int) := (by omega); have q4 : ¬ ((c0.toNat : Int) ≤ 90) := (by omega); have q5 : 48 ≤ (c0.toNat : Int) := (by omega); have q6 : ¬ ((c0.toNat : Int) ≤ 57) := (by omega)
     have ha : alpha c0 = false := by rw [alpha_nat]; exact decide_eq_false (by omega)
     have hdg : digit c0 = false := by rw [digit_nat']; exact decide_eq_false (by omega)
     go_wp2
     refine bodyPost_ret (by simp [results, Tryz.results152, go_sem, *]; try rfl) rfl ?_
     exact ⟨by rw [← HV.out, hd0, nm_cons]; simp [ha, hdg, hk0], hL.below0⟩
    ·have q0 : ((c0.toNat : Int) == 95) = false := beq_false_of_ne (by omega); have q1 : 97 ≤ (c0.toNat : Int) := (by omega); have q2 : (c0.toNat : Int) ≤ 122 := (by omega); have q3 : 65 ≤ (c0.toNat : Int) := (by omega); have q4 : ¬ ((c0.toNat : Int) ≤ 90) := (by omega); have q5 : 48 ≤ (c0.toNat : Int) := (by omega); have q6 : ¬ ((c0.toNat : Int) ≤ 57) := (by omega)
     have ha : alpha c0 = true := by rw [alpha_nat]; exact decide_eq_true (by omega)
     have hdg : digit c0 = false := by rw [digit_nat']; exact decide_eq_false (by omega)
     go_wp2
     go_roundw
     case rel => exact ⟨0 + 1, by omega, by go_num, hL, Lib.hid (by rw [← HV.out, hd0, nm_cons]; simp [ha, hdg, hk0]; try omega)⟩
     case measure => simp [intOf]; omega
    ·have q0 : ((c0.toNat : Int) == 95) = false := beq_false_of_ne (by omega); have q1 : 97 ≤ (c0.toNat : Int) := (by omega); have q2 : ¬ ((c0.toNat : Int) ≤ 122) := (by omega); have q3 : 65 ≤ (c0.toNat : Int) := (by omega); have q4 : ¬ ((c0.toNat : Int) ≤ 90) := (by omega); have q5 : 48 ≤ (c0.toNat : Int) := (by omega); have q6 : ¬ ((c0.toNat : Int) ≤ 57) := (by omega)
     have ha : alpha c0 = false := by rw [alpha_nat]; exact decide_eq_false (by omega)
     have hdg : digit c0 = false := by rw [digit_nat']; exact decide_eq_false (by omega)
     go_wp2
     refine bodyPost_ret (by simp [results, Tryz.results152, go_sem, *]; try rfl) rfl ?_
     exact ⟨by rw [← HV.out, hd0, nm_cons]; simp [ha, hdg, hk0], hL.below0⟩
  ·have hke : k = s.size := by omega
   go_wp2
   refine bodyPost_ret (by simp [results, Tryz.results152, go_sem, *]; try rfl) rfl ?_
   exact ⟨by rw [← HV.out, List.drop_eq_nil_of_le (by rw [szl]; omega), nm_nil, hke]; rfl, hL.below0⟩
end Go.Proofs.YtgboffbbpmileaaGreatDoor
set_option maxRecDepth 20000
set_option maxHeartbeats 4000000
set_option linter.unusedVariables false
set_option linter.unusedSimpArgs false
namespace Go.Proofs.YtgboffbbpmileaaGreatDoor
open Go Go.RowKit
theorem Index_any (s : ByteArray) (c : UInt8) (r : Int) (hr : Lib.indexByte s.data.toList c = r) (n : Int) (hn : (c.toNat : Int) = n) (w : World) :
  Calls Tryz.prog 81 #[.string s, .int .u8 n] w fun x w' => x = .returned (.int .i64 r) ∧ w' = w :=
 (Tryz.strings_IndexByte s n w).mono fun x w' ⟨h1, h2⟩ => ⟨by rw [h1, ← hr, ← hn]; congr 3; simp, h2⟩
theorem all_bytes {p : UInt8 → Bool} (h : ∀ n < 256, p (UInt8.ofNat n) = true) (c : UInt8) : p c = true := by
 have := h c.toNat c.toNat_lt
 simpa using this
theorem spec_ix (c : UInt8) : (decide (0 ≤ Lib.indexByte [48, 49, 50, 51, 52, 53, 54, 55, 56, 57, 35, 63, 36, 33, 64, 42] c) == special c) = true := all_bytes (p := fun c => decide (0 ≤ Lib.indexByte [48, 49, 50, 51, 52, 53, 54, 55, 56, 57, 35, 63, 36, 33, 64, 42] c) == special c) (by decide +kernel) c
theorem ends_ix (c : UInt8) : (decide (Lib.indexByte [32, 9, 10, 124, 38, 59, 40, 41, 60, 62] c < 0) == !ends c) = true := all_bytes (p := fun c => decide (Lib.indexByte [32, 9, 10, 124, 38, 59, 40, 41, 60, 62] c < 0) == !ends c) (by decide +kernel) c
theorem esc_ix (c : UInt8) : (decide (0 ≤ Lib.indexByte [34, 36, 92] c) == esc c) = true := all_bytes (p := fun c => decide (0 ≤ Lib.indexByte [34, 36, 92] c) == esc c) (by decide +kernel) c
theorem param_is (s : ByteArray) (hs : s.size ≤ 1000000) (w : World) : Calls Tryz.prog 126 #[.string s] w fun e w' => e = .returned (.int .i64 (param s.data.toList)) ∧ Below w.heap.size w w' := by
 obtain ⟨V, hV⟩ : ∃ V, param s.data.toList = V := ⟨_, rfl⟩
 obtain ⟨k, hk⟩ : ∃ k, named s.data.toList = k := ⟨_, rfl⟩
 rw [hV]
 have HV := Lib.hid hV
 have hsl := szl s
 have hN : Hid (∀ W, Calls Tryz.prog 152 #[.string s] W fun e w' => e = .returned (.int .i64 k) ∧ Below W.heap.size W w') := Lib.hid fun W => by rw [← hk]; exact named_is s hs W
 by_cases hk0 : 0 < k
 ·have q0 : (k : Int) > 0 := by omega
  have hVk : V = k := by rw [← hV]; unfold param; rw [hk]; cases k with
   | zero => omega
   | succ n => rfl
  clear hV hk
  have hL : Kn [] w w [] := Kn.refl [] w; have hF := hL.fx; go_enter Tryz.func126, Tryz.ntmps126
  go_wp2_with ((go_at_call 152; refine zC (fun W hL => hN.out _) ?_; clear hF hL; intro W hL hF))
  refine bodyPost_ret (by simp [results, Tryz.results126, go_sem, *]; try rfl) rfl ?_
  exact ⟨by rw [hVk], hL.below0⟩
 ·obtain rfl : k = 0 := by omega
  cases hl : s.data.toList with
  | nil =>
   have he : s = ⟨#[]⟩ := by apply ByteArray.ext; apply Array.ext'; simpa using hl
   have q1 : (s == ⟨#[]⟩) = true := by rw [he]; rfl
   have hV0 : V = 0 := by rw [← hV, hl]; rfl
   clear hV hk
   subst he
   have hL : Kn [] w w [] := Kn.refl [] w; have hF := hL.fx; go_enter Tryz.func126, Tryz.ntmps126
   go_wp2_with ((go_at_call 152; refine zC (fun W hL => hN.out _) ?_; clear hF hL; intro W hL hF))
   refine bodyPost_ret (by simp [results, Tryz.results126, go_sem, *]; try rfl) rfl ?_
   exact ⟨by rw [hV0]; rfl, hL.below0⟩
  | cons c0 tl =>
   have hsz : 0 < s.size := by rw [hl] at hsl; simp at hsl; omega
   have hc0 : s.data.toList[0]? = some c0 := by rw [hl]; rfl
   have eb0 := byte_at hc0 hsz
   have q2 : (s.data.toList == []) = false := by rw [hl]; rfl
   have q3 : s.toList.isEmpty = false := by rw [Lib.toList_data, hl]; rfl
   have q4 : s.data.toList.isEmpty = false := by rw [hl]; rfl
   have q5 : s.data.isEmpty = false := by
    cases h : s.data.isEmpty with
    | false => rfl
    | true => simp at h; simp [h] at hl
   obtain ⟨r, hr⟩ : ∃ r, Lib.indexByte [48, 49, 50, 51, 52, 53, 54, 55, 56, 57, 35, 63, 36, 33, 64, 42] c0 = r := ⟨_, rfl⟩
   have hI : Hid (∀ W, Calls Tryz.prog 81 #[.string ⟨#[48, 49, 50, 51, 52, 53, 54, 55, 56, 57, 35, 63, 36, 33, 64, 42]⟩, .int .u8 c0.toNat] W fun x w' => x = .returned (.int .i64 r) ∧ w' = W) := Lib.hid fun W => Index_any _ c0 r hr _ rfl W
   have hsp := spec_ix c0
   rw [hr] at hsp
   have hVs : V = if special c0 then 1 else 0 := by rw [← hV]; rw [hl] at hk ⊢; unfold param; rw [hk]
   clear hV hk hr hl
   by_cases h0 : 0 ≤ r
   ·have q6 : r ≥ 0 := h0
    have hs1 : special c0 = true := by simpa [h0] using hsp
    rw [hs1] at hVs
    clear hsp
    have hL : Kn [] w w [] := Kn.refl [] w; have hF := hL.fx; go_enter Tryz.func126, Tryz.ntmps126
    go_wp2_with (first | (go_at_call 152; refine zC (fun W hL => hN.out _) ?_; clear hF hL; intro W hL hF) | (go_at_call 81; (with_reducible refine (hI.out _).mono ?_); rintro e w' ⟨rfl, rfl⟩))
    refine bodyPost_ret (by simp [results, Tryz.results126, go_sem, *]; try rfl) rfl ?_
    exact ⟨by rw [hVs]; rfl, hL.below0⟩
   ·have q6 : ¬ r ≥ 0 := h0
    have hs1 : special c0 = false := by simpa [h0] using hsp
    rw [hs1] at hVs
    clear hsp
    have hL : Kn [] w w [] := Kn.refl [] w; have hF := hL.fx; go_enter Tryz.func126, Tryz.ntmps126
    go_wp2_with (first | (go_at_call 152; refine zC (fun W hL => hN.out _) ?_; clear hF hL; intro W hL hF) | (go_at_call 81; (with_reducible refine (hI.out _).mono ?_); rintro e w' ⟨rfl, rfl⟩))
    refine bodyPost_ret (by simp [results, Tryz.results126, go_sem, *]; try rfl) rfl ?_
    exact ⟨by rw [hVs]; rfl, hL.below0⟩
end Go.Proofs.YtgboffbbpmileaaGreatDoor
set_option maxRecDepth 20000
set_option maxHeartbeats 4000000
set_option linter.unusedVariables false
set_option linter.unusedSimpArgs false
namespace Go.Proofs.YtgboffbbpmileaaGreatDoor
open Go Go.RowKit
def ClosC (m : Nat) : Prop := ∀ (s : ByteArray) (w : World), s.size ≤ m → s.size ≤ 1000000 → Calls Tryz.prog 125 #[.string s] w fun e w' => e = .returned (.int .i64 (cr (some 1) 0 s.data.toList)) ∧ w' = w
def QuoC (m : Nat) : Prop := ∀ (s : ByteArray) (w : World), s.size ≤ m → s.size ≤ 1000000 → Calls Tryz.prog 151 #[.string s] w fun e w' => e = .returned (.int .i64 (cr none 0 s.data.toList)) ∧ w' = w
theorem clos_step (m : Nat) (hQ : ∀ k, k < m → QuoC k) : ClosC m := by
 intro s w hsm hs
 obtain ⟨V, hV⟩ : ∃ V, cr (some 1) 0 s.data.toList = V := ⟨_, rfl⟩
 rw [hV]
 have HV : Hid (cr (some 1) 0 (s.data.toList.drop 0) = V) := Lib.hid hV
 have HQ := Lib.hid hQ
 clear hV hQ
 have hsl := szl s
 go_enter Tryz.func125, Tryz.ntmps125
 go_wp2
 go_loopw [3, 4] (fun d i wr => ∃ (dn k : Nat), k ≤ s.size + 1 ∧ 1 ≤ dn ∧ dn ≤ k + 1 ∧ d = .int .i64 dn ∧ i = .int .i64 k ∧ wr = w ∧ Hid (cr (some dn) k (s.data.toList.drop k) = V)) (fun _ i _ => s.size + 1 - (intOf i).toNat)
 case atStart => exact ⟨1, 0, by omega, by omega, by omega, rfl, rfl, rfl, HV⟩
 case round =>
  obtain ⟨dn, k, hk, hd1, hd2, rfl, rfl, rfl, HV1⟩ := hrel
  clear HV
  have HV := HV1
  clear HV1
  by_cases hlt : k < s.size
  ·obtain ⟨c0, hc0⟩ : ∃ c, s.data.toList[k]? = some c := ⟨_, List.getElem?_eq_getElem (by rw [szl]; omega)⟩
   have eb0 := byte_at hc0 (by omega)
   have hd0 : s.data.toList.drop (k) = c0 :: s.data.toList.drop (k + 1) := by
    obtain ⟨h1, h2⟩ := List.getElem?_eq_some_iff.1 hc0
    rw [List.drop_eq_getElem_cons h1, h2]
   by_cases h92 : c0 = 92
   ·subst h92
    go_wp2
    by_cases hlt1 : k + 1 < s.size
    ·obtain ⟨c1, hc1⟩ : ∃ c, s.data.toList[k + 1]? = some c := ⟨_, List.getElem?_eq_getElem (by rw [szl]; omega)⟩
     have eb1 := byte_at hc1 (by omega)
     have hd1 : s.data.toList.drop (k + 1) = c1 :: s.data.toList.drop (k + 1 + 1) := by
      obtain ⟨h1, h2⟩ := List.getElem?_eq_some_iff.1 hc1
      rw [List.drop_eq_getElem_cons h1, h2]
     go_roundw
     case rel => exact ⟨dn, k + 2, by omega, by omega, by omega, (by go_num), (by go_num), (by trivial), Lib.hid (by rw [← HV.out, hd0, hd1, cr_esc])⟩
     case measure => simp [intOf]; omega
    ·have hd9 : s.data.toList.drop (k + 1) = [] := List.drop_eq_nil_of_le (by omega)
     have hd8 : s.data.toList.drop (k + 2) = [] := List.drop_eq_nil_of_le (by omega)
     go_roundw
     case rel => exact ⟨dn, k + 2, by omega, by omega, by omega, (by go_num), (by go_num), (by trivial), Lib.hid (by rw [← HV.out, hd0, hd9, hd8, cr_one, cr_nil])⟩
     case measure => simp [intOf]; omega
   have f92 : ((c0.toNat : Int) == 92) = false := beq_false_of_ne (fun h => h92 (UInt8.toNat_inj.1 (show c0.toNat = 92 by omega)))
   by_cases h39 : c0 = 39
   ·subst h39
    obtain ⟨u, hu⟩ : ∃ u, s.extract (k + 1) s.size = u := ⟨_, rfl⟩
    have hul : u.data.toList = s.data.toList.drop (k + 1) := by rw [← hu, ext_list, List.take_of_length_le (by omega)]
    have hus : u.size = s.size - (k + 1) := by rw [← szl, hul, List.length_drop, szl]
    rcases cr_sq dn k u.data.toList with ⟨h1, h2⟩ | ⟨n, h1, h2, h3⟩
    ·have hI : Hid (∀ W, Calls Tryz.prog 81 #[.string u, .int .u8 39] W fun x w' => x = .returned (.int .i64 (-1)) ∧ w' = W) := Lib.hid fun W => Index_any u 39 (-1) h1 39 rfl W
     have HH := Lib.hid h2
     clear h1 h2
     go_wp2_with ((go_at_call 81; (with_reducible refine (hI.out _).mono ?_); rintro e w' ⟨rfl, rfl⟩))
     refine bodyPost_ret (by simp [results, Tryz.results125, go_sem, *]; try rfl) rfl ?_
     exact ⟨by rw [← HV.out, hd0, ← hul, HH.out], rfl⟩
    ·have hI : Hid (∀ W, Calls Tryz.prog 81 #[.string u, .int .u8 39] W fun x w' => x = .returned (.int .i64 (n : Int)) ∧ w' = W) := Lib.hid fun W => Index_any u 39 n h1 39 rfl W
     have HH := Lib.hid h3
     clear h1 h3
     rw [szl] at h2
     have q0 : ¬ (n : Int) < 0 := by omega
     go_wp2_with ((go_at_call 81; (with_reducible refine (hI.out _).mono ?_); rintro e w' ⟨rfl, rfl⟩))
     go_roundw
     case rel => exact ⟨dn, k + n + 2, by omega, by omega, by omega, (by go_num), (by go_num), (by trivial), Lib.hid (by rw [← HV.out, hd0, ← hul, HH.out, hul, List.drop_drop]; congr 2; omega)⟩
     case measure => simp [intOf]; omega
   have f39 : ((c0.toNat : Int) == 39) = false := beq_false_of_ne (fun h => h39 (UInt8.toNat_inj.1 (show c0.toNat = 39 by omega)))
   by_cases h34 : c0 = 34
   ·subst h34
    obtain ⟨u, hu⟩ : ∃ u, s.extract (k + 1) s.size = u := ⟨_, rfl⟩
    have hul : u.data.toList = s.data.toList.drop (k + 1) := by rw [← hu, ext_list, List.take_of_length_le (by omega)]
    have hus : u.size = s.size - (k + 1) := by rw [← szl, hul, List.length_drop, szl]
    rcases cr_dq dn k u.data.toList with ⟨h1, h2⟩ | ⟨n, h1, h2, h3⟩
    ·have hI : Hid (∀ W, Calls Tryz.prog 151 #[.string u] W fun x w' => x = .returned (.int .i64 (-1)) ∧ w' = W) := Lib.hid fun W => by rw [← h1]; exact HQ.out (m - 1) (by omega) u W (by omega) (by omega)
     have HH := Lib.hid h2
     clear h1 h2
     go_wp2_with ((go_at_call 151; (with_reducible refine (hI.out _).mono ?_); rintro e w' ⟨rfl, rfl⟩))
     refine bodyPost_ret (by simp [results, Tryz.results125, go_sem, *]; try rfl) rfl ?_
     exact ⟨by rw [← HV.out, hd0, ← hul, HH.out], rfl⟩
    ·have hI : Hid (∀ W, Calls Tryz.prog 151 #[.string u] W fun x w' => x = .returned (.int .i64 (n : Int)) ∧ w' = W) := Lib.hid fun W => by rw [← h1]; exact HQ.out (m - 1) (by omega) u W (by omega) (by omega)
     have HH := Lib.hid h3
     clear h1 h3
     rw [szl] at h2
     have q0 : ¬ (n : Int) < 0 := by omega
     go_wp2_with ((go_at_call 151; (with_reducible refine (hI.out _).mono ?_); rintro e w' ⟨rfl, rfl⟩))
     go_roundw
     case rel => exact ⟨dn, k + n + 2, by omega, by omega, by omega, (by go_num), (by go_num), (by trivial), Lib.hid (by rw [← HV.out, hd0, ← hul, HH.out, hul, List.drop_drop]; congr 2; omega)⟩
     case measure => simp [intOf]; omega
   have f34 : ((c0.toNat : Int) == 34) = false := beq_false_of_ne (fun h => h34 (UInt8.toNat_inj.1 (show c0.toNat = 34 by omega)))
   by_cases h40 : c0 = 40
   ·subst h40
    go_wp2
    go_roundw
    case rel => exact ⟨dn + 1, k + 1, by omega, by omega, by omega, (by go_num), (by go_num), (by trivial), Lib.hid (by rw [← HV.out, hd0, cr_op])⟩
    case measure => simp [intOf]; omega
   have f40 : ((c0.toNat : Int) == 40) = false := beq_false_of_ne (fun h => h40 (UInt8.toNat_inj.1 (show c0.toNat = 40 by omega)))
   by_cases h41 : c0 = 41
   ·subst h41
    by_cases hd : dn = 1
    ·subst hd
     go_wp2
     refine bodyPost_ret (by simp [results, Tryz.results125, go_sem, *]; try rfl) rfl ?_
     exact ⟨by rw [← HV.out, hd0, cr_cl], rfl⟩
    ·have q0 : (((dn : Int) - 1) == 0) = false := beq_false_of_ne (by omega)
     go_wp2
     go_roundw
     case rel => exact ⟨dn - 1, k + 1, by omega, by omega, by omega, (by go_num), (by go_num), (by trivial), Lib.hid (by rw [← HV.out, hd0, cr_down _ _ _ hd])⟩
     case measure => simp [intOf]; omega
   have f41 : ((c0.toNat : Int) == 41) = false := beq_false_of_ne (fun h => h41 (UInt8.toNat_inj.1 (show c0.toNat = 41 by omega)))
   go_wp2
   go_roundw
   case rel => exact ⟨dn, k + 1, by omega, by omega, by omega, (by go_num), (by go_num), (by trivial), Lib.hid (by rw [← HV.out, hd0, cr_else _ _ _ _ h92 h39 h34 h40 h41])⟩
   case measure => simp [intOf]; omega
  ·go_wp2
   refine bodyPost_ret (by simp [results, Tryz.results125, go_sem, *]; try rfl) rfl ?_
   exact ⟨by rw [← HV.out, List.drop_eq_nil_of_le (by omega), cr_nil], rfl⟩
end Go.Proofs.YtgboffbbpmileaaGreatDoor
set_option maxRecDepth 20000
set_option maxHeartbeats 4000000
set_option linter.unusedVariables false
set_option linter.unusedSimpArgs false
namespace Go.Proofs.YtgboffbbpmileaaGreatDoor
open Go Go.RowKit
theorem hp2 (l : Bytes) : Lib.hasPrefix l [36, 40] = decide (l.head? = some 36 ∧ (l.drop 1).head? = some 40) := by
 cases l with
 | nil => rfl
 | cons a t => cases t with
  | nil => simp [Lib.hasPrefix, List.isPrefixOf]
  | cons b t =>
   simp only [Lib.hasPrefix, List.isPrefixOf, List.head?_cons, List.drop_succ_cons, List.drop_zero, Option.some.injEq, Bool.and_true, Bool.decide_and]
   congr 1
   ·by_cases h : a = 36
    ·subst h; rfl
    ·rw [decide_eq_false h, beq_false_of_ne (Ne.symm h)]
   ·by_cases h : b = 40
    ·subst h; rfl
    ·rw [decide_eq_false h, beq_false_of_ne (Ne.symm h)]
theorem quo_step (m : Nat) (hQ : ∀ k, k < m → ClosC k) : QuoC m := by
 intro s w hsm hs
 obtain ⟨V, hV⟩ : ∃ V, cr none 0 s.data.toList = V := ⟨_, rfl⟩
 rw [hV]
 have HV : Hid (cr none 0 (s.data.toList.drop 0) = V) := Lib.hid hV
 have HQ := Lib.hid hQ
 clear hV hQ
 have hsl := szl s
 go_enter Tryz.func151, Tryz.ntmps151
 go_wp2
 go_loopw [3] (fun i wr => ∃ (k : Nat), k ≤ s.size + 1 ∧ i = .int .i64 k ∧ wr = w ∧ Hid (cr none k (s.data.toList.drop k) = V)) (fun i _ => s.size + 1 - (intOf i).toNat)
 case atStart => exact ⟨0, by omega, rfl, rfl, HV⟩
 case round =>
  obtain ⟨k, hk, rfl, rfl, HV1⟩ := hrel
  clear HV
  have HV := HV1
  clear HV1
  by_cases hlt : k < s.size
  ·obtain ⟨c0, hc0⟩ : ∃ c, s.data.toList[k]? = some c := ⟨_, List.getElem?_eq_getElem (by rw [szl]; omega)⟩
   have eb0 := byte_at hc0 (by omega)
   have hd0 : s.data.toList.drop (k) = c0 :: s.data.toList.drop (k + 1) := by
    obtain ⟨h1, h2⟩ := List.getElem?_eq_some_iff.1 hc0
    rw [List.drop_eq_getElem_cons h1, h2]
   by_cases h34 : c0 = 34
   ·subst h34
    go_wp2
    refine bodyPost_ret (by simp [results, Tryz.results151, go_sem, *]; try rfl) rfl ?_
    exact ⟨by rw [← HV.out, hd0, cq_end], rfl⟩
   have f34 : ((c0.toNat : Int) == 34) = false := beq_false_of_ne (fun h => h34 (UInt8.toNat_inj.1 (show c0.toNat = 34 by omega)))
   by_cases h92 : c0 = 92
   ·subst h92
    go_wp2
    by_cases hlt1 : k + 1 < s.size
    ·obtain ⟨c1, hc1⟩ : ∃ c, s.data.toList[k + 1]? = some c := ⟨_, List.getElem?_eq_getElem (by rw [szl]; omega)⟩
     have eb1 := byte_at hc1 (by omega)
     have hd1 : s.data.toList.drop (k + 1) = c1 :: s.data.toList.drop (k + 1 + 1) := by
      obtain ⟨h1, h2⟩ := List.getElem?_eq_some_iff.1 hc1
      rw [List.drop_eq_getElem_cons h1, h2]
     go_roundw
     case rel => exact ⟨k + 2, by omega, (by go_num), (by trivial), Lib.hid (by rw [← HV.out, hd0, hd1, cr_esc])⟩
     case measure => simp [intOf]; omega
    ·have hd9 : s.data.toList.drop (k + 1) = [] := List.drop_eq_nil_of_le (by omega)
     have hd8 : s.data.toList.drop (k + 2) = [] := List.drop_eq_nil_of_le (by omega)
     go_roundw
     case rel => exact ⟨k + 2, by omega, (by go_num), (by trivial), Lib.hid (by rw [← HV.out, hd0, hd9, hd8, cr_one, cr_nil])⟩
     case measure => simp [intOf]; omega
   have f92 : ((c0.toNat : Int) == 92) = false := beq_false_of_ne (fun h => h92 (UInt8.toNat_inj.1 (show c0.toNat = 92 by omega)))
   obtain ⟨u0, hu0⟩ : ∃ u, s.extract k s.size = u := ⟨_, rfl⟩
   have hul0 : u0.data.toList = c0 :: s.data.toList.drop (k + 1) := by rw [← hu0, ext_list, List.take_of_length_le (by omega), hd0]
   by_cases h3 : c0 = 36 ∧ (s.data.toList.drop (k + 1)).head? = some 40
   ·obtain ⟨rfl, h40⟩ := h3
    have hpv : Lib.hasPrefix u0.data.toList [36, 40] = true := by rw [hul0, hp2]; simpa using h40
    have hP : Hid (∀ W, Calls Tryz.prog 101 #[.string u0, .string ⟨#[36, 40]⟩] W fun x w' => x = .returned (.bool true) ∧ w' = W) := Lib.hid fun W => by have := Tryz.strings_HasPrefix u0 ⟨#[36, 40]⟩ W; rw [hpv] at this; exact this
    have hlt1 : k + 1 < s.size := by
     rcases Nat.lt_or_ge (k + 1) s.size with h | h
     ·exact h
     ·rw [List.drop_eq_nil_of_le (by omega)] at h40; cases h40
    obtain ⟨c1, hc1⟩ : ∃ c, s.data.toList[k + 1]? = some c := ⟨_, List.getElem?_eq_getElem (by rw [szl]; omega)⟩
    have eb1 := byte_at hc1 (by omega)
    have hd1 : s.data.toList.drop (k + 1) = c1 :: s.data.toList.drop (k + 1 + 1) := by
     obtain ⟨h1, h2⟩ := List.getElem?_eq_some_iff.1 hc1
     rw [List.drop_eq_getElem_cons h1, h2]
    have hc1' : c1 = 40 := by rw [hd1] at h40; simpa using h40
    subst hc1'
    obtain ⟨u, hu⟩ : ∃ u, s.extract (k + 2) s.size = u := ⟨_, rfl⟩
    have hul : u.data.toList = s.data.toList.drop (k + 2) := by rw [← hu, ext_list, List.take_of_length_le (by omega)]
    have hus : u.size = s.size - (k + 2) := by rw [← szl, hul, List.length_drop, szl]
    have hd2 : s.data.toList.drop k = 36 :: 40 :: u.data.toList := by rw [hd0, hd1, hul]
    clear h40 hul0 hpv
    rcases cq_sub k u.data.toList with ⟨h1, h2⟩ | ⟨n, h1, h2, h3⟩
    ·have hI : Hid (∀ W, Calls Tryz.prog 125 #[.string u] W fun x w' => x = .returned (.int .i64 (-1)) ∧ w' = W) := Lib.hid fun W => by rw [← h1]; exact HQ.out (m - 1) (by omega) u W (by omega) (by omega)
     have HH := Lib.hid h2
     clear h1 h2
     go_wp2_with (first | (go_at_call 101; (with_reducible refine (hP.out _).mono ?_); rintro e w' ⟨rfl, rfl⟩) | (go_at_call 125; (with_reducible refine (hI.out _).mono ?_); rintro e w' ⟨rfl, rfl⟩))
     refine bodyPost_ret (by simp [results, Tryz.results151, go_sem, *]; try rfl) rfl ?_
     exact ⟨by rw [← HV.out, hd2, HH.out], rfl⟩
    ·have hI : Hid (∀ W, Calls Tryz.prog 125 #[.string u] W fun x w' => x = .returned (.int .i64 (n : Int)) ∧ w' = W) := Lib.hid fun W => by rw [← h1]; exact HQ.out (m - 1) (by omega) u W (by omega) (by omega)
     have HH := Lib.hid h3
     clear h1 h3
     rw [szl] at h2
     have q0 : ¬ (n : Int) < 0 := by omega
     go_wp2_with (first | (go_at_call 101; (with_reducible refine (hP.out _).mono ?_); rintro e w' ⟨rfl, rfl⟩) | (go_at_call 125; (with_reducible refine (hI.out _).mono ?_); rintro e w' ⟨rfl, rfl⟩))
     go_roundw
     case rel => exact ⟨k + n + 3, by omega, (by go_num), (by trivial), Lib.hid (by rw [← HV.out, hd2, HH.out, hul, List.drop_drop]; congr 2; omega)⟩
     case measure => simp [intOf]; omega
   ·have hpv : Lib.hasPrefix u0.data.toList [36, 40] = false := by rw [hul0, hp2]; simpa using h3
    have hP : Hid (∀ W, Calls Tryz.prog 101 #[.string u0, .string ⟨#[36, 40]⟩] W fun x w' => x = .returned (.bool false) ∧ w' = W) := Lib.hid fun W => by have := Tryz.strings_HasPrefix u0 ⟨#[36, 40]⟩ W; rw [hpv] at this; exact this
    clear hul0 hpv
    go_wp2_with ((go_at_call 101; (with_reducible refine (hP.out _).mono ?_); rintro e w' ⟨rfl, rfl⟩))
    go_roundw
    case rel => exact ⟨k + 1, by omega, (by go_num), (by trivial), Lib.hid (by rw [← HV.out, hd0, cq_else _ _ _ h34 h92 h3])⟩
    case measure => simp [intOf]; omega
  ·go_wp2
   refine bodyPost_ret (by simp [results, Tryz.results151, go_sem, *]; try rfl) rfl ?_
   exact ⟨by rw [← HV.out, List.drop_eq_nil_of_le (by omega), cr_nil], rfl⟩
theorem both (m : Nat) : ClosC m ∧ QuoC m := by
 induction m using Nat.strongRecOn with
 | _ m ih => exact ⟨clos_step m fun k hk => (ih k hk).2, quo_step m fun k hk => (ih k hk).1⟩
theorem clos_is (s : ByteArray) (hs : s.size ≤ 1000000) (w : World) : Calls Tryz.prog 125 #[.string s] w fun e w' => e = .returned (.int .i64 (cr (some 1) 0 s.data.toList)) ∧ w' = w := (both s.size).1 s w (Nat.le_refl _) hs
end Go.Proofs.YtgboffbbpmileaaGreatDoor
set_option maxRecDepth 20000
set_option maxHeartbeats 4000000
set_option linter.unusedVariables false
set_option linter.unusedSimpArgs false
namespace Go.Proofs.YtgboffbbpmileaaGreatDoor
open Go Go.RowKit
theorem info66 : (Tryz.prog.info? 154).map (fun i => (i.zero, i.size)) = some (some (.agg (Array.replicate 256 (.bool false))), 256) := by kernel_rfl
theorem Trim_any (s : ByteArray) (hs : s.size ≤ 1000000) (r : Bytes) (hr : Lib.trimS s.data.toList [48, 49, 50, 51, 52, 53, 54, 55, 56, 57] = r) (w : World) : Calls Tryz.prog 116 #[.string s, .string ⟨#[48, 49, 50, 51, 52, 53, 54, 55, 56, 57]⟩] w fun e w' => e = .returned (bs r) ∧ Below w.heap.size w w' := by
 rw [← hr]
 exact Any.strings_Trim_laid Tryz.lays160 info66 s ⟨#[48, 49, 50, 51, 52, 53, 54, 55, 56, 57]⟩ w (by omega) (by decide) (ascii_of_all (by decide))
theorem digs (c : UInt8) : (([48, 49, 50, 51, 52, 53, 54, 55, 56, 57] : List UInt8).contains c == digit c) = true := all_bytes (p := fun c => (([48, 49, 50, 51, 52, 53, 54, 55, 56, 57] : List UInt8).contains c == digit c)) (by decide +kernel) c
theorem mem_tw {p : UInt8 → Bool} : ∀ {l : Bytes} {x : UInt8}, x ∈ l.takeWhile p → p x = true
 | [], x, h => by cases h
 | a :: t, x, h => by
  rw [List.takeWhile_cons] at h
  split at h
  ·rename_i ha
   rcases List.mem_cons.1 h with rfl | h
   ·exact ha
   ·exact mem_tw h
  ·cases h
theorem pu_step (acc : Nat) (c : UInt8) (r : Bytes) (h : 48 ≤ c.toNat ∧ c.toNat ≤ 57) (ha : acc ≤ 1000) : Lib.parseUint10 acc (c :: r) = Lib.parseUint10 (acc * 10 + (c.toNat - 48)) r := by
 rw [Lib.parseUint10, if_pos h, if_neg (by omega), if_neg (by omega)]
theorem atoi_mag (a : UInt8) (r : Bytes) (n : Nat) (h : a.toNat ≠ 43 ∧ a.toNat ≠ 45) (hm : Lib.parseMag (a :: r) = .ok n) (hn : n ≤ 1000) : Lib.atoiAll (a :: r) = .ok (n : Int) := by
 unfold Lib.atoiAll
 have e1 : ¬ (a.toNat = 43 ∨ a.toNat = 45) := by omega
 have e2 : ¬ a.toNat = 45 := h.2
 simp only [if_neg e1]
 rw [hm]
 simp only [e2]
 rw [if_neg (by omega), if_neg (by simp)]
 rfl
theorem atoi_two (l : Bytes) (h1 : 1 ≤ l.length) (h2 : l.length ≤ 2) (hd : ∀ c ∈ l, digit c = true) : ∃ n : Int, number l = some n ∧ Lib.atoiAll l = .ok n := by
 match l, h1, h2 with
 | [a], _, _ =>
  have ha := hd a (by simp)
  rw [digit_nat'] at ha
  have ha' := of_decide_eq_true ha
  refine ⟨(a.toNat : Int) - 48, ?_, ?_⟩
  ·show (if digit a then _ else _) = _
   rw [if_pos (hd a (by simp))]
  ·rw [atoi_mag a [] (a.toNat - 48) (by omega) (by unfold Lib.parseMag; rw [if_neg (by simp), pu_step 0 a [] ha' (by omega), Lib.parseUint10]; congr 1; omega) (by omega)]
   congr 1; omega
 | [a, b], _, _ =>
  have ha := hd a (by simp)
  have hb := hd b (by simp)
  rw [digit_nat'] at ha hb
  have ha' := of_decide_eq_true ha
  have hb' := of_decide_eq_true hb
  refine ⟨((a.toNat : Int) - 48) * 10 + ((b.toNat : Int) - 48), ?_, ?_⟩
  ·show (if digit a && digit b then _ else _) = _
   rw [hd a (by simp), hd b (by simp)]; rfl
  ·rw [atoi_mag a [b] ((a.toNat - 48) * 10 + (b.toNat - 48)) (by omega) (by unfold Lib.parseMag; rw [if_neg (by simp), pu_step 0 a [b] ha' (by omega), pu_step _ b [] hb' (by omega), Lib.parseUint10]; congr 1; omega) (by omega)]
   congr 1; omega
theorem number_none (l : Bytes) (h : l.length < 1 ∨ 2 < l.length ∨ ∃ c ∈ l, digit c = false) : number l = none := by
 match l, h with
 | [], _ => rfl
 | [a], h =>
  simp at h
  simp [number, h]
 | [a, b], h =>
  simp at h
  rcases h with h | h <;> simp [number, h]
 | a :: b :: c :: t, _ => rfl
theorem Atoi_any (s : ByteArray) (hs : s.size ≤ 1000000) (n : Int) (h : Lib.atoiAll s.data.toList = .ok n) (w : World) : Calls Tryz.prog 117 #[.string s] w fun e w' => e = .returned (.tuple #[.int .i64 n, .nilIface]) ∧ Below w.heap.size w w' :=
 (Tryz.strconv_Atoi_ok s (by omega) n h w).mono fun e w' ⟨h1, h2⟩ => ⟨h1, by
  rcases h2 with rfl | ⟨t, rfl⟩
  ·exact Below.refl _ _
  ·exact Lib.bytesWorld_below _ _ _⟩
theorem number_trim (l : Bytes) : (Lib.trimS l [48, 49, 50, 51, 52, 53, 54, 55, 56, 57] = []) ↔ ∀ c ∈ l, digit c = true := by
 have hd : ∀ c : UInt8, ([48, 49, 50, 51, 52, 53, 54, 55, 56, 57] : List UInt8).contains c = digit c := fun c => by simpa using digs c
 have h0 : (([48, 49, 50, 51, 52, 53, 54, 55, 56, 57] : List UInt8).contains ·) = digit := funext hd
 unfold Lib.trimS Lib.trimLeftS Lib.trimRightS
 rw [h0]
 constructor
 ·intro h c hc
  have h1 : ∀ x ∈ (l.reverse.dropWhile digit).reverse, digit x = true := by
   intro x hx
   have := List.takeWhile_append_dropWhile (p := digit) (l := (l.reverse.dropWhile digit).reverse)
   rw [h, List.append_nil] at this
   rw [← this] at hx
   exact mem_tw hx
  have h2 := List.takeWhile_append_dropWhile (p := digit) (l := l.reverse)
  have hc' : c ∈ l.reverse := by simpa using hc
  rw [← h2] at hc'
  rcases List.mem_append.1 hc' with hc' | hc'
  ·exact mem_tw hc'
  ·exact h1 c (by simpa using hc')
 ·intro h
  have : l.reverse.dropWhile digit = [] := by
   apply drop_all; intro x hx; exact h x (by simpa using hx)
  rw [this]; rfl
theorem number_is (kd : Int) (tx p : ByteArray) (pv : Value) (fd ln : Int) (hp : p.size ≤ 1000000) (w : World) : Calls Tryz.prog 103 #[(.agg #[.int .i64 kd, .string tx, .string p, pv, .int .i64 fd, .int .i64 ln])] w fun e w' =>
  (match number p.data.toList with | some n => e = .returned (.tuple #[.int .i64 n, .bool true]) | none => e = .returned (.tuple #[.int .i64 0, .bool false])) ∧ Below w.heap.size w w' := by
 have hpl := szl p
 by_cases hlen : p.size < 1
 ·have hn : number p.data.toList = none := by
   rw [List.eq_nil_of_length_eq_zero (by omega : p.data.toList.length = 0)]; rfl
  rw [hn]
  have q0 : (p.size : Int) < 1 := by omega
  clear hn hpl
  have hL : Kn [] w w [] := Kn.refl [] w; have hF := hL.fx; go_enter Tryz.func103, Tryz.ntmps103
  go_wp2
  refine bodyPost_ret (by simp [results, Tryz.results103, go_sem, *]; try rfl) rfl ?_
  exact ⟨rfl, (kn_here : Kn [] w _ _).below0⟩
 by_cases hlen2 : 2 < p.size
 ·have hn : number p.data.toList = none := number_none _ (.inr (.inl (by omega)))
  rw [hn]
  have q0 : ¬ (p.size : Int) < 1 := by omega
  have q1 : (p.size : Int) > 2 := by omega
  clear hn hpl
  have hL : Kn [] w w [] := Kn.refl [] w; have hF := hL.fx; go_enter Tryz.func103, Tryz.ntmps103
  go_wp2
  refine bodyPost_ret (by simp [results, Tryz.results103, go_sem, *]; try rfl) rfl ?_
  exact ⟨rfl, (kn_here : Kn [] w _ _).below0⟩
 obtain ⟨r, hr⟩ : ∃ r, Lib.trimS p.data.toList [48, 49, 50, 51, 52, 53, 54, 55, 56, 57] = r := ⟨_, rfl⟩
 have hTr : Hid (∀ W, Calls Tryz.prog 116 #[.string p, .string ⟨#[48, 49, 50, 51, 52, 53, 54, 55, 56, 57]⟩] W fun e w' => e = .returned (bs r) ∧ Below W.heap.size W w') := Lib.hid fun W => Trim_any p hp r hr W
 have hnt := number_trim p.data.toList
 rw [hr] at hnt
 clear hr
 have q0 : ¬ (p.size : Int) < 1 := by omega
 have q1 : ¬ (p.size : Int) > 2 := by omega
 cases r with
 | cons c0 tl =>
  have hn : number p.data.toList = none := number_none _ (.inr (.inr (by
   rcases Classical.em (∃ c ∈ p.data.toList, digit c = false) with h | h
   ·exact h
   ·exact absurd (hnt.2 fun c hc => by
     cases hd : digit c with
     | true => rfl
     | false => exact absurd ⟨c, hc, hd⟩ h) (by simp))))
  rw [hn]
  clear hn hpl hnt
  obtain ⟨u, hu⟩ : ∃ u : ByteArray, (⟨(c0 :: tl).toArray⟩ : ByteArray) = u := ⟨_, rfl⟩
  have q2 : u.toList.isEmpty = false := by rw [Lib.toList_data, ← hu]; simp
  have q3 : u.data.toList.isEmpty = false := by rw [← hu]; simp
  unfold bs at hTr
  rw [hu] at hTr
  clear hu
  have hL : Kn [] w w [] := Kn.refl [] w; have hF := hL.fx; go_enter Tryz.func103, Tryz.ntmps103
  go_wp2_with ((go_at_call 116; refine zC (fun W hL => hTr.out _) ?_; clear hF hL; intro W hL hF))
  refine bodyPost_ret (by simp [results, Tryz.results103, go_sem, *]; try rfl) rfl ?_
  exact ⟨rfl, (kn_here : Kn [] w _ _).below0⟩
 | nil =>
  obtain ⟨n, hn, ha⟩ := atoi_two p.data.toList (by omega) (by omega) (hnt.1 rfl)
  rw [hn]
  have hA : Hid (∀ W, Calls Tryz.prog 117 #[.string p] W fun e w' => e = .returned (.tuple #[.int .i64 n, .nilIface]) ∧ Below W.heap.size W w') := Lib.hid fun W => Atoi_any p hp n ha W
  clear hn ha hpl hnt
  unfold bs at hTr
  have hL : Kn [] w w [] := Kn.refl [] w; have hF := hL.fx; go_enter Tryz.func103, Tryz.ntmps103
  go_wp2_with (first | (go_at_call 116; refine zC (fun W hL => hTr.out _) ?_; clear hF hL; intro W hL hF) | (go_at_call 117; refine zC (fun W hL => hA.out _) ?_; clear hF hL; intro W hL hF) | ((with_reducible refine at_region 4 ?_); refine zW [0, 1, 2, 3, 4] [0, 1, 2, 3, 4] [] [0, 1, 2, 3, 4] ?_; clear hF hL; intro ι F hne hC hG; (repeat ((refine cP ?_; intro K hK; go_big_quiet_op; go_big_quiet_on))); refine cwk_nil ?_; clear hC hG; intro W hL; have hF := hL.fx))
  refine bodyPost_ret (by simp [results, Tryz.results103, go_sem, *]; try rfl) rfl ?_
  exact ⟨rfl, (kn_here : Kn [] w _ _).below0⟩
end Go.Proofs.YtgboffbbpmileaaGreatDoor
set_option linter.unusedVariables false
set_option linter.unusedSimpArgs false
namespace Go.Proofs.YtgboffbbpmileaaGreatDoor
open Go Go.RowKit
theorem Kn.self0 {X : List Nat} {w0 W : World} {P : List (Nat × Obj)} (h : Kn X w0 W P) : Kn (keys P) W W P :=
 ⟨rfl, rfl, rfl, Nat.le_refl _, fun _ _ _ => rfl, fun p hp => .inr (List.mem_map.2 ⟨p, hp, rfl⟩), h.has, h.nd⟩
theorem Kn.self1 {X : List Nat} {w0 W : World} {a : Nat × Obj} {P : List (Nat × Obj)} (h : Kn X w0 W (a :: P)) : Kn (keys P) W W P := (h.sub (List.sublist_cons_self _ _)).self0
theorem Kn.self1q {X : List Nat} {w0 W : World} {a : Nat × Obj} {q : Nat} {o : Obj} {P : List (Nat × Obj)} (h : Kn X w0 W (a :: (q, o) :: P)) : Kn (q :: keys P) W W ((q, o) :: P) := h.self1
theorem Kn.self0q {X : List Nat} {w0 W : World} {q : Nat} {o : Obj} {P : List (Nat × Obj)} (h : Kn X w0 W ((q, o) :: P)) : Kn (q :: keys P) W W ((q, o) :: P) := h.self0
theorem Kn.tail0 {X : List Nat} {w0 W W' : World} {P P' : List (Nat × Obj)} (h : Kn X w0 W P) (k : Kn (keys P) W W' P') : Kn X w0 W' P' := by
 have := Kn.joinA [] [] (P := P) (P' := P') (by simpa using h) k
 simpa using this
theorem Kn.tail1 {X : List Nat} {w0 W W' : World} {a : Nat × Obj} {P P' : List (Nat × Obj)} (h : Kn X w0 W (a :: P)) (k : Kn (keys P) W W' P') : Kn X w0 W' (a :: P') := by
 have := Kn.joinA [a] [] (P := P) (P' := P') (by simpa using h) k
 simpa using this
theorem cut_x {l x r : Bytes} {a : Nat} (h : l.drop a = x ++ r) : (l.take (a + x.length)).drop a = x ∧ l.drop (a + x.length) = r ∧ (x ≠ [] → a + x.length ≤ l.length) := by
 have h1 : l.drop (a + x.length) = r := by rw [← List.drop_drop, h]; simp
 refine ⟨?_, h1, fun hx => ?_⟩
 ·rw [List.drop_take, h]; simp
 ·have := congrArg List.length h
  rw [List.length_drop, List.length_append] at this
  have : 0 < x.length := List.length_pos_iff.2 hx
  omega
theorem skip_nat (src : ByteArray) (at_ : Nat) (x r : Bytes) (ln : Nat) (v : Value) (b : Nat) (w : World) (hb : w.heap[b]? = some (.cells #[.string src, .int .i64 (at_), .int .i64 (ln), v] 111 (0, 0))) (hx : src.data.toList.drop at_ = x ++ r) (hne : x ≠ []) (hs : src.size ≤ 100000) (hln : ln ≤ 500000) (k : Int) (hk : k = x.length) :
  Calls Tryz.prog 80 #[.pointer (some ⟨b, 0, none⟩), .int .i64 k] w fun e w' => e = .returned (.tuple #[]) ∧ Kn [b] w w' [(b, .cells #[.string src, .int .i64 (((at_ + x.length : Nat) : Int)), .int .i64 (((ln + lf x : Nat) : Int)), v] 111 (0, 0))] := by
 subst hk
 obtain ⟨h1, h2, h3⟩ := cut_x hx
 have h4 := h3 hne
 rw [szl] at h4
 have h5 : lf x ≤ x.length := List.count_le_length
 have := skip_is src at_ x.length ln v b w hb h4 hs (by omega) (by omega) (lf x) (by omega) (by omega) (by rw [h1]; rfl)
 simpa using this
theorem syn_is (b : Nat) (m : Nat) (w : World) : Calls Tryz.prog 112 #[.pointer (some ⟨b, 0, none⟩), .int .i64 m] w fun e w' => e = .panicked [{ v := .iface 107 (.agg #[.int .i64 27, .int .i64 m]), recovered := false }] ∧ w' = w := by
 go_enter Tryz.func112, Tryz.ntmps112
 go_wp2
 exact ⟨rfl, rfl, rfl⟩
def SPost (src : ByteArray) (v : Value) (b q : Nat) (X : List Nat) (w : World) (res : R St) (e : Ending) (w' : World) : Prop := match res with
 | .ok (ps', r, n') => e = .returned (.tuple #[]) ∧ ∃ (at_ : Nat) (pv : Value) (LP : List (Nat × Obj)), at_ ≤ src.size ∧ src.data.toList.drop at_ = r ∧ PtL LP pv ps' ∧ Kn X w w' ((b, .cells #[.string src, .int .i64 (at_), .int .i64 (n'), v] 111 (0, 0)) :: (q, .cells #[pv] 135 (0, 0)) :: LP)
 | .bad m => e = .panicked [{ v := .iface 107 (.agg #[.int .i64 27, .int .i64 m]), recovered := false }] ∧ Kn X w w' []
theorem one_parts {l : Bytes} {a : Nat} {c : UInt8} {t : Bytes} (h : l.drop a = c :: t) : l[a]? = some c ∧ l.drop (a + 1) = t ∧ a < l.length := by
 have h1 : l[a]? = some c := by have := congrArg (·[0]?) h; simpa using this
 refine ⟨h1, by rw [← List.drop_drop, h]; rfl, (List.getElem?_eq_some_iff.1 h1).1⟩
theorem named_lf : ∀ l : Bytes, named l = l.length → lf l = 0
 | [], _ => rfl
 | c :: t, h => by
  have hT : ∀ l : Bytes, namedT l = l.length → lf l = 0 := by
   intro l
   induction l with
   | nil => intro _; rfl
   | cons d u ih =>
    intro h
    rw [namedT] at h
    split at h
    ·rename_i ha
     have hd : d ≠ 10 := by rintro rfl; exact absurd ha (by decide)
     simp only [List.length_cons] at h
     have := ih (by omega)
     show List.count 10 (d :: u) = 0
     rw [List.count_cons_of_ne hd]; exact this
    ·simp at h
  rw [named] at h
  split at h
  ·rename_i ha
   have hd : c ≠ 10 := by rintro rfl; exact absurd ha (by decide)
   simp only [List.length_cons] at h
   have := hT t (by omega)
   show List.count 10 (c :: t) = 0
   rw [List.count_cons_of_ne hd]; exact this
  ·simp at h
theorem param_lf {l : Bytes} (h : param l = l.length) : lf l = 0 := by
 unfold param at h
 split at h
 ·rename_i n hn
  exact named_lf l (by omega)
 ·split at h
  ·rfl
  ·rename_i c t hx
   split at h
   ·rename_i hs
    simp only [List.length_cons] at h
    obtain rfl : t = [] := List.eq_nil_of_length_eq_zero (by omega)
    have hd : c ≠ 10 := by rintro rfl; exact absurd hs (by decide)
    show List.count 10 [c] = 0
    rw [List.count_cons_of_ne hd]; rfl
   ·simp at h
theorem hp1 (l : Bytes) (c : UInt8) : Lib.hasPrefix l [c] = decide (l.head? = some c) := by
 cases l with
 | nil => rfl
 | cons a t =>
  simp only [Lib.hasPrefix, List.isPrefixOf, List.head?_cons, Option.some.injEq, Bool.and_true]
  by_cases h : a = c
  ·subst h; simp
  ·rw [decide_eq_false h, beq_false_of_ne (Ne.symm h)]
end Go.Proofs.YtgboffbbpmileaaGreatDoor
