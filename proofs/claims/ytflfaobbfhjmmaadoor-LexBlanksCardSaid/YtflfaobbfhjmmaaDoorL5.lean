import Derived.Test.YtflfaobbfhjmmaaDoorProg
import Derived.WalkKit
import Derived.Handy
import Derived.Deep.Light
import Derived.WalkSmall
import Derived.StillTailTactics
import Derived.Lib.Hide
import Derived.Test.YtflfaobbfhjmmaaDoorT0
import Derived.Test.YtflfaobbfhjmmaaDoorIt
import Derived.Test.YtflfaobbfhjmmaaDoorL4
namespace Go.Proofs.YtflfaobbfhjmmaaDoor
open Go Go.RowKit
set_option linter.unusedSimpArgs false
set_option linter.unusedVariables false

theorem alpha_nat (c : UInt8) : alpha c = decide (c.toNat = 95 ∨ (97 ≤ c.toNat ∧ c.toNat ≤ 122) ∨ (65 ≤ c.toNat ∧ c.toNat ≤ 90)) := by
  have e : (c == 95) = decide (c.toNat = 95) := by
    by_cases h : c = 95
    · subst h; rfl
    · exact (beq_false_of_ne h).trans (decide_eq_false (fun e => h (UInt8.toNat_inj.1 e))).symm
  unfold alpha
  rw [e]
  simp [Bool.decide_or, Bool.decide_and, Bool.or_assoc]
theorem digit_nat' (c : UInt8) : digit c = decide (48 ≤ c.toNat ∧ c.toNat ≤ 57) := by simp [digit]
def nm (k : Nat) (l : Bytes) : Nat := if k = 0 then named l else namedT l
theorem nm_cons (k : Nat) (c : UInt8) (t : Bytes) : nm k (c :: t) = if alpha c || (decide (0 < k) && digit c) then nm (k + 1) t + 1 else 0 := by
  unfold nm
  rw [if_neg (by omega : ¬ k + 1 = 0)]
  by_cases h : k = 0
  · subst h; simp [named]
  · rw [if_neg h, namedT]
    have : decide (0 < k) = true := by simp; omega
    rw [this]; simp
theorem nm_nil (k : Nat) : nm k [] = 0 := by unfold nm; split <;> rfl
set_option maxRecDepth 20000 in
set_option maxHeartbeats 4000000 in
theorem named_is (s : ByteArray) (hs : s.size ≤ 1000000) (w : World) : Calls Tryd.prog 55 #[.string s] w fun e w' => e = .returned (.int .i64 (named s.data.toList)) ∧ Below w.heap.size w w' := by
  obtain ⟨V, hV⟩ : ∃ V, named s.data.toList = V := ⟨_, rfl⟩
  rw [hV]
  have HV : Hid (0 + nm 0 (s.data.toList.drop 0) = V) := Lib.hid (by rw [← hV]; simp [nm])
  clear hV
  have hsl := szl s
  have hL : Kn [] w w [] := Kn.refl [] w; (try simp only [kfb] at hL); have hF := hL.facts; (try simp only [Facts, Dist, kfa, implies_true, forall_const] at hF); go_enter Tryd.func55, Tryd.ntmps55
  go_wp2
  go_loopw [3] (fun i wr => ∃ k : Nat, k ≤ s.size ∧ i = .int .i64 k ∧ Kn [] w wr [] ∧ Hid (k + nm k (s.data.toList.drop k) = V)) (fun i _ => s.size - (intOf i).toNat)
  case atStart => exact ⟨0, by omega, rfl, hL, HV⟩
  case round =>
    obtain ⟨k, hk, rfl, hL1, HV1⟩ := hrel
    clear hL HV
    have hL := hL1
    have HV := HV1
    clear hL1 HV1
    (try simp only [kfb] at hL); have hF := hL.facts; (try simp only [Facts, Dist, kfa, implies_true, forall_const] at hF)
    by_cases hlt : k < s.size
    · obtain ⟨c0, hc0⟩ : ∃ c, s.data.toList[k]? = some c := ⟨_, List.getElem?_eq_getElem (by rw [szl]; omega)⟩
      have eb0 := byte_at hc0 (by omega)
      have hd0 : s.data.toList.drop (k) = c0 :: s.data.toList.drop (k + 1) := by
        obtain ⟨h1, h2⟩ := List.getElem?_eq_some_iff.1 hc0
        rw [List.drop_eq_getElem_cons h1, h2]
      have hc256 := c0.toNat_lt
      by_cases hk0 : 0 < k
      · have q7 : (k : Int) > 0 := by omega
        rcases (show (0 ≤ c0.toNat ∧ c0.toNat ≤ 47) ∨ (48 ≤ c0.toNat ∧ c0.toNat ≤ 57) ∨ (58 ≤ c0.toNat ∧ c0.toNat ≤ 64) ∨ (65 ≤ c0.toNat ∧ c0.toNat ≤ 90) ∨ (91 ≤ c0.toNat ∧ c0.toNat ≤ 94) ∨ (95 ≤ c0.toNat ∧ c0.toNat ≤ 95) ∨ (96 ≤ c0.toNat ∧ c0.toNat ≤ 96) ∨ (97 ≤ c0.toNat ∧ c0.toNat ≤ 122) ∨ (123 ≤ c0.toNat ∧ c0.toNat ≤ 255) by omega) with hr | hr | hr | hr | hr | hr | hr | hr | hr
        · have q0 : ((c0.toNat : Int) == 95) = false := beq_false_of_ne (by omega); have q1 : ¬ (97 ≤ (c0.toNat : Int)) := (by omega); have q2 : (c0.toNat : Int) ≤ 122 := (by omega); have q3 : ¬ (65 ≤ (c0.toNat : Int)) := (by omega); have q4 : (c0.toNat : Int) ≤ 90 := (by omega); have q5 : ¬ (48 ≤ (c0.toNat : Int)) := (by omega); have q6 : (c0.toNat : Int) ≤ 57 := (by omega)
          have ha : alpha c0 = false := by rw [alpha_nat]; exact decide_eq_false (by omega)
          have hdg : digit c0 = false := by rw [digit_nat']; exact decide_eq_false (by omega)
          go_wp2
          (try simp only [Exit.inBlock, Exit.then]); refine bodyPost_ret (by simp [results, Tryd.results55, go_sem, *]; try rfl) rfl ?_
          exact ⟨by rw [← HV.out, hd0, nm_cons]; simp [ha, hdg, hk0], hL.below0⟩
        · have q0 : ((c0.toNat : Int) == 95) = false := beq_false_of_ne (by omega); have q1 : ¬ (97 ≤ (c0.toNat : Int)) := (by omega); have q2 : (c0.toNat : Int) ≤ 122 := (by omega); have q3 : ¬ (65 ≤ (c0.toNat : Int)) := (by omega); have q4 : (c0.toNat : Int) ≤ 90 := (by omega); have q5 : 48 ≤ (c0.toNat : Int) := (by omega); have q6 : (c0.toNat : Int) ≤ 57 := (by omega)
          have ha : alpha c0 = false := by rw [alpha_nat]; exact decide_eq_false (by omega)
          have hdg : digit c0 = true := by rw [digit_nat']; exact decide_eq_true (by omega)
          go_wp2
          go_roundw
          case rel => exact ⟨k + 1, by omega, by go_num, hL, Lib.hid (by rw [← HV.out, hd0, nm_cons]; simp [ha, hdg, hk0]; try omega)⟩
          case measure => simp [intOf]; omega
        · have q0 : ((c0.toNat : Int) == 95) = false := beq_false_of_ne (by omega); have q1 : ¬ (97 ≤ (c0.toNat : Int)) := (by omega); have q2 : (c0.toNat : Int) ≤ 122 := (by omega); have q3 : ¬ (65 ≤ (c0.toNat : Int)) := (by omega); have q4 : (c0.toNat : Int) ≤ 90 := (by omega); have q5 : 48 ≤ (c0.toNat : Int) := (by omega); have q6 : ¬ ((c0.toNat : Int) ≤ 57) := (by omega)
          have ha : alpha c0 = false := by rw [alpha_nat]; exact decide_eq_false (by omega)
          have hdg : digit c0 = false := by rw [digit_nat']; exact decide_eq_false (by omega)
          go_wp2
          (try simp only [Exit.inBlock, Exit.then]); refine bodyPost_ret (by simp [results, Tryd.results55, go_sem, *]; try rfl) rfl ?_
          exact ⟨by rw [← HV.out, hd0, nm_cons]; simp [ha, hdg, hk0], hL.below0⟩
        · have q0 : ((c0.toNat : Int) == 95) = false := beq_false_of_ne (by omega); have q1 : ¬ (97 ≤ (c0.toNat : Int)) := (by omega); have q2 : (c0.toNat : Int) ≤ 122 := (by omega); have q3 : 65 ≤ (c0.toNat : Int) := (by omega); have q4 : (c0.toNat : Int) ≤ 90 := (by omega); have q5 : 48 ≤ (c0.toNat : Int) := (by omega); have q6 : ¬ ((c0.toNat : Int) ≤ 57) := (by omega)
          have ha : alpha c0 = true := by rw [alpha_nat]; exact decide_eq_true (by omega)
          have hdg : digit c0 = false := by rw [digit_nat']; exact decide_eq_false (by omega)
          go_wp2
          go_roundw
          case rel => exact ⟨k + 1, by omega, by go_num, hL, Lib.hid (by rw [← HV.out, hd0, nm_cons]; simp [ha, hdg, hk0]; try omega)⟩
          case measure => simp [intOf]; omega
        · have q0 : ((c0.toNat : Int) == 95) = false := beq_false_of_ne (by omega); have q1 : ¬ (97 ≤ (c0.toNat : Int)) := (by omega); have q2 : (c0.toNat : Int) ≤ 122 := (by omega); have q3 : 65 ≤ (c0.toNat : Int) := (by omega); have q4 : ¬ ((c0.toNat : Int) ≤ 90) := (by omega); have q5 : 48 ≤ (c0.toNat : Int) := (by omega); have q6 : ¬ ((c0.toNat : Int) ≤ 57) := (by omega)
          have ha : alpha c0 = false := by rw [alpha_nat]; exact decide_eq_false (by omega)
          have hdg : digit c0 = false := by rw [digit_nat']; exact decide_eq_false (by omega)
          go_wp2
          (try simp only [Exit.inBlock, Exit.then]); refine bodyPost_ret (by simp [results, Tryd.results55, go_sem, *]; try rfl) rfl ?_
          exact ⟨by rw [← HV.out, hd0, nm_cons]; simp [ha, hdg, hk0], hL.below0⟩
        · have q0 : ((c0.toNat : Int) == 95) = true := beq_iff_eq.2 (by omega); have q1 : ¬ (97 ≤ (c0.toNat : Int)) := (by omega); have q2 : (c0.toNat : Int) ≤ 122 := (by omega); have q3 : 65 ≤ (c0.toNat : Int) := (by omega); have q4 : ¬ ((c0.toNat : Int) ≤ 90) := (by omega); have q5 : 48 ≤ (c0.toNat : Int) := (by omega); have q6 : ¬ ((c0.toNat : Int) ≤ 57) := (by omega)
          have ha : alpha c0 = true := by rw [alpha_nat]; exact decide_eq_true (by omega)
          have hdg : digit c0 = false := by rw [digit_nat']; exact decide_eq_false (by omega)
          go_wp2
          go_roundw
          case rel => exact ⟨k + 1, by omega, by go_num, hL, Lib.hid (by rw [← HV.out, hd0, nm_cons]; simp [ha, hdg, hk0]; try omega)⟩
          case measure => simp [intOf]; omega
        · have q0 : ((c0.toNat : Int) == 95) = false := beq_false_of_ne (by omega); have q1 : ¬ (97 ≤ (c0.toNat : Int)) := (by omega); have q2 : (c0.toNat : Int) ≤ 122 := (by omega); have q3 : 65 ≤ (c0.toNat : Int) := (by omega); have q4 : ¬ ((c0.toNat : Int) ≤ 90) := (by omega); have q5 : 48 ≤ (c0.toNat : Int) := (by omega); have q6 : ¬ ((c0.toNat : Int) ≤ 57) := (by omega)
          have ha : alpha c0 = false := by rw [alpha_nat]; exact decide_eq_false (by omega)
          have hdg : digit c0 = false := by rw [digit_nat']; exact decide_eq_false (by omega)
          go_wp2
          (try simp only [Exit.inBlock, Exit.then]); refine bodyPost_ret (by simp [results, Tryd.results55, go_sem, *]; try rfl) rfl ?_
          exact ⟨by rw [← HV.out, hd0, nm_cons]; simp [ha, hdg, hk0], hL.below0⟩
        · have q0 : ((c0.toNat : Int) == 95) = false := beq_false_of_ne (by omega); have q1 : 97 ≤ (c0.toNat : Int) := (by omega); have q2 : (c0.toNat : Int) ≤ 122 := (by omega); have q3 : 65 ≤ (c0.toNat : Int) := (by omega); have q4 : ¬ ((c0.toNat : Int) ≤ 90) := (by omega); have q5 : 48 ≤ (c0.toNat : Int) := (by omega); have q6 : ¬ ((c0.toNat : Int) ≤ 57) := (by omega)
          have ha : alpha c0 = true := by rw [alpha_nat]; exact decide_eq_true (by omega)
          have hdg : digit c0 = false := by rw [digit_nat']; exact decide_eq_false (by omega)
          go_wp2
          go_roundw
          case rel => exact ⟨k + 1, by omega, by go_num, hL, Lib.hid (by rw [← HV.out, hd0, nm_cons]; simp [ha, hdg, hk0]; try omega)⟩
          case measure => simp [intOf]; omega
        · have q0 : ((c0.toNat : Int) == 95) = false := beq_false_of_ne (by omega); have q1 : 97 ≤ (c0.toNat : Int) := (by omega); have q2 : ¬ ((c0.toNat : Int) ≤ 122) := (by omega); have q3 : 65 ≤ (c0.toNat : Int) := (by omega); have q4 : ¬ ((c0.toNat : Int) ≤ 90) := (by omega); have q5 : 48 ≤ (c0.toNat : Int) := (by omega); have q6 : ¬ ((c0.toNat : Int) ≤ 57) := (by omega)
          have ha : alpha c0 = false := by rw [alpha_nat]; exact decide_eq_false (by omega)
          have hdg : digit c0 = false := by rw [digit_nat']; exact decide_eq_false (by omega)
          go_wp2
          (try simp only [Exit.inBlock, Exit.then]); refine bodyPost_ret (by simp [results, Tryd.results55, go_sem, *]; try rfl) rfl ?_
          exact ⟨by rw [← HV.out, hd0, nm_cons]; simp [ha, hdg, hk0], hL.below0⟩
      · obtain rfl : k = 0 := by omega
        have hk0 : ¬ 0 < 0 := by omega
        rcases (show (0 ≤ c0.toNat ∧ c0.toNat ≤ 47) ∨ (48 ≤ c0.toNat ∧ c0.toNat ≤ 57) ∨ (58 ≤ c0.toNat ∧ c0.toNat ≤ 64) ∨ (65 ≤ c0.toNat ∧ c0.toNat ≤ 90) ∨ (91 ≤ c0.toNat ∧ c0.toNat ≤ 94) ∨ (95 ≤ c0.toNat ∧ c0.toNat ≤ 95) ∨ (96 ≤ c0.toNat ∧ c0.toNat ≤ 96) ∨ (97 ≤ c0.toNat ∧ c0.toNat ≤ 122) ∨ (123 ≤ c0.toNat ∧ c0.toNat ≤ 255) by omega) with hr | hr | hr | hr | hr | hr | hr | hr | hr
        · have q0 : ((c0.toNat : Int) == 95) = false := beq_false_of_ne (by omega); have q1 : ¬ (97 ≤ (c0.toNat : Int)) := (by omega); have q2 : (c0.toNat : Int) ≤ 122 := (by omega); have q3 : ¬ (65 ≤ (c0.toNat : Int)) := (by omega); have q4 : (c0.toNat : Int) ≤ 90 := (by omega); have q5 : ¬ (48 ≤ (c0.toNat : Int)) := (by omega); have q6 : (c0.toNat : Int) ≤ 57 := (by omega)
          have ha : alpha c0 = false := by rw [alpha_nat]; exact decide_eq_false (by omega)
          have hdg : digit c0 = false := by rw [digit_nat']; exact decide_eq_false (by omega)
          go_wp2
          (try simp only [Exit.inBlock, Exit.then]); refine bodyPost_ret (by simp [results, Tryd.results55, go_sem, *]; try rfl) rfl ?_
          exact ⟨by rw [← HV.out, hd0, nm_cons]; simp [ha, hdg, hk0], hL.below0⟩
        · have q0 : ((c0.toNat : Int) == 95) = false := beq_false_of_ne (by omega); have q1 : ¬ (97 ≤ (c0.toNat : Int)) := (by omega); have q2 : (c0.toNat : Int) ≤ 122 := (by omega); have q3 : ¬ (65 ≤ (c0.toNat : Int)) := (by omega); have q4 : (c0.toNat : Int) ≤ 90 := (by omega); have q5 : 48 ≤ (c0.toNat : Int) := (by omega); have q6 : (c0.toNat : Int) ≤ 57 := (by omega)
          have ha : alpha c0 = false := by rw [alpha_nat]; exact decide_eq_false (by omega)
          have hdg : digit c0 = true := by rw [digit_nat']; exact decide_eq_true (by omega)
          go_wp2
          (try simp only [Exit.inBlock, Exit.then]); refine bodyPost_ret (by simp [results, Tryd.results55, go_sem, *]; try rfl) rfl ?_
          exact ⟨by rw [← HV.out, hd0, nm_cons]; simp [ha, hdg, hk0], hL.below0⟩
        · have q0 : ((c0.toNat : Int) == 95) = false := beq_false_of_ne (by omega); have q1 : ¬ (97 ≤ (c0.toNat : Int)) := (by omega); have q2 : (c0.toNat : Int) ≤ 122 := (by omega); have q3 : ¬ (65 ≤ (c0.toNat : Int)) := (by omega); have q4 : (c0.toNat : Int) ≤ 90 := (by omega); have q5 : 48 ≤ (c0.toNat : Int) := (by omega); have q6 : ¬ ((c0.toNat : Int) ≤ 57) := (by omega)
          have ha : alpha c0 = false := by rw [alpha_nat]; exact decide_eq_false (by omega)
          have hdg : digit c0 = false := by rw [digit_nat']; exact decide_eq_false (by omega)
          go_wp2
          (try simp only [Exit.inBlock, Exit.then]); refine bodyPost_ret (by simp [results, Tryd.results55, go_sem, *]; try rfl) rfl ?_
          exact ⟨by rw [← HV.out, hd0, nm_cons]; simp [ha, hdg, hk0], hL.below0⟩
        · have q0 : ((c0.toNat : Int) == 95) = false := beq_false_of_ne (by omega); have q1 : ¬ (97 ≤ (c0.toNat : Int)) := (by omega); have q2 : (c0.toNat : Int) ≤ 122 := (by omega); have q3 : 65 ≤ (c0.toNat : Int) := (by omega); have q4 : (c0.toNat : Int) ≤ 90 := (by omega); have q5 : 48 ≤ (c0.toNat : Int) := (by omega); have q6 : ¬ ((c0.toNat : Int) ≤ 57) := (by omega)
          have ha : alpha c0 = true := by rw [alpha_nat]; exact decide_eq_true (by omega)
          have hdg : digit c0 = false := by rw [digit_nat']; exact decide_eq_false (by omega)
          go_wp2
          go_roundw
          case rel => exact ⟨0 + 1, by omega, by go_num, hL, Lib.hid (by rw [← HV.out, hd0, nm_cons]; simp [ha, hdg, hk0]; try omega)⟩
          case measure => simp [intOf]; omega
        · have q0 : ((c0.toNat : Int) == 95) = false := beq_false_of_ne (by omega); have q1 : ¬ (97 ≤ (c0.toNat : Int)) := (by omega); have q2 : (c0.toNat : Int) ≤ 122 := (by omega); have q3 : 65 ≤ (c0.toNat : Int) := (by omega); have q4 : ¬ ((c0.toNat : Int) ≤ 90) := (by omega); have q5 : 48 ≤ (c0.toNat : Int) := (by omega); have q6 : ¬ ((c0.toNat : Int) ≤ 57) := (by omega)
          have ha : alpha c0 = false := by rw [alpha_nat]; exact decide_eq_false (by omega)
          have hdg : digit c0 = false := by rw [digit_nat']; exact decide_eq_false (by omega)
          go_wp2
          (try simp only [Exit.inBlock, Exit.then]); refine bodyPost_ret (by simp [results, Tryd.results55, go_sem, *]; try rfl) rfl ?_
          exact ⟨by rw [← HV.out, hd0, nm_cons]; simp [ha, hdg, hk0], hL.below0⟩
        · have q0 : ((c0.toNat : Int) == 95) = true := beq_iff_eq.2 (by omega); have q1 : ¬ (97 ≤ (c0.toNat : Int)) := (by omega); have q2 : (c0.toNat : Int) ≤ 122 := (by omega); have q3 : 65 ≤ (c0.toNat : Int) := (by omega); have q4 : ¬ ((c0.toNat : Int) ≤ 90) := (by omega); have q5 : 48 ≤ (c0.toNat : Int) := (by omega); have q6 : ¬ ((c0.toNat : Int) ≤ 57) := (by omega)
          have ha : alpha c0 = true := by rw [alpha_nat]; exact decide_eq_true (by omega)
          have hdg : digit c0 = false := by rw [digit_nat']; exact decide_eq_false (by omega)
          go_wp2
          go_roundw
          case rel => exact ⟨0 + 1, by omega, by go_num, hL, Lib.hid (by rw [← HV.out, hd0, nm_cons]; simp [ha, hdg, hk0]; try omega)⟩
          case measure => simp [intOf]; omega
        · have q0 : ((c0.toNat : Int) == 95) = false := beq_false_of_ne (by omega); have q1 : ¬ (97 ≤ (c0.toNat : Int)) := (by omega); have q2 : (c0.toNat : Int) ≤ 122 := (by omega); have q3 : 65 ≤ (c0.toNat : Int) := (by omega); have q4 : ¬ ((c0.toNat : Int) ≤ 90) := (by omega); have q5 : 48 ≤ (c0.toNat : Int) := (by omega); have q6 : ¬ ((c0.toNat : Int) ≤ 57) := (by omega)
          have ha : alpha c0 = false := by rw [alpha_nat]; exact decide_eq_false (by omega)
          have hdg : digit c0 = false := by rw [digit_nat']; exact decide_eq_false (by omega)
          go_wp2
          (try simp only [Exit.inBlock, Exit.then]); refine bodyPost_ret (by simp [results, Tryd.results55, go_sem, *]; try rfl) rfl ?_
          exact ⟨by rw [← HV.out, hd0, nm_cons]; simp [ha, hdg, hk0], hL.below0⟩
        · have q0 : ((c0.toNat : Int) == 95) = false := beq_false_of_ne (by omega); have q1 : 97 ≤ (c0.toNat : Int) := (by omega); have q2 : (c0.toNat : Int) ≤ 122 := (by omega); have q3 : 65 ≤ (c0.toNat : Int) := (by omega); have q4 : ¬ ((c0.toNat : Int) ≤ 90) := (by omega); have q5 : 48 ≤ (c0.toNat : Int) := (by omega); have q6 : ¬ ((c0.toNat : Int) ≤ 57) := (by omega)
          have ha : alpha c0 = true := by rw [alpha_nat]; exact decide_eq_true (by omega)
          have hdg : digit c0 = false := by rw [digit_nat']; exact decide_eq_false (by omega)
          go_wp2
          go_roundw
          case rel => exact ⟨0 + 1, by omega, by go_num, hL, Lib.hid (by rw [← HV.out, hd0, nm_cons]; simp [ha, hdg, hk0]; try omega)⟩
          case measure => simp [intOf]; omega
        · have q0 : ((c0.toNat : Int) == 95) = false := beq_false_of_ne (by omega); have q1 : 97 ≤ (c0.toNat : Int) := (by omega); have q2 : ¬ ((c0.toNat : Int) ≤ 122) := (by omega); have q3 : 65 ≤ (c0.toNat : Int) := (by omega); have q4 : ¬ ((c0.toNat : Int) ≤ 90) := (by omega); have q5 : 48 ≤ (c0.toNat : Int) := (by omega); have q6 : ¬ ((c0.toNat : Int) ≤ 57) := (by omega)
          have ha : alpha c0 = false := by rw [alpha_nat]; exact decide_eq_false (by omega)
          have hdg : digit c0 = false := by rw [digit_nat']; exact decide_eq_false (by omega)
          go_wp2
          (try simp only [Exit.inBlock, Exit.then]); refine bodyPost_ret (by simp [results, Tryd.results55, go_sem, *]; try rfl) rfl ?_
          exact ⟨by rw [← HV.out, hd0, nm_cons]; simp [ha, hdg, hk0], hL.below0⟩
    · have hke : k = s.size := by omega
      go_wp2
      (try simp only [Exit.inBlock, Exit.then]); refine bodyPost_ret (by simp [results, Tryd.results55, go_sem, *]; try rfl) rfl ?_
      exact ⟨by rw [← HV.out, List.drop_eq_nil_of_le (by rw [szl]; omega), nm_nil, hke]; rfl, hL.below0⟩

end Go.Proofs.YtflfaobbfhjmmaaDoor
