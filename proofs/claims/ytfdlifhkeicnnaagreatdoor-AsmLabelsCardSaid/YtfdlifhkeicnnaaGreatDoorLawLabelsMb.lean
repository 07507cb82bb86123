/- Lemmas and walks for the law LawLabels (part 30). -/
import Derived.Test.YtfdlifhkeicnnaaGreatDoorLawLabelsMa
import Derived.Test.YtfdlifhkeicnnaaGreatDoorProg
import Derived.WalkKit
import Derived.Handy
import Derived.Deep.Light
import Derived.WalkSmall
import Derived.StillTailTactics
import Derived.Lib.Hide
namespace Go.Proofs.YtfdlifhkeicnnaaGreatDoor
open Go Go.RowKit
set_option linter.unusedSimpArgs false
set_option linter.unusedVariables false
set_option maxRecDepth 20000 in
set_option maxHeartbeats 4000000 in
theorem refName_is (s : ByteArray) (hs : s.size ≤ 1000000) (w : World) : Calls Tryz.prog 12 #[.string s] w fun e w' => e = .returned (.bool (named s.data.toList)) ∧ Below w.heap.size w w' := by
  obtain ⟨V, hV⟩ : ∃ V, named s.data.toList = V := ⟨_, rfl⟩
  have hsl := szl s
  rw [hV]
  have hL : Kn [] w w [] := Kn.refl [] w; (try simp only [kfb] at hL); have hF := hL.facts; (try simp only [Facts, Dist, kd] at hF); go_enter Tryz.func12, Tryz.ntmps12
  go_wp2
  go_loopw [3, 4, 5] (fun n c i wr => ∃ k : Nat, k ≤ s.size ∧ n = .int .i64 k ∧ Hid (NmI s.data.toList k V) ∧ Kn [] w wr []) (fun n _ _ _ => s.size - (intOf n).toNat)
  case atStart => exact ⟨0, by omega, rfl, Lib.hid (by unfold NmI; rw [if_pos rfl, hV]), hL⟩
  case round =>
    clear hL
    obtain ⟨k, hk, rfl, HV, hL⟩ := hrel
    (try simp only [kfb] at hL); have hF := hL.facts; (try simp only [Facts, Dist, kd] at hF)
    by_cases hlt : k < s.size
    · obtain ⟨c0, hc0⟩ : ∃ c, s.data.toList[k]? = some c := ⟨_, List.getElem?_eq_getElem (by rw [szl]; omega)⟩
      have eb0 := byte_at hc0 (by omega)
      have hb : c0.toNat < 256 := c0.toNat_lt
      have hrr : (0 ≤ c0.toNat ∧ c0.toNat ≤ 47) ∨ (48 ≤ c0.toNat ∧ c0.toNat ≤ 57) ∨ (58 ≤ c0.toNat ∧ c0.toNat ≤ 64) ∨ (65 ≤ c0.toNat ∧ c0.toNat ≤ 90) ∨ (91 ≤ c0.toNat ∧ c0.toNat ≤ 94) ∨ (95 ≤ c0.toNat ∧ c0.toNat ≤ 95) ∨ (96 ≤ c0.toNat ∧ c0.toNat ≤ 96) ∨ (97 ≤ c0.toNat ∧ c0.toNat ≤ 122) ∨ (123 ≤ c0.toNat ∧ c0.toNat ≤ 255) := by omega
      rcases Nat.eq_zero_or_pos k with hk0 | hk0
      · have z1 : decide ((0 : Int) < (k : Int)) = false := decide_eq_false (by omega)
        have z2 : decide (0 < k) = false := decide_eq_false (by omega)
        have z3 : ((k : Int) == 0) = true := beq_iff_eq.2 (by omega)
        have HK0 := Lib.hid hk0
        clear hk0
        rcases hrr with hr | hr | hr | hr | hr | hr | hr | hr | hr
        · have y0 : decide ((c0.toNat : Int) < 48) = true := decide_eq_true (by omega); have x0 : decide (c0.toNat < 48) = true := decide_eq_true (by omega); have y1 : decide ((57 : Int) < (c0.toNat : Int)) = false := decide_eq_false (by omega); have x1 : decide (57 < c0.toNat) = false := decide_eq_false (by omega)
          have q0 : ((c0.toNat : Int) == 95) = false := beq_false_of_ne (by omega); have q1 : decide ((97 : Int) ≤ (c0.toNat : Int)) = false := decide_eq_false (by omega); have p1 : decide (97 ≤ c0.toNat) = false := decide_eq_false (by omega); have q2 : decide ((c0.toNat : Int) ≤ 122) = true := decide_eq_true (by omega); have p2 : decide (c0.toNat ≤ 122) = true := decide_eq_true (by omega); have q3 : decide ((65 : Int) ≤ (c0.toNat : Int)) = false := decide_eq_false (by omega); have p3 : decide (65 ≤ c0.toNat) = false := decide_eq_false (by omega); have q4 : decide ((c0.toNat : Int) ≤ 90) = true := decide_eq_true (by omega); have p4 : decide (c0.toNat ≤ 90) = true := decide_eq_true (by omega); have q5 : decide ((48 : Int) ≤ (c0.toNat : Int)) = false := decide_eq_false (by omega); have p5 : decide (48 ≤ c0.toNat) = false := decide_eq_false (by omega); have q6 : decide ((c0.toNat : Int) ≤ 57) = true := decide_eq_true (by omega); have p6 : decide (c0.toNat ≤ 57) = true := decide_eq_true (by omega)
          have ha : nameC true c0 = false := by
            unfold nameC
            have e : (c0 == 95) = false := beq_false_of_ne (fun h => by subst h; revert hr; decide)
            rw [e]
            first | (simp; done) | (simp; omega)
          clear hr
          go_wp2
          (try simp only [Exit.inBlock, Exit.then]); refine bodyPost_ret (by simp [results, Tryz.results12, go_sem, *]; try rfl) rfl ?_
          exact ⟨by rw [nm_stop HV.out hc0 (.inl ⟨HK0.out, ha⟩)], hL.below0⟩
        · have y0 : decide ((c0.toNat : Int) < 48) = false := decide_eq_false (by omega); have x0 : decide (c0.toNat < 48) = false := decide_eq_false (by omega); have y1 : decide ((57 : Int) < (c0.toNat : Int)) = false := decide_eq_false (by omega); have x1 : decide (57 < c0.toNat) = false := decide_eq_false (by omega)
          have q0 : ((c0.toNat : Int) == 95) = false := beq_false_of_ne (by omega); have q1 : decide ((97 : Int) ≤ (c0.toNat : Int)) = false := decide_eq_false (by omega); have p1 : decide (97 ≤ c0.toNat) = false := decide_eq_false (by omega); have q2 : decide ((c0.toNat : Int) ≤ 122) = true := decide_eq_true (by omega); have p2 : decide (c0.toNat ≤ 122) = true := decide_eq_true (by omega); have q3 : decide ((65 : Int) ≤ (c0.toNat : Int)) = false := decide_eq_false (by omega); have p3 : decide (65 ≤ c0.toNat) = false := decide_eq_false (by omega); have q4 : decide ((c0.toNat : Int) ≤ 90) = true := decide_eq_true (by omega); have p4 : decide (c0.toNat ≤ 90) = true := decide_eq_true (by omega); have q5 : decide ((48 : Int) ≤ (c0.toNat : Int)) = true := decide_eq_true (by omega); have p5 : decide (48 ≤ c0.toNat) = true := decide_eq_true (by omega); have q6 : decide ((c0.toNat : Int) ≤ 57) = true := decide_eq_true (by omega); have p6 : decide (c0.toNat ≤ 57) = true := decide_eq_true (by omega)
          have ha : nameC true c0 = false := by
            unfold nameC
            have e : (c0 == 95) = false := beq_false_of_ne (fun h => by subst h; revert hr; decide)
            rw [e]
            first | (simp; done) | (simp; omega)
          clear hr
          go_wp2
          (try simp only [Exit.inBlock, Exit.then]); refine bodyPost_ret (by simp [results, Tryz.results12, go_sem, *]; try rfl) rfl ?_
          exact ⟨by rw [nm_stop HV.out hc0 (.inl ⟨HK0.out, ha⟩)], hL.below0⟩
        · have y0 : decide ((c0.toNat : Int) < 48) = false := decide_eq_false (by omega); have x0 : decide (c0.toNat < 48) = false := decide_eq_false (by omega); have y1 : decide ((57 : Int) < (c0.toNat : Int)) = true := decide_eq_true (by omega); have x1 : decide (57 < c0.toNat) = true := decide_eq_true (by omega)
          have q0 : ((c0.toNat : Int) == 95) = false := beq_false_of_ne (by omega); have q1 : decide ((97 : Int) ≤ (c0.toNat : Int)) = false := decide_eq_false (by omega); have p1 : decide (97 ≤ c0.toNat) = false := decide_eq_false (by omega); have q2 : decide ((c0.toNat : Int) ≤ 122) = true := decide_eq_true (by omega); have p2 : decide (c0.toNat ≤ 122) = true := decide_eq_true (by omega); have q3 : decide ((65 : Int) ≤ (c0.toNat : Int)) = false := decide_eq_false (by omega); have p3 : decide (65 ≤ c0.toNat) = false := decide_eq_false (by omega); have q4 : decide ((c0.toNat : Int) ≤ 90) = true := decide_eq_true (by omega); have p4 : decide (c0.toNat ≤ 90) = true := decide_eq_true (by omega); have q5 : decide ((48 : Int) ≤ (c0.toNat : Int)) = true := decide_eq_true (by omega); have p5 : decide (48 ≤ c0.toNat) = true := decide_eq_true (by omega); have q6 : decide ((c0.toNat : Int) ≤ 57) = false := decide_eq_false (by omega); have p6 : decide (c0.toNat ≤ 57) = false := decide_eq_false (by omega)
          have ha : nameC true c0 = false := by
            unfold nameC
            have e : (c0 == 95) = false := beq_false_of_ne (fun h => by subst h; revert hr; decide)
            rw [e]
            first | (simp; done) | (simp; omega)
          clear hr
          go_wp2
          (try simp only [Exit.inBlock, Exit.then]); refine bodyPost_ret (by simp [results, Tryz.results12, go_sem, *]; try rfl) rfl ?_
          exact ⟨by rw [nm_stop HV.out hc0 (.inl ⟨HK0.out, ha⟩)], hL.below0⟩
        · have y0 : decide ((c0.toNat : Int) < 48) = false := decide_eq_false (by omega); have x0 : decide (c0.toNat < 48) = false := decide_eq_false (by omega); have y1 : decide ((57 : Int) < (c0.toNat : Int)) = true := decide_eq_true (by omega); have x1 : decide (57 < c0.toNat) = true := decide_eq_true (by omega)
          have q0 : ((c0.toNat : Int) == 95) = false := beq_false_of_ne (by omega); have q1 : decide ((97 : Int) ≤ (c0.toNat : Int)) = false := decide_eq_false (by omega); have p1 : decide (97 ≤ c0.toNat) = false := decide_eq_false (by omega); have q2 : decide ((c0.toNat : Int) ≤ 122) = true := decide_eq_true (by omega); have p2 : decide (c0.toNat ≤ 122) = true := decide_eq_true (by omega); have q3 : decide ((65 : Int) ≤ (c0.toNat : Int)) = true := decide_eq_true (by omega); have p3 : decide (65 ≤ c0.toNat) = true := decide_eq_true (by omega); have q4 : decide ((c0.toNat : Int) ≤ 90) = true := decide_eq_true (by omega); have p4 : decide (c0.toNat ≤ 90) = true := decide_eq_true (by omega); have q5 : decide ((48 : Int) ≤ (c0.toNat : Int)) = true := decide_eq_true (by omega); have p5 : decide (48 ≤ c0.toNat) = true := decide_eq_true (by omega); have q6 : decide ((c0.toNat : Int) ≤ 57) = false := decide_eq_false (by omega); have p6 : decide (c0.toNat ≤ 57) = false := decide_eq_false (by omega)
          have ha : nameC true c0 = true := by
            unfold nameC
            have e : (c0 == 95) = false := beq_false_of_ne (fun h => by subst h; revert hr; decide)
            rw [e]
            first | (simp; done) | (simp; omega)
          clear hr
          go_wp2
          exact ⟨⟨k + 1, by omega, by go_num, Lib.hid (nm_step HV.out hc0 (.inl ⟨HK0.out, ha⟩)), hL⟩, by simp [intOf]; omega⟩
        · have y0 : decide ((c0.toNat : Int) < 48) = false := decide_eq_false (by omega); have x0 : decide (c0.toNat < 48) = false := decide_eq_false (by omega); have y1 : decide ((57 : Int) < (c0.toNat : Int)) = true := decide_eq_true (by omega); have x1 : decide (57 < c0.toNat) = true := decide_eq_true (by omega)
          have q0 : ((c0.toNat : Int) == 95) = false := beq_false_of_ne (by omega); have q1 : decide ((97 : Int) ≤ (c0.toNat : Int)) = false := decide_eq_false (by omega); have p1 : decide (97 ≤ c0.toNat) = false := decide_eq_false (by omega); have q2 : decide ((c0.toNat : Int) ≤ 122) = true := decide_eq_true (by omega); have p2 : decide (c0.toNat ≤ 122) = true := decide_eq_true (by omega); have q3 : decide ((65 : Int) ≤ (c0.toNat : Int)) = true := decide_eq_true (by omega); have p3 : decide (65 ≤ c0.toNat) = true := decide_eq_true (by omega); have q4 : decide ((c0.toNat : Int) ≤ 90) = false := decide_eq_false (by omega); have p4 : decide (c0.toNat ≤ 90) = false := decide_eq_false (by omega); have q5 : decide ((48 : Int) ≤ (c0.toNat : Int)) = true := decide_eq_true (by omega); have p5 : decide (48 ≤ c0.toNat) = true := decide_eq_true (by omega); have q6 : decide ((c0.toNat : Int) ≤ 57) = false := decide_eq_false (by omega); have p6 : decide (c0.toNat ≤ 57) = false := decide_eq_false (by omega)
          have ha : nameC true c0 = false := by
            unfold nameC
            have e : (c0 == 95) = false := beq_false_of_ne (fun h => by subst h; revert hr; decide)
            rw [e]
            first | (simp; done) | (simp; omega)
          clear hr
          go_wp2
          (try simp only [Exit.inBlock, Exit.then]); refine bodyPost_ret (by simp [results, Tryz.results12, go_sem, *]; try rfl) rfl ?_
          exact ⟨by rw [nm_stop HV.out hc0 (.inl ⟨HK0.out, ha⟩)], hL.below0⟩
        · have y0 : decide ((c0.toNat : Int) < 48) = false := decide_eq_false (by omega); have x0 : decide (c0.toNat < 48) = false := decide_eq_false (by omega); have y1 : decide ((57 : Int) < (c0.toNat : Int)) = true := decide_eq_true (by omega); have x1 : decide (57 < c0.toNat) = true := decide_eq_true (by omega)
          have q0 : ((c0.toNat : Int) == 95) = true := beq_iff_eq.2 (by omega); have q1 : decide ((97 : Int) ≤ (c0.toNat : Int)) = false := decide_eq_false (by omega); have p1 : decide (97 ≤ c0.toNat) = false := decide_eq_false (by omega); have q2 : decide ((c0.toNat : Int) ≤ 122) = true := decide_eq_true (by omega); have p2 : decide (c0.toNat ≤ 122) = true := decide_eq_true (by omega); have q3 : decide ((65 : Int) ≤ (c0.toNat : Int)) = true := decide_eq_true (by omega); have p3 : decide (65 ≤ c0.toNat) = true := decide_eq_true (by omega); have q4 : decide ((c0.toNat : Int) ≤ 90) = false := decide_eq_false (by omega); have p4 : decide (c0.toNat ≤ 90) = false := decide_eq_false (by omega); have q5 : decide ((48 : Int) ≤ (c0.toNat : Int)) = true := decide_eq_true (by omega); have p5 : decide (48 ≤ c0.toNat) = true := decide_eq_true (by omega); have q6 : decide ((c0.toNat : Int) ≤ 57) = false := decide_eq_false (by omega); have p6 : decide (c0.toNat ≤ 57) = false := decide_eq_false (by omega)
          have ha : nameC true c0 = true := by
            unfold nameC
            have e : (c0 == 95) = true := beq_iff_eq.2 (UInt8.toNat_inj.1 (show c0.toNat = 95 by omega))
            rw [e]
            first | (simp; done) | (simp; omega)
          clear hr
          go_wp2
          exact ⟨⟨k + 1, by omega, by go_num, Lib.hid (nm_step HV.out hc0 (.inl ⟨HK0.out, ha⟩)), hL⟩, by simp [intOf]; omega⟩
        · have y0 : decide ((c0.toNat : Int) < 48) = false := decide_eq_false (by omega); have x0 : decide (c0.toNat < 48) = false := decide_eq_false (by omega); have y1 : decide ((57 : Int) < (c0.toNat : Int)) = true := decide_eq_true (by omega); have x1 : decide (57 < c0.toNat) = true := decide_eq_true (by omega)
          have q0 : ((c0.toNat : Int) == 95) = false := beq_false_of_ne (by omega); have q1 : decide ((97 : Int) ≤ (c0.toNat : Int)) = false := decide_eq_false (by omega); have p1 : decide (97 ≤ c0.toNat) = false := decide_eq_false (by omega); have q2 : decide ((c0.toNat : Int) ≤ 122) = true := decide_eq_true (by omega); have p2 : decide (c0.toNat ≤ 122) = true := decide_eq_true (by omega); have q3 : decide ((65 : Int) ≤ (c0.toNat : Int)) = true := decide_eq_true (by omega); have p3 : decide (65 ≤ c0.toNat) = true := decide_eq_true (by omega); have q4 : decide ((c0.toNat : Int) ≤ 90) = false := decide_eq_false (by omega); have p4 : decide (c0.toNat ≤ 90) = false := decide_eq_false (by omega); have q5 : decide ((48 : Int) ≤ (c0.toNat : Int)) = true := decide_eq_true (by omega); have p5 : decide (48 ≤ c0.toNat) = true := decide_eq_true (by omega); have q6 : decide ((c0.toNat : Int) ≤ 57) = false := decide_eq_false (by omega); have p6 : decide (c0.toNat ≤ 57) = false := decide_eq_false (by omega)
          have ha : nameC true c0 = false := by
            unfold nameC
            have e : (c0 == 95) = false := beq_false_of_ne (fun h => by subst h; revert hr; decide)
            rw [e]
            first | (simp; done) | (simp; omega)
          clear hr
          go_wp2
          (try simp only [Exit.inBlock, Exit.then]); refine bodyPost_ret (by simp [results, Tryz.results12, go_sem, *]; try rfl) rfl ?_
          exact ⟨by rw [nm_stop HV.out hc0 (.inl ⟨HK0.out, ha⟩)], hL.below0⟩
        · have y0 : decide ((c0.toNat : Int) < 48) = false := decide_eq_false (by omega); have x0 : decide (c0.toNat < 48) = false := decide_eq_false (by omega); have y1 : decide ((57 : Int) < (c0.toNat : Int)) = true := decide_eq_true (by omega); have x1 : decide (57 < c0.toNat) = true := decide_eq_true (by omega)
          have q0 : ((c0.toNat : Int) == 95) = false := beq_false_of_ne (by omega); have q1 : decide ((97 : Int) ≤ (c0.toNat : Int)) = true := decide_eq_true (by omega); have p1 : decide (97 ≤ c0.toNat) = true := decide_eq_true (by omega); have q2 : decide ((c0.toNat : Int) ≤ 122) = true := decide_eq_true (by omega); have p2 : decide (c0.toNat ≤ 122) = true := decide_eq_true (by omega); have q3 : decide ((65 : Int) ≤ (c0.toNat : Int)) = true := decide_eq_true (by omega); have p3 : decide (65 ≤ c0.toNat) = true := decide_eq_true (by omega); have q4 : decide ((c0.toNat : Int) ≤ 90) = false := decide_eq_false (by omega); have p4 : decide (c0.toNat ≤ 90) = false := decide_eq_false (by omega); have q5 : decide ((48 : Int) ≤ (c0.toNat : Int)) = true := decide_eq_true (by omega); have p5 : decide (48 ≤ c0.toNat) = true := decide_eq_true (by omega); have q6 : decide ((c0.toNat : Int) ≤ 57) = false := decide_eq_false (by omega); have p6 : decide (c0.toNat ≤ 57) = false := decide_eq_false (by omega)
          have ha : nameC true c0 = true := by
            unfold nameC
            have e : (c0 == 95) = false := beq_false_of_ne (fun h => by subst h; revert hr; decide)
            rw [e]
            first | (simp; done) | (simp; omega)
          clear hr
          go_wp2
          exact ⟨⟨k + 1, by omega, by go_num, Lib.hid (nm_step HV.out hc0 (.inl ⟨HK0.out, ha⟩)), hL⟩, by simp [intOf]; omega⟩
        · have y0 : decide ((c0.toNat : Int) < 48) = false := decide_eq_false (by omega); have x0 : decide (c0.toNat < 48) = false := decide_eq_false (by omega); have y1 : decide ((57 : Int) < (c0.toNat : Int)) = true := decide_eq_true (by omega); have x1 : decide (57 < c0.toNat) = true := decide_eq_true (by omega)
          have q0 : ((c0.toNat : Int) == 95) = false := beq_false_of_ne (by omega); have q1 : decide ((97 : Int) ≤ (c0.toNat : Int)) = true := decide_eq_true (by omega); have p1 : decide (97 ≤ c0.toNat) = true := decide_eq_true (by omega); have q2 : decide ((c0.toNat : Int) ≤ 122) = false := decide_eq_false (by omega); have p2 : decide (c0.toNat ≤ 122) = false := decide_eq_false (by omega); have q3 : decide ((65 : Int) ≤ (c0.toNat : Int)) = true := decide_eq_true (by omega); have p3 : decide (65 ≤ c0.toNat) = true := decide_eq_true (by omega); have q4 : decide ((c0.toNat : Int) ≤ 90) = false := decide_eq_false (by omega); have p4 : decide (c0.toNat ≤ 90) = false := decide_eq_false (by omega); have q5 : decide ((48 : Int) ≤ (c0.toNat : Int)) = true := decide_eq_true (by omega); have p5 : decide (48 ≤ c0.toNat) = true := decide_eq_true (by omega); have q6 : decide ((c0.toNat : Int) ≤ 57) = false := decide_eq_false (by omega); have p6 : decide (c0.toNat ≤ 57) = false := decide_eq_false (by omega)
          have ha : nameC true c0 = false := by
            unfold nameC
            have e : (c0 == 95) = false := beq_false_of_ne (fun h => by subst h; revert hr; decide)
            rw [e]
            first | (simp; done) | (simp; omega)
          clear hr
          go_wp2
          (try simp only [Exit.inBlock, Exit.then]); refine bodyPost_ret (by simp [results, Tryz.results12, go_sem, *]; try rfl) rfl ?_
          exact ⟨by rw [nm_stop HV.out hc0 (.inl ⟨HK0.out, ha⟩)], hL.below0⟩
      · have z1 : decide ((0 : Int) < (k : Int)) = true := decide_eq_true (by omega)
        have z2 : decide (0 < k) = true := decide_eq_true hk0
        have z3 : ((k : Int) == 0) = false := beq_false_of_ne (by omega)
        have HK0 := Lib.hid hk0
        clear hk0
        rcases hrr with hr | hr | hr | hr | hr | hr | hr | hr | hr
        · have y0 : decide ((c0.toNat : Int) < 48) = true := decide_eq_true (by omega); have x0 : decide (c0.toNat < 48) = true := decide_eq_true (by omega); have y1 : decide ((57 : Int) < (c0.toNat : Int)) = false := decide_eq_false (by omega); have x1 : decide (57 < c0.toNat) = false := decide_eq_false (by omega)
          have q0 : ((c0.toNat : Int) == 95) = false := beq_false_of_ne (by omega); have q1 : decide ((97 : Int) ≤ (c0.toNat : Int)) = false := decide_eq_false (by omega); have p1 : decide (97 ≤ c0.toNat) = false := decide_eq_false (by omega); have q2 : decide ((c0.toNat : Int) ≤ 122) = true := decide_eq_true (by omega); have p2 : decide (c0.toNat ≤ 122) = true := decide_eq_true (by omega); have q3 : decide ((65 : Int) ≤ (c0.toNat : Int)) = false := decide_eq_false (by omega); have p3 : decide (65 ≤ c0.toNat) = false := decide_eq_false (by omega); have q4 : decide ((c0.toNat : Int) ≤ 90) = true := decide_eq_true (by omega); have p4 : decide (c0.toNat ≤ 90) = true := decide_eq_true (by omega); have q5 : decide ((48 : Int) ≤ (c0.toNat : Int)) = false := decide_eq_false (by omega); have p5 : decide (48 ≤ c0.toNat) = false := decide_eq_false (by omega); have q6 : decide ((c0.toNat : Int) ≤ 57) = true := decide_eq_true (by omega); have p6 : decide (c0.toNat ≤ 57) = true := decide_eq_true (by omega)
          have ha : nameC false c0 = false := by
            unfold nameC
            have e : (c0 == 95) = false := beq_false_of_ne (fun h => by subst h; revert hr; decide)
            rw [e]
            first | (simp; done) | (simp; omega)
          clear hr
          go_wp2
          (try simp only [Exit.inBlock, Exit.then]); refine bodyPost_ret (by simp [results, Tryz.results12, go_sem, *]; try rfl) rfl ?_
          exact ⟨by rw [nm_stop HV.out hc0 (.inr ⟨HK0.out, ha⟩)], hL.below0⟩
        · have y0 : decide ((c0.toNat : Int) < 48) = false := decide_eq_false (by omega); have x0 : decide (c0.toNat < 48) = false := decide_eq_false (by omega); have y1 : decide ((57 : Int) < (c0.toNat : Int)) = false := decide_eq_false (by omega); have x1 : decide (57 < c0.toNat) = false := decide_eq_false (by omega)
          have q0 : ((c0.toNat : Int) == 95) = false := beq_false_of_ne (by omega); have q1 : decide ((97 : Int) ≤ (c0.toNat : Int)) = false := decide_eq_false (by omega); have p1 : decide (97 ≤ c0.toNat) = false := decide_eq_false (by omega); have q2 : decide ((c0.toNat : Int) ≤ 122) = true := decide_eq_true (by omega); have p2 : decide (c0.toNat ≤ 122) = true := decide_eq_true (by omega); have q3 : decide ((65 : Int) ≤ (c0.toNat : Int)) = false := decide_eq_false (by omega); have p3 : decide (65 ≤ c0.toNat) = false := decide_eq_false (by omega); have q4 : decide ((c0.toNat : Int) ≤ 90) = true := decide_eq_true (by omega); have p4 : decide (c0.toNat ≤ 90) = true := decide_eq_true (by omega); have q5 : decide ((48 : Int) ≤ (c0.toNat : Int)) = true := decide_eq_true (by omega); have p5 : decide (48 ≤ c0.toNat) = true := decide_eq_true (by omega); have q6 : decide ((c0.toNat : Int) ≤ 57) = true := decide_eq_true (by omega); have p6 : decide (c0.toNat ≤ 57) = true := decide_eq_true (by omega)
          have ha : nameC false c0 = true := by
            unfold nameC
            have e : (c0 == 95) = false := beq_false_of_ne (fun h => by subst h; revert hr; decide)
            rw [e]
            first | (simp; done) | (simp; omega)
          clear hr
          go_wp2
          exact ⟨⟨k + 1, by omega, by go_num, Lib.hid (nm_step HV.out hc0 (.inr ⟨HK0.out, ha⟩)), hL⟩, by simp [intOf]; omega⟩
        · have y0 : decide ((c0.toNat : Int) < 48) = false := decide_eq_false (by omega); have x0 : decide (c0.toNat < 48) = false := decide_eq_false (by omega); have y1 : decide ((57 : Int) < (c0.toNat : Int)) = true := decide_eq_true (by omega); have x1 : decide (57 < c0.toNat) = true := decide_eq_true (by omega)
          have q0 : ((c0.toNat : Int) == 95) = false := beq_false_of_ne (by omega); have q1 : decide ((97 : Int) ≤ (c0.toNat : Int)) = false := decide_eq_false (by omega); have p1 : decide (97 ≤ c0.toNat) = false := decide_eq_false (by omega); have q2 : decide ((c0.toNat : Int) ≤ 122) = true := decide_eq_true (by omega); have p2 : decide (c0.toNat ≤ 122) = true := decide_eq_true (by omega); have q3 : decide ((65 : Int) ≤ (c0.toNat : Int)) = false := decide_eq_false (by omega); have p3 : decide (65 ≤ c0.toNat) = false := decide_eq_false (by omega); have q4 : decide ((c0.toNat : Int) ≤ 90) = true := decide_eq_true (by omega); have p4 : decide (c0.toNat ≤ 90) = true := decide_eq_true (by omega); have q5 : decide ((48 : Int) ≤ (c0.toNat : Int)) = true := decide_eq_true (by omega); have p5 : decide (48 ≤ c0.toNat) = true := decide_eq_true (by omega); have q6 : decide ((c0.toNat : Int) ≤ 57) = false := decide_eq_false (by omega); have p6 : decide (c0.toNat ≤ 57) = false := decide_eq_false (by omega)
          have ha : nameC false c0 = false := by
            unfold nameC
            have e : (c0 == 95) = false := beq_false_of_ne (fun h => by subst h; revert hr; decide)
            rw [e]
            first | (simp; done) | (simp; omega)
          clear hr
          go_wp2
          (try simp only [Exit.inBlock, Exit.then]); refine bodyPost_ret (by simp [results, Tryz.results12, go_sem, *]; try rfl) rfl ?_
          exact ⟨by rw [nm_stop HV.out hc0 (.inr ⟨HK0.out, ha⟩)], hL.below0⟩
        · have y0 : decide ((c0.toNat : Int) < 48) = false := decide_eq_false (by omega); have x0 : decide (c0.toNat < 48) = false := decide_eq_false (by omega); have y1 : decide ((57 : Int) < (c0.toNat : Int)) = true := decide_eq_true (by omega); have x1 : decide (57 < c0.toNat) = true := decide_eq_true (by omega)
          have q0 : ((c0.toNat : Int) == 95) = false := beq_false_of_ne (by omega); have q1 : decide ((97 : Int) ≤ (c0.toNat : Int)) = false := decide_eq_false (by omega); have p1 : decide (97 ≤ c0.toNat) = false := decide_eq_false (by omega); have q2 : decide ((c0.toNat : Int) ≤ 122) = true := decide_eq_true (by omega); have p2 : decide (c0.toNat ≤ 122) = true := decide_eq_true (by omega); have q3 : decide ((65 : Int) ≤ (c0.toNat : Int)) = true := decide_eq_true (by omega); have p3 : decide (65 ≤ c0.toNat) = true := decide_eq_true (by omega); have q4 : decide ((c0.toNat : Int) ≤ 90) = true := decide_eq_true (by omega); have p4 : decide (c0.toNat ≤ 90) = true := decide_eq_true (by omega); have q5 : decide ((48 : Int) ≤ (c0.toNat : Int)) = true := decide_eq_true (by omega); have p5 : decide (48 ≤ c0.toNat) = true := decide_eq_true (by omega); have q6 : decide ((c0.toNat : Int) ≤ 57) = false := decide_eq_false (by omega); have p6 : decide (c0.toNat ≤ 57) = false := decide_eq_false (by omega)
          have ha : nameC false c0 = true := by
            unfold nameC
            have e : (c0 == 95) = false := beq_false_of_ne (fun h => by subst h; revert hr; decide)
            rw [e]
            first | (simp; done) | (simp; omega)
          clear hr
          go_wp2
          exact ⟨⟨k + 1, by omega, by go_num, Lib.hid (nm_step HV.out hc0 (.inr ⟨HK0.out, ha⟩)), hL⟩, by simp [intOf]; omega⟩
        · have y0 : decide ((c0.toNat : Int) < 48) = false := decide_eq_false (by omega); have x0 : decide (c0.toNat < 48) = false := decide_eq_false (by omega); have y1 : decide ((57 : Int) < (c0.toNat : Int)) = true := decide_eq_true (by omega); have x1 : decide (57 < c0.toNat) = true := decide_eq_true (by omega)
          have q0 : ((c0.toNat : Int) == 95) = false := beq_false_of_ne (by omega); have q1 : decide ((97 : Int) ≤ (c0.toNat : Int)) = false := decide_eq_false (by omega); have p1 : decide (97 ≤ c0.toNat) = false := decide_eq_false (by omega); have q2 : decide ((c0.toNat : Int) ≤ 122) = true := decide_eq_true (by omega); have p2 : decide (c0.toNat ≤ 122) = true := decide_eq_true (by omega); have q3 : decide ((65 : Int) ≤ (c0.toNat : Int)) = true := decide_eq_true (by omega); have p3 : decide (65 ≤ c0.toNat) = true := decide_eq_true (by omega); have q4 : decide ((c0.toNat : Int) ≤ 90) = false := decide_eq_false (by omega); have p4 : decide (c0.toNat ≤ 90) = false := decide_eq_false (by omega); have q5 : decide ((48 : Int) ≤ (c0.toNat : Int)) = true := decide_eq_true (by omega); have p5 : decide (48 ≤ c0.toNat) = true := decide_eq_true (by omega); have q6 : decide ((c0.toNat : Int) ≤ 57) = false := decide_eq_false (by omega); have p6 : decide (c0.toNat ≤ 57) = false := decide_eq_false (by omega)
          have ha : nameC false c0 = false := by
            unfold nameC
            have e : (c0 == 95) = false := beq_false_of_ne (fun h => by subst h; revert hr; decide)
            rw [e]
            first | (simp; done) | (simp; omega)
          clear hr
          go_wp2
          (try simp only [Exit.inBlock, Exit.then]); refine bodyPost_ret (by simp [results, Tryz.results12, go_sem, *]; try rfl) rfl ?_
          exact ⟨by rw [nm_stop HV.out hc0 (.inr ⟨HK0.out, ha⟩)], hL.below0⟩
        · have y0 : decide ((c0.toNat : Int) < 48) = false := decide_eq_false (by omega); have x0 : decide (c0.toNat < 48) = false := decide_eq_false (by omega); have y1 : decide ((57 : Int) < (c0.toNat : Int)) = true := decide_eq_true (by omega); have x1 : decide (57 < c0.toNat) = true := decide_eq_true (by omega)
          have q0 : ((c0.toNat : Int) == 95) = true := beq_iff_eq.2 (by omega); have q1 : decide ((97 : Int) ≤ (c0.toNat : Int)) = false := decide_eq_false (by omega); have p1 : decide (97 ≤ c0.toNat) = false := decide_eq_false (by omega); have q2 : decide ((c0.toNat : Int) ≤ 122) = true := decide_eq_true (by omega); have p2 : decide (c0.toNat ≤ 122) = true := decide_eq_true (by omega); have q3 : decide ((65 : Int) ≤ (c0.toNat : Int)) = true := decide_eq_true (by omega); have p3 : decide (65 ≤ c0.toNat) = true := decide_eq_true (by omega); have q4 : decide ((c0.toNat : Int) ≤ 90) = false := decide_eq_false (by omega); have p4 : decide (c0.toNat ≤ 90) = false := decide_eq_false (by omega); have q5 : decide ((48 : Int) ≤ (c0.toNat : Int)) = true := decide_eq_true (by omega); have p5 : decide (48 ≤ c0.toNat) = true := decide_eq_true (by omega); have q6 : decide ((c0.toNat : Int) ≤ 57) = false := decide_eq_false (by omega); have p6 : decide (c0.toNat ≤ 57) = false := decide_eq_false (by omega)
          have ha : nameC false c0 = true := by
            unfold nameC
            have e : (c0 == 95) = true := beq_iff_eq.2 (UInt8.toNat_inj.1 (show c0.toNat = 95 by omega))
            rw [e]
            first | (simp; done) | (simp; omega)
          clear hr
          go_wp2
          exact ⟨⟨k + 1, by omega, by go_num, Lib.hid (nm_step HV.out hc0 (.inr ⟨HK0.out, ha⟩)), hL⟩, by simp [intOf]; omega⟩
        · have y0 : decide ((c0.toNat : Int) < 48) = false := decide_eq_false (by omega); have x0 : decide (c0.toNat < 48) = false := decide_eq_false (by omega); have y1 : decide ((57 : Int) < (c0.toNat : Int)) = true := decide_eq_true (by omega); have x1 : decide (57 < c0.toNat) = true := decide_eq_true (by omega)
          have q0 : ((c0.toNat : Int) == 95) = false := beq_false_of_ne (by omega); have q1 : decide ((97 : Int) ≤ (c0.toNat : Int)) = false := decide_eq_false (by omega); have p1 : decide (97 ≤ c0.toNat) = false := decide_eq_false (by omega); have q2 : decide ((c0.toNat : Int) ≤ 122) = true := decide_eq_true (by omega); have p2 : decide (c0.toNat ≤ 122) = true := decide_eq_true (by omega); have q3 : decide ((65 : Int) ≤ (c0.toNat : Int)) = true := decide_eq_true (by omega); have p3 : decide (65 ≤ c0.toNat) = true := decide_eq_true (by omega); have q4 : decide ((c0.toNat : Int) ≤ 90) = false := decide_eq_false (by omega); have p4 : decide (c0.toNat ≤ 90) = false := decide_eq_false (by omega); have q5 : decide ((48 : Int) ≤ (c0.toNat : Int)) = true := decide_eq_true (by omega); have p5 : decide (48 ≤ c0.toNat) = true := decide_eq_true (by omega); have q6 : decide ((c0.toNat : Int) ≤ 57) = false := decide_eq_false (by omega); have p6 : decide (c0.toNat ≤ 57) = false := decide_eq_false (by omega)
          have ha : nameC false c0 = false := by
            unfold nameC
            have e : (c0 == 95) = false := beq_false_of_ne (fun h => by subst h; revert hr; decide)
            rw [e]
            first | (simp; done) | (simp; omega)
          clear hr
          go_wp2
          (try simp only [Exit.inBlock, Exit.then]); refine bodyPost_ret (by simp [results, Tryz.results12, go_sem, *]; try rfl) rfl ?_
          exact ⟨by rw [nm_stop HV.out hc0 (.inr ⟨HK0.out, ha⟩)], hL.below0⟩
        · have y0 : decide ((c0.toNat : Int) < 48) = false := decide_eq_false (by omega); have x0 : decide (c0.toNat < 48) = false := decide_eq_false (by omega); have y1 : decide ((57 : Int) < (c0.toNat : Int)) = true := decide_eq_true (by omega); have x1 : decide (57 < c0.toNat) = true := decide_eq_true (by omega)
          have q0 : ((c0.toNat : Int) == 95) = false := beq_false_of_ne (by omega); have q1 : decide ((97 : Int) ≤ (c0.toNat : Int)) = true := decide_eq_true (by omega); have p1 : decide (97 ≤ c0.toNat) = true := decide_eq_true (by omega); have q2 : decide ((c0.toNat : Int) ≤ 122) = true := decide_eq_true (by omega); have p2 : decide (c0.toNat ≤ 122) = true := decide_eq_true (by omega); have q3 : decide ((65 : Int) ≤ (c0.toNat : Int)) = true := decide_eq_true (by omega); have p3 : decide (65 ≤ c0.toNat) = true := decide_eq_true (by omega); have q4 : decide ((c0.toNat : Int) ≤ 90) = false := decide_eq_false (by omega); have p4 : decide (c0.toNat ≤ 90) = false := decide_eq_false (by omega); have q5 : decide ((48 : Int) ≤ (c0.toNat : Int)) = true := decide_eq_true (by omega); have p5 : decide (48 ≤ c0.toNat) = true := decide_eq_true (by omega); have q6 : decide ((c0.toNat : Int) ≤ 57) = false := decide_eq_false (by omega); have p6 : decide (c0.toNat ≤ 57) = false := decide_eq_false (by omega)
          have ha : nameC false c0 = true := by
            unfold nameC
            have e : (c0 == 95) = false := beq_false_of_ne (fun h => by subst h; revert hr; decide)
            rw [e]
            first | (simp; done) | (simp; omega)
          clear hr
          go_wp2
          exact ⟨⟨k + 1, by omega, by go_num, Lib.hid (nm_step HV.out hc0 (.inr ⟨HK0.out, ha⟩)), hL⟩, by simp [intOf]; omega⟩
        · have y0 : decide ((c0.toNat : Int) < 48) = false := decide_eq_false (by omega); have x0 : decide (c0.toNat < 48) = false := decide_eq_false (by omega); have y1 : decide ((57 : Int) < (c0.toNat : Int)) = true := decide_eq_true (by omega); have x1 : decide (57 < c0.toNat) = true := decide_eq_true (by omega)
          have q0 : ((c0.toNat : Int) == 95) = false := beq_false_of_ne (by omega); have q1 : decide ((97 : Int) ≤ (c0.toNat : Int)) = true := decide_eq_true (by omega); have p1 : decide (97 ≤ c0.toNat) = true := decide_eq_true (by omega); have q2 : decide ((c0.toNat : Int) ≤ 122) = false := decide_eq_false (by omega); have p2 : decide (c0.toNat ≤ 122) = false := decide_eq_false (by omega); have q3 : decide ((65 : Int) ≤ (c0.toNat : Int)) = true := decide_eq_true (by omega); have p3 : decide (65 ≤ c0.toNat) = true := decide_eq_true (by omega); have q4 : decide ((c0.toNat : Int) ≤ 90) = false := decide_eq_false (by omega); have p4 : decide (c0.toNat ≤ 90) = false := decide_eq_false (by omega); have q5 : decide ((48 : Int) ≤ (c0.toNat : Int)) = true := decide_eq_true (by omega); have p5 : decide (48 ≤ c0.toNat) = true := decide_eq_true (by omega); have q6 : decide ((c0.toNat : Int) ≤ 57) = false := decide_eq_false (by omega); have p6 : decide (c0.toNat ≤ 57) = false := decide_eq_false (by omega)
          have ha : nameC false c0 = false := by
            unfold nameC
            have e : (c0 == 95) = false := beq_false_of_ne (fun h => by subst h; revert hr; decide)
            rw [e]
            first | (simp; done) | (simp; omega)
          clear hr
          go_wp2
          (try simp only [Exit.inBlock, Exit.then]); refine bodyPost_ret (by simp [results, Tryz.results12, go_sem, *]; try rfl) rfl ?_
          exact ⟨by rw [nm_stop HV.out hc0 (.inr ⟨HK0.out, ha⟩)], hL.below0⟩
    · obtain rfl : k = s.size := by omega
      have hV2 := nm_end (by rw [hsl]; exact HV.out)
      go_wp2
      (try simp only [Exit.inBlock, Exit.then]); refine bodyPost_ret (by simp [results, Tryz.results12, go_sem, *]; try rfl) rfl ?_
      exact ⟨by rw [hV2, Lib.toList_data], hL.below0⟩

end Go.Proofs.YtfdlifhkeicnnaaGreatDoor
namespace Go.Proofs.YtfdlifhkeicnnaaGreatDoor
open Go Go.RowKit
set_option linter.unusedSimpArgs false
set_option linter.unusedVariables false
set_option maxRecDepth 20000 in
set_option maxHeartbeats 4000000 in
theorem lab_out0 (p q : Int) (a b : ByteArray) (c0a : decide (p < 0) = true) (w : World) (hT : TabA w) : Calls Tryz.prog 4 #[.int .i64 p, .int .i64 q, .string a, .string b] w fun e w' => e = .returned (.bool true) ∧ Below w.heap.size w w' := by
  have hL : Kn [] w w [] := Kn.refl [] w; (try simp only [kfb] at hL); have hF := hL.facts; (try simp only [Facts, Dist, kd] at hF); go_enter Tryz.func4, Tryz.ntmps4
  go_wp2_with (first | ((with_reducible refine kn_list_set ?_); (try clear hF); clear hL; intro W hL; (try simp only [kfb] at hL); have hF := hL.facts; (try simp only [Facts, Dist, kd] at hF)) | (go_at_call 8; refine kn_calls ?_; (try clear hF); clear hL; intro W hL; (try simp only [kfb] at hL); have hF := hL.facts; (try simp only [Facts, Dist, kd] at hF); (((with_reducible refine (small_is _ (hT.kn hL (by simp))).mono ?_))); rintro e W ⟨rfl, hb⟩; replace hL := hL.below hb; clear hb; (try clear hF); (try simp only [kfb] at hL); have hF := hL.facts; (try simp only [Facts, Dist, kd] at hF)))
  (try simp only [Exit.inBlock, Exit.then]); refine bodyPost_ret (by simp [results, Tryz.results4, go_sem, *]; try rfl) rfl ?_
  exact ⟨rfl, hL.below0⟩
set_option maxRecDepth 20000 in
set_option maxHeartbeats 4000000 in
theorem lab_out1 (p q : Int) (a b : ByteArray) (c0a : decide (p < 0) = false) (c1a : decide (300 < p) = true) (w : World) (hT : TabA w) : Calls Tryz.prog 4 #[.int .i64 p, .int .i64 q, .string a, .string b] w fun e w' => e = .returned (.bool true) ∧ Below w.heap.size w w' := by
  have hL : Kn [] w w [] := Kn.refl [] w; (try simp only [kfb] at hL); have hF := hL.facts; (try simp only [Facts, Dist, kd] at hF); go_enter Tryz.func4, Tryz.ntmps4
  go_wp2_with (first | ((with_reducible refine kn_list_set ?_); (try clear hF); clear hL; intro W hL; (try simp only [kfb] at hL); have hF := hL.facts; (try simp only [Facts, Dist, kd] at hF)) | (go_at_call 8; refine kn_calls ?_; (try clear hF); clear hL; intro W hL; (try simp only [kfb] at hL); have hF := hL.facts; (try simp only [Facts, Dist, kd] at hF); (((with_reducible refine (small_is _ (hT.kn hL (by simp))).mono ?_))); rintro e W ⟨rfl, hb⟩; replace hL := hL.below hb; clear hb; (try clear hF); (try simp only [kfb] at hL); have hF := hL.facts; (try simp only [Facts, Dist, kd] at hF)))
  (try simp only [Exit.inBlock, Exit.then]); refine bodyPost_ret (by simp [results, Tryz.results4, go_sem, *]; try rfl) rfl ?_
  exact ⟨rfl, hL.below0⟩
set_option maxRecDepth 20000 in
set_option maxHeartbeats 4000000 in
theorem lab_out2 (p q : Int) (a b : ByteArray) (c0a : decide (p < 0) = false) (c1a : decide (300 < p) = false) (c2a : decide (q < 0) = true) (w : World) (hT : TabA w) : Calls Tryz.prog 4 #[.int .i64 p, .int .i64 q, .string a, .string b] w fun e w' => e = .returned (.bool true) ∧ Below w.heap.size w w' := by
  have hL : Kn [] w w [] := Kn.refl [] w; (try simp only [kfb] at hL); have hF := hL.facts; (try simp only [Facts, Dist, kd] at hF); go_enter Tryz.func4, Tryz.ntmps4
  go_wp2_with (first | ((with_reducible refine kn_list_set ?_); (try clear hF); clear hL; intro W hL; (try simp only [kfb] at hL); have hF := hL.facts; (try simp only [Facts, Dist, kd] at hF)) | (go_at_call 8; refine kn_calls ?_; (try clear hF); clear hL; intro W hL; (try simp only [kfb] at hL); have hF := hL.facts; (try simp only [Facts, Dist, kd] at hF); (((with_reducible refine (small_is _ (hT.kn hL (by simp))).mono ?_))); rintro e W ⟨rfl, hb⟩; replace hL := hL.below hb; clear hb; (try clear hF); (try simp only [kfb] at hL); have hF := hL.facts; (try simp only [Facts, Dist, kd] at hF)))
  (try simp only [Exit.inBlock, Exit.then]); refine bodyPost_ret (by simp [results, Tryz.results4, go_sem, *]; try rfl) rfl ?_
  exact ⟨rfl, hL.below0⟩
set_option maxRecDepth 20000 in
set_option maxHeartbeats 4000000 in
theorem lab_out3 (p q : Int) (a b : ByteArray) (c0a : decide (p < 0) = false) (c1a : decide (300 < p) = false) (c2a : decide (q < 0) = false) (c3a : decide (300 < q) = true) (w : World) (hT : TabA w) : Calls Tryz.prog 4 #[.int .i64 p, .int .i64 q, .string a, .string b] w fun e w' => e = .returned (.bool true) ∧ Below w.heap.size w w' := by
  have hL : Kn [] w w [] := Kn.refl [] w; (try simp only [kfb] at hL); have hF := hL.facts; (try simp only [Facts, Dist, kd] at hF); go_enter Tryz.func4, Tryz.ntmps4
  go_wp2_with (first | ((with_reducible refine kn_list_set ?_); (try clear hF); clear hL; intro W hL; (try simp only [kfb] at hL); have hF := hL.facts; (try simp only [Facts, Dist, kd] at hF)) | (go_at_call 8; refine kn_calls ?_; (try clear hF); clear hL; intro W hL; (try simp only [kfb] at hL); have hF := hL.facts; (try simp only [Facts, Dist, kd] at hF); (((with_reducible refine (small_is _ (hT.kn hL (by simp))).mono ?_))); rintro e W ⟨rfl, hb⟩; replace hL := hL.below hb; clear hb; (try clear hF); (try simp only [kfb] at hL); have hF := hL.facts; (try simp only [Facts, Dist, kd] at hF)))
  (try simp only [Exit.inBlock, Exit.then]); refine bodyPost_ret (by simp [results, Tryz.results4, go_sem, *]; try rfl) rfl ?_
  exact ⟨rfl, hL.below0⟩
set_option maxRecDepth 20000 in
set_option maxHeartbeats 4000000 in
theorem lab_out4 (p q : Int) (a b : ByteArray) (c0a : decide (p < 0) = false) (c1a : decide (300 < p) = false) (c2a : decide (q < 0) = false) (c3a : decide (300 < q) = false) (c4a : decide ((40 : Int) < (a.size : Int)) = true) (c4b : decide (40 < a.size) = true) (w : World) (hT : TabA w) : Calls Tryz.prog 4 #[.int .i64 p, .int .i64 q, .string a, .string b] w fun e w' => e = .returned (.bool true) ∧ Below w.heap.size w w' := by
  have hL : Kn [] w w [] := Kn.refl [] w; (try simp only [kfb] at hL); have hF := hL.facts; (try simp only [Facts, Dist, kd] at hF); go_enter Tryz.func4, Tryz.ntmps4
  go_wp2_with (first | ((with_reducible refine kn_list_set ?_); (try clear hF); clear hL; intro W hL; (try simp only [kfb] at hL); have hF := hL.facts; (try simp only [Facts, Dist, kd] at hF)) | (go_at_call 8; refine kn_calls ?_; (try clear hF); clear hL; intro W hL; (try simp only [kfb] at hL); have hF := hL.facts; (try simp only [Facts, Dist, kd] at hF); (((with_reducible refine (small_is _ (hT.kn hL (by simp))).mono ?_))); rintro e W ⟨rfl, hb⟩; replace hL := hL.below hb; clear hb; (try clear hF); (try simp only [kfb] at hL); have hF := hL.facts; (try simp only [Facts, Dist, kd] at hF)))
  (try simp only [Exit.inBlock, Exit.then]); refine bodyPost_ret (by simp [results, Tryz.results4, go_sem, *]; try rfl) rfl ?_
  exact ⟨rfl, hL.below0⟩
set_option maxRecDepth 20000 in
set_option maxHeartbeats 4000000 in
theorem lab_out5 (p q : Int) (a b : ByteArray) (c0a : decide (p < 0) = false) (c1a : decide (300 < p) = false) (c2a : decide (q < 0) = false) (c3a : decide (300 < q) = false) (c4a : decide ((40 : Int) < (a.size : Int)) = false) (c4b : decide (40 < a.size) = false) (c5a : decide ((40 : Int) < (b.size : Int)) = true) (c5b : decide (40 < b.size) = true) (w : World) (hT : TabA w) : Calls Tryz.prog 4 #[.int .i64 p, .int .i64 q, .string a, .string b] w fun e w' => e = .returned (.bool true) ∧ Below w.heap.size w w' := by
  have hL : Kn [] w w [] := Kn.refl [] w; (try simp only [kfb] at hL); have hF := hL.facts; (try simp only [Facts, Dist, kd] at hF); go_enter Tryz.func4, Tryz.ntmps4
  go_wp2_with (first | ((with_reducible refine kn_list_set ?_); (try clear hF); clear hL; intro W hL; (try simp only [kfb] at hL); have hF := hL.facts; (try simp only [Facts, Dist, kd] at hF)) | (go_at_call 8; refine kn_calls ?_; (try clear hF); clear hL; intro W hL; (try simp only [kfb] at hL); have hF := hL.facts; (try simp only [Facts, Dist, kd] at hF); (((with_reducible refine (small_is _ (hT.kn hL (by simp))).mono ?_))); rintro e W ⟨rfl, hb⟩; replace hL := hL.below hb; clear hb; (try clear hF); (try simp only [kfb] at hL); have hF := hL.facts; (try simp only [Facts, Dist, kd] at hF)))
  (try simp only [Exit.inBlock, Exit.then]); refine bodyPost_ret (by simp [results, Tryz.results4, go_sem, *]; try rfl) rfl ?_
  exact ⟨rfl, hL.below0⟩
set_option maxRecDepth 20000 in
set_option maxHeartbeats 4000000 in
theorem lab_out6 (p q : Int) (a b : ByteArray) (c0a : decide (p < 0) = false) (c1a : decide (300 < p) = false) (c2a : decide (q < 0) = false) (c3a : decide (300 < q) = false) (c4a : decide ((40 : Int) < (a.size : Int)) = false) (c4b : decide (40 < a.size) = false) (c5a : decide ((40 : Int) < (b.size : Int)) = false) (c5b : decide (40 < b.size) = false) (HNa : Hid (∀ W, Calls Tryz.prog 12 #[.string a] W fun e w' => e = .returned (.bool false) ∧ Below W.heap.size W w')) (w : World) (hT : TabA w) : Calls Tryz.prog 4 #[.int .i64 p, .int .i64 q, .string a, .string b] w fun e w' => e = .returned (.bool true) ∧ Below w.heap.size w w' := by
  have hL : Kn [] w w [] := Kn.refl [] w; (try simp only [kfb] at hL); have hF := hL.facts; (try simp only [Facts, Dist, kd] at hF); go_enter Tryz.func4, Tryz.ntmps4
  go_wp2_with (first | ((with_reducible refine kn_list_set ?_); (try clear hF); clear hL; intro W hL; (try simp only [kfb] at hL); have hF := hL.facts; (try simp only [Facts, Dist, kd] at hF)) | (go_at_call 8; refine kn_calls ?_; (try clear hF); clear hL; intro W hL; (try simp only [kfb] at hL); have hF := hL.facts; (try simp only [Facts, Dist, kd] at hF); (((with_reducible refine (small_is _ (hT.kn hL (by simp))).mono ?_))); rintro e W ⟨rfl, hb⟩; replace hL := hL.below hb; clear hb; (try clear hF); (try simp only [kfb] at hL); have hF := hL.facts; (try simp only [Facts, Dist, kd] at hF)) | (go_at_call 12; refine kn_calls ?_; (try clear hF); clear hL; intro W hL; (try simp only [kfb] at hL); have hF := hL.facts; (try simp only [Facts, Dist, kd] at hF); (((first | (with_reducible refine (HNa.out _).mono ?_)))); rintro e W ⟨rfl, hb⟩; replace hL := hL.below hb; clear hb; (try clear hF); (try simp only [kfb] at hL); have hF := hL.facts; (try simp only [Facts, Dist, kd] at hF)))
  (try simp only [Exit.inBlock, Exit.then]); refine bodyPost_ret (by simp [results, Tryz.results4, go_sem, *]; try rfl) rfl ?_
  exact ⟨rfl, hL.below0⟩
set_option maxRecDepth 20000 in
set_option maxHeartbeats 4000000 in
theorem lab_out7 (p q : Int) (a b : ByteArray) (c0a : decide (p < 0) = false) (c1a : decide (300 < p) = false) (c2a : decide (q < 0) = false) (c3a : decide (300 < q) = false) (c4a : decide ((40 : Int) < (a.size : Int)) = false) (c4b : decide (40 < a.size) = false) (c5a : decide ((40 : Int) < (b.size : Int)) = false) (c5b : decide (40 < b.size) = false) (HNa : Hid (∀ W, Calls Tryz.prog 12 #[.string a] W fun e w' => e = .returned (.bool true) ∧ Below W.heap.size W w')) (HNb : Hid (∀ W, Calls Tryz.prog 12 #[.string b] W fun e w' => e = .returned (.bool false) ∧ Below W.heap.size W w')) (w : World) (hT : TabA w) : Calls Tryz.prog 4 #[.int .i64 p, .int .i64 q, .string a, .string b] w fun e w' => e = .returned (.bool true) ∧ Below w.heap.size w w' := by
  have hL : Kn [] w w [] := Kn.refl [] w; (try simp only [kfb] at hL); have hF := hL.facts; (try simp only [Facts, Dist, kd] at hF); go_enter Tryz.func4, Tryz.ntmps4
  go_wp2_with (first | ((with_reducible refine kn_list_set ?_); (try clear hF); clear hL; intro W hL; (try simp only [kfb] at hL); have hF := hL.facts; (try simp only [Facts, Dist, kd] at hF)) | (go_at_call 8; refine kn_calls ?_; (try clear hF); clear hL; intro W hL; (try simp only [kfb] at hL); have hF := hL.facts; (try simp only [Facts, Dist, kd] at hF); (((with_reducible refine (small_is _ (hT.kn hL (by simp))).mono ?_))); rintro e W ⟨rfl, hb⟩; replace hL := hL.below hb; clear hb; (try clear hF); (try simp only [kfb] at hL); have hF := hL.facts; (try simp only [Facts, Dist, kd] at hF)) | (go_at_call 12; refine kn_calls ?_; (try clear hF); clear hL; intro W hL; (try simp only [kfb] at hL); have hF := hL.facts; (try simp only [Facts, Dist, kd] at hF); (((first | (with_reducible refine (HNa.out _).mono ?_) | (with_reducible refine (HNb.out _).mono ?_)))); rintro e W ⟨rfl, hb⟩; replace hL := hL.below hb; clear hb; (try clear hF); (try simp only [kfb] at hL); have hF := hL.facts; (try simp only [Facts, Dist, kd] at hF)))
  (try simp only [Exit.inBlock, Exit.then]); refine bodyPost_ret (by simp [results, Tryz.results4, go_sem, *]; try rfl) rfl ?_
  exact ⟨rfl, hL.below0⟩
set_option maxRecDepth 20000 in
set_option maxHeartbeats 4000000 in
theorem lab_out8 (p q : Int) (a b : ByteArray) (c0a : decide (p < 0) = false) (c1a : decide (300 < p) = false) (c2a : decide (q < 0) = false) (c3a : decide (300 < q) = false) (c4a : decide ((40 : Int) < (a.size : Int)) = false) (c4b : decide (40 < a.size) = false) (c5a : decide ((40 : Int) < (b.size : Int)) = false) (c5b : decide (40 < b.size) = false) (HNa : Hid (∀ W, Calls Tryz.prog 12 #[.string a] W fun e w' => e = .returned (.bool true) ∧ Below W.heap.size W w')) (HNb : Hid (∀ W, Calls Tryz.prog 12 #[.string b] W fun e w' => e = .returned (.bool true) ∧ Below W.heap.size W w')) (c8a : (a.toList == b.toList) = true) (w : World) (hT : TabA w) : Calls Tryz.prog 4 #[.int .i64 p, .int .i64 q, .string a, .string b] w fun e w' => e = .returned (.bool true) ∧ Below w.heap.size w w' := by
  have hL : Kn [] w w [] := Kn.refl [] w; (try simp only [kfb] at hL); have hF := hL.facts; (try simp only [Facts, Dist, kd] at hF); go_enter Tryz.func4, Tryz.ntmps4
  go_wp2_with (first | ((with_reducible refine kn_list_set ?_); (try clear hF); clear hL; intro W hL; (try simp only [kfb] at hL); have hF := hL.facts; (try simp only [Facts, Dist, kd] at hF)) | (go_at_call 8; refine kn_calls ?_; (try clear hF); clear hL; intro W hL; (try simp only [kfb] at hL); have hF := hL.facts; (try simp only [Facts, Dist, kd] at hF); (((with_reducible refine (small_is _ (hT.kn hL (by simp))).mono ?_))); rintro e W ⟨rfl, hb⟩; replace hL := hL.below hb; clear hb; (try clear hF); (try simp only [kfb] at hL); have hF := hL.facts; (try simp only [Facts, Dist, kd] at hF)) | (go_at_call 12; refine kn_calls ?_; (try clear hF); clear hL; intro W hL; (try simp only [kfb] at hL); have hF := hL.facts; (try simp only [Facts, Dist, kd] at hF); (((first | (with_reducible refine (HNa.out _).mono ?_) | (with_reducible refine (HNb.out _).mono ?_)))); rintro e W ⟨rfl, hb⟩; replace hL := hL.below hb; clear hb; (try clear hF); (try simp only [kfb] at hL); have hF := hL.facts; (try simp only [Facts, Dist, kd] at hF)))
  (try simp only [Exit.inBlock, Exit.then]); refine bodyPost_ret (by simp [results, Tryz.results4, go_sem, *]; try rfl) rfl ?_
  exact ⟨rfl, hL.below0⟩

end Go.Proofs.YtfdlifhkeicnnaaGreatDoor
namespace Go.Proofs.YtfdlifhkeicnnaaGreatDoor
open Go Go.RowKit
set_option linter.unusedSimpArgs false
set_option linter.unusedVariables false
set_option maxRecDepth 20000 in
set_option maxHeartbeats 4000000 in
theorem lab_in (p q A B : Nat) (a b xb ya src src2 code : ByteArray) (hp : p ≤ 300) (hq : q ≤ 300) (ha : a.size ≤ 40) (hb : b.size ≤ 40) (exb : (⟨#[120, 95]⟩ : ByteArray) ++ b = xb) (eya : (⟨#[121, 95]⟩ : ByteArray) ++ a = ya) (hxb : xb.size ≤ 50) (hya : ya.size ≤ 50) (mxb : ¬ IntKind.i64.max < ((((⟨#[120, 95]⟩ : ByteArray).size + b.size : Nat)) : Int)) (mya : ¬ IntKind.i64.max < ((((⟨#[121, 95]⟩ : ByteArray).size + a.size : Nat)) : Int)) (eqf : (a.toList == b.toList) = false) (hc : code.size ≤ 5000) (hl : ((code.size : Int) != 4 * ((p : Int) + (q : Int) + 6)) = false) (hA : (64 : Int) + 4 * (p : Int) = (A : Int)) (hB : (A : Int) + 4 * ((q : Int) + 3) = (B : Int)) (hA2 : A ≤ 3000) (hB2 : B ≤ 3000) (HNa : Hid (∀ W, Calls Tryz.prog 12 #[.string a] W fun e w' => e = .returned (.bool true) ∧ Below W.heap.size W w')) (HNb : Hid (∀ W, Calls Tryz.prog 12 #[.string b] W fun e w' => e = .returned (.bool true) ∧ Below W.heap.size W w')) (HP1 : Hid (∀ W, Calls Tryz.prog 13 #[.int .i64 (p : Int), .int .i64 (q : Int), .string a, .string b] W fun e w' => e = .returned (.string src) ∧ Below W.heap.size W w')) (HP2 : Hid (∀ W, Calls Tryz.prog 13 #[.int .i64 (p : Int), .int .i64 (q : Int), .string xb, .string ya] W fun e w' => e = .returned (.string src2) ∧ Below W.heap.size W w')) (HA1 : Hid (∀ W, TabA W → Calls Tryz.prog 11 #[.string src] W fun e w' => e = .returned (.tuple #[.string code, .int .i64 0, .int .i64 0]) ∧ Below W.heap.size W w')) (HA2 : Hid (∀ W, TabA W → Calls Tryz.prog 11 #[.string src2] W fun e w' => e = .returned (.tuple #[.string code, .int .i64 0, .int .i64 0]) ∧ Below W.heap.size W w')) (HG1 : Hid (∀ W, TabA W → Calls Tryz.prog 14 #[.string code, .int .i64 ((A : Int)), .int .i64 ((B : Int))] W fun e w' => e = .returned (.bool true) ∧ Below W.heap.size W w')) (HG2 : Hid (∀ W, TabA W → Calls Tryz.prog 14 #[.string code, .int .i64 ((B : Int)), .int .i64 ((A : Int))] W fun e w' => e = .returned (.bool true) ∧ Below W.heap.size W w')) (HT1 : Hid (∀ W, TabA W → Calls Tryz.prog 15 #[.string code, .int .i64 ((A : Int) + 4), .int .i64 ((B : Int))] W fun e w' => e = .returned (.bool true) ∧ Below W.heap.size W w')) (HT2 : Hid (∀ W, TabA W → Calls Tryz.prog 15 #[.string code, .int .i64 ((B : Int) + 4), .int .i64 ((A : Int))] W fun e w' => e = .returned (.bool true) ∧ Below W.heap.size W w')) (HT3 : Hid (∀ W, TabA W → Calls Tryz.prog 15 #[.string code, .int .i64 ((B : Int) + 8), .int .i64 ((B : Int))] W fun e w' => e = .returned (.bool true) ∧ Below W.heap.size W w')) (w : World) (hT : TabA w) : Calls Tryz.prog 4 #[.int .i64 (p : Int), .int .i64 (q : Int), .string a, .string b] w fun e w' => e = .returned (.bool true) ∧ Below w.heap.size w w' := by
  have c0 : decide ((p : Int) < 0) = false := decide_eq_false (by omega)
  have c1 : decide ((300 : Int) < (p : Int)) = false := decide_eq_false (by omega)
  have c2 : decide ((q : Int) < 0) = false := decide_eq_false (by omega)
  have c3 : decide ((300 : Int) < (q : Int)) = false := decide_eq_false (by omega)
  have c4 : decide ((40 : Int) < (a.size : Int)) = false := decide_eq_false (by omega)
  have c5 : decide ((40 : Int) < (b.size : Int)) = false := decide_eq_false (by omega)
  have c6 : decide (300 < p) = false := decide_eq_false (by omega)
  have c7 : decide (300 < q) = false := decide_eq_false (by omega)
  have c8 : decide (40 < a.size) = false := decide_eq_false (by omega)
  have c9 : decide (40 < b.size) = false := decide_eq_false (by omega)
  have hL : Kn [] w w [] := Kn.refl [] w; (try simp only [kfb] at hL); have hF := hL.facts; (try simp only [Facts, Dist, kd] at hF); go_enter Tryz.func4, Tryz.ntmps4
  go_wp2_with (first | ((with_reducible refine kn_list_set ?_); (try clear hF); clear hL; intro W hL; (try simp only [kfb] at hL); have hF := hL.facts; (try simp only [Facts, Dist, kd] at hF)) | (go_at_call 8; refine kn_calls ?_; (try clear hF); clear hL; intro W hL; (try simp only [kfb] at hL); have hF := hL.facts; (try simp only [Facts, Dist, kd] at hF); (((with_reducible refine (small_is _ (hT.kn hL (by simp))).mono ?_))); rintro e W ⟨rfl, hb⟩; replace hL := hL.below hb; clear hb; (try clear hF); (try simp only [kfb] at hL); have hF := hL.facts; (try simp only [Facts, Dist, kd] at hF)) | (go_at_call 12; refine kn_calls ?_; (try clear hF); clear hL; intro W hL; (try simp only [kfb] at hL); have hF := hL.facts; (try simp only [Facts, Dist, kd] at hF); (((first | (with_reducible refine (HNa.out _).mono ?_) | (with_reducible refine (HNb.out _).mono ?_)))); rintro e W ⟨rfl, hb⟩; replace hL := hL.below hb; clear hb; (try clear hF); (try simp only [kfb] at hL); have hF := hL.facts; (try simp only [Facts, Dist, kd] at hF)) | (go_at_call 13; refine kn_calls ?_; (try clear hF); clear hL; intro W hL; (try simp only [kfb] at hL); have hF := hL.facts; (try simp only [Facts, Dist, kd] at hF); (((first | (with_reducible refine (HP1.out _).mono ?_) | (with_reducible refine (HP2.out _).mono ?_)))); rintro e W ⟨rfl, hb⟩; replace hL := hL.below hb; clear hb; (try clear hF); (try simp only [kfb] at hL); have hF := hL.facts; (try simp only [Facts, Dist, kd] at hF)) | (go_at_call 11; refine kn_calls ?_; (try clear hF); clear hL; intro W hL; (try simp only [kfb] at hL); have hF := hL.facts; (try simp only [Facts, Dist, kd] at hF); (((first | (with_reducible refine (HA1.out _ (hT.kn hL (by simp))).mono ?_) | (with_reducible refine (HA2.out _ (hT.kn hL (by simp))).mono ?_)))); rintro e W ⟨rfl, hb⟩; replace hL := hL.below hb; clear hb; (try clear hF); (try simp only [kfb] at hL); have hF := hL.facts; (try simp only [Facts, Dist, kd] at hF)) | (go_at_call 14; refine kn_calls ?_; (try clear hF); clear hL; intro W hL; (try simp only [kfb] at hL); have hF := hL.facts; (try simp only [Facts, Dist, kd] at hF); (((first | (with_reducible refine (HG1.out _ (hT.kn hL (by simp))).mono ?_) | (with_reducible refine (HG2.out _ (hT.kn hL (by simp))).mono ?_)))); rintro e W ⟨rfl, hb⟩; replace hL := hL.below hb; clear hb; (try clear hF); (try simp only [kfb] at hL); have hF := hL.facts; (try simp only [Facts, Dist, kd] at hF)) | (go_at_call 15; refine kn_calls ?_; (try clear hF); clear hL; intro W hL; (try simp only [kfb] at hL); have hF := hL.facts; (try simp only [Facts, Dist, kd] at hF); (((first | (with_reducible refine (HT1.out _ (hT.kn hL (by simp))).mono ?_) | (with_reducible refine (HT2.out _ (hT.kn hL (by simp))).mono ?_) | (with_reducible refine (HT3.out _ (hT.kn hL (by simp))).mono ?_)))); rintro e W ⟨rfl, hb⟩; replace hL := hL.below hb; clear hb; (try clear hF); (try simp only [kfb] at hL); have hF := hL.facts; (try simp only [Facts, Dist, kd] at hF)))
  (try simp only [Exit.inBlock, Exit.then]); refine bodyPost_ret (by simp [results, Tryz.results4, go_sem, *]; try rfl) rfl ?_
  exact ⟨rfl, hL.below0⟩

end Go.Proofs.YtfdlifhkeicnnaaGreatDoor
