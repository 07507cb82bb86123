/- Lemmas and walks for the law LawTells (part 5). -/
import Derived.Test.YtfdlifhkeicnnaaGreatDoorWPt4
import Derived.Test.YtfdlifhkeicnnaaGreatDoorProg
import Derived.WalkKit
import Derived.Handy
import Derived.Deep.Light
import Derived.WalkSmall
import Derived.StillTailTactics
import Derived.Lib.Hide
import Derived.Shelf.Strings.SlTrimAscii
import Derived.Shelf.Strings.IndexAnyAll
import Derived.Maps.OwnSet
import Derived.Maps.OwnOps
set_option maxRecDepth 20000
set_option maxHeartbeats 4000000
set_option linter.unusedVariables false
set_option linter.unusedSimpArgs false
namespace Go.Proofs.YtfdlifhkeicnnaaGreatDoor
open Go Go.RowKit
theorem number_some (s : ByteArray) (hs : s.size ≤ 1000000) (lo hi : Int) (n : Int) (hc : canon s.data.toList = some n) (h : lo ≤ n ∧ n ≤ hi) (w : World) (hT : Tab w) : Calls Tryz.prog 127 #[.string s, .int .i64 lo, .int .i64 hi] w fun e w' => e = .returned (.int .i64 n) ∧ Below w.heap.size w w' := by
 have q1 : decide (lo ≤ n) = true := decide_eq_true h.1
 have q2 : decide (n ≤ hi) = true := decide_eq_true h.2
 clear h
 have hL : Kn [] w w [] := Kn.refl [] w; have hF := hL.fx; go_enter Tryz.func127, Tryz.ntmps127
 go_wp2_with (first | ((with_reducible refine ks ?_); clear hL; intro W hL hF) | (go_at_call 126; refine kc (fun W hL => Int_some s (by omega) n hc _ (hT.kn hL (by simp))) ?_; clear hF hL; intro W hL hF) | (go_at_call 100; (with_reducible refine (need_ok _ _).mono ?_); rintro e w' ⟨rfl, rfl⟩))
 refine bodyPost_ret (by simp [results, Tryz.results127, go_sem, *]; try rfl) rfl ?_
 exact ⟨rfl, hL.below0⟩
theorem number_low (s : ByteArray) (hs : s.size ≤ 1000000) (lo hi : Int) (n : Int) (hc : canon s.data.toList = some n) (h : ¬ lo ≤ n) (w : World) (hT : Tab w) : Calls Tryz.prog 127 #[.string s, .int .i64 lo, .int .i64 hi] w fun e w' => e = .panicked [{ v := .iface 56 (.int .i64 3), recovered := false }] ∧ Below w.heap.size w w' := by
 have q1 : decide (lo ≤ n) = false := decide_eq_false h
 clear h
 have hL : Kn [] w w [] := Kn.refl [] w; have hF := hL.fx; go_enter Tryz.func127, Tryz.ntmps127
 go_wp2_with (first | ((with_reducible refine ks ?_); clear hL; intro W hL hF) | (go_at_call 126; refine kc (fun W hL => Int_some s (by omega) n hc _ (hT.kn hL (by simp))) ?_; clear hF hL; intro W hL hF) | (go_at_call 100; (((first | (with_reducible refine (need_ok _ _).mono ?_) | (with_reducible refine (need_bad _ _).mono ?_)))); rintro e w' ⟨rfl, rfl⟩))
 exact ⟨rfl, rfl, hL.below0⟩
theorem number_high (s : ByteArray) (hs : s.size ≤ 1000000) (lo hi : Int) (n : Int) (hc : canon s.data.toList = some n) (h : lo ≤ n) (h2 : ¬ n ≤ hi) (w : World) (hT : Tab w) : Calls Tryz.prog 127 #[.string s, .int .i64 lo, .int .i64 hi] w fun e w' => e = .panicked [{ v := .iface 56 (.int .i64 3), recovered := false }] ∧ Below w.heap.size w w' := by
 have q1 : decide (lo ≤ n) = true := decide_eq_true h
 have q2 : decide (n ≤ hi) = false := decide_eq_false h2
 clear h h2
 have hL : Kn [] w w [] := Kn.refl [] w; have hF := hL.fx; go_enter Tryz.func127, Tryz.ntmps127
 go_wp2_with (first | ((with_reducible refine ks ?_); clear hL; intro W hL hF) | (go_at_call 126; refine kc (fun W hL => Int_some s (by omega) n hc _ (hT.kn hL (by simp))) ?_; clear hF hL; intro W hL hF) | (go_at_call 100; (((first | (with_reducible refine (need_ok _ _).mono ?_) | (with_reducible refine (need_bad _ _).mono ?_)))); rintro e w' ⟨rfl, rfl⟩))
 exact ⟨rfl, rfl, hL.below0⟩
theorem number_none (s : ByteArray) (hs : s.size ≤ 1000000) (lo hi : Int) (hc : canon s.data.toList = none) (w : World) (hT : Tab w) : Calls Tryz.prog 127 #[.string s, .int .i64 lo, .int .i64 hi] w fun e w' => e = .panicked [{ v := .iface 56 (.int .i64 2), recovered := false }] ∧ Below w.heap.size w w' := by
 skip
 have hL : Kn [] w w [] := Kn.refl [] w; have hF := hL.fx; go_enter Tryz.func127, Tryz.ntmps127
 go_wp2_with (first | ((with_reducible refine ks ?_); clear hL; intro W hL hF) | (go_at_call 126; refine kc (fun W hL => Int_none s (by omega) hc _ (hT.kn hL (by simp))) ?_; clear hF hL; intro W hL hF) | (go_at_call 100; (with_reducible refine (need_bad _ _).mono ?_); rintro e w' ⟨rfl, rfl⟩))
 exact ⟨rfl, rfl, hL.below0⟩
def NmI (s : Bytes) (k : Nat) (V : Bool) : Prop := V = (if k = 0 then named s else (s.drop k).all (nameC false))
theorem nm_step {s : Bytes} {k : Nat} {V : Bool} {x : UInt8} (h : NmI s k V) (hx : s[k]? = some x) (hc : (k = 0 ∧ nameC true x = true) ∨ (0 < k ∧ nameC false x = true)) : NmI s (k + 1) V := by
 unfold NmI at h ⊢
 rw [if_neg (by omega), h]
 rcases hc with ⟨rfl, hc⟩ | ⟨h0, hc⟩
 ·rw [if_pos rfl]
  cases s with
  | nil => simp at hx
  | cons y t => simp at hx; subst hx; simp [named, hc]
 ·rw [if_neg (by omega), drop_step hx, List.all_cons, hc, Bool.true_and]
theorem nm_stop {s : Bytes} {k : Nat} {V : Bool} {x : UInt8} (h : NmI s k V) (hx : s[k]? = some x) (hc : (k = 0 ∧ nameC true x = false) ∨ (0 < k ∧ nameC false x = false)) : V = false := by
 unfold NmI at h
 rw [h]
 rcases hc with ⟨rfl, hc⟩ | ⟨h0, hc⟩
 ·rw [if_pos rfl]
  cases s with
  | nil => simp at hx
  | cons y t => simp at hx; subst hx; simp [named, hc]
 ·rw [if_neg (by omega), drop_step hx, List.all_cons, hc, Bool.false_and]
theorem nm_end {s : Bytes} {V : Bool} (h : NmI s s.length V) : V = !s.isEmpty := by
 unfold NmI at h
 rw [h]
 cases s with
 | nil => rfl
 | cons y t => simp
theorem named_is (s : ByteArray) (hs : s.size ≤ 1000000) (w : World) : Calls Tryz.prog 64 #[.string s] w fun e w' => e = .returned (.bool (named s.data.toList)) ∧ Below w.heap.size w w' := by
 obtain ⟨V, hV⟩ : ∃ V, named s.data.toList = V := ⟨_, rfl⟩
 have hsl := szl s
 rw [hV]
 have hL : Kn [] w w [] := Kn.refl [] w; have hF := hL.fx; go_enter Tryz.func64, Tryz.ntmps64
 go_wp2
 go_loopw [3, 4, 7] (fun i c n wr => ∃ k : Nat, k ≤ s.size ∧ n = .int .i64 k ∧ Hid (NmI s.data.toList k V) ∧ Kn [] w wr []) (fun _ _ n _ => s.size - (intOf n).toNat)
 case atStart => exact ⟨0, by omega, rfl, Lib.hid (by unfold NmI; rw [if_pos rfl, hV]), hL⟩
 case round =>
  clear hL
  obtain ⟨k, hk, rfl, HV, hL⟩ := hrel
  have hF := hL.fx
  by_cases hlt : k < s.size
  ·obtain ⟨c0, hc0⟩ : ∃ c, s.data.toList[k]? = some c := ⟨_, List.getElem?_eq_getElem (by rw [szl]; omega)⟩
   have eb0 := byte_at hc0 (by omega)
   have hb : c0.toNat < 256 := c0.toNat_lt
   have hrr : (0 ≤ c0.toNat ∧ c0.toNat ≤ 47) ∨ (48 ≤ c0.toNat ∧ c0.toNat ≤ 57) ∨ (58 ≤ c0.toNat ∧ c0.toNat ≤ 64) ∨ (65 ≤ c0.toNat ∧ c0.toNat ≤ 90) ∨ (91 ≤ c0.toNat ∧ c0.toNat ≤ 94) ∨ (95 ≤ c0.toNat ∧ c0.toNat ≤ 95) ∨ (96 ≤ c0.toNat ∧ c0.toNat ≤ 96) ∨ (97 ≤ c0.toNat ∧ c0.toNat ≤ 122) ∨ (123 ≤ c0.toNat ∧ c0.toNat ≤ 255) := by omega
   rcases Nat.eq_zero_or_pos k with hk0 | hk0
   ·have z1 : decide ((0 : Int) < (k : Int)) = false := decide_eq_false (by omega)
    have z2 : decide (0 < k) = false := decide_eq_false (by omega)
    have HK0 := Lib.hid hk0
    clear hk0
    rcases hrr with hr | hr | hr | hr | hr | hr | hr | hr | hr
    ·have q0 : ((c0.toNat : Int) == 95) = false := beq_false_of_ne (by omega); obtain ⟨q1, p1⟩ := dF 97 97 c0.toNat; obtain ⟨q2, p2⟩ := uT 122 122 c0.toNat; obtain ⟨q3, p3⟩ := dF 65 65 c0.toNat; obtain ⟨q4, p4⟩ := uT 90 90 c0.toNat; obtain ⟨q5, p5⟩ := dF 48 48 c0.toNat; obtain ⟨q6, p6⟩ := uT 57 57 c0.toNat
     have ha : nameC true c0 = false := by
      unfold nameC
      have e : (c0 == 95) = false := beq_false_of_ne (fun h => by subst h; revert hr; decide)
      rw [e]
      (simp; omega)
     clear hr
     go_wp2
     refine bodyPost_ret (by simp [results, Tryz.results64, go_sem, *]; try rfl) rfl ?_
     exact ⟨by rw [nm_stop HV.out hc0 (.inl ⟨HK0.out, ha⟩)], hL.below0⟩
    ·have q0 : ((c0.toNat : Int) == 95) = false := beq_false_of_ne (by omega); obtain ⟨q1, p1⟩ := dF 97 97 c0.toNat; obtain ⟨q2, p2⟩ := uT 122 122 c0.toNat; obtain ⟨q3, p3⟩ := dF 65 65 c0.toNat; obtain ⟨q4, p4⟩ := uT 90 90 c0.toNat; obtain ⟨q5, p5⟩ := dT 48 48 c0.toNat; obtain ⟨q6, p6⟩ := uT 57 57 c0.toNat
     have ha : nameC true c0 = false := by
      unfold nameC
      have e : (c0 == 95) = false := beq_false_of_ne (fun h => by subst h; revert hr; decide)
      rw [e]
      (simp; omega)
     clear hr
     go_wp2
     refine bodyPost_ret (by simp [results, Tryz.results64, go_sem, *]; try rfl) rfl ?_
     exact ⟨by rw [nm_stop HV.out hc0 (.inl ⟨HK0.out, ha⟩)], hL.below0⟩
    ·have q0 : ((c0.toNat : Int) == 95) = false := beq_false_of_ne (by omega); obtain ⟨q1, p1⟩ := dF 97 97 c0.toNat; obtain ⟨q2, p2⟩ := uT 122 122 c0.toNat; obtain ⟨q3, p3⟩ := dF 65 65 c0.toNat; obtain ⟨q4, p4⟩ := uT 90 90 c0.toNat; obtain ⟨q5, p5⟩ := dT 48 48 c0.toNat; obtain ⟨q6, p6⟩ := uF 57 57 c0.toNat
     have ha : nameC true c0 = false := by
      unfold nameC
      have e : (c0 == 95) = false := beq_false_of_ne (fun h => by subst h; revert hr; decide)
      rw [e]
      (simp; omega)
     clear hr
     go_wp2
     refine bodyPost_ret (by simp [results, Tryz.results64, go_sem, *]; try rfl) rfl ?_
     exact ⟨by rw [nm_stop HV.out hc0 (.inl ⟨HK0.out, ha⟩)], hL.below0⟩
    ·have q0 : ((c0.toNat : Int) == 95) = false := beq_false_of_ne (by omega); obtain ⟨q1, p1⟩ := dF 97 97 c0.toNat; obtain ⟨q2, p2⟩ := uT 122 122 c0.toNat; obtain ⟨q3, p3⟩ := dT 65 65 c0.toNat; obtain ⟨q4, p4⟩ := uT 90 90 c0.toNat; obtain ⟨q5, p5⟩ := dT 48 48 c0.toNat; obtain ⟨q6, p6⟩ := uF 57 57 c0.toNat
     have ha : nameC true c0 = true := by
      unfold nameC
      have e : (c0 == 95) = false := beq_false_of_ne (fun h => by subst h; revert hr; decide)
      rw [e]
      (simp; omega)
     clear hr
     go_wp2
     exact ⟨⟨k + 1, by omega, by go_num, Lib.hid (nm_step HV.out hc0 (.inl ⟨HK0.out, ha⟩)), hL⟩, by simp [intOf]; omega⟩
    ·have q0 : ((c0.toNat : Int) == 95) = false := beq_false_of_ne (by omega); obtain ⟨q1, p1⟩ := dF 97 97 c0.toNat; obtain ⟨q2, p2⟩ := uT 122 122 c0.toNat; obtain ⟨q3, p3⟩ := dT 65 65 c0.toNat; obtain ⟨q4, p4⟩ := uF 90 90 c0.toNat; obtain ⟨q5, p5⟩ := dT 48 48 c0.toNat; obtain ⟨q6, p6⟩ := uF 57 57 c0.toNat
     have ha : nameC true c0 = false := by
      unfold nameC
      have e : (c0 == 95) = false := beq_false_of_ne (fun h => by subst h; revert hr; decide)
      rw [e]
      (simp; omega)
     clear hr
     go_wp2
     refine bodyPost_ret (by simp [results, Tryz.results64, go_sem, *]; try rfl) rfl ?_
     exact ⟨by rw [nm_stop HV.out hc0 (.inl ⟨HK0.out, ha⟩)], hL.below0⟩
    ·have q0 : ((c0.toNat : Int) == 95) = true := beq_iff_eq.2 (by omega); obtain ⟨q1, p1⟩ := dF 97 97 c0.toNat; obtain ⟨q2, p2⟩ := uT 122 122 c0.toNat; obtain ⟨q3, p3⟩ := dT 65 65 c0.toNat; obtain ⟨q4, p4⟩ := uF 90 90 c0.toNat; obtain ⟨q5, p5⟩ := dT 48 48 c0.toNat; obtain ⟨q6, p6⟩ := uF 57 57 c0.toNat
     have ha : nameC true c0 = true := by
      unfold nameC
      have e : (c0 == 95) = true := beq_iff_eq.2 (UInt8.toNat_inj.1 (show c0.toNat = 95 by omega))
      rw [e]
      (simp; done)
     clear hr
     go_wp2
     exact ⟨⟨k + 1, by omega, by go_num, Lib.hid (nm_step HV.out hc0 (.inl ⟨HK0.out, ha⟩)), hL⟩, by simp [intOf]; omega⟩
    ·have q0 : ((c0.toNat : Int) == 95) = false := beq_false_of_ne (by omega); obtain ⟨q1, p1⟩ := dF 97 97 c0.toNat; obtain ⟨q2, p2⟩ := uT 122 122 c0.toNat; obtain ⟨q3, p3⟩ := dT 65 65 c0.toNat; obtain ⟨q4, p4⟩ := uF 90 90 c0.toNat; obtain ⟨q5, p5⟩ := dT 48 48 c0.toNat; obtain ⟨q6, p6⟩ := uF 57 57 c0.toNat
     have ha : nameC true c0 = false := by
      unfold nameC
      have e : (c0 == 95) = false := beq_false_of_ne (fun h => by subst h; revert hr; decide)
      rw [e]
      (simp; omega)
     clear hr
     go_wp2
     refine bodyPost_ret (by simp [results, Tryz.results64, go_sem, *]; try rfl) rfl ?_
     exact ⟨by rw [nm_stop HV.out hc0 (.inl ⟨HK0.out, ha⟩)], hL.below0⟩
    ·have q0 : ((c0.toNat : Int) == 95) = false := beq_false_of_ne (by omega); obtain ⟨q1, p1⟩ := dT 97 97 c0.toNat; obtain ⟨q2, p2⟩ := uT 122 122 c0.toNat; obtain ⟨q3, p3⟩ := dT 65 65 c0.toNat; obtain ⟨q4, p4⟩ := uF 90 90 c0.toNat; obtain ⟨q5, p5⟩ := dT 48 48 c0.toNat; obtain ⟨q6, p6⟩ := uF 57 57 c0.toNat
     have ha : nameC true c0 = true := by
      unfold nameC
      have e : (c0 == 95) = false := beq_false_of_ne (fun h => by subst h; revert hr; decide)
      rw [e]
      (simp; omega)
     clear hr
     go_wp2
     exact ⟨⟨k + 1, by omega, by go_num, Lib.hid (nm_step HV.out hc0 (.inl ⟨HK0.out, ha⟩)), hL⟩, by simp [intOf]; omega⟩
    ·have q0 : ((c0.toNat : Int) == 95) = false := beq_false_of_ne (by omega); obtain ⟨q1, p1⟩ := dT 97 97 c0.toNat; obtain ⟨q2, p2⟩ := uF 122 122 c0.toNat; obtain ⟨q3, p3⟩ := dT 65 65 c0.toNat; obtain ⟨q4, p4⟩ := uF 90 90 c0.toNat; obtain ⟨q5, p5⟩ := dT 48 48 c0.toNat; obtain ⟨q6, p6⟩ := uF 57 57 c0.toNat
     have ha : nameC true c0 = false := by
      unfold nameC
      have e : (c0 == 95) = false := beq_false_of_ne (fun h => by subst h; revert hr; decide)
      rw [e]
      (simp; omega)
     clear hr
     go_wp2
     refine bodyPost_ret (by simp [results, Tryz.results64, go_sem, *]; try rfl) rfl ?_
     exact ⟨by rw [nm_stop HV.out hc0 (.inl ⟨HK0.out, ha⟩)], hL.below0⟩
   ·have z1 : decide ((0 : Int) < (k : Int)) = true := decide_eq_true (by omega)
    have z2 : decide (0 < k) = true := decide_eq_true hk0
    have HK0 := Lib.hid hk0
    clear hk0
    rcases hrr with hr | hr | hr | hr | hr | hr | hr | hr | hr
    ·have q0 : ((c0.toNat : Int) == 95) = false := beq_false_of_ne (by omega); obtain ⟨q1, p1⟩ := dF 97 97 c0.toNat; obtain ⟨q2, p2⟩ := uT 122 122 c0.toNat; obtain ⟨q3, p3⟩ := dF 65 65 c0.toNat; obtain ⟨q4, p4⟩ := uT 90 90 c0.toNat; obtain ⟨q5, p5⟩ := dF 48 48 c0.toNat; obtain ⟨q6, p6⟩ := uT 57 57 c0.toNat
     have ha : nameC false c0 = false := by
      unfold nameC
      have e : (c0 == 95) = false := beq_false_of_ne (fun h => by subst h; revert hr; decide)
      rw [e]
      (simp; omega)
     clear hr
     go_wp2
     refine bodyPost_ret (by simp [results, Tryz.results64, go_sem, *]; try rfl) rfl ?_
     exact ⟨by rw [nm_stop HV.out hc0 (.inr ⟨HK0.out, ha⟩)], hL.below0⟩
    ·have q0 : ((c0.toNat : Int) == 95) = false := beq_false_of_ne (by omega); obtain ⟨q1, p1⟩ := dF 97 97 c0.toNat; obtain ⟨q2, p2⟩ := uT 122 122 c0.toNat; obtain ⟨q3, p3⟩ := dF 65 65 c0.toNat; obtain ⟨q4, p4⟩ := uT 90 90 c0.toNat; obtain ⟨q5, p5⟩ := dT 48 48 c0.toNat; obtain ⟨q6, p6⟩ := uT 57 57 c0.toNat
     have ha : nameC false c0 = true := by
      unfold nameC
      have e : (c0 == 95) = false := beq_false_of_ne (fun h => by subst h; revert hr; decide)
      rw [e]
      (simp; omega)
     clear hr
     go_wp2
     exact ⟨⟨k + 1, by omega, by go_num, Lib.hid (nm_step HV.out hc0 (.inr ⟨HK0.out, ha⟩)), hL⟩, by simp [intOf]; omega⟩
    ·have q0 : ((c0.toNat : Int) == 95) = false := beq_false_of_ne (by omega); obtain ⟨q1, p1⟩ := dF 97 97 c0.toNat; obtain ⟨q2, p2⟩ := uT 122 122 c0.toNat; obtain ⟨q3, p3⟩ := dF 65 65 c0.toNat; obtain ⟨q4, p4⟩ := uT 90 90 c0.toNat; obtain ⟨q5, p5⟩ := dT 48 48 c0.toNat; obtain ⟨q6, p6⟩ := uF 57 57 c0.toNat
     have ha : nameC false c0 = false := by
      unfold nameC
      have e : (c0 == 95) = false := beq_false_of_ne (fun h => by subst h; revert hr; decide)
      rw [e]
      (simp; omega)
     clear hr
     go_wp2
     refine bodyPost_ret (by simp [results, Tryz.results64, go_sem, *]; try rfl) rfl ?_
     exact ⟨by rw [nm_stop HV.out hc0 (.inr ⟨HK0.out, ha⟩)], hL.below0⟩
    ·have q0 : ((c0.toNat : Int) == 95) = false := beq_false_of_ne (by omega); obtain ⟨q1, p1⟩ := dF 97 97 c0.toNat; obtain ⟨q2, p2⟩ := uT 122 122 c0.toNat; obtain ⟨q3, p3⟩ := dT 65 65 c0.toNat; obtain ⟨q4, p4⟩ := uT 90 90 c0.toNat; obtain ⟨q5, p5⟩ := dT 48 48 c0.toNat; obtain ⟨q6, p6⟩ := uF 57 57 c0.toNat
     have ha : nameC false c0 = true := by
      unfold nameC
      have e : (c0 == 95) = false := beq_false_of_ne (fun h => by subst h; revert hr; decide)
      rw [e]
      (simp; omega)
     clear hr
     go_wp2
     exact ⟨⟨k + 1, by omega, by go_num, Lib.hid (nm_step HV.out hc0 (.inr ⟨HK0.out, ha⟩)), hL⟩, by simp [intOf]; omega⟩
    ·have q0 : ((c0.toNat : Int) == 95) = false := beq_false_of_ne (by omega); obtain ⟨q1, p1⟩ := dF 97 97 c0.toNat; obtain ⟨q2, p2⟩ := uT 122 122 c0.toNat; obtain ⟨q3, p3⟩ := dT 65 65 c0.toNat; obtain ⟨q4, p4⟩ := uF 90 90 c0.toNat; obtain ⟨q5, p5⟩ := dT 48 48 c0.toNat; obtain ⟨q6, p6⟩ := uF 57 57 c0.toNat
     have ha : nameC false c0 = false := by
      unfold nameC
      have e : (c0 == 95) = false := beq_false_of_ne (fun h => by subst h; revert hr; decide)
      rw [e]
      (simp; omega)
     clear hr
     go_wp2
     refine bodyPost_ret (by simp [results, Tryz.results64, go_sem, *]; try rfl) rfl ?_
     exact ⟨by rw [nm_stop HV.out hc0 (.inr ⟨HK0.out, ha⟩)], hL.below0⟩
    ·have q0 : ((c0.toNat : Int) == 95) = true := beq_iff_eq.2 (by omega); obtain ⟨q1, p1⟩ := dF 97 97 c0.toNat; obtain ⟨q2, p2⟩ := uT 122 122 c0.toNat; obtain ⟨q3, p3⟩ := dT 65 65 c0.toNat; obtain ⟨q4, p4⟩ := uF 90 90 c0.toNat; obtain ⟨q5, p5⟩ := dT 48 48 c0.toNat; obtain ⟨q6, p6⟩ := uF 57 57 c0.toNat
     have ha : nameC false c0 = true := by
      unfold nameC
      have e : (c0 == 95) = true := beq_iff_eq.2 (UInt8.toNat_inj.1 (show c0.toNat = 95 by omega))
      rw [e]
      (simp; done)
     clear hr
     go_wp2
     exact ⟨⟨k + 1, by omega, by go_num, Lib.hid (nm_step HV.out hc0 (.inr ⟨HK0.out, ha⟩)), hL⟩, by simp [intOf]; omega⟩
    ·have q0 : ((c0.toNat : Int) == 95) = false := beq_false_of_ne (by omega); obtain ⟨q1, p1⟩ := dF 97 97 c0.toNat; obtain ⟨q2, p2⟩ := uT 122 122 c0.toNat; obtain ⟨q3, p3⟩ := dT 65 65 c0.toNat; obtain ⟨q4, p4⟩ := uF 90 90 c0.toNat; obtain ⟨q5, p5⟩ := dT 48 48 c0.toNat; obtain ⟨q6, p6⟩ := uF 57 57 c0.toNat
     have ha : nameC false c0 = false := by
      unfold nameC
      have e : (c0 == 95) = false := beq_false_of_ne (fun h => by subst h; revert hr; decide)
      rw [e]
      (simp; omega)
     clear hr
     go_wp2
     refine bodyPost_ret (by simp [results, Tryz.results64, go_sem, *]; try rfl) rfl ?_
     exact ⟨by rw [nm_stop HV.out hc0 (.inr ⟨HK0.out, ha⟩)], hL.below0⟩
    ·have q0 : ((c0.toNat : Int) == 95) = false := beq_false_of_ne (by omega); obtain ⟨q1, p1⟩ := dT 97 97 c0.toNat; obtain ⟨q2, p2⟩ := uT 122 122 c0.toNat; obtain ⟨q3, p3⟩ := dT 65 65 c0.toNat; obtain ⟨q4, p4⟩ := uF 90 90 c0.toNat; obtain ⟨q5, p5⟩ := dT 48 48 c0.toNat; obtain ⟨q6, p6⟩ := uF 57 57 c0.toNat
     have ha : nameC false c0 = true := by
      unfold nameC
      have e : (c0 == 95) = false := beq_false_of_ne (fun h => by subst h; revert hr; decide)
      rw [e]
      (simp; omega)
     clear hr
     go_wp2
     exact ⟨⟨k + 1, by omega, by go_num, Lib.hid (nm_step HV.out hc0 (.inr ⟨HK0.out, ha⟩)), hL⟩, by simp [intOf]; omega⟩
    ·have q0 : ((c0.toNat : Int) == 95) = false := beq_false_of_ne (by omega); obtain ⟨q1, p1⟩ := dT 97 97 c0.toNat; obtain ⟨q2, p2⟩ := uF 122 122 c0.toNat; obtain ⟨q3, p3⟩ := dT 65 65 c0.toNat; obtain ⟨q4, p4⟩ := uF 90 90 c0.toNat; obtain ⟨q5, p5⟩ := dT 48 48 c0.toNat; obtain ⟨q6, p6⟩ := uF 57 57 c0.toNat
     have ha : nameC false c0 = false := by
      unfold nameC
      have e : (c0 == 95) = false := beq_false_of_ne (fun h => by subst h; revert hr; decide)
      rw [e]
      (simp; omega)
     clear hr
     go_wp2
     refine bodyPost_ret (by simp [results, Tryz.results64, go_sem, *]; try rfl) rfl ?_
     exact ⟨by rw [nm_stop HV.out hc0 (.inr ⟨HK0.out, ha⟩)], hL.below0⟩
  ·obtain rfl : k = s.size := by omega
   have hV2 := nm_end (by rw [hsl]; exact HV.out)
   go_wp2
   refine bodyPost_ret (by simp [results, Tryz.results64, go_sem, *]; try rfl) rfl ?_
   exact ⟨by rw [hV2, Lib.toList_data], hL.below0⟩
theorem infoSet : (Tryz.prog.info? 124).map (fun i => (i.zero, i.size)) = some (some (.agg (Array.replicate 256 (.bool false))), 256) := by kernel_rfl
theorem blank_contains (c : UInt8) : ([32, 9] : List UInt8).contains c = blank c := by
 cases h1 : c == 32 <;> cases h2 : c == 9 <;> simp [blank, List.contains, List.elem, h1, h2]
theorem trim_lib (l : Bytes) : Lib.trimS l [32, 9] = trim l := by
 unfold Lib.trimS Lib.trimLeftS Lib.trimRightS trim
 rw [show (fun x => ([32, 9] : List UInt8).contains x) = blank from funext blank_contains]
theorem Trim_any (s : ByteArray) (hs : s.size ≤ 1000000) (w : World) : Calls Tryz.prog 58 #[.string s, .string ⟨#[32, 9]⟩] w fun e w' => e = .returned (.string ⟨(trim s.data.toList).toArray⟩) ∧ Below w.heap.size w w' := by
 rw [← trim_lib]
 exact Any.strings_Trim_laid Tryz.lays160 infoSet s ⟨#[32, 9]⟩ w (by omega) (by decide) (ascii_of_all (by decide))
/-- IndexAny in a string that is long, or of ASCII bytes alone (what the library's law covers). -/
theorem IndexAny_any (s : ByteArray) (hs : s.size ≤ 1000000) (ha : 8 < s.size ∨ ∀ c ∈ s.data.toList, c.toNat < 128) (w : World) : Calls Tryz.prog 60 #[.string s, .string ⟨#[32, 9]⟩] w fun e w' => e = .returned (.int .i64 (Lib.indexAny s.data.toList [32, 9])) ∧ Below w.heap.size w w' := by
 by_cases h8 : 8 < s.size
 ·exact (Any.strings_IndexAny_long Tryz.lays153 (zero_of_info infoSet).1 (zero_of_info infoSet).2 s ⟨#[32, 9]⟩ w (by decide) h8 (by omega) (by decide) (ascii_of_all (by decide))).mono fun e w' ⟨h1, h2⟩ => ⟨h1, by rw [h2]; exact ((Below.refl _ _).alloc (Nat.le_refl _) _).alloc (by simp) _⟩
 ·exact Any.strings_IndexAny_laid Tryz.lays153 infoSet s ⟨#[32, 9]⟩ w (by omega) (by decide) (fun j b hb => (ha.resolve_left h8) b (List.mem_of_getElem? hb)) (ascii_of_all (by decide))
structure MapV (P : Program) (k : TypeId) (es : Array MapEntry) (M : List (Value × Value)) : Prop where
 ents : es.toList.map (fun e => (e.key, e.val)) = M
 keys : ∀ p ∈ M, ∃ l, keyOf P k p.1 = some l
 nd : (M.map (·.1)).Nodup
theorem MapV.nil {P : Program} {k : TypeId} : MapV P k #[] [] := ⟨rfl, fun _ h => (by cases h), List.nodup_nil⟩
section
variable {P : Program} {k : TypeId} {es : Array MapEntry} {M : List (Value × Value)} {w : World} {t e : TypeId} {b : Nat} {clock : Nat}
theorem MapV.key_of (h : MapV P k es M) : ∀ x ∈ es.toList, ∃ l, keyOf P k x.key = some l := fun x hx =>
 h.keys (x.key, x.val) (by rw [← h.ents]; exact List.mem_map.2 ⟨x, hx, rfl⟩)
theorem MapV.size (h : MapV P k es M) : es.size = M.length := by rw [← h.ents]; simp
theorem pair_inj {M : List (Value × Value)} (nd : (M.map (·.1)).Nodup) {a u v : Value} (h1 : (a, u) ∈ M) (h2 : (a, v) ∈ M) : u = v := by
 obtain ⟨i, hi, e1⟩ := List.mem_iff_getElem.1 h1
 obtain ⟨j, hj, e2⟩ := List.mem_iff_getElem.1 h2
 have e3 : (M.map (·.1))[i]'(by simpa using hi) = (M.map (·.1))[j]'(by simpa using hj) := by simp [e1, e2]
 have := (List.getElem_inj nd).1 e3
 subst this
 rw [e1] at e2
 exact congrArg Prod.snd e2
theorem MapV.run_hit (c : Bool) (h : MapV P k es M) (K : Maps.Keyed P k) (ht : P.underlying t = some (.map k e)) (hb : w.heap[b]? = some (.map es clock)) {key v : Value} (hm : (key, v) ∈ M) :
  (Instr.lookup t (.map (some b)) key c).run P w = .ok (if c then .tuple #[v, .bool true] else v) w := by
 obtain ⟨kl, hkey⟩ := h.keys _ hm
 replace hkey : keyOf P k key = some kl := hkey
 rcases K.find w hkey es.toList h.key_of with ⟨h1, h2⟩ | ⟨j, e0, h1, h2, h3⟩
 ·exfalso
  rw [← h.ents] at hm
  obtain ⟨x, hx, ex⟩ := List.mem_map.1 hm
  exact h2 x hx (congrArg Prod.fst ex)
 ·have e4 : e0.val = v := by
   refine pair_inj h.nd (a := key) ?_ hm
   rw [← h.ents, ← h3]; exact List.mem_map.2 ⟨e0, List.mem_of_getElem? h2, rfl⟩
  subst e4
  cases c <;> simp [Instr.lookup, run_underlying ht, MapKept.run_getObj_map hb, K.check w _ hkey, h1, Result.andThen]
theorem MapV.run_miss (c : Bool) (h : MapV P k es M) (K : Maps.Keyed P k) (ht : P.underlying t = some (.map k e)) {z : Value} (hz : (zeroValue e).run P w = .ok z w) (hb : w.heap[b]? = some (.map es clock)) {key : Value} {kl : Lit} (hkey : keyOf P k key = some kl) (hm : ∀ p ∈ M, p.1 ≠ key) :
  (Instr.lookup t (.map (some b)) key c).run P w = .ok (if c then .tuple #[z, .bool false] else z) w := by
 rcases K.find w hkey es.toList h.key_of with ⟨h1, h2⟩ | ⟨j, e0, h1, h2, h3⟩
 ·cases c <;> simp [Instr.lookup, run_underlying ht, MapKept.run_getObj_map hb, K.check w _ hkey, h1, hz, Result.andThen]
 ·exfalso
  refine hm (e0.key, e0.val) ?_ h3
  rw [← h.ents]; exact List.mem_map.2 ⟨e0, List.mem_of_getElem? h2, rfl⟩
theorem MapV.run_new (h : MapV P k es M) (K : Maps.Keyed P k) (ht : P.underlying t = some (.map k e)) (hb : w.heap[b]? = some (.map es clock)) (hroom : M.length < maxLen) {key : Value} (val : Value) {kl : Lit} (hkey : keyOf P k key = some kl) (hm : ∀ p ∈ M, p.1 ≠ key) :
  ∃ es' clock', (Instr.mapUpdate t (.map (some b)) key val).run P w = .ok () { w with heap := w.heap.setIfInBounds b (.map es' clock') } ∧ MapV P k es' (M ++ [(key, val)]) := by
 rcases K.find w hkey es.toList h.key_of with ⟨h1, h2⟩ | ⟨j, e0, h1, h2, h3⟩
 ·have := h.size
  refine ⟨es.push ⟨key, val, clock⟩, clock + 1, ?_, ?_, ?_, ?_⟩
  ·simp [Instr.mapUpdate, run_underlying ht, MapKept.run_getObj_map hb, K.check w false hkey, h1, MapKept.run_setObj_map _ hb, Result.andThen]
  ·simp [h.ents]
  ·intro p hp
   rcases List.mem_append.1 hp with hp | hp
   ·exact h.keys p hp
   ·simp at hp; subst hp; exact ⟨kl, hkey⟩
  ·rw [List.map_append, List.nodup_append]
   refine ⟨h.nd, by simp, fun a ha b hb => ?_⟩
   simp at hb; subst hb
   obtain ⟨q, hq, rfl⟩ := List.mem_map.1 ha
   exact hm q hq
 ·exfalso
  refine hm (e0.key, e0.val) ?_ h3
  rw [← h.ents]; exact List.mem_map.2 ⟨e0, List.mem_of_getElem? h2, rfl⟩
end
theorem Kn.setBlk {X : List Nat} {w0 w : World} {L : List (Nat × Obj)} (h : Kn X w0 w L) {j b : Nat} {o : Obj} (hj : L[j]? = some (b, o)) (o' : Obj) : Kn X w0 { w with heap := w.heap.setIfInBounds b o' } (L.set j (b, o')) := by
 have hm : (b, o) ∈ L := List.mem_of_getElem? hj
 have hlt := h.lt hm
 have hkeys : (L.set j (b, o')).map (·.1) = L.map (·.1) := by
  rw [List.map_set]
  apply List.ext_getElem?
  intro i
  rw [List.getElem?_set]
  split
  ·rename_i e; subst e
   split
   ·simp [hj]
   ·rename_i hn; simp at hn; simp [List.getElem?_eq_none hn]
  ·rfl
 have hmem : ∀ p ∈ L.set j (b, o'), p = (b, o') ∨ (p ∈ L ∧ p.1 ≠ b) := by
  intro p hp
  obtain ⟨i, hi⟩ := List.mem_iff_getElem?.1 hp
  rw [List.getElem?_set] at hi
  split at hi
  ·split at hi
   ·left; exact (Option.some.inj hi).symm
   ·cases hi
  ·rename_i hij
   right
   refine ⟨List.mem_of_getElem? hi, fun e => hij ?_⟩
   obtain ⟨hil, hie⟩ := List.getElem?_eq_some_iff.1 hi
   obtain ⟨hjl, hje⟩ := List.getElem?_eq_some_iff.1 hj
   have h1 : (L.map (·.1))[j]'(by simpa using hjl) = (L.map (·.1))[i]'(by simpa using hil) := by simp [hie, hje, e]
   exact (List.getElem_inj h.nd).1 h1
 refine ⟨h.os, h.tape, h.output, by simpa using h.size, fun d hd hx => ?_, fun p hp => ?_, fun p hp => ?_, by rw [hkeys]; exact h.nd⟩
 ·have hdb : b ≠ d := by
   rintro rfl
   rcases h.own _ hm with e | e
   ·exact absurd hd (by simpa using e)
   ·exact hx e
  show (w.heap.setIfInBounds b o')[d]? = _
  rw [Array.getElem?_setIfInBounds, if_neg hdb]; exact h.block d hd hx
 ·rcases hmem p hp with rfl | ⟨hp, _⟩
  ·exact h.own (b, o) hm
  ·exact h.own p hp
 ·rcases hmem p hp with rfl | ⟨hp, hne⟩
  ·show (w.heap.setIfInBounds b o')[b]? = some o'
   rw [Array.getElem?_setIfInBounds, if_pos rfl, if_pos hlt]
  ·show (w.heap.setIfInBounds b o')[p.1]? = _
   rw [Array.getElem?_setIfInBounds, if_neg (fun e => hne e.symm)]; exact h.has p hp
section
variable {P : Program} {k : TypeId} {es : Array MapEntry} {M : List (Value × Value)} {w : World} {t e : TypeId} {b clock : Nat} {X : List Nat} {w0 : World} {L : List (Nat × Obj)} {ops : Array Oper} {rest : List Oper} {o : Oper} {a : Act} {Q : Exit → Act → World → Prop}
theorem wpList_hit (hg : o.guard = none) (m x : Operand) (c : Bool) (hop : o.op = Op.lookup t m x c) (K : Maps.Keyed P k) (ht : P.underlying t = some (.map k e)) (hb : w.heap[b]? = some (.map es clock)) (hM : MapV P k es M)
  (hm : a.eval m = .map (some b)) (key v : Value) (hx : a.eval x = key) (hv : (key, v) ∈ M) (h : wpList P ops Q rest (a.put o.dst (if c then .tuple #[v, .bool true] else v)) w) : wpList P ops Q (o :: rest) a w := by
 refine wpList_plain hg fun K' hK' => ?_
 have hrun := hM.run_hit c K ht hb hv
 unfold Oper.wp
 simp only [execOp, hop, hm, hx, hrun, Sem.run_bind, Sem.run_pure, Result.andThen_ok]
 exact hK' _ _ h
theorem wpList_miss (hg : o.guard = none) (m x : Operand) (c : Bool) (hop : o.op = Op.lookup t m x c) (K : Maps.Keyed P k) (ht : P.underlying t = some (.map k e)) (z : Value) (hz : ∀ w, (zeroValue e).run P w = .ok z w) (hb : w.heap[b]? = some (.map es clock)) (hM : MapV P k es M)
  (hm : a.eval m = .map (some b)) (key : Value) (kl : Lit) (hx : a.eval x = key) (hkey : keyOf P k key = some kl) (hn : ∀ p ∈ M, p.1 ≠ key) (h : wpList P ops Q rest (a.put o.dst (if c then .tuple #[z, .bool false] else z)) w) : wpList P ops Q (o :: rest) a w := by
 refine wpList_plain hg fun K' hK' => ?_
 have hrun := hM.run_miss c K ht (hz w) hb hkey hn
 unfold Oper.wp
 simp only [execOp, hop, hm, hx, hrun, Sem.run_bind, Sem.run_pure, Result.andThen_ok]
 exact hK' _ _ h
theorem wpList_new (hg : o.guard = none) (m x u : Operand) (hop : o.op = Op.mapUpdate t m x u) (K : Maps.Keyed P k) (ht : P.underlying t = some (.map k e)) (hk : Kn X w0 w L) (j : Nat) (hj : L[j]? = some (b, .map es clock)) (hM : MapV P k es M) (hroom : M.length < maxLen)
  (hm : a.eval m = .map (some b)) (key val : Value) (kl : Lit) (hx : a.eval x = key) (hu : a.eval u = val) (hkey : keyOf P k key = some kl) (hn : ∀ p ∈ M, p.1 ≠ key)
  (h : ∀ W es' clock', Kn X w0 W (L.set j (b, .map es' clock')) → MapV P k es' (M ++ [(key, val)]) → wpList P ops Q rest (a.put o.dst undef) W) : wpList P ops Q (o :: rest) a w := by
 refine wpList_plain hg fun K' hK' => ?_
 obtain ⟨es', clock', hrun, h2⟩ := hM.run_new K ht (hk.has _ (List.mem_of_getElem? hj)) hroom val hkey hn
 unfold Oper.wp
 simp only [execOp, hop, hm, hx, hu, hrun, Sem.run_bind, Sem.run_pure, Result.andThen_ok]
 exact hK' _ _ (h _ es' clock' (hk.setBlk hj _) h2)
theorem at_ins {dst : Option Tmp} {ty : TypeId} {pos : String} {after : Array Edge} {g : Option (Nat × Bool)} {m x u : Operand} (h : wpList P ops Q (⟨dst, .insert t m x u, ty, pos, after, g⟩ :: rest) a w) : wpList P ops Q (⟨dst, .insert t m x u, ty, pos, after, g⟩ :: rest) a w := h
/-- As in a literal. -/
theorem wpList_ins {dst : Option Tmp} {ty : TypeId} {pos : String} {after : Array Edge} {m x u : Operand} (K : Maps.Keyed P k) (ht : P.underlying t = some (.map k e)) (hk : Kn X w0 w L) (j : Nat) (hj : L[j]? = some (b, .map es clock)) (hM : MapV P k es M) (hroom : M.length < maxLen)
  (hm : a.eval m = .map (some b)) (key val : Value) (kl : Lit) (hx : a.eval x = key) (hu : a.eval u = val) (hkey : keyOf P k key = some kl) (hn : ∀ p ∈ M, p.1 ≠ key)
  (h : ∀ W es' clock', Kn X w0 W (L.set j (b, .map es' clock')) → MapV P k es' (M ++ [(key, val)]) → wpList P ops Q rest (a.put dst undef) W) : wpList P ops Q (⟨dst, .insert t m x u, ty, pos, after, none⟩ :: rest) a w := by
 refine wpList_plain rfl fun K' hK' => ?_
 obtain ⟨es', clock', hrun, h2⟩ := hM.run_new K ht (hk.has _ (List.mem_of_getElem? hj)) hroom val hkey hn
 unfold Oper.wp
 simp only [execOp, hm, hx, hu, hrun, Sem.run_bind, Sem.run_pure, Result.andThen_ok]
 exact hK' _ _ (h _ es' clock' (hk.setBlk hj _) h2)
end
end Go.Proofs.YtfdlifhkeicnnaaGreatDoor
namespace Go.Proofs.YtfdlifhkeicnnaaGreatDoor
open Go Go.RowKit
section
variable {P : Program} {ops : Array Oper} {fl br pu : Nat → Bool} {X : List Nat} {w0 : World} {L Lw : List (Nat × Obj)} {a : Act} {rest : List Nat} {i : Nat} {o : Oper}
theorem kn_regionP {id : Nat} {Q : Exit → Act → World → Prop} {w : World} {l : List Oper} [h : Kn X w0 w L] (order fls brs pus : List Nat) (hm : P.follows .mixedOrders = true)
  (hB : (Region.noSelect l.toArray && permB l.length order && okAll .any l.toArray (fun i => fls.contains i) (fun i => brs.contains i) (fun i => pus.contains i) order) = true) (hs : Lw.Sublist L)
  (k : ∀ (Qp : List PanicEntry → World → Prop), (∀ ch W, (∀ a' : Act, a'.defers = a.defers → Q (.panic ch) a' W) → Qp ch W) → ∀ (ι : Type) (F : ι → World) [Nonempty ι], (∀ w, Kn X w0 w Lw → ∃ n, w = F n) → (∀ n, Kn X w0 (F n) Lw) → cwk P l.toArray (fun i => fls.contains i) (fun i => brs.contains i) (fun i => pus.contains i) (Q .normal) Qp X w0 order a L Lw) : (Code.region id l.toArray true).wp P Q a w := by
 obtain ⟨ι, F, hne, h1, h2⟩ := kn_fam X w0 Lw ⟨w, h.sub hs⟩
 exact wp_region_cw order fls brs pus (fun ch W => ∀ a' : Act, a'.defers = a.defers → Q (.panic ch) a' W) hm hB (fun ch a' w' hd h => h a' hd) _ _ (kn_drew X w0 w L) (fun u hu => hu.sub hs) (k _ (fun _ _ h => h) ι F h1 h2)
theorem cwk_callP {f : FuncId} {args : Array Value} {l : List Oper} {Q : Act → World → Prop} {Qp : List PanicEntry → World → Prop} (ho : nth l i = some o) (hw : Region.wanted o (yielded l.toArray a.tmps) = true) (hf : fl i = false) (hx : ∀ w, (execOp a.eval o).run P w = .ok (.enter f args) w)
  (h : ∀ W, Kn X w0 W L → Calls P f args W fun e w' => ∃ ch, e = .panicked ch ∧ Qp ch w') : cwk P l.toArray fl br pu Q Qp X w0 (i :: rest) a L Lw := by
 refine ⟨o, nth_get ho, .inr (.inl ⟨hw, hf, fun w hk => ?_⟩)⟩
 unfold anchAt
 rw [hx w]
 refine (h w hk).mono fun e w' hh => ?_
 obtain ⟨ch, rfl, hq⟩ := hh
 exact hq
end
end Go.Proofs.YtfdlifhkeicnnaaGreatDoor
namespace Go.Proofs.YtfdlifhkeicnnaaGreatDoor
open Go Go.RowKit
theorem strlaw : Maps.Keyed Tryz.prog 9 := Maps.string_keyed Tryz.underlying9
theorem strkey (s : ByteArray) (hs : s.size ≤ 1000000) : keyOf Tryz.prog 9 (.string s) = some (.string s.data.toList) := WideMaps.keyOf_string_mk Tryz.underlying9 (by unfold maxLen; omega)
theorem zeroI (w : World) : (zeroValue 3).run Tryz.prog w = .ok (.int .i64 0) w := by kernel_rfl
theorem under_labs : Tryz.prog.underlying 59 = some (.map 9 3) := Tryz.underlying59
def lv (L : Labs) : List (Value × Value) := L.map fun p => (.string ⟨p.1.toArray⟩, .int .i64 p.2)
theorem toList_mk (s : ByteArray) : (⟨s.data.toList.toArray⟩ : ByteArray) = s := by cases s; simp
theorem str_mk {s : ByteArray} {p : Bytes} (h : s.data.toList = p) : (⟨p.toArray⟩ : ByteArray) = s := by subst h; exact toList_mk s
theorem look_hit {L : Labs} {s : ByteArray} {n : Nat} (h : look L s.data.toList = some n) : (Value.string s, Value.int .i64 n) ∈ lv L := by
 unfold look at h
 obtain ⟨p, hp, rfl⟩ := Option.map_eq_some_iff.1 h
 have h1 := List.find?_some hp
 simp only [beq_iff_eq] at h1
 refine List.mem_map.2 ⟨p, List.mem_of_find?_eq_some hp, ?_⟩
 rw [str_mk h1.symm]
theorem look_miss {L : Labs} {s : ByteArray} (h : look L s.data.toList = none) : ∀ p ∈ lv L, p.1 ≠ Value.string s := by
 unfold look at h
 rw [Option.map_eq_none_iff, List.find?_eq_none] at h
 intro p hp e
 obtain ⟨q, hq, rfl⟩ := List.mem_map.1 hp
 simp only [Value.string.injEq] at e
 refine h q hq ?_
 rw [← e]; simp
theorem named_eq (s : ByteArray) (hs : s.size ≤ 1000000) (b : Bool) (h : Hid (named s.data.toList = b)) (w : World) : Calls Tryz.prog 64 #[.string s] w fun e w' => e = .returned (.bool b) ∧ Below w.heap.size w w' := by
 have := named_is s hs w
 rwa [h.out] at this
def RegN (r : Rs Nat) (e : Ending) : Prop := match r with
 | .ok a => e = .returned (.int .i64 a)
 | .bad m => e = .panicked [{ v := .iface 56 (.int .i64 m), recovered := false }]
end Go.Proofs.YtfdlifhkeicnnaaGreatDoor
