/- Lemmas and walks for the law LawTells (part 28). -/
import Derived.Test.YtfdlifhkeicnnaaGreatDoorWPt27
import Derived.Test.YtfdlifhkeicnnaaGreatDoorProg
import Derived.WalkKit
import Derived.Handy
import Derived.Deep.Light
import Derived.WalkSmall
import Derived.StillTailTactics
import Derived.Lib.Hide
set_option maxRecDepth 20000
set_option maxHeartbeats 4000000
set_option linter.unusedVariables false
set_option linter.unusedSimpArgs false
namespace Go.Proofs.YtfdlifhkeicnnaaGreatDoor
open Go Go.RowKit
theorem RefDecode_short (s : ByteArray) (hs : (s.size == 4) = false) (w : World) :
  Calls Tryz.prog 53 #[.string s] w fun e w' => e = .returned (.tuple #[.agg #[.int .i64 0, .int .i64 0, .int .i64 0, .int .i64 0], .bool false]) ∧ Below w.heap.size w w' := by
 have hL : Kn [] w w [] := Kn.refl [] w; have hF := hL.fx; go_enter Tryz.func53, Tryz.ntmps53
 go_wp2_with ((with_reducible refine ks ?_); clear hL; intro W hL hF)
 refine bodyPost_ret (by simp [results, Tryz.results53, go_sem, *]; try rfl) rfl ?_
 exact ⟨rfl, kn_here.below0⟩
theorem RefDecode_n5t (x y z t : UInt8) (w : World) (h5 : (form x.toNat == 5) = true) (hk : decOk x y z t = true) :
  Calls Tryz.prog 53 #[.string ⟨#[x, y, z, t]⟩] w fun e w' => e = .returned (.tuple #[.agg #[.int .i64 x.toNat, .int .i64 y.toNat, .int .i64 (dB x z t), .int .i64 (dC x t)], .bool true]) ∧ Below w.heap.size w w' := by
 have i0 := byte0 x y z t
 have i1 := byte1 x y z t
 have i2 := byte2 x y z t
 have i3 := byte3 x y z t
 have u := byte64
 have h4 : (form x.toNat == 4) = false := by have := eq_of_beq h5; rw [this]; rfl
 have hn : numB x.toNat = true := by unfold numB; rw [h5]; rfl
 have EB : Hid (dB x z t = s16 z t) := Lib.hid (by unfold dB; rw [if_pos hn])
 have EC : Hid (dC x t = 0) := Lib.hid (by unfold dC; rw [if_pos hn])
 have hv : valid x.toNat y.toNat (s16 z t) 0 = true := by have h := hk; unfold decOk at h; rw [EB.out, EC.out] at h; exact h
 clear hk
 have hz := z.toNat_lt
 have ht := t.toNat_lt
 by_cases hge : 32768 ≤ (z.toNat : Int) + 256 * t.toNat
 ·have ev : s16 z t = (z.toNat : Int) + 256 * t.toNat - 65536 := s16_neg hge
  rw [ev] at hv
  obtain ⟨n, hn⟩ : ∃ n : Int, (z.toNat : Int) + 256 * t.toNat = n := ⟨_, rfl⟩
  have hn0 : 0 ≤ n ∧ n < 65536 := by omega
  obtain ⟨hn0, hn1⟩ := hn0
  rw [hn] at hge ev hv
  have hL : Kn [] w w [] := Kn.refl [] w; have hF := hL.fx; go_enter Tryz.func53, Tryz.ntmps53
  go_wp2_with (first | ((with_reducible refine ks ?_); clear hF hL; intro W hL hF) | (go_at_call 79; refine kc (fun W hL => refValid_any _ _ _ _ _) ?_; clear hF hL; intro W hL hF) | (go_at_call 75; (with_reducible refine (refForm_any _ _).mono ?_); rintro e w' ⟨rfl, rfl⟩) | ((with_reducible refine at_region 3 ?_); refine kW [0, 1, 2, 3, 4, 5, 6, 7, 8, 9, 10, 11, 12, 13, 14] [0, 1, 2, 3, 4, 5, 6, 7, 8, 9, 10, 11, 12] [14] [0, 1, 3, 4, 6, 7, 9, 10, 12] ?_; clear hF hL; intro ι F hne hC hG; (repeat (first | (refine cF hC ?_; intro K hK; go_big_quiet_op; go_big_quiet_on) | (refine cP ?_; intro K hK; go_big_quiet_op; go_big_quiet_on) | (refine cN ?_; intro W hL; have hF := hL.fx; go_wp2; (first | (refine kb2 ?_; clear hL hF hC hG; intro ι F hne hC hG) | (refine ko2 ?_; clear hL hF))))); refine cwk_nil ?_; clear hC hG; intro W hL; simp only [kfb] at hL; have hF := hL.fx))
  all_goals refine bodyPost_ret (by simp [results, Tryz.results53, go_sem, *]; try rfl) rfl ?_
  all_goals refine ⟨?_, kn_here.below0⟩
  all_goals (rw [EB.out, EC.out, ev])
  all_goals rfl
 ·have ev : s16 z t = (z.toNat : Int) + 256 * t.toNat := s16_pos hge
  rw [ev] at hv
  obtain ⟨n, hn⟩ : ∃ n : Int, (z.toNat : Int) + 256 * t.toNat = n := ⟨_, rfl⟩
  have hn0 : 0 ≤ n ∧ n < 65536 := by omega
  obtain ⟨hn0, hn1⟩ := hn0
  rw [hn] at hge ev hv
  have hge2 : (32768 ≤ n) = False := eq_false hge
  clear hge
  have hL : Kn [] w w [] := Kn.refl [] w; have hF := hL.fx; go_enter Tryz.func53, Tryz.ntmps53
  go_wp2_with (first | ((with_reducible refine ks ?_); clear hF hL; intro W hL hF) | (go_at_call 79; refine kc (fun W hL => refValid_any _ _ _ _ _) ?_; clear hF hL; intro W hL hF) | (go_at_call 75; (with_reducible refine (refForm_any _ _).mono ?_); rintro e w' ⟨rfl, rfl⟩) | ((with_reducible refine at_region 3 ?_); refine kW [0, 1, 2, 3, 4, 5, 6, 7, 8, 9, 10, 11, 12, 13, 14] [0, 1, 2, 3, 4, 5, 6, 7, 8, 9, 10, 11, 12] [14] [0, 1, 3, 4, 6, 7, 9, 10, 12] ?_; clear hF hL; intro ι F hne hC hG; (repeat (first | (refine cF hC ?_; intro K hK; go_big_quiet_op; go_big_quiet_on) | (refine cP ?_; intro K hK; go_big_quiet_op; go_big_quiet_on) | (refine cN ?_; intro W hL; have hF := hL.fx; go_wp2; (first | (refine kb2 ?_; clear hL hF hC hG; intro ι F hne hC hG) | (refine ko2 ?_; clear hL hF))))); refine cwk_nil ?_; clear hC hG; intro W hL; simp only [kfb] at hL; have hF := hL.fx))
  all_goals refine bodyPost_ret (by simp [results, Tryz.results53, go_sem, *]; try rfl) rfl ?_
  all_goals refine ⟨?_, kn_here.below0⟩
  all_goals (rw [EB.out, EC.out, ev])
  all_goals rfl
theorem RefDecode_n5f (x y z t : UInt8) (w : World) (h5 : (form x.toNat == 5) = true) (hk : decOk x y z t = false) :
  Calls Tryz.prog 53 #[.string ⟨#[x, y, z, t]⟩] w fun e w' => e = .returned (.tuple #[.agg #[.int .i64 0, .int .i64 0, .int .i64 0, .int .i64 0], .bool false]) ∧ Below w.heap.size w w' := by
 have i0 := byte0 x y z t
 have i1 := byte1 x y z t
 have i2 := byte2 x y z t
 have i3 := byte3 x y z t
 have u := byte64
 have h4 : (form x.toNat == 4) = false := by have := eq_of_beq h5; rw [this]; rfl
 have hn : numB x.toNat = true := by unfold numB; rw [h5]; rfl
 have EB : Hid (dB x z t = s16 z t) := Lib.hid (by unfold dB; rw [if_pos hn])
 have EC : Hid (dC x t = 0) := Lib.hid (by unfold dC; rw [if_pos hn])
 have hv : valid x.toNat y.toNat (s16 z t) 0 = false := by have h := hk; unfold decOk at h; rw [EB.out, EC.out] at h; exact h
 clear hk
 have hz := z.toNat_lt
 have ht := t.toNat_lt
 by_cases hge : 32768 ≤ (z.toNat : Int) + 256 * t.toNat
 ·have ev : s16 z t = (z.toNat : Int) + 256 * t.toNat - 65536 := s16_neg hge
  rw [ev] at hv
  obtain ⟨n, hn⟩ : ∃ n : Int, (z.toNat : Int) + 256 * t.toNat = n := ⟨_, rfl⟩
  have hn0 : 0 ≤ n ∧ n < 65536 := by omega
  obtain ⟨hn0, hn1⟩ := hn0
  rw [hn] at hge ev hv
  have hL : Kn [] w w [] := Kn.refl [] w; have hF := hL.fx; go_enter Tryz.func53, Tryz.ntmps53
  go_wp2_with (first | ((with_reducible refine ks ?_); clear hF hL; intro W hL hF) | (go_at_call 79; refine kc (fun W hL => refValid_any _ _ _ _ _) ?_; clear hF hL; intro W hL hF) | (go_at_call 75; (with_reducible refine (refForm_any _ _).mono ?_); rintro e w' ⟨rfl, rfl⟩) | ((with_reducible refine at_region 3 ?_); refine kW [0, 1, 2, 3, 4, 5, 6, 7, 8, 9, 10, 11, 12, 13, 14] [0, 1, 2, 3, 4, 5, 6, 7, 8, 9, 10, 11, 12] [14] [0, 1, 3, 4, 6, 7, 9, 10, 12] ?_; clear hF hL; intro ι F hne hC hG; (repeat (first | (refine cF hC ?_; intro K hK; go_big_quiet_op; go_big_quiet_on) | (refine cP ?_; intro K hK; go_big_quiet_op; go_big_quiet_on) | (refine cN ?_; intro W hL; have hF := hL.fx; go_wp2; (first | (refine kb2 ?_; clear hL hF hC hG; intro ι F hne hC hG) | (refine ko2 ?_; clear hL hF))))); refine cwk_nil ?_; clear hC hG; intro W hL; simp only [kfb] at hL; have hF := hL.fx))
  all_goals refine bodyPost_ret (by simp [results, Tryz.results53, go_sem, *]; try rfl) rfl ?_
  all_goals refine ⟨?_, kn_here.below0⟩
  all_goals skip
  all_goals rfl
 ·have ev : s16 z t = (z.toNat : Int) + 256 * t.toNat := s16_pos hge
  rw [ev] at hv
  obtain ⟨n, hn⟩ : ∃ n : Int, (z.toNat : Int) + 256 * t.toNat = n := ⟨_, rfl⟩
  have hn0 : 0 ≤ n ∧ n < 65536 := by omega
  obtain ⟨hn0, hn1⟩ := hn0
  rw [hn] at hge ev hv
  have hge2 : (32768 ≤ n) = False := eq_false hge
  clear hge
  have hL : Kn [] w w [] := Kn.refl [] w; have hF := hL.fx; go_enter Tryz.func53, Tryz.ntmps53
  go_wp2_with (first | ((with_reducible refine ks ?_); clear hF hL; intro W hL hF) | (go_at_call 79; refine kc (fun W hL => refValid_any _ _ _ _ _) ?_; clear hF hL; intro W hL hF) | (go_at_call 75; (with_reducible refine (refForm_any _ _).mono ?_); rintro e w' ⟨rfl, rfl⟩) | ((with_reducible refine at_region 3 ?_); refine kW [0, 1, 2, 3, 4, 5, 6, 7, 8, 9, 10, 11, 12, 13, 14] [0, 1, 2, 3, 4, 5, 6, 7, 8, 9, 10, 11, 12] [14] [0, 1, 3, 4, 6, 7, 9, 10, 12] ?_; clear hF hL; intro ι F hne hC hG; (repeat (first | (refine cF hC ?_; intro K hK; go_big_quiet_op; go_big_quiet_on) | (refine cP ?_; intro K hK; go_big_quiet_op; go_big_quiet_on) | (refine cN ?_; intro W hL; have hF := hL.fx; go_wp2; (first | (refine kb2 ?_; clear hL hF hC hG; intro ι F hne hC hG) | (refine ko2 ?_; clear hL hF))))); refine cwk_nil ?_; clear hC hG; intro W hL; simp only [kfb] at hL; have hF := hL.fx))
  all_goals refine bodyPost_ret (by simp [results, Tryz.results53, go_sem, *]; try rfl) rfl ?_
  all_goals refine ⟨?_, kn_here.below0⟩
  all_goals skip
  all_goals rfl
theorem RefDecode_n6t (x y z t : UInt8) (w : World) (h5 : (form x.toNat == 5) = false) (h6 : (form x.toNat == 6) = true) (hk : decOk x y z t = true) :
  Calls Tryz.prog 53 #[.string ⟨#[x, y, z, t]⟩] w fun e w' => e = .returned (.tuple #[.agg #[.int .i64 x.toNat, .int .i64 y.toNat, .int .i64 (dB x z t), .int .i64 (dC x t)], .bool true]) ∧ Below w.heap.size w w' := by
 have i0 := byte0 x y z t
 have i1 := byte1 x y z t
 have i2 := byte2 x y z t
 have i3 := byte3 x y z t
 have u := byte64
 have h4 : (form x.toNat == 4) = false := by have := eq_of_beq h6; rw [this]; rfl
 have hn : numB x.toNat = true := by unfold numB; rw [h6]; simp
 have EB : Hid (dB x z t = s16 z t) := Lib.hid (by unfold dB; rw [if_pos hn])
 have EC : Hid (dC x t = 0) := Lib.hid (by unfold dC; rw [if_pos hn])
 have hv : valid x.toNat y.toNat (s16 z t) 0 = true := by have h := hk; unfold decOk at h; rw [EB.out, EC.out] at h; exact h
 clear hk
 have hz := z.toNat_lt
 have ht := t.toNat_lt
 by_cases hge : 32768 ≤ (z.toNat : Int) + 256 * t.toNat
 ·have ev : s16 z t = (z.toNat : Int) + 256 * t.toNat - 65536 := s16_neg hge
  rw [ev] at hv
  obtain ⟨n, hn⟩ : ∃ n : Int, (z.toNat : Int) + 256 * t.toNat = n := ⟨_, rfl⟩
  have hn0 : 0 ≤ n ∧ n < 65536 := by omega
  obtain ⟨hn0, hn1⟩ := hn0
  rw [hn] at hge ev hv
  have hL : Kn [] w w [] := Kn.refl [] w; have hF := hL.fx; go_enter Tryz.func53, Tryz.ntmps53
  go_wp2_with (first | ((with_reducible refine ks ?_); clear hF hL; intro W hL hF) | (go_at_call 79; refine kc (fun W hL => refValid_any _ _ _ _ _) ?_; clear hF hL; intro W hL hF) | (go_at_call 75; (with_reducible refine (refForm_any _ _).mono ?_); rintro e w' ⟨rfl, rfl⟩) | ((with_reducible refine at_region 3 ?_); refine kW [0, 1, 2, 3, 4, 5, 6, 7, 8, 9, 10, 11, 12, 13, 14] [0, 1, 2, 3, 4, 5, 6, 7, 8, 9, 10, 11, 12] [14] [0, 1, 3, 4, 6, 7, 9, 10, 12] ?_; clear hF hL; intro ι F hne hC hG; (repeat (first | (refine cF hC ?_; intro K hK; go_big_quiet_op; go_big_quiet_on) | (refine cP ?_; intro K hK; go_big_quiet_op; go_big_quiet_on) | (refine cN ?_; intro W hL; have hF := hL.fx; go_wp2; (first | (refine kb2 ?_; clear hL hF hC hG; intro ι F hne hC hG) | (refine ko2 ?_; clear hL hF))))); refine cwk_nil ?_; clear hC hG; intro W hL; simp only [kfb] at hL; have hF := hL.fx))
  all_goals refine bodyPost_ret (by simp [results, Tryz.results53, go_sem, *]; try rfl) rfl ?_
  all_goals refine ⟨?_, kn_here.below0⟩
  all_goals (rw [EB.out, EC.out, ev])
  all_goals rfl
 ·have ev : s16 z t = (z.toNat : Int) + 256 * t.toNat := s16_pos hge
  rw [ev] at hv
  obtain ⟨n, hn⟩ : ∃ n : Int, (z.toNat : Int) + 256 * t.toNat = n := ⟨_, rfl⟩
  have hn0 : 0 ≤ n ∧ n < 65536 := by omega
  obtain ⟨hn0, hn1⟩ := hn0
  rw [hn] at hge ev hv
  have hge2 : (32768 ≤ n) = False := eq_false hge
  clear hge
  have hL : Kn [] w w [] := Kn.refl [] w; have hF := hL.fx; go_enter Tryz.func53, Tryz.ntmps53
  go_wp2_with (first | ((with_reducible refine ks ?_); clear hF hL; intro W hL hF) | (go_at_call 79; refine kc (fun W hL => refValid_any _ _ _ _ _) ?_; clear hF hL; intro W hL hF) | (go_at_call 75; (with_reducible refine (refForm_any _ _).mono ?_); rintro e w' ⟨rfl, rfl⟩) | ((with_reducible refine at_region 3 ?_); refine kW [0, 1, 2, 3, 4, 5, 6, 7, 8, 9, 10, 11, 12, 13, 14] [0, 1, 2, 3, 4, 5, 6, 7, 8, 9, 10, 11, 12] [14] [0, 1, 3, 4, 6, 7, 9, 10, 12] ?_; clear hF hL; intro ι F hne hC hG; (repeat (first | (refine cF hC ?_; intro K hK; go_big_quiet_op; go_big_quiet_on) | (refine cP ?_; intro K hK; go_big_quiet_op; go_big_quiet_on) | (refine cN ?_; intro W hL; have hF := hL.fx; go_wp2; (first | (refine kb2 ?_; clear hL hF hC hG; intro ι F hne hC hG) | (refine ko2 ?_; clear hL hF))))); refine cwk_nil ?_; clear hC hG; intro W hL; simp only [kfb] at hL; have hF := hL.fx))
  all_goals refine bodyPost_ret (by simp [results, Tryz.results53, go_sem, *]; try rfl) rfl ?_
  all_goals refine ⟨?_, kn_here.below0⟩
  all_goals (rw [EB.out, EC.out, ev])
  all_goals rfl
theorem RefDecode_n6f (x y z t : UInt8) (w : World) (h5 : (form x.toNat == 5) = false) (h6 : (form x.toNat == 6) = true) (hk : decOk x y z t = false) :
  Calls Tryz.prog 53 #[.string ⟨#[x, y, z, t]⟩] w fun e w' => e = .returned (.tuple #[.agg #[.int .i64 0, .int .i64 0, .int .i64 0, .int .i64 0], .bool false]) ∧ Below w.heap.size w w' := by
 have i0 := byte0 x y z t
 have i1 := byte1 x y z t
 have i2 := byte2 x y z t
 have i3 := byte3 x y z t
 have u := byte64
 have h4 : (form x.toNat == 4) = false := by have := eq_of_beq h6; rw [this]; rfl
 have hn : numB x.toNat = true := by unfold numB; rw [h6]; simp
 have EB : Hid (dB x z t = s16 z t) := Lib.hid (by unfold dB; rw [if_pos hn])
 have EC : Hid (dC x t = 0) := Lib.hid (by unfold dC; rw [if_pos hn])
 have hv : valid x.toNat y.toNat (s16 z t) 0 = false := by have h := hk; unfold decOk at h; rw [EB.out, EC.out] at h; exact h
 clear hk
 have hz := z.toNat_lt
 have ht := t.toNat_lt
 by_cases hge : 32768 ≤ (z.toNat : Int) + 256 * t.toNat
 ·have ev : s16 z t = (z.toNat : Int) + 256 * t.toNat - 65536 := s16_neg hge
  rw [ev] at hv
  obtain ⟨n, hn⟩ : ∃ n : Int, (z.toNat : Int) + 256 * t.toNat = n := ⟨_, rfl⟩
  have hn0 : 0 ≤ n ∧ n < 65536 := by omega
  obtain ⟨hn0, hn1⟩ := hn0
  rw [hn] at hge ev hv
  have hL : Kn [] w w [] := Kn.refl [] w; have hF := hL.fx; go_enter Tryz.func53, Tryz.ntmps53
  go_wp2_with (first | ((with_reducible refine ks ?_); clear hF hL; intro W hL hF) | (go_at_call 79; refine kc (fun W hL => refValid_any _ _ _ _ _) ?_; clear hF hL; intro W hL hF) | (go_at_call 75; (with_reducible refine (refForm_any _ _).mono ?_); rintro e w' ⟨rfl, rfl⟩) | ((with_reducible refine at_region 3 ?_); refine kW [0, 1, 2, 3, 4, 5, 6, 7, 8, 9, 10, 11, 12, 13, 14] [0, 1, 2, 3, 4, 5, 6, 7, 8, 9, 10, 11, 12] [14] [0, 1, 3, 4, 6, 7, 9, 10, 12] ?_; clear hF hL; intro ι F hne hC hG; (repeat (first | (refine cF hC ?_; intro K hK; go_big_quiet_op; go_big_quiet_on) | (refine cP ?_; intro K hK; go_big_quiet_op; go_big_quiet_on) | (refine cN ?_; intro W hL; have hF := hL.fx; go_wp2; (first | (refine kb2 ?_; clear hL hF hC hG; intro ι F hne hC hG) | (refine ko2 ?_; clear hL hF))))); refine cwk_nil ?_; clear hC hG; intro W hL; simp only [kfb] at hL; have hF := hL.fx))
  all_goals refine bodyPost_ret (by simp [results, Tryz.results53, go_sem, *]; try rfl) rfl ?_
  all_goals refine ⟨?_, kn_here.below0⟩
  all_goals skip
  all_goals rfl
 ·have ev : s16 z t = (z.toNat : Int) + 256 * t.toNat := s16_pos hge
  rw [ev] at hv
  obtain ⟨n, hn⟩ : ∃ n : Int, (z.toNat : Int) + 256 * t.toNat = n := ⟨_, rfl⟩
  have hn0 : 0 ≤ n ∧ n < 65536 := by omega
  obtain ⟨hn0, hn1⟩ := hn0
  rw [hn] at hge ev hv
  have hge2 : (32768 ≤ n) = False := eq_false hge
  clear hge
  have hL : Kn [] w w [] := Kn.refl [] w; have hF := hL.fx; go_enter Tryz.func53, Tryz.ntmps53
  go_wp2_with (first | ((with_reducible refine ks ?_); clear hF hL; intro W hL hF) | (go_at_call 79; refine kc (fun W hL => refValid_any _ _ _ _ _) ?_; clear hF hL; intro W hL hF) | (go_at_call 75; (with_reducible refine (refForm_any _ _).mono ?_); rintro e w' ⟨rfl, rfl⟩) | ((with_reducible refine at_region 3 ?_); refine kW [0, 1, 2, 3, 4, 5, 6, 7, 8, 9, 10, 11, 12, 13, 14] [0, 1, 2, 3, 4, 5, 6, 7, 8, 9, 10, 11, 12] [14] [0, 1, 3, 4, 6, 7, 9, 10, 12] ?_; clear hF hL; intro ι F hne hC hG; (repeat (first | (refine cF hC ?_; intro K hK; go_big_quiet_op; go_big_quiet_on) | (refine cP ?_; intro K hK; go_big_quiet_op; go_big_quiet_on) | (refine cN ?_; intro W hL; have hF := hL.fx; go_wp2; (first | (refine kb2 ?_; clear hL hF hC hG; intro ι F hne hC hG) | (refine ko2 ?_; clear hL hF))))); refine cwk_nil ?_; clear hC hG; intro W hL; simp only [kfb] at hL; have hF := hL.fx))
  all_goals refine bodyPost_ret (by simp [results, Tryz.results53, go_sem, *]; try rfl) rfl ?_
  all_goals refine ⟨?_, kn_here.below0⟩
  all_goals skip
  all_goals rfl
theorem RefDecode_ot (x y z t : UInt8) (w : World) (h5 : (form x.toNat == 5) = false) (h6 : (form x.toNat == 6) = false) (h4 : (form x.toNat == 4) = true) (hk : decOk x y z t = true) :
  Calls Tryz.prog 53 #[.string ⟨#[x, y, z, t]⟩] w fun e w' => e = .returned (.tuple #[.agg #[.int .i64 x.toNat, .int .i64 y.toNat, .int .i64 (dB x z t), .int .i64 (dC x t)], .bool true]) ∧ Below w.heap.size w w' := by
 have i0 := byte0 x y z t
 have i1 := byte1 x y z t
 have i2 := byte2 x y z t
 have i3 := byte3 x y z t
 have u := byte64
 have hn : numB x.toNat = false := by unfold numB; rw [h5, h6]; rfl
 have EB : Hid (dB x z t = z.toNat) := Lib.hid (by unfold dB; rw [if_neg (by rw [hn]; decide)])
 have EC : Hid (dC x t = s8 t) := Lib.hid (by unfold dC; rw [if_neg (by rw [hn]; decide), if_pos (eq_of_beq h4)])
 have hv : valid x.toNat y.toNat z.toNat (s8 t) = true := by have h := hk; unfold decOk at h; rw [EB.out, EC.out] at h; exact h
 clear hk
 have hz := z.toNat_lt
 have ht := t.toNat_lt
 by_cases hge : 128 ≤ (t.toNat : Int)
 ·have ev : s8 t = (t.toNat : Int) - 256 := s8_neg hge
  rw [ev] at hv
  have hL : Kn [] w w [] := Kn.refl [] w; have hF := hL.fx; go_enter Tryz.func53, Tryz.ntmps53
  go_wp2_with (first | ((with_reducible refine ks ?_); clear hF hL; intro W hL hF) | (go_at_call 79; refine kc (fun W hL => refValid_any _ _ _ _ _) ?_; clear hF hL; intro W hL hF) | (go_at_call 75; (with_reducible refine (refForm_any _ _).mono ?_); rintro e w' ⟨rfl, rfl⟩) | ((with_reducible refine at_region 3 ?_); refine kW [0, 1, 2, 3, 4, 5, 6, 7, 8, 9, 10, 11, 12, 13, 14] [0, 1, 2, 3, 4, 5, 6, 7, 8, 9, 10, 11, 12] [14] [0, 1, 3, 4, 6, 7, 9, 10, 12] ?_; clear hF hL; intro ι F hne hC hG; (repeat (first | (refine cF hC ?_; intro K hK; go_big_quiet_op; go_big_quiet_on) | (refine cP ?_; intro K hK; go_big_quiet_op; go_big_quiet_on) | (refine cN ?_; intro W hL; have hF := hL.fx; go_wp2; (first | (refine kb2 ?_; clear hL hF hC hG; intro ι F hne hC hG) | (refine ko2 ?_; clear hL hF))))); refine cwk_nil ?_; clear hC hG; intro W hL; simp only [kfb] at hL; have hF := hL.fx))
  all_goals refine bodyPost_ret (by simp [results, Tryz.results53, go_sem, *]; try rfl) rfl ?_
  all_goals refine ⟨?_, kn_here.below0⟩
  all_goals (rw [EB.out, EC.out, ev])
  all_goals rfl
 ·have ev : s8 t = (t.toNat : Int) := s8_pos hge
  rw [ev] at hv
  have hge2 : (t.toNat : Int) < 128 := by omega
  clear hge
  have hL : Kn [] w w [] := Kn.refl [] w; have hF := hL.fx; go_enter Tryz.func53, Tryz.ntmps53
  go_wp2_with (first | (go_at_call 79; refine kc (fun W hL => refValid_any _ _ _ _ _) ?_; clear hF hL; intro W hL hF) | (go_at_call 75; (with_reducible refine (refForm_any _ _).mono ?_); rintro e w' ⟨rfl, rfl⟩) | ((with_reducible refine at_region 3 ?_); refine kW [0, 1, 2, 3, 4, 5, 6, 7, 8, 9, 10, 11, 12, 13, 14] [0, 1, 2, 3, 4, 5, 6, 7, 8, 9, 10, 11, 12] [14] [0, 1, 3, 4, 6, 7, 9, 10, 12] ?_; clear hF hL; intro ι F hne hC hG; (repeat (first | (refine cF hC ?_; intro K hK; go_big_quiet_op; go_big_quiet_on) | (refine cP ?_; intro K hK; go_big_quiet_op; go_big_quiet_on) | (refine cN ?_; intro W hL; have hF := hL.fx; go_wp2; (first | (refine kb2 ?_; clear hL hF hC hG; intro ι F hne hC hG) | (refine ko2 ?_; clear hL hF))))); refine cwk_nil ?_; clear hC hG; intro W hL; simp only [kfb] at hL; have hF := hL.fx))
  all_goals refine bodyPost_ret (by simp [results, Tryz.results53, go_sem, *]; try rfl) rfl ?_
  all_goals refine ⟨?_, kn_here.below0⟩
  all_goals (rw [EB.out, EC.out, ev])
  all_goals rfl
theorem RefDecode_of (x y z t : UInt8) (w : World) (h5 : (form x.toNat == 5) = false) (h6 : (form x.toNat == 6) = false) (h4 : (form x.toNat == 4) = true) (hk : decOk x y z t = false) :
  Calls Tryz.prog 53 #[.string ⟨#[x, y, z, t]⟩] w fun e w' => e = .returned (.tuple #[.agg #[.int .i64 0, .int .i64 0, .int .i64 0, .int .i64 0], .bool false]) ∧ Below w.heap.size w w' := by
 have i0 := byte0 x y z t
 have i1 := byte1 x y z t
 have i2 := byte2 x y z t
 have i3 := byte3 x y z t
 have u := byte64
 have hn : numB x.toNat = false := by unfold numB; rw [h5, h6]; rfl
 have EB : Hid (dB x z t = z.toNat) := Lib.hid (by unfold dB; rw [if_neg (by rw [hn]; decide)])
 have EC : Hid (dC x t = s8 t) := Lib.hid (by unfold dC; rw [if_neg (by rw [hn]; decide), if_pos (eq_of_beq h4)])
 have hv : valid x.toNat y.toNat z.toNat (s8 t) = false := by have h := hk; unfold decOk at h; rw [EB.out, EC.out] at h; exact h
 clear hk
 have hz := z.toNat_lt
 have ht := t.toNat_lt
 by_cases hge : 128 ≤ (t.toNat : Int)
 ·have ev : s8 t = (t.toNat : Int) - 256 := s8_neg hge
  rw [ev] at hv
  have hL : Kn [] w w [] := Kn.refl [] w; have hF := hL.fx; go_enter Tryz.func53, Tryz.ntmps53
  go_wp2_with (first | ((with_reducible refine ks ?_); clear hF hL; intro W hL hF) | (go_at_call 79; refine kc (fun W hL => refValid_any _ _ _ _ _) ?_; clear hF hL; intro W hL hF) | (go_at_call 75; (with_reducible refine (refForm_any _ _).mono ?_); rintro e w' ⟨rfl, rfl⟩) | ((with_reducible refine at_region 3 ?_); refine kW [0, 1, 2, 3, 4, 5, 6, 7, 8, 9, 10, 11, 12, 13, 14] [0, 1, 2, 3, 4, 5, 6, 7, 8, 9, 10, 11, 12] [14] [0, 1, 3, 4, 6, 7, 9, 10, 12] ?_; clear hF hL; intro ι F hne hC hG; (repeat (first | (refine cF hC ?_; intro K hK; go_big_quiet_op; go_big_quiet_on) | (refine cP ?_; intro K hK; go_big_quiet_op; go_big_quiet_on) | (refine cN ?_; intro W hL; have hF := hL.fx; go_wp2; (first | (refine kb2 ?_; clear hL hF hC hG; intro ι F hne hC hG) | (refine ko2 ?_; clear hL hF))))); refine cwk_nil ?_; clear hC hG; intro W hL; simp only [kfb] at hL; have hF := hL.fx))
  all_goals refine bodyPost_ret (by simp [results, Tryz.results53, go_sem, *]; try rfl) rfl ?_
  all_goals refine ⟨?_, kn_here.below0⟩
  all_goals skip
  all_goals rfl
 ·have ev : s8 t = (t.toNat : Int) := s8_pos hge
  rw [ev] at hv
  have hge2 : (t.toNat : Int) < 128 := by omega
  clear hge
  have hL : Kn [] w w [] := Kn.refl [] w; have hF := hL.fx; go_enter Tryz.func53, Tryz.ntmps53
  go_wp2_with (first | (go_at_call 79; refine kc (fun W hL => refValid_any _ _ _ _ _) ?_; clear hF hL; intro W hL hF) | (go_at_call 75; (with_reducible refine (refForm_any _ _).mono ?_); rintro e w' ⟨rfl, rfl⟩) | ((with_reducible refine at_region 3 ?_); refine kW [0, 1, 2, 3, 4, 5, 6, 7, 8, 9, 10, 11, 12, 13, 14] [0, 1, 2, 3, 4, 5, 6, 7, 8, 9, 10, 11, 12] [14] [0, 1, 3, 4, 6, 7, 9, 10, 12] ?_; clear hF hL; intro ι F hne hC hG; (repeat (first | (refine cF hC ?_; intro K hK; go_big_quiet_op; go_big_quiet_on) | (refine cP ?_; intro K hK; go_big_quiet_op; go_big_quiet_on) | (refine cN ?_; intro W hL; have hF := hL.fx; go_wp2; (first | (refine kb2 ?_; clear hL hF hC hG; intro ι F hne hC hG) | (refine ko2 ?_; clear hL hF))))); refine cwk_nil ?_; clear hC hG; intro W hL; simp only [kfb] at hL; have hF := hL.fx))
  all_goals refine bodyPost_ret (by simp [results, Tryz.results53, go_sem, *]; try rfl) rfl ?_
  all_goals refine ⟨?_, kn_here.below0⟩
  all_goals skip
  all_goals rfl
theorem RefDecode_xt (x y z t : UInt8) (w : World) (h5 : (form x.toNat == 5) = false) (h6 : (form x.toNat == 6) = false) (h4 : (form x.toNat == 4) = false) (hk : decOk x y z t = true) :
  Calls Tryz.prog 53 #[.string ⟨#[x, y, z, t]⟩] w fun e w' => e = .returned (.tuple #[.agg #[.int .i64 x.toNat, .int .i64 y.toNat, .int .i64 (dB x z t), .int .i64 (dC x t)], .bool true]) ∧ Below w.heap.size w w' := by
 have i0 := byte0 x y z t
 have i1 := byte1 x y z t
 have i2 := byte2 x y z t
 have i3 := byte3 x y z t
 have u := byte64
 have hn : numB x.toNat = false := by unfold numB; rw [h5, h6]; rfl
 have EB : Hid (dB x z t = z.toNat) := Lib.hid (by unfold dB; rw [if_neg (by rw [hn]; decide)])
 have EC : Hid (dC x t = t.toNat) := Lib.hid (by unfold dC; rw [if_neg (by rw [hn]; decide), if_neg (ne_of_beq_false h4)])
 have hv : valid x.toNat y.toNat z.toNat t.toNat = true := by have h := hk; unfold decOk at h; rw [EB.out, EC.out] at h; exact h
 clear hk
 have hz := z.toNat_lt
 have ht := t.toNat_lt
 have hL : Kn [] w w [] := Kn.refl [] w; have hF := hL.fx; go_enter Tryz.func53, Tryz.ntmps53
 go_wp2_with (first | (go_at_call 79; refine kc (fun W hL => refValid_any _ _ _ _ _) ?_; clear hF hL; intro W hL hF) | (go_at_call 75; (with_reducible refine (refForm_any _ _).mono ?_); rintro e w' ⟨rfl, rfl⟩) | ((with_reducible refine at_region 3 ?_); refine kW [0, 1, 2, 3, 4, 5, 6, 7, 8, 9, 10, 11, 12, 13, 14] [0, 1, 2, 3, 4, 5, 6, 7, 8, 9, 10, 11, 12] [14] [0, 1, 3, 4, 6, 7, 9, 10, 12] ?_; clear hF hL; intro ι F hne hC hG; (repeat (first | (refine cF hC ?_; intro K hK; go_big_quiet_op; go_big_quiet_on) | (refine cP ?_; intro K hK; go_big_quiet_op; go_big_quiet_on) | (refine cN ?_; intro W hL; have hF := hL.fx; go_wp2; (first | (refine kb2 ?_; clear hL hF hC hG; intro ι F hne hC hG) | (refine ko2 ?_; clear hL hF))))); refine cwk_nil ?_; clear hC hG; intro W hL; simp only [kfb] at hL; have hF := hL.fx))
 all_goals refine bodyPost_ret (by simp [results, Tryz.results53, go_sem, *]; try rfl) rfl ?_
 all_goals refine ⟨?_, kn_here.below0⟩
 all_goals (rw [EB.out, EC.out])
 all_goals rfl
theorem RefDecode_xf (x y z t : UInt8) (w : World) (h5 : (form x.toNat == 5) = false) (h6 : (form x.toNat == 6) = false) (h4 : (form x.toNat == 4) = false) (hk : decOk x y z t = false) :
  Calls Tryz.prog 53 #[.string ⟨#[x, y, z, t]⟩] w fun e w' => e = .returned (.tuple #[.agg #[.int .i64 0, .int .i64 0, .int .i64 0, .int .i64 0], .bool false]) ∧ Below w.heap.size w w' := by
 have i0 := byte0 x y z t
 have i1 := byte1 x y z t
 have i2 := byte2 x y z t
 have i3 := byte3 x y z t
 have u := byte64
 have hn : numB x.toNat = false := by unfold numB; rw [h5, h6]; rfl
 have EB : Hid (dB x z t = z.toNat) := Lib.hid (by unfold dB; rw [if_neg (by rw [hn]; decide)])
 have EC : Hid (dC x t = t.toNat) := Lib.hid (by unfold dC; rw [if_neg (by rw [hn]; decide), if_neg (ne_of_beq_false h4)])
 have hv : valid x.toNat y.toNat z.toNat t.toNat = false := by have h := hk; unfold decOk at h; rw [EB.out, EC.out] at h; exact h
 clear hk
 have hz := z.toNat_lt
 have ht := t.toNat_lt
 have hL : Kn [] w w [] := Kn.refl [] w; have hF := hL.fx; go_enter Tryz.func53, Tryz.ntmps53
 go_wp2_with (first | (go_at_call 79; refine kc (fun W hL => refValid_any _ _ _ _ _) ?_; clear hF hL; intro W hL hF) | (go_at_call 75; (with_reducible refine (refForm_any _ _).mono ?_); rintro e w' ⟨rfl, rfl⟩) | ((with_reducible refine at_region 3 ?_); refine kW [0, 1, 2, 3, 4, 5, 6, 7, 8, 9, 10, 11, 12, 13, 14] [0, 1, 2, 3, 4, 5, 6, 7, 8, 9, 10, 11, 12] [14] [0, 1, 3, 4, 6, 7, 9, 10, 12] ?_; clear hF hL; intro ι F hne hC hG; (repeat (first | (refine cF hC ?_; intro K hK; go_big_quiet_op; go_big_quiet_on) | (refine cP ?_; intro K hK; go_big_quiet_op; go_big_quiet_on) | (refine cN ?_; intro W hL; have hF := hL.fx; go_wp2; (first | (refine kb2 ?_; clear hL hF hC hG; intro ι F hne hC hG) | (refine ko2 ?_; clear hL hF))))); refine cwk_nil ?_; clear hC hG; intro W hL; simp only [kfb] at hL; have hF := hL.fx))
 all_goals refine bodyPost_ret (by simp [results, Tryz.results53, go_sem, *]; try rfl) rfl ?_
 all_goals refine ⟨?_, kn_here.below0⟩
 all_goals skip
 all_goals rfl
end Go.Proofs.YtfdlifhkeicnnaaGreatDoor
