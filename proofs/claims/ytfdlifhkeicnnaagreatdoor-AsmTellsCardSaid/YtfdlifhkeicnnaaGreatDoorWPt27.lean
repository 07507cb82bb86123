/- Lemmas and walks for the law LawTells (part 27). -/
import Derived.Test.YtfdlifhkeicnnaaGreatDoorWPt26
import Derived.Test.YtfdlifhkeicnnaaGreatDoorProg
import Derived.WalkKit
import Derived.Handy
import Derived.Deep.Light
import Derived.WalkSmall
import Derived.StillTailTactics
import Derived.Lib.Hide
import Derived.Laws.BitsAllLaws
set_option maxRecDepth 20000
set_option maxHeartbeats 4000000
set_option linter.unusedVariables false
set_option linter.unusedSimpArgs false
namespace Go.Proofs.YtfdlifhkeicnnaaGreatDoor
open Go Go.RowKit
theorem byte0 (x y z t : UInt8) (h : 0 < (⟨#[x, y, z, t]⟩ : ByteArray).size) : (⟨#[x, y, z, t]⟩ : ByteArray)[0]'h = x := rfl
theorem byte1 (x y z t : UInt8) (h : 1 < (⟨#[x, y, z, t]⟩ : ByteArray).size) : (⟨#[x, y, z, t]⟩ : ByteArray)[1]'h = y := rfl
theorem byte2 (x y z t : UInt8) (h : 2 < (⟨#[x, y, z, t]⟩ : ByteArray).size) : (⟨#[x, y, z, t]⟩ : ByteArray)[2]'h = z := rfl
theorem byte3 (x y z t : UInt8) (h : 3 < (⟨#[x, y, z, t]⟩ : ByteArray).size) : (⟨#[x, y, z, t]⟩ : ByteArray)[3]'h = t := rfl
theorem byte64 (x : UInt8) : wrap64 (x.toNat : Int) = x.toNat := by have := x.toNat_lt; unfold wrap64; omega
/-- Two bytes, and one, as a number with a sign. -/
def s16 (z t : UInt8) : Int := if (z.toNat : Int) + 256 * t.toNat < 32768 then z.toNat + 256 * t.toNat else z.toNat + 256 * t.toNat - 65536
def s8 (t : UInt8) : Int := if t.toNat < 128 then t.toNat else (t.toNat : Int) - 256
theorem or_bytes (z t : UInt8) : bits .or .u16 (z.toNat : Int) ((t.toNat : Int) * 256) = z.toNat + 256 * t.toNat := by
 have hz := z.toNat_lt
 have ht := t.toNat_lt
 unfold bits
 show IntKind.u16.wrap (((BitVec.ofInt 16 (z.toNat : Int) ||| BitVec.ofInt 16 ((t.toNat : Int) * 256)).toNat : Nat) : Int) = _
 rw [show ((t.toNat : Int) * 256) = ((t.toNat * 256 : Nat) : Int) by simp, BitVec.ofInt_natCast, BitVec.ofInt_natCast, BitVec.toNat_or, BitVec.toNat_ofNat, BitVec.toNat_ofNat, Nat.mod_eq_of_lt (by omega), Nat.mod_eq_of_lt (by omega)]
 have h : z.toNat ||| t.toNat * 256 = t.toNat * 256 + z.toNat := by
  have := Nat.two_pow_add_eq_or_of_lt (i := 8) (b := z.toNat) (by omega) t.toNat
  rw [Nat.or_comm, Nat.mul_comm]; exact this.symm
 rw [h, IntKind.wrap_u16]
 omega
theorem conv16 (z t : UInt8) : wrap64 (IntKind.i16.wrap (bits .or .u16 (IntKind.u16.wrap (z.toNat : Int)) (IntKind.u16.wrap (IntKind.u16.wrap (t.toNat : Int) * 256)))) = s16 z t := by
 have hz := z.toNat_lt
 have ht := t.toNat_lt
 have e1 : IntKind.u16.wrap (z.toNat : Int) = z.toNat := by rw [IntKind.wrap_u16]; omega
 have e2 : IntKind.u16.wrap (t.toNat : Int) = t.toNat := by rw [IntKind.wrap_u16]; omega
 have e3 : IntKind.u16.wrap ((t.toNat : Int) * 256) = t.toNat * 256 := by rw [IntKind.wrap_u16]; omega
 rw [e1, e2, e3, or_bytes]
 have e4 : ∀ n : Int, IntKind.i16.wrap n = if 32768 ≤ n % 65536 then n % 65536 - 65536 else n % 65536 := fun n => by simp [IntKind.wrap, IntKind.bits, IntKind.signed]
 rw [e4]
 unfold wrap64 s16; split <;> split <;> omega
theorem conv8 (t : UInt8) : wrap64 (IntKind.i8.wrap (t.toNat : Int)) = s8 t := by
 have ht := t.toNat_lt
 have e4 : ∀ n : Int, IntKind.i8.wrap n = if 128 ≤ n % 256 then n % 256 - 256 else n % 256 := fun n => by simp [IntKind.wrap, IntKind.bits, IntKind.signed]
 rw [e4]
 unfold wrap64 s8; split <;> split <;> omega
theorem s16_pos {z t : UInt8} (h : ¬ 32768 ≤ (z.toNat : Int) + 256 * t.toNat) : s16 z t = (z.toNat : Int) + 256 * t.toNat := by unfold s16; rw [if_pos (by omega)]
theorem s16_neg {z t : UInt8} (h : 32768 ≤ (z.toNat : Int) + 256 * t.toNat) : s16 z t = (z.toNat : Int) + 256 * t.toNat - 65536 := by unfold s16; rw [if_neg (by omega)]
theorem s8_pos {t : UInt8} (h : ¬ 128 ≤ (t.toNat : Int)) : s8 t = t.toNat := by unfold s8; rw [if_pos (by omega)]
theorem s8_neg {t : UInt8} (h : 128 ≤ (t.toNat : Int)) : s8 t = (t.toNat : Int) - 256 := by unfold s8; rw [if_neg (by omega)]
def dB (x z t : UInt8) : Int := if numB x.toNat then s16 z t else z.toNat
def dC (x t : UInt8) : Int := if numB x.toNat then 0 else if form x.toNat = 4 then s8 t else t.toNat
def decOk (x y z t : UInt8) : Bool := valid x.toNat y.toNat (dB x z t) (dC x t)
theorem ne_of_beq_false {a b : Int} (h : (a == b) = false) : a ≠ b := by simpa using h
theorem Decode_short (s : ByteArray) (hs : (s.size == 4) = false) (w : World) (hT : TabI w) :
  Calls Tryz.prog 26 #[.string s] w fun e w' => e = .returned (.tuple #[.agg #[.int .i64 0, .int .i64 0, .int .i64 0, .int .i64 0], .bool false]) ∧ Below w.heap.size w w' := by
 have hL : Kn [] w w [] := Kn.refl [] w; have hF := hL.fx; go_enter Tryz.func26, Tryz.ntmps26
 go_wp2_with ((with_reducible refine ks ?_); clear hL; intro W hL hF)
 refine bodyPost_ret (by simp [results, Tryz.results26, go_sem, *]; try rfl) rfl ?_
 exact ⟨rfl, kn_here.below0⟩
theorem Decode_n5t (x y z t : UInt8) (w : World) (hT : TabI w) (h5 : (form x.toNat == 5) = true) (hk : decOk x y z t = true) :
  Calls Tryz.prog 26 #[.string ⟨#[x, y, z, t]⟩] w fun e w' => e = .returned (.tuple #[.agg #[.int .i64 x.toNat, .int .i64 y.toNat, .int .i64 (dB x z t), .int .i64 (dC x t)], .bool true]) ∧ Below w.heap.size w w' := by
 have i0 := byte0 x y z t
 have i1 := byte1 x y z t
 have i2 := byte2 x y z t
 have i3 := byte3 x y z t
 have u := byte64
 have h4 : (form x.toNat == 4) = false := by have := eq_of_beq h5; rw [this]; rfl
 have hn : numB x.toNat = true := by unfold numB; rw [h5]; rfl
 have EB : Hid (dB x z t = s16 z t) := Lib.hid (by unfold dB; rw [if_pos hn])
 have EC : Hid (dC x t = 0) := Lib.hid (by unfold dC; rw [if_pos hn])
 have hv : valid x.toNat y.toNat (s16 z t) 0 = true := by have h := hk; unfold decOk at h; rw [EB.out, EC.out] at h; exact h
 clear hk
 have e16 := conv16 z t
 have e8 := conv8 t
 have hL : Kn [] w w [] := Kn.refl [] w; have hF := hL.fx; go_enter Tryz.func26, Tryz.ntmps26
 go_wp2_with (first | (go_at_call 18; refine kc (fun W hL => Valid_any _ _ _ _ _ (hT.ext hL.below0)) ?_; clear hF hL; intro W hL hF) | (go_at_call 42; refine kp (fun W hL => numbered_any _ _ (hT.ext hL.below0)) ?_; clear hF hL; intro W hL hF) | ((with_reducible refine at_region 3 ?_); refine kW [0, 1, 2, 3, 4, 5, 6, 7, 8, 9, 10, 11, 12, 13, 14] [0, 1, 2, 3, 4, 5, 6, 7, 8, 9, 10, 11, 12] [14] [0, 1, 3, 4, 6, 7, 9, 10, 12] ?_; clear hF hL; intro ι F hne hC hG; (repeat (first | (refine cF hC ?_; intro K hK; go_big_quiet_op; go_big_quiet_on) | (refine cP ?_; intro K hK; go_big_quiet_op; go_big_quiet_on) | (refine cN ?_; intro W hL; have hF := hL.fx; go_wp2; (first | (refine kb2 ?_; clear hL hF hC hG; intro ι F hne hC hG) | (refine ko2 ?_; clear hL hF))))); refine cwk_nil ?_; clear hC hG; intro W hL; simp only [kfb] at hL; have hF := hL.fx) | ((with_reducible refine at_region 5 ?_); refine kW [0, 1, 2, 3, 4, 5, 6, 7, 8, 9, 10, 11, 12, 13] [0, 1, 2, 3, 4, 5, 6, 7, 8, 9, 10, 12] [11, 13] [0, 1, 3, 4, 6, 7, 10, 12] ?_; clear hF hL; intro ι F hne hC hG; (repeat (first | (refine cF hC ?_; intro K hK; go_big_quiet_op; go_big_quiet_on) | (refine cP ?_; intro K hK; go_big_quiet_op; go_big_quiet_on) | (refine cN ?_; intro W hL; (try simp only [kfb] at hL); have hF := hL.fx; go_wp2; refine kb2 ?_; clear hL hF hC hG; intro ι F hne hC hG))); refine cwk_nil ?_; clear hC hG; intro W hL; simp only [kfb] at hL; have hF := hL.fx))
 all_goals refine bodyPost_ret (by simp [results, Tryz.results26, go_sem, *]; try rfl) rfl ?_
 all_goals refine ⟨?_, kn_here.below0⟩
 all_goals (rw [EB.out, EC.out])
 all_goals rfl
theorem Decode_n5f (x y z t : UInt8) (w : World) (hT : TabI w) (h5 : (form x.toNat == 5) = true) (hk : decOk x y z t = false) :
  Calls Tryz.prog 26 #[.string ⟨#[x, y, z, t]⟩] w fun e w' => e = .returned (.tuple #[.agg #[.int .i64 0, .int .i64 0, .int .i64 0, .int .i64 0], .bool false]) ∧ Below w.heap.size w w' := by
 have i0 := byte0 x y z t
 have i1 := byte1 x y z t
 have i2 := byte2 x y z t
 have i3 := byte3 x y z t
 have u := byte64
 have h4 : (form x.toNat == 4) = false := by have := eq_of_beq h5; rw [this]; rfl
 have hn : numB x.toNat = true := by unfold numB; rw [h5]; rfl
 have EB : Hid (dB x z t = s16 z t) := Lib.hid (by unfold dB; rw [if_pos hn])
 have EC : Hid (dC x t = 0) := Lib.hid (by unfold dC; rw [if_pos hn])
 have hv : valid x.toNat y.toNat (s16 z t) 0 = false := by have h := hk; unfold decOk at h; rw [EB.out, EC.out] at h; exact h
 clear hk
 have e16 := conv16 z t
 have e8 := conv8 t
 have hL : Kn [] w w [] := Kn.refl [] w; have hF := hL.fx; go_enter Tryz.func26, Tryz.ntmps26
 go_wp2_with (first | (go_at_call 18; refine kc (fun W hL => Valid_any _ _ _ _ _ (hT.ext hL.below0)) ?_; clear hF hL; intro W hL hF) | (go_at_call 42; refine kp (fun W hL => numbered_any _ _ (hT.ext hL.below0)) ?_; clear hF hL; intro W hL hF) | ((with_reducible refine at_region 3 ?_); refine kW [0, 1, 2, 3, 4, 5, 6, 7, 8, 9, 10, 11, 12, 13, 14] [0, 1, 2, 3, 4, 5, 6, 7, 8, 9, 10, 11, 12] [14] [0, 1, 3, 4, 6, 7, 9, 10, 12] ?_; clear hF hL; intro ι F hne hC hG; (repeat (first | (refine cF hC ?_; intro K hK; go_big_quiet_op; go_big_quiet_on) | (refine cP ?_; intro K hK; go_big_quiet_op; go_big_quiet_on) | (refine cN ?_; intro W hL; have hF := hL.fx; go_wp2; (first | (refine kb2 ?_; clear hL hF hC hG; intro ι F hne hC hG) | (refine ko2 ?_; clear hL hF))))); refine cwk_nil ?_; clear hC hG; intro W hL; simp only [kfb] at hL; have hF := hL.fx) | ((with_reducible refine at_region 5 ?_); refine kW [0, 1, 2, 3, 4, 5, 6, 7, 8, 9, 10, 11, 12, 13] [0, 1, 2, 3, 4, 5, 6, 7, 8, 9, 10, 12] [11, 13] [0, 1, 3, 4, 6, 7, 10, 12] ?_; clear hF hL; intro ι F hne hC hG; (repeat (first | (refine cF hC ?_; intro K hK; go_big_quiet_op; go_big_quiet_on) | (refine cP ?_; intro K hK; go_big_quiet_op; go_big_quiet_on) | (refine cN ?_; intro W hL; (try simp only [kfb] at hL); have hF := hL.fx; go_wp2; refine kb2 ?_; clear hL hF hC hG; intro ι F hne hC hG))); refine cwk_nil ?_; clear hC hG; intro W hL; simp only [kfb] at hL; have hF := hL.fx))
 all_goals refine bodyPost_ret (by simp [results, Tryz.results26, go_sem, *]; try rfl) rfl ?_
 all_goals refine ⟨?_, kn_here.below0⟩
 all_goals skip
 all_goals rfl
theorem Decode_n6t (x y z t : UInt8) (w : World) (hT : TabI w) (h5 : (form x.toNat == 5) = false) (h6 : (form x.toNat == 6) = true) (hk : decOk x y z t = true) :
  Calls Tryz.prog 26 #[.string ⟨#[x, y, z, t]⟩] w fun e w' => e = .returned (.tuple #[.agg #[.int .i64 x.toNat, .int .i64 y.toNat, .int .i64 (dB x z t), .int .i64 (dC x t)], .bool true]) ∧ Below w.heap.size w w' := by
 have i0 := byte0 x y z t
 have i1 := byte1 x y z t
 have i2 := byte2 x y z t
 have i3 := byte3 x y z t
 have u := byte64
 have h4 : (form x.toNat == 4) = false := by have := eq_of_beq h6; rw [this]; rfl
 have hn : numB x.toNat = true := by unfold numB; rw [h6]; simp
 have EB : Hid (dB x z t = s16 z t) := Lib.hid (by unfold dB; rw [if_pos hn])
 have EC : Hid (dC x t = 0) := Lib.hid (by unfold dC; rw [if_pos hn])
 have hv : valid x.toNat y.toNat (s16 z t) 0 = true := by have h := hk; unfold decOk at h; rw [EB.out, EC.out] at h; exact h
 clear hk
 have e16 := conv16 z t
 have e8 := conv8 t
 have hL : Kn [] w w [] := Kn.refl [] w; have hF := hL.fx; go_enter Tryz.func26, Tryz.ntmps26
 go_wp2_with (first | (go_at_call 18; refine kc (fun W hL => Valid_any _ _ _ _ _ (hT.ext hL.below0)) ?_; clear hF hL; intro W hL hF) | (go_at_call 42; refine kp (fun W hL => numbered_any _ _ (hT.ext hL.below0)) ?_; clear hF hL; intro W hL hF) | ((with_reducible refine at_region 3 ?_); refine kW [0, 1, 2, 3, 4, 5, 6, 7, 8, 9, 10, 11, 12, 13, 14] [0, 1, 2, 3, 4, 5, 6, 7, 8, 9, 10, 11, 12] [14] [0, 1, 3, 4, 6, 7, 9, 10, 12] ?_; clear hF hL; intro ι F hne hC hG; (repeat (first | (refine cF hC ?_; intro K hK; go_big_quiet_op; go_big_quiet_on) | (refine cP ?_; intro K hK; go_big_quiet_op; go_big_quiet_on) | (refine cN ?_; intro W hL; have hF := hL.fx; go_wp2; (first | (refine kb2 ?_; clear hL hF hC hG; intro ι F hne hC hG) | (refine ko2 ?_; clear hL hF))))); refine cwk_nil ?_; clear hC hG; intro W hL; simp only [kfb] at hL; have hF := hL.fx) | ((with_reducible refine at_region 5 ?_); refine kW [0, 1, 2, 3, 4, 5, 6, 7, 8, 9, 10, 11, 12, 13] [0, 1, 2, 3, 4, 5, 6, 7, 8, 9, 10, 12] [11, 13] [0, 1, 3, 4, 6, 7, 10, 12] ?_; clear hF hL; intro ι F hne hC hG; (repeat (first | (refine cF hC ?_; intro K hK; go_big_quiet_op; go_big_quiet_on) | (refine cP ?_; intro K hK; go_big_quiet_op; go_big_quiet_on) | (refine cN ?_; intro W hL; (try simp only [kfb] at hL); have hF := hL.fx; go_wp2; refine kb2 ?_; clear hL hF hC hG; intro ι F hne hC hG))); refine cwk_nil ?_; clear hC hG; intro W hL; simp only [kfb] at hL; have hF := hL.fx))
 all_goals refine bodyPost_ret (by simp [results, Tryz.results26, go_sem, *]; try rfl) rfl ?_
 all_goals refine ⟨?_, kn_here.below0⟩
 all_goals (rw [EB.out, EC.out])
 all_goals rfl
theorem Decode_n6f (x y z t : UInt8) (w : World) (hT : TabI w) (h5 : (form x.toNat == 5) = false) (h6 : (form x.toNat == 6) = true) (hk : decOk x y z t = false) :
  Calls Tryz.prog 26 #[.string ⟨#[x, y, z, t]⟩] w fun e w' => e = .returned (.tuple #[.agg #[.int .i64 0, .int .i64 0, .int .i64 0, .int .i64 0], .bool false]) ∧ Below w.heap.size w w' := by
 have i0 := byte0 x y z t
 have i1 := byte1 x y z t
 have i2 := byte2 x y z t
 have i3 := byte3 x y z t
 have u := byte64
 have h4 : (form x.toNat == 4) = false := by have := eq_of_beq h6; rw [this]; rfl
 have hn : numB x.toNat = true := by unfold numB; rw [h6]; simp
 have EB : Hid (dB x z t = s16 z t) := Lib.hid (by unfold dB; rw [if_pos hn])
 have EC : Hid (dC x t = 0) := Lib.hid (by unfold dC; rw [if_pos hn])
 have hv : valid x.toNat y.toNat (s16 z t) 0 = false := by have h := hk; unfold decOk at h; rw [EB.out, EC.out] at h; exact h
 clear hk
 have e16 := conv16 z t
 have e8 := conv8 t
 have hL : Kn [] w w [] := Kn.refl [] w; have hF := hL.fx; go_enter Tryz.func26, Tryz.ntmps26
 go_wp2_with (first | (go_at_call 18; refine kc (fun W hL => Valid_any _ _ _ _ _ (hT.ext hL.below0)) ?_; clear hF hL; intro W hL hF) | (go_at_call 42; refine kp (fun W hL => numbered_any _ _ (hT.ext hL.below0)) ?_; clear hF hL; intro W hL hF) | ((with_reducible refine at_region 3 ?_); refine kW [0, 1, 2, 3, 4, 5, 6, 7, 8, 9, 10, 11, 12, 13, 14] [0, 1, 2, 3, 4, 5, 6, 7, 8, 9, 10, 11, 12] [14] [0, 1, 3, 4, 6, 7, 9, 10, 12] ?_; clear hF hL; intro ι F hne hC hG; (repeat (first | (refine cF hC ?_; intro K hK; go_big_quiet_op; go_big_quiet_on) | (refine cP ?_; intro K hK; go_big_quiet_op; go_big_quiet_on) | (refine cN ?_; intro W hL; have hF := hL.fx; go_wp2; (first | (refine kb2 ?_; clear hL hF hC hG; intro ι F hne hC hG) | (refine ko2 ?_; clear hL hF))))); refine cwk_nil ?_; clear hC hG; intro W hL; simp only [kfb] at hL; have hF := hL.fx) | ((with_reducible refine at_region 5 ?_); refine kW [0, 1, 2, 3, 4, 5, 6, 7, 8, 9, 10, 11, 12, 13] [0, 1, 2, 3, 4, 5, 6, 7, 8, 9, 10, 12] [11, 13] [0, 1, 3, 4, 6, 7, 10, 12] ?_; clear hF hL; intro ι F hne hC hG; (repeat (first | (refine cF hC ?_; intro K hK; go_big_quiet_op; go_big_quiet_on) | (refine cP ?_; intro K hK; go_big_quiet_op; go_big_quiet_on) | (refine cN ?_; intro W hL; (try simp only [kfb] at hL); have hF := hL.fx; go_wp2; refine kb2 ?_; clear hL hF hC hG; intro ι F hne hC hG))); refine cwk_nil ?_; clear hC hG; intro W hL; simp only [kfb] at hL; have hF := hL.fx))
 all_goals refine bodyPost_ret (by simp [results, Tryz.results26, go_sem, *]; try rfl) rfl ?_
 all_goals refine ⟨?_, kn_here.below0⟩
 all_goals skip
 all_goals rfl
theorem Decode_ot (x y z t : UInt8) (w : World) (hT : TabI w) (h5 : (form x.toNat == 5) = false) (h6 : (form x.toNat == 6) = false) (h4 : (form x.toNat == 4) = true) (hk : decOk x y z t = true) :
  Calls Tryz.prog 26 #[.string ⟨#[x, y, z, t]⟩] w fun e w' => e = .returned (.tuple #[.agg #[.int .i64 x.toNat, .int .i64 y.toNat, .int .i64 (dB x z t), .int .i64 (dC x t)], .bool true]) ∧ Below w.heap.size w w' := by
 have i0 := byte0 x y z t
 have i1 := byte1 x y z t
 have i2 := byte2 x y z t
 have i3 := byte3 x y z t
 have u := byte64
 have hn : numB x.toNat = false := by unfold numB; rw [h5, h6]; rfl
 have EB : Hid (dB x z t = z.toNat) := Lib.hid (by unfold dB; rw [if_neg (by rw [hn]; decide)])
 have EC : Hid (dC x t = s8 t) := Lib.hid (by unfold dC; rw [if_neg (by rw [hn]; decide), if_pos (eq_of_beq h4)])
 have hv : valid x.toNat y.toNat z.toNat (s8 t) = true := by have h := hk; unfold decOk at h; rw [EB.out, EC.out] at h; exact h
 clear hk
 have e16 := conv16 z t
 have e8 := conv8 t
 have hL : Kn [] w w [] := Kn.refl [] w; have hF := hL.fx; go_enter Tryz.func26, Tryz.ntmps26
 go_wp2_with (first | ((with_reducible refine ks ?_); clear hF hL; intro W hL hF) | (go_at_call 18; refine kc (fun W hL => Valid_any _ _ _ _ _ (hT.ext hL.below0)) ?_; clear hF hL; intro W hL hF) | (go_at_call 42; refine kp (fun W hL => numbered_any _ _ (hT.ext hL.below0)) ?_; clear hF hL; intro W hL hF) | (go_at_call 39; refine kp (fun W hL => Form_any _ _ (hT.ext hL.below0)) ?_; clear hF hL; intro W hL hF) | ((with_reducible refine at_region 3 ?_); refine kW [0, 1, 2, 3, 4, 5, 6, 7, 8, 9, 10, 11, 12, 13, 14] [0, 1, 2, 3, 4, 5, 6, 7, 8, 9, 10, 11, 12] [14] [0, 1, 3, 4, 6, 7, 9, 10, 12] ?_; clear hF hL; intro ι F hne hC hG; (repeat (first | (refine cF hC ?_; intro K hK; go_big_quiet_op; go_big_quiet_on) | (refine cP ?_; intro K hK; go_big_quiet_op; go_big_quiet_on) | (refine cN ?_; intro W hL; have hF := hL.fx; go_wp2; (first | (refine kb2 ?_; clear hL hF hC hG; intro ι F hne hC hG) | (refine ko2 ?_; clear hL hF))))); refine cwk_nil ?_; clear hC hG; intro W hL; simp only [kfb] at hL; have hF := hL.fx))
 all_goals refine bodyPost_ret (by simp [results, Tryz.results26, go_sem, *]; try rfl) rfl ?_
 all_goals refine ⟨?_, kn_here.below0⟩
 all_goals (rw [EB.out, EC.out])
 all_goals rfl
theorem Decode_of (x y z t : UInt8) (w : World) (hT : TabI w) (h5 : (form x.toNat == 5) = false) (h6 : (form x.toNat == 6) = false) (h4 : (form x.toNat == 4) = true) (hk : decOk x y z t = false) :
  Calls Tryz.prog 26 #[.string ⟨#[x, y, z, t]⟩] w fun e w' => e = .returned (.tuple #[.agg #[.int .i64 0, .int .i64 0, .int .i64 0, .int .i64 0], .bool false]) ∧ Below w.heap.size w w' := by
 have i0 := byte0 x y z t
 have i1 := byte1 x y z t
 have i2 := byte2 x y z t
 have i3 := byte3 x y z t
 have u := byte64
 have hn : numB x.toNat = false := by unfold numB; rw [h5, h6]; rfl
 have EB : Hid (dB x z t = z.toNat) := Lib.hid (by unfold dB; rw [if_neg (by rw [hn]; decide)])
 have EC : Hid (dC x t = s8 t) := Lib.hid (by unfold dC; rw [if_neg (by rw [hn]; decide), if_pos (eq_of_beq h4)])
 have hv : valid x.toNat y.toNat z.toNat (s8 t) = false := by have h := hk; unfold decOk at h; rw [EB.out, EC.out] at h; exact h
 clear hk
 have e16 := conv16 z t
 have e8 := conv8 t
 have hL : Kn [] w w [] := Kn.refl [] w; have hF := hL.fx; go_enter Tryz.func26, Tryz.ntmps26
 go_wp2_with (first | ((with_reducible refine ks ?_); clear hF hL; intro W hL hF) | (go_at_call 18; refine kc (fun W hL => Valid_any _ _ _ _ _ (hT.ext hL.below0)) ?_; clear hF hL; intro W hL hF) | (go_at_call 42; refine kp (fun W hL => numbered_any _ _ (hT.ext hL.below0)) ?_; clear hF hL; intro W hL hF) | (go_at_call 39; refine kp (fun W hL => Form_any _ _ (hT.ext hL.below0)) ?_; clear hF hL; intro W hL hF) | ((with_reducible refine at_region 3 ?_); refine kW [0, 1, 2, 3, 4, 5, 6, 7, 8, 9, 10, 11, 12, 13, 14] [0, 1, 2, 3, 4, 5, 6, 7, 8, 9, 10, 11, 12] [14] [0, 1, 3, 4, 6, 7, 9, 10, 12] ?_; clear hF hL; intro ι F hne hC hG; (repeat (first | (refine cF hC ?_; intro K hK; go_big_quiet_op; go_big_quiet_on) | (refine cP ?_; intro K hK; go_big_quiet_op; go_big_quiet_on) | (refine cN ?_; intro W hL; have hF := hL.fx; go_wp2; (first | (refine kb2 ?_; clear hL hF hC hG; intro ι F hne hC hG) | (refine ko2 ?_; clear hL hF))))); refine cwk_nil ?_; clear hC hG; intro W hL; simp only [kfb] at hL; have hF := hL.fx))
 all_goals refine bodyPost_ret (by simp [results, Tryz.results26, go_sem, *]; try rfl) rfl ?_
 all_goals refine ⟨?_, kn_here.below0⟩
 all_goals skip
 all_goals rfl
theorem Decode_xt (x y z t : UInt8) (w : World) (hT : TabI w) (h5 : (form x.toNat == 5) = false) (h6 : (form x.toNat == 6) = false) (h4 : (form x.toNat == 4) = false) (hk : decOk x y z t = true) :
  Calls Tryz.prog 26 #[.string ⟨#[x, y, z, t]⟩] w fun e w' => e = .returned (.tuple #[.agg #[.int .i64 x.toNat, .int .i64 y.toNat, .int .i64 (dB x z t), .int .i64 (dC x t)], .bool true]) ∧ Below w.heap.size w w' := by
 have i0 := byte0 x y z t
 have i1 := byte1 x y z t
 have i2 := byte2 x y z t
 have i3 := byte3 x y z t
 have u := byte64
 have hn : numB x.toNat = false := by unfold numB; rw [h5, h6]; rfl
 have EB : Hid (dB x z t = z.toNat) := Lib.hid (by unfold dB; rw [if_neg (by rw [hn]; decide)])
 have EC : Hid (dC x t = t.toNat) := Lib.hid (by unfold dC; rw [if_neg (by rw [hn]; decide), if_neg (ne_of_beq_false h4)])
 have hv : valid x.toNat y.toNat z.toNat t.toNat = true := by have h := hk; unfold decOk at h; rw [EB.out, EC.out] at h; exact h
 clear hk
 have e16 := conv16 z t
 have e8 := conv8 t
 have hL : Kn [] w w [] := Kn.refl [] w; have hF := hL.fx; go_enter Tryz.func26, Tryz.ntmps26
 go_wp2_with (first | (go_at_call 18; refine kc (fun W hL => Valid_any _ _ _ _ _ (hT.ext hL.below0)) ?_; clear hF hL; intro W hL hF) | (go_at_call 42; refine kp (fun W hL => numbered_any _ _ (hT.ext hL.below0)) ?_; clear hF hL; intro W hL hF) | (go_at_call 39; refine kp (fun W hL => Form_any _ _ (hT.ext hL.below0)) ?_; clear hF hL; intro W hL hF) | ((with_reducible refine at_region 3 ?_); refine kW [0, 1, 2, 3, 4, 5, 6, 7, 8, 9, 10, 11, 12, 13, 14] [0, 1, 2, 3, 4, 5, 6, 7, 8, 9, 10, 11, 12] [14] [0, 1, 3, 4, 6, 7, 9, 10, 12] ?_; clear hF hL; intro ι F hne hC hG; (repeat (first | (refine cF hC ?_; intro K hK; go_big_quiet_op; go_big_quiet_on) | (refine cP ?_; intro K hK; go_big_quiet_op; go_big_quiet_on) | (refine cN ?_; intro W hL; have hF := hL.fx; go_wp2; (first | (refine kb2 ?_; clear hL hF hC hG; intro ι F hne hC hG) | (refine ko2 ?_; clear hL hF))))); refine cwk_nil ?_; clear hC hG; intro W hL; simp only [kfb] at hL; have hF := hL.fx))
 all_goals refine bodyPost_ret (by simp [results, Tryz.results26, go_sem, *]; try rfl) rfl ?_
 all_goals refine ⟨?_, kn_here.below0⟩
 all_goals (rw [EB.out, EC.out])
 all_goals rfl
theorem Decode_xf (x y z t : UInt8) (w : World) (hT : TabI w) (h5 : (form x.toNat == 5) = false) (h6 : (form x.toNat == 6) = false) (h4 : (form x.toNat == 4) = false) (hk : decOk x y z t = false) :
  Calls Tryz.prog 26 #[.string ⟨#[x, y, z, t]⟩] w fun e w' => e = .returned (.tuple #[.agg #[.int .i64 0, .int .i64 0, .int .i64 0, .int .i64 0], .bool false]) ∧ Below w.heap.size w w' := by
 have i0 := byte0 x y z t
 have i1 := byte1 x y z t
 have i2 := byte2 x y z t
 have i3 := byte3 x y z t
 have u := byte64
 have hn : numB x.toNat = false := by unfold numB; rw [h5, h6]; rfl
 have EB : Hid (dB x z t = z.toNat) := Lib.hid (by unfold dB; rw [if_neg (by rw [hn]; decide)])
 have EC : Hid (dC x t = t.toNat) := Lib.hid (by unfold dC; rw [if_neg (by rw [hn]; decide), if_neg (ne_of_beq_false h4)])
 have hv : valid x.toNat y.toNat z.toNat t.toNat = false := by have h := hk; unfold decOk at h; rw [EB.out, EC.out] at h; exact h
 clear hk
 have e16 := conv16 z t
 have e8 := conv8 t
 have hL : Kn [] w w [] := Kn.refl [] w; have hF := hL.fx; go_enter Tryz.func26, Tryz.ntmps26
 go_wp2_with (first | (go_at_call 18; refine kc (fun W hL => Valid_any _ _ _ _ _ (hT.ext hL.below0)) ?_; clear hF hL; intro W hL hF) | (go_at_call 42; refine kp (fun W hL => numbered_any _ _ (hT.ext hL.below0)) ?_; clear hF hL; intro W hL hF) | (go_at_call 39; refine kp (fun W hL => Form_any _ _ (hT.ext hL.below0)) ?_; clear hF hL; intro W hL hF) | ((with_reducible refine at_region 3 ?_); refine kW [0, 1, 2, 3, 4, 5, 6, 7, 8, 9, 10, 11, 12, 13, 14] [0, 1, 2, 3, 4, 5, 6, 7, 8, 9, 10, 11, 12] [14] [0, 1, 3, 4, 6, 7, 9, 10, 12] ?_; clear hF hL; intro ι F hne hC hG; (repeat (first | (refine cF hC ?_; intro K hK; go_big_quiet_op; go_big_quiet_on) | (refine cP ?_; intro K hK; go_big_quiet_op; go_big_quiet_on) | (refine cN ?_; intro W hL; have hF := hL.fx; go_wp2; (first | (refine kb2 ?_; clear hL hF hC hG; intro ι F hne hC hG) | (refine ko2 ?_; clear hL hF))))); refine cwk_nil ?_; clear hC hG; intro W hL; simp only [kfb] at hL; have hF := hL.fx))
 all_goals refine bodyPost_ret (by simp [results, Tryz.results26, go_sem, *]; try rfl) rfl ?_
 all_goals refine ⟨?_, kn_here.below0⟩
 all_goals skip
 all_goals rfl
end Go.Proofs.YtfdlifhkeicnnaaGreatDoor
