/- Lemmas and walks for the law of this seat (part 8). -/
import Derived.Test.YtgboffbbpmileaaGreatDoorPj7
import Derived.Test.YtgboffbbpmileaaGreatDoorProg
import Derived.WalkKit
import Derived.Handy
import Derived.Deep.Light
import Derived.WalkSmall
import Derived.StillTailTactics
import Derived.Lib.Hide
set_option maxRecDepth 20000
set_option maxHeartbeats 4000000
set_option linter.unusedVariables false
set_option linter.unusedSimpArgs false
namespace Go.Proofs.YtgboffbbpmileaaGreatDoor
open Go Go.RowKit
theorem piece_39 (ps : List Prt) (t : Bytes) (n : Nat) : piece ps 39 t n = (match brk 39 t with
  | none => .bad n
  | some (a, r) => .ok (addT ps a true, r, n + lf a)) := rfl
theorem piece_34 (ps : List Prt) (t : Bytes) (n : Nat) : piece ps 34 t n = dbl n (addT ps [] true, t, n) := rfl
theorem piece_36 (ps : List Prt) (t : Bytes) (n : Nat) : piece ps 36 t n = dollar ps t n false := rfl
theorem conv1 (c : UInt8) (W : World) : (convert 119 9 (.slice (some ⟨W.heap.size, 0, none⟩) 1 1)).run Tryz.prog (W.alloc (.cells #[.int .u8 c.toNat] 5)) = .ok (.string ⟨#[c]⟩) (W.alloc (.cells #[.int .u8 c.toNat] 5)) :=
 conv_own (BOwn.new (Kn.refl [] W) [c] #[.int .u8 c.toNat] rfl 1 rfl (by simp)) ⟨#[c]⟩ rfl
theorem piece_is (src : ByteArray) (hs0 : src.size ≤ 10000) (v : Value) (b q : Nat) (at_ ln : Nat) (pv : Value) (LP : List (Nat × Obj)) (ps : List Prt) (w : World) (hL : Kn (b :: q :: keys LP) w w ((b, .cells #[.string src, .int .i64 (at_), .int .i64 (ln), v] 111 (0, 0)) :: (q, .cells #[pv] 135 (0, 0)) :: LP)) (hP : PtL LP pv ps) (hz : Sz at_ ln ps) (c0 : UInt8) (t : Bytes) (hd0 : src.data.toList.drop at_ = c0 :: t) (hc : ends c0 = false) :
  Calls Tryz.prog 102 #[.pointer (some ⟨b, 0, none⟩), .pointer (some ⟨q, 0, none⟩)] w (SPost src v b q (b :: q :: keys LP) w (piece ps c0 t ln)) := by
 have hsl := szl src
 have hs : src.size ≤ 100000 := by omega
 obtain ⟨d1, d2, d3⟩ := one_parts hd0
 rw [hsl] at d3
 have hlt := d3
 have eb0 := byte_at d1 d3
 obtain ⟨b1, b2, b3⟩ := hz.le (Nat.le_of_lt d3) hs0
 have hd := hd0
 by_cases h39 : c0 = 39
 ·subst h39
  obtain ⟨u, hu⟩ : ∃ u, src.extract (at_ + 1) src.size = u := ⟨_, rfl⟩
  have hul : u.data.toList = t := by rw [← hu, ext_list, List.take_of_length_le (by omega), d2]
  rw [piece_39]
  rcases brk_ix 39 t with ⟨hb1, hb2⟩ | ⟨a, r, hb1, hb2⟩
  ·rw [hb1]
   have hI : Hid (∀ W, Calls Tryz.prog 81 #[.string u, .int .u8 39] W fun x w' => x = .returned (.int .i64 (-1)) ∧ w' = W) := Lib.hid fun W => Index_any u 39 (-1) (by rw [hul]; exact hb2) 39 rfl W
   clear hd d1 d2 hul hb1 hb2 hd0 hz
   have hF := hL.fx
   go_enter Tryz.func102, Tryz.ntmps102
   go_wp2_with (first | ((with_reducible refine zS ?_); clear hL; intro W hL hF) | ((with_reducible refine at_region 0 ?_); refine zW [0, 1, 2, 3, 4, 5, 6, 7, 8, 9] [0, 1, 2, 3, 4, 5, 6, 7, 8, 9] [] [0, 1, 2, 4, 5, 6, 8, 9] ?_; clear hF hL; intro ι F hne hC hG; (repeat (first | (refine cF hC ?_; intro K hK; go_big_quiet_op; go_big_quiet_on) | (refine cP ?_; intro K hK; go_big_quiet_op; go_big_quiet_on))); refine cwk_nil ?_; clear hC hG; intro W hL; have hF := hL.fx) | ((with_reducible refine at_region 5 ?_); refine zW [0, 1, 2, 3, 4, 5, 6, 7, 8, 9, 10, 11] [0, 1, 2, 3, 4, 5, 6, 7, 8, 9, 11] [10] [0, 1, 2, 4, 5, 6, 8, 9, 11] ?_; clear hF hL; intro ι F hne hC hG; (repeat (first | (refine cS ?_) | (refine cF hC ?_; intro K hK; go_big_quiet_op; go_big_quiet_on) | (refine cP ?_; intro K hK; go_big_quiet_op; go_big_quiet_on) | (refine cC ?_; intro W hL; have hF := hL.fx; simp only [zA, Act.eval]; go_at_call 81; (with_reducible refine (hI.out _).mono ?_); rintro e W' ⟨rfl, rfl⟩; refine zB ?_; clear hL hF hC hG; intro ι F hne hC hG; simp only [Act.put, zT]) | (refine cN ?_; intro W hL; have hF := hL.facts; go_wp2; refine zB2 ?_; clear hL hC hG; intro ι F hne hC hG))); refine cwk_nil ?_; clear hC hG; intro W hL; have hF := hL.fx) | (go_at_call 112; refine zG ?_; clear hF hL; intro W hL hF; (with_reducible refine (syn_is b ln _).mono ?_); rintro e W ⟨rfl, rfl⟩))
   exact ⟨rfl, rfl, hL.sub (List.nil_sublist _)⟩
  ·rw [hb1]
   obtain ⟨n, hn1⟩ : ∃ n, n = a.length := ⟨_, rfl⟩
   have hI : Hid (∀ W, Calls Tryz.prog 81 #[.string u, .int .u8 39] W fun x w' => x = .returned (.int .i64 (n : Int)) ∧ w' = W) := Lib.hid fun W => Index_any u 39 n (by rw [hul, hn1]; exact hb2) 39 rfl W
   have htt := (brk_text hb1).1
   have htl : t.length = src.size - (at_ + 1) := by rw [← d2, List.length_drop, hsl]
   have hnl : at_ + n + 2 ≤ src.size := by
    have := congrArg List.length htt
    simp only [List.length_append, List.length_cons] at this
    omega
   obtain ⟨u3, hu3⟩ : ∃ u3, src.extract (at_ + 1) (at_ + 1 + n) = u3 := ⟨_, rfl⟩
   have hul3 : u3.data.toList = a := by rw [← hu3, ext_list, List.drop_take, d2, htt, hn1]; simp
   have hus3 : u3.size = n := by rw [← szl, hul3, hn1]
   have hus4 : u3.size ≤ 10000 := by omega
   have hxx : src.data.toList.drop at_ = (39 :: (a ++ [39])) ++ r := by rw [hd0, htt]; simp
   have HX := Lib.hid hxx
   have hlf : lf (39 :: (a ++ [39])) = lf a := by simp [lf, List.count_cons, List.count_append]
   have hxl : (39 :: (a ++ [39]) : Bytes).length = a.length + 2 := by simp
   obtain ⟨hc1, hc2, hc3⟩ := cut_x hxx
   have hc4 := hc3 (by simp)
   have HL := Lib.hid hlf
   have HC := Lib.hid hc2
   have HN := Lib.hid hn1
   have hn2 : (n : Int) + 2 = a.length + 2 := by omega
   have q0 : ¬ (n : Int) < 0 := by omega
   have HUL := Lib.hid hul3
   have w1 : IntKind.i64.wrap ((at_ : Int) + 1) = (at_ : Int) + 1 := by rw [IntWalk.i64_in _ (by omega)]
   have w2 : IntKind.i64.wrap ((at_ : Int) + 1 + n) = (at_ : Int) + 1 + n := by rw [IntWalk.i64_in _ (by omega)]
   have w3 : ((at_ : Int) + 1).toNat = at_ + 1 := by omega
   have w4 : ((at_ : Int) + 1 + n).toNat = at_ + 1 + n := by omega
   have w5 : 0 ≤ (at_ : Int) + 1 := by omega
   have w6 : 0 ≤ (at_ : Int) + 1 + n := by omega
   have w7 : (at_ : Int) + 1 ≤ (at_ : Int) + 1 + n := by omega
   have w8 : (at_ : Int) + 1 + n ≤ src.size := by omega
   have w9 : (at_ : Int) + 1 ≤ src.size := by omega
   clear hd d1 d2 hul hb1 hb2 hd0 hz htt htl hul3 hus3 hxx hlf hc1 hc2 hc3 hn1
   have hF := hL.fx
   go_enter Tryz.func102, Tryz.ntmps102
   go_wp2_with (first | ((with_reducible refine zS ?_); clear hL; intro W hL hF) | ((with_reducible refine at_region 0 ?_); refine zW [0, 1, 2, 3, 4, 5, 6, 7, 8, 9] [0, 1, 2, 3, 4, 5, 6, 7, 8, 9] [] [0, 1, 2, 4, 5, 6, 8, 9] ?_; clear hF hL; intro ι F hne hC hG; (repeat (first | (refine cF hC ?_; intro K hK; go_big_quiet_op; go_big_quiet_on) | (refine cP ?_; intro K hK; go_big_quiet_op; go_big_quiet_on))); refine cwk_nil ?_; clear hC hG; intro W hL; have hF := hL.fx) | ((with_reducible refine at_region 5 ?_); refine zW [0, 1, 2, 3, 4, 5, 6, 7, 8, 9, 10, 11] [0, 1, 2, 3, 4, 5, 6, 7, 8, 9, 11] [10] [0, 1, 2, 4, 5, 6, 8, 9, 11] ?_; clear hF hL; intro ι F hne hC hG; (repeat (first | (refine cS ?_) | (refine cF hC ?_; intro K hK; go_big_quiet_op; go_big_quiet_on) | (refine cP ?_; intro K hK; go_big_quiet_op; go_big_quiet_on) | (refine cC ?_; intro W hL; have hF := hL.fx; simp only [zA, Act.eval]; go_at_call 81; (with_reducible refine (hI.out _).mono ?_); rintro e W' ⟨rfl, rfl⟩; refine zB ?_; clear hL hF hC hG; intro ι F hne hC hG; simp only [Act.put, zT]) | (refine cN ?_; intro W hL; have hF := hL.facts; go_wp2; refine zB2 ?_; clear hL hC hG; intro ι F hne hC hG))); refine cwk_nil ?_; clear hC hG; intro W hL; have hF := hL.fx) | ((with_reducible refine at_region 8 ?_); refine zW [0, 1, 2, 3, 4, 5, 6, 7, 8, 9, 10, 11, 12, 13, 14, 15, 16, 17, 18] [0, 1, 2, 3, 4, 5, 6, 7, 8, 9, 10, 11, 12, 13, 14, 15, 16, 17] [18] [0, 1, 2, 3, 5, 6, 7, 9, 10, 11, 12, 14, 15, 16, 17] ?_; clear hF hL; intro ι F hne hC hG; (repeat (first | (refine cS ?_) | (refine cF hC ?_; intro K hK; go_big_quiet_op; go_big_quiet_on) | (refine cP ?_; intro K hK; go_big_quiet_op; go_big_quiet_on) | (refine cC ?_; intro W hL; have hF := hL.fx; simp only [zA, Act.eval]; go_at_call 113; (with_reducible refine (text_is q pv _ LP ps (by (exact hL.self1q)) hP u3 true (by omega) (by omega)).mono ?_); rintro e W2 ⟨rfl, pv2, LP2, hP2, hb⟩; ((replace hL := hL.tail1 hb)); clear hb hF hP; have hP := hP2; clear hP2; have hF := hL.fx; refine zB ?_; clear hL hF hC hG; intro ι F hne hC hG; simp only [Act.put, zT]) | (refine cN ?_; intro W hL; have hF := hL.facts; go_wp2; refine zB2 ?_; clear hL hC hG; intro ι F hne hC hG))); refine cwk_nil ?_; clear hC hG; intro W hL; have hF := hL.fx) | (go_at_call 80; refine zG ?_; clear hF hL; intro W hL hF; (with_reducible refine (skip_nat src at_ (39 :: (a ++ [39])) r ln v b _ (by (exact hL.has _ List.mem_cons_self)) HX.out (by simp) hs (by omega) _ (by (simp; omega))).mono ?_); rintro e W ⟨rfl, hb⟩; ((replace hL := hL.join1 0 rfl hb)); clear hb hF; simp only [List.eraseIdx_cons_zero, List.eraseIdx_cons_succ, List.cons_append, List.nil_append] at hL; have hF := hL.fx))
   rw [HUL.out] at hP
   rw [HL.out] at hL
   go_end0
   exact ⟨rfl, at_ + (39 :: (a ++ [39]) : Bytes).length, pv2, LP2, by rw [szl] at hc4; exact hc4, HC.out, hP, hL⟩
 have f39 : ((c0.toNat : Int) == 39) = false := beq_false_of_ne (fun h => h39 (UInt8.toNat_inj.1 (show c0.toNat = 39 by omega)))
 by_cases h34 : c0 = 34
 ·subst h34
  have hF := hL.fx
  go_enter Tryz.func102, Tryz.ntmps102
  cases hdo : dbl ln (addT ps [] true, t, ln) with
  | bad m =>
   have HD : Hid (∀ W, Kn (b :: q :: keys LP) W W ((b, .cells #[.string src, .int .i64 (at_), .int .i64 (ln), v] 111 (0, 0)) :: (q, .cells #[pv] 135 (0, 0)) :: LP) → Calls Tryz.prog 114 #[.pointer (some ⟨b, 0, none⟩), .pointer (some ⟨q, 0, none⟩)] W fun e w' => e = .panicked [{ v := .iface 107 (.agg #[.int .i64 27, .int .i64 m]), recovered := false }] ∧ Kn (b :: q :: keys LP) W w' []) := Lib.hid fun W hK => by
    have := double_is src hs0 v b q at_ ln pv LP ps W hK hP hz t hd0
    rw [hdo] at this; exact this
   rw [piece_34, hdo]
   clear hdo hd hd0
   go_wp2_with (first | ((with_reducible refine at_region 0 ?_); refine zW [0, 1, 2, 3, 4, 5, 6, 7, 8, 9] [0, 1, 2, 3, 4, 5, 6, 7, 8, 9] [] [0, 1, 2, 4, 5, 6, 8, 9] ?_; clear hF hL; intro ι F hne hC hG; (repeat (first | (refine cF hC ?_; intro K hK; go_big_quiet_op; go_big_quiet_on) | (refine cP ?_; intro K hK; go_big_quiet_op; go_big_quiet_on))); refine cwk_nil ?_; clear hC hG; intro W hL; have hF := hL.fx) | (go_at_call 114; refine zG ?_; clear hF hL; intro W hL hF; (with_reducible refine (HD.out _ hL.selfbq).mono ?_); rintro e W2 ⟨rfl, hb⟩; replace hL := hL.tail0 hb; clear hb hF hP; have hF := hL.fx))
   exact ⟨rfl, rfl, hL⟩
  | ok x =>
   obtain ⟨ps2, r2, ln2⟩ := x
   have HD : Hid (∀ W, Kn (b :: q :: keys LP) W W ((b, .cells #[.string src, .int .i64 (at_), .int .i64 (ln), v] 111 (0, 0)) :: (q, .cells #[pv] 135 (0, 0)) :: LP) → Calls Tryz.prog 114 #[.pointer (some ⟨b, 0, none⟩), .pointer (some ⟨q, 0, none⟩)] W fun e w' => e = .returned (.tuple #[]) ∧ ∃ (at2 : Nat) (pv2 : Value) (LP2 : List (Nat × Obj)), at2 ≤ src.size ∧ Hid (src.data.toList.drop at2 = r2) ∧ PtL LP2 pv2 ps2 ∧ Kn (b :: q :: keys LP) W w' ((b, .cells #[.string src, .int .i64 (at2), .int .i64 (ln2), v] 111 (0, 0)) :: (q, .cells #[pv2] 135 (0, 0)) :: LP2)) := Lib.hid fun W hK => by
    have := double_is src hs0 v b q at_ ln pv LP ps W hK hP hz t hd0
    rw [hdo] at this; exact this
   rw [piece_34, hdo]
   clear hdo hd hd0
   go_wp2_with (first | ((with_reducible refine at_region 0 ?_); refine zW [0, 1, 2, 3, 4, 5, 6, 7, 8, 9] [0, 1, 2, 3, 4, 5, 6, 7, 8, 9] [] [0, 1, 2, 4, 5, 6, 8, 9] ?_; clear hF hL; intro ι F hne hC hG; (repeat (first | (refine cF hC ?_; intro K hK; go_big_quiet_op; go_big_quiet_on) | (refine cP ?_; intro K hK; go_big_quiet_op; go_big_quiet_on))); refine cwk_nil ?_; clear hC hG; intro W hL; have hF := hL.fx) | (go_at_call 114; refine zG ?_; clear hF hL; intro W hL hF; (with_reducible refine (HD.out _ hL.selfbq).mono ?_); rintro e W2 ⟨rfl, at2, pv2, LP2, ha2, hr2, hP2, hb⟩; replace hL := hL.tail0 hb; clear hb hF hP; have hP := hP2; clear hP2; have hF := hL.fx))
   go_end0
   exact ⟨rfl, at2, pv2, LP2, ha2, hr2.out, hP, hL⟩
 have f34 : ((c0.toNat : Int) == 34) = false := beq_false_of_ne (fun h => h34 (UInt8.toNat_inj.1 (show c0.toNat = 34 by omega)))
 by_cases h36 : c0 = 36
 ·subst h36
  have f92 : (((36 : UInt8).toNat : Int) == 92) = false := rfl
  have hF := hL.fx
  go_enter Tryz.func102, Tryz.ntmps102
  cases hdo : dollar ps t ln false with
  | bad m =>
   have HD : Hid (∀ W, Kn (b :: q :: keys LP) W W ((b, .cells #[.string src, .int .i64 (at_), .int .i64 (ln), v] 111 (0, 0)) :: (q, .cells #[pv] 135 (0, 0)) :: LP) → Calls Tryz.prog 115 #[.pointer (some ⟨b, 0, none⟩), .pointer (some ⟨q, 0, none⟩), .bool false] W fun e w' => e = .panicked [{ v := .iface 107 (.agg #[.int .i64 27, .int .i64 m]), recovered := false }] ∧ Kn (b :: q :: keys LP) W w' []) := Lib.hid fun W hK => by
    have := dollar_is src hs v b q at_ ln pv LP ps W hK hP (by omega) (by omega) (by omega) false t hd0
    rw [hdo] at this; exact this
   rw [piece_36, hdo]
   clear hdo hd hd0
   go_wp2_with (first | ((with_reducible refine at_region 0 ?_); refine zW [0, 1, 2, 3, 4, 5, 6, 7, 8, 9] [0, 1, 2, 3, 4, 5, 6, 7, 8, 9] [] [0, 1, 2, 4, 5, 6, 8, 9] ?_; clear hF hL; intro ι F hne hC hG; (repeat (first | (refine cF hC ?_; intro K hK; go_big_quiet_op; go_big_quiet_on) | (refine cP ?_; intro K hK; go_big_quiet_op; go_big_quiet_on))); refine cwk_nil ?_; clear hC hG; intro W hL; have hF := hL.fx) | (go_at_call 115; refine zG ?_; clear hF hL; intro W hL hF; (with_reducible refine (HD.out _ hL.selfbq).mono ?_); rintro e W2 ⟨rfl, hb⟩; replace hL := hL.tail0 hb; clear hb hF hP; have hF := hL.fx))
   exact ⟨rfl, rfl, hL⟩
  | ok x =>
   obtain ⟨ps2, r2, ln2⟩ := x
   have HD : Hid (∀ W, Kn (b :: q :: keys LP) W W ((b, .cells #[.string src, .int .i64 (at_), .int .i64 (ln), v] 111 (0, 0)) :: (q, .cells #[pv] 135 (0, 0)) :: LP) → Calls Tryz.prog 115 #[.pointer (some ⟨b, 0, none⟩), .pointer (some ⟨q, 0, none⟩), .bool false] W fun e w' => e = .returned (.tuple #[]) ∧ ∃ (at2 : Nat) (pv2 : Value) (LP2 : List (Nat × Obj)), at2 ≤ src.size ∧ Hid (src.data.toList.drop at2 = r2) ∧ PtL LP2 pv2 ps2 ∧ Kn (b :: q :: keys LP) W w' ((b, .cells #[.string src, .int .i64 (at2), .int .i64 (ln2), v] 111 (0, 0)) :: (q, .cells #[pv2] 135 (0, 0)) :: LP2)) := Lib.hid fun W hK => by
    have := dollar_is src hs v b q at_ ln pv LP ps W hK hP (by omega) (by omega) (by omega) false t hd0
    rw [hdo] at this; exact this
   rw [piece_36, hdo]
   clear hdo hd hd0
   go_wp2_with (first | ((with_reducible refine at_region 0 ?_); refine zW [0, 1, 2, 3, 4, 5, 6, 7, 8, 9] [0, 1, 2, 3, 4, 5, 6, 7, 8, 9] [] [0, 1, 2, 4, 5, 6, 8, 9] ?_; clear hF hL; intro ι F hne hC hG; (repeat (first | (refine cF hC ?_; intro K hK; go_big_quiet_op; go_big_quiet_on) | (refine cP ?_; intro K hK; go_big_quiet_op; go_big_quiet_on))); refine cwk_nil ?_; clear hC hG; intro W hL; have hF := hL.fx) | (go_at_call 115; refine zG ?_; clear hF hL; intro W hL hF; (with_reducible refine (HD.out _ hL.selfbq).mono ?_); rintro e W2 ⟨rfl, at2, pv2, LP2, ha2, hr2, hP2, hb⟩; replace hL := hL.tail0 hb; clear hb hF hP; have hP := hP2; clear hP2; have hF := hL.fx))
   go_end0
   exact ⟨rfl, at2, pv2, LP2, ha2, hr2.out, hP, hL⟩
 have f36 : ((c0.toNat : Int) == 36) = false := beq_false_of_ne (fun h => h36 (UInt8.toNat_inj.1 (show c0.toNat = 36 by omega)))
 by_cases h92 : c0 = 92
 ·subst h92
  cases t with
  | nil =>
   have hle : src.size ≤ at_ + 1 := by
    have := congrArg List.length d2
    rw [List.length_drop, hsl] at this
    simp at this; omega
   have q0 : ((at_ : Int) + 1 == (src.size : Int)) = true := beq_iff_eq.2 (by omega)
   have hxx : src.data.toList.drop at_ = [92] ++ [] := hd0
   have HX := Lib.hid hxx
   have HD2 := Lib.hid d2
   show Calls _ _ _ _ (SPost src v b q (b :: q :: keys LP) w (.ok (addT ps [92] true, [], ln)))
   clear hd d1 d2 hd0 hz hxx hc
   have hF := hL.fx
   go_enter Tryz.func102, Tryz.ntmps102
   go_wp2_with (first | ((with_reducible refine zS ?_); clear hL; intro W hL hF) | ((with_reducible refine at_region 0 ?_); refine zW [0, 1, 2, 3, 4, 5, 6, 7, 8, 9] [0, 1, 2, 3, 4, 5, 6, 7, 8, 9] [] [0, 1, 2, 4, 5, 6, 8, 9] ?_; clear hF hL; intro ι F hne hC hG; (repeat (first | (refine cF hC ?_; intro K hK; go_big_quiet_op; go_big_quiet_on) | (refine cP ?_; intro K hK; go_big_quiet_op; go_big_quiet_on))); refine cwk_nil ?_; clear hC hG; intro W hL; have hF := hL.fx) | ((with_reducible refine at_region 15 ?_); refine zW [0, 1, 2, 3, 4, 5, 6, 7, 8, 9, 10, 11] [0, 1, 2, 3, 4, 5, 6, 7, 8, 9, 10, 11] [] [0, 1, 2, 4, 5, 6, 7, 9, 10, 11] ?_; clear hF hL; intro ι F hne hC hG; (repeat (first | (refine cF hC ?_; intro K hK; go_big_quiet_op; go_big_quiet_on) | (refine cP ?_; intro K hK; go_big_quiet_op; go_big_quiet_on))); refine cwk_nil ?_; clear hC hG; intro W hL; have hF := hL.fx) | (go_at_call 113; refine zG ?_; clear hF hL; intro W hL hF; (with_reducible refine (text_is q pv _ LP ps (by (exact hL.self1q)) hP ⟨#[92]⟩ true (by omega) (by rw [one_sz]; omega)).mono ?_); rintro e W2 ⟨rfl, pv2, LP2, hP2, hb⟩; ((replace hL := hL.tail1 hb)); clear hb hF hP; have hP := hP2; clear hP2; have hF := hL.fx) | (go_at_call 80; refine zG ?_; clear hF hL; intro W hL hF; (with_reducible refine (skip_nat src at_ [92] [] ln v b _ (by (exact hL.has _ List.mem_cons_self)) HX.out (by simp) hs (by omega) _ (by (simp; done))).mono ?_); rintro e W ⟨rfl, hb⟩; ((replace hL := hL.join1 0 rfl hb)); clear hb hF; simp only [List.eraseIdx_cons_zero, List.eraseIdx_cons_succ, List.cons_append, List.nil_append] at hL; have hF := hL.fx))
   go_end0
   exact ⟨rfl, at_ + 1, pv2, LP2, by omega, HD2.out, hP, hL⟩
  | cons c1 r =>
   obtain ⟨e1, e2, e3⟩ := one_parts d2
   rw [hsl] at e3
   have hlt1 := e3
   have eb1 := byte_at e1 e3
   have q0 : ((at_ : Int) + 1 == (src.size : Int)) = false := beq_false_of_ne (by omega)
   have hxx : src.data.toList.drop at_ = [92, c1] ++ r := hd0
   have HX := Lib.hid hxx
   have HE2 := Lib.hid e2
   have w1 : IntKind.i64.wrap ((at_ : Int) + 1) = (at_ : Int) + 1 := by rw [IntWalk.i64_in _ (by omega)]
   have w2 : IntKind.i64.wrap ((at_ : Int) + 2) = (at_ : Int) + 2 := by rw [IntWalk.i64_in _ (by omega)]
   have w3 : ((at_ : Int) + 1).toNat = at_ + 1 := by omega
   have w4 : ((at_ : Int) + 2).toNat = at_ + 2 := by omega
   have w5 : 0 ≤ (at_ : Int) + 1 := by omega
   have w6 : 0 ≤ (at_ : Int) + 2 := by omega
   have w7 : (at_ : Int) + 1 ≤ (at_ : Int) + 2 := by omega
   have w8 : (at_ : Int) + 2 ≤ src.size := by omega
   by_cases h10 : c1 = 10
   ·subst h10
    show Calls _ _ _ _ (SPost src v b q (b :: q :: keys LP) w (.ok (ps, r, ln + 1)))
    have hlf : lf [92, 10] = 1 := rfl
    have HLF := Lib.hid hlf
    clear hd d1 d2 hd0 hz hxx hc e1 e2 hlf
    have hF := hL.fx
    go_enter Tryz.func102, Tryz.ntmps102
    go_wp2_with (first | ((with_reducible refine zS ?_); clear hL; intro W hL hF) | ((with_reducible refine at_region 0 ?_); refine zW [0, 1, 2, 3, 4, 5, 6, 7, 8, 9] [0, 1, 2, 3, 4, 5, 6, 7, 8, 9] [] [0, 1, 2, 4, 5, 6, 8, 9] ?_; clear hF hL; intro ι F hne hC hG; (repeat (first | (refine cF hC ?_; intro K hK; go_big_quiet_op; go_big_quiet_on) | (refine cP ?_; intro K hK; go_big_quiet_op; go_big_quiet_on))); refine cwk_nil ?_; clear hC hG; intro W hL; have hF := hL.fx) | ((with_reducible refine at_region 15 ?_); refine zW [0, 1, 2, 3, 4, 5, 6, 7, 8, 9, 10, 11] [0, 1, 2, 3, 4, 5, 6, 7, 8, 9, 10, 11] [] [0, 1, 2, 4, 5, 6, 7, 9, 10, 11] ?_; clear hF hL; intro ι F hne hC hG; (repeat (first | (refine cF hC ?_; intro K hK; go_big_quiet_op; go_big_quiet_on) | (refine cP ?_; intro K hK; go_big_quiet_op; go_big_quiet_on))); refine cwk_nil ?_; clear hC hG; intro W hL; have hF := hL.fx) | ((with_reducible refine at_region 18 ?_); refine zW [0, 1, 2, 3, 4, 5, 6, 7, 8, 9, 10, 11] [0, 1, 2, 3, 4, 5, 6, 7, 8, 9, 10, 11] [] [0, 1, 2, 4, 5, 6, 8, 9, 10, 11] ?_; clear hF hL; intro ι F hne hC hG; (repeat (first | (refine cF hC ?_; intro K hK; go_big_quiet_op; go_big_quiet_on) | (refine cP ?_; intro K hK; go_big_quiet_op; go_big_quiet_on))); refine cwk_nil ?_; clear hC hG; intro W hL; have hF := hL.fx) | (go_at_call 80; refine zG ?_; clear hF hL; intro W hL hF; (with_reducible refine (skip_nat src at_ [92, 10] r ln v b _ (by (exact hL.has _ List.mem_cons_self)) HX.out (by simp) hs (by omega) _ (by (simp; done))).mono ?_); rintro e W ⟨rfl, hb⟩; ((replace hL := hL.join1 0 rfl hb)); clear hb hF; simp only [List.eraseIdx_cons_zero, List.eraseIdx_cons_succ, List.cons_append, List.nil_append] at hL; have hF := hL.fx))
    rw [HLF.out] at hL
    go_end0
    exact ⟨rfl, at_ + 2, pv, LP, by omega, HE2.out, hP, hL⟩
   ·obtain ⟨u1, hu1⟩ : ∃ u, src.extract (at_ + 1) (at_ + 2) = u := ⟨_, rfl⟩
    have hul1 : u1.data.toList = [c1] := by rw [← hu1, ext_list, List.drop_take, d2]; simp
    have hus1 : u1.size = 1 := by rw [← szl, hul1]; rfl
    have HUL := Lib.hid hul1
    have hlf : lf [92, c1] = 0 := by simp [lf, List.count_cons, h10]
    have HLF := Lib.hid hlf
    have f10 : ((c1.toNat : Int) == 10) = false := beq_false_of_ne (fun h => h10 (UInt8.toNat_inj.1 (show c1.toNat = 10 by omega)))
    have hpm : piece ps 92 (c1 :: r) ln = .ok (addT ps [c1] true, r, ln) := by
     show (if c1 = 10 then _ else _) = _
     rw [if_neg h10]
    rw [hpm]
    clear hd d1 d2 hd0 hz hxx hc e1 e2 hul1 hlf hpm
    have hF := hL.fx
    go_enter Tryz.func102, Tryz.ntmps102
    go_wp2_with (first | ((with_reducible refine zS ?_); clear hL; intro W hL hF) | ((with_reducible refine at_region 0 ?_); refine zW [0, 1, 2, 3, 4, 5, 6, 7, 8, 9] [0, 1, 2, 3, 4, 5, 6, 7, 8, 9] [] [0, 1, 2, 4, 5, 6, 8, 9] ?_; clear hF hL; intro ι F hne hC hG; (repeat (first | (refine cF hC ?_; intro K hK; go_big_quiet_op; go_big_quiet_on) | (refine cP ?_; intro K hK; go_big_quiet_op; go_big_quiet_on))); refine cwk_nil ?_; clear hC hG; intro W hL; have hF := hL.fx) | ((with_reducible refine at_region 15 ?_); refine zW [0, 1, 2, 3, 4, 5, 6, 7, 8, 9, 10, 11] [0, 1, 2, 3, 4, 5, 6, 7, 8, 9, 10, 11] [] [0, 1, 2, 4, 5, 6, 7, 9, 10, 11] ?_; clear hF hL; intro ι F hne hC hG; (repeat (first | (refine cF hC ?_; intro K hK; go_big_quiet_op; go_big_quiet_on) | (refine cP ?_; intro K hK; go_big_quiet_op; go_big_quiet_on))); refine cwk_nil ?_; clear hC hG; intro W hL; have hF := hL.fx) | ((with_reducible refine at_region 18 ?_); refine zW [0, 1, 2, 3, 4, 5, 6, 7, 8, 9, 10, 11] [0, 1, 2, 3, 4, 5, 6, 7, 8, 9, 10, 11] [] [0, 1, 2, 4, 5, 6, 8, 9, 10, 11] ?_; clear hF hL; intro ι F hne hC hG; (repeat (first | (refine cF hC ?_; intro K hK; go_big_quiet_op; go_big_quiet_on) | (refine cP ?_; intro K hK; go_big_quiet_op; go_big_quiet_on))); refine cwk_nil ?_; clear hC hG; intro W hL; have hF := hL.fx) | ((with_reducible refine at_region 13 ?_); refine zW [0, 1, 2, 3, 4, 5, 6, 7, 8, 9, 10, 11, 12, 13, 14, 15, 16] [0, 1, 2, 3, 4, 5, 6, 7, 8, 9, 10, 11, 12, 13, 14, 15] [16] [0, 1, 2, 3, 5, 6, 7, 9, 10, 11, 12, 14, 15] ?_; clear hF hL; intro ι F hne hC hG; (repeat (first | (refine cS ?_) | (refine cF hC ?_; intro K hK; go_big_quiet_op; go_big_quiet_on) | (refine cP ?_; intro K hK; go_big_quiet_op; go_big_quiet_on) | (refine cC ?_; intro W hL; have hF := hL.fx; simp only [zA, Act.eval]; go_at_call 113; (with_reducible refine (text_is q pv _ LP ps (by (exact hL.self1q)) hP u1 true (by omega) (by rw [hus1]; omega)).mono ?_); rintro e W2 ⟨rfl, pv2, LP2, hP2, hb⟩; ((replace hL := hL.tail1 hb)); clear hb hF hP; have hP := hP2; clear hP2; have hF := hL.fx; refine zB ?_; clear hL hF hC hG; intro ι F hne hC hG; simp only [Act.put, zT]) | (refine cN ?_; intro W hL; have hF := hL.facts; go_wp2; refine zB2 ?_; clear hL hC hG; intro ι F hne hC hG))); refine cwk_nil ?_; clear hC hG; intro W hL; have hF := hL.fx) | (go_at_call 80; refine zG ?_; clear hF hL; intro W hL hF; (with_reducible refine (skip_nat src at_ [92, c1] r ln v b _ (by (exact hL.has _ List.mem_cons_self)) HX.out (by simp) hs (by omega) _ (by (simp; done))).mono ?_); rintro e W ⟨rfl, hb⟩; ((replace hL := hL.join1 0 rfl hb)); clear hb hF; simp only [List.eraseIdx_cons_zero, List.eraseIdx_cons_succ, List.cons_append, List.nil_append] at hL; have hF := hL.fx))
    rw [HLF.out] at hL
    rw [HUL.out] at hP
    go_end0
    exact ⟨rfl, at_ + 2, pv2, LP2, by omega, HE2.out, hP, hL⟩
 have f92 : ((c0.toNat : Int) == 92) = false := beq_false_of_ne (fun h => h92 (UInt8.toNat_inj.1 (show c0.toNat = 92 by omega)))
 have hxx : src.data.toList.drop at_ = [c0] ++ t := hd0
 have HX := Lib.hid hxx
 have HD2 := Lib.hid d2
 have hlf : lf [c0] = 0 := by
  have : c0 ≠ 10 := by rintro rfl; exact absurd hc (by decide)
  simp [lf, List.count_cons, this]
 have HLF := Lib.hid hlf
 have hcv := conv1 c0
 have hpm : piece ps c0 t ln = .ok (addT ps [c0] false, t, ln) := by unfold piece; rw [if_neg h39, if_neg h34, if_neg h92, if_neg h36]
 rw [hpm]
 clear hd d1 d2 hd0 hz hxx hc hlf hpm
 have hF := hL.fx
 go_enter Tryz.func102, Tryz.ntmps102
 go_wp2_with (first | ((with_reducible refine zS ?_); clear hL; intro W hL hF) | ((with_reducible refine at_region 0 ?_); refine zW [0, 1, 2, 3, 4, 5, 6, 7, 8, 9] [0, 1, 2, 3, 4, 5, 6, 7, 8, 9] [] [0, 1, 2, 4, 5, 6, 8, 9] ?_; clear hF hL; intro ι F hne hC hG; (repeat (first | (refine cF hC ?_; intro K hK; go_big_quiet_op; go_big_quiet_on) | (refine cP ?_; intro K hK; go_big_quiet_op; go_big_quiet_on))); refine cwk_nil ?_; clear hC hG; intro W hL; have hF := hL.fx) | (go_at_call 113; refine zG ?_; clear hF hL; intro W hL hF; replace hL := hL.drop1; clear hF; have hF := hL.fx; (with_reducible refine (text_is q pv _ LP ps (by (exact hL.self1q)) hP ⟨#[c0]⟩ false (by omega) (by rw [one_sz]; omega)).mono ?_); rintro e W2 ⟨rfl, pv2, LP2, hP2, hb⟩; ((replace hL := hL.tail1 hb)); clear hb hF hP; have hP := hP2; clear hP2; have hF := hL.fx) | (go_at_call 80; refine zG ?_; clear hF hL; intro W hL hF; (with_reducible refine (skip_nat src at_ [c0] t ln v b _ (by (exact hL.has _ List.mem_cons_self)) HX.out (by simp) hs (by omega) _ (by (simp; done))).mono ?_); rintro e W ⟨rfl, hb⟩; ((replace hL := hL.join1 0 rfl hb)); clear hb hF; simp only [List.eraseIdx_cons_zero, List.eraseIdx_cons_succ, List.cons_append, List.nil_append] at hL; have hF := hL.fx))
 rw [HLF.out] at hL
 go_end0
 exact ⟨rfl, at_ + 1, pv2, LP2, by omega, HD2.out, hP, hL⟩
end Go.Proofs.YtgboffbbpmileaaGreatDoor
set_option linter.unusedVariables false
set_option linter.unusedSimpArgs false
namespace Go.Proofs.YtgboffbbpmileaaGreatDoor
open Go Go.RowKit
theorem perm_cnt {α : Type} {L L' : List α} (h : ∀ p : α → Bool, L.countP p = L'.countP p) : L.Perm L' := by
 classical exact List.perm_iff_count.2 fun a => h (· == a)
theorem Kn.perm {X : List Nat} {w0 W : World} {L L' : List (Nat × Obj)} (h : Kn X w0 W L) (hp : ∀ p : Nat × Obj → Bool, L.countP p = L'.countP p) : Kn X w0 W L' :=
 h.pick (fun p hm => (perm_cnt hp).mem_iff.2 hm) (((perm_cnt hp).map (·.1)).nodup_iff.1 h.nd)
theorem kn_eq {X : List Nat} {w0 W : World} {L0 L : List (Nat × Obj)} [h : Kn X w0 W L0] (e : L0 = L) : Kn X w0 W L := e ▸ h
theorem Kn.selfbqR {X : List Nat} {w0 W : World} {b q : Nat} {o o' : Obj} {LP R : List (Nat × Obj)} (h : Kn X w0 W ((b, o) :: (q, o') :: (LP ++ R))) : Kn (b :: q :: keys LP) W W ((b, o) :: (q, o') :: LP) := Kn.self (P := (b, o) :: (q, o') :: LP) [] R h
theorem Kn.joinbqR {X : List Nat} {w0 W W' : World} {b q : Nat} {o o' : Obj} {LP R L' : List (Nat × Obj)} (h : Kn X w0 W ((b, o) :: (q, o') :: (LP ++ R))) (k : Kn (b :: q :: keys LP) W W' L') : Kn X w0 W' (L' ++ R) := Kn.joinA (P := (b, o) :: (q, o') :: LP) [] R h k
theorem OutL.full {LO : List (Nat × Obj)} {v : Value} {tvs : List (Tok × Value)} (h : OutL LO v tvs) : v.oneCell' = true := by
 rcases h with ⟨_, rfl, _⟩ | ⟨g, cap, cur, _, rfl, _⟩ <;> rfl
theorem tkv_bs (kd : Nat) (tx p : ByteArray) (pv : Value) (ps : List Prt) (fd : Int) (n : Nat) : tkv (⟨kd, tx.data.toList, p.data.toList, ps, fd, n⟩, pv) = .agg #[.int .i64 kd, .string tx, .string p, pv, .int .i64 fd, .int .i64 n] := by
 unfold tkv tkc
 simp [bs]
theorem add_any (src : ByteArray) (hs0 : src.size ≤ 10000) (v : Value) (b : Nat) (at_ ln : Nat) (w : World) (LO : List (Nat × Obj)) (tvs : List (Tok × Value)) (hL : Kn (b :: keys LO) w w ((b, .cells #[.string src, .int .i64 (at_), .int .i64 (ln), v] 111 (0, 0)) :: LO)) (hO : OutL LO v tvs) (hln : ln ≤ 100000) (kd : Nat) (tx p : ByteArray) (pv : Value) (hpv : pv.oneCell' = true) (ps : List Prt) (fd : Int) (n : Nat) (k l : Int) (hk : k = kd) (hl : l = n) (hf : tvs.length < 2000) :
  Calls Tryz.prog 100 #[.pointer (some ⟨b, 0, none⟩), .agg #[.int .i64 k, .string tx, .string p, pv, .int .i64 fd, .int .i64 l]] w fun e w' => e = .returned (.tuple #[]) ∧ ∃ v' LO', OutL LO' v' (tvs ++ [(⟨kd, tx.data.toList, p.data.toList, ps, fd, n⟩, pv)]) ∧ Kn (b :: keys LO) w w' ((b, .cells #[.string src, .int .i64 (at_), .int .i64 (ln), v'] 111 (0, 0)) :: LO') := by
 subst hk; subst hl
 rw [← tkv_bs kd tx p pv ps fd n]
 exact add_ok src at_ ln v b w LO tvs hL hO (⟨kd, tx.data.toList, p.data.toList, ps, fd, n⟩, pv) hpv hf
theorem add_not (src : ByteArray) (hs0 : src.size ≤ 10000) (v : Value) (b : Nat) (at_ ln : Nat) (w : World) (LO : List (Nat × Obj)) (tvs : List (Tok × Value)) (hL : Kn (b :: keys LO) w w ((b, .cells #[.string src, .int .i64 (at_), .int .i64 (ln), v] 111 (0, 0)) :: LO)) (hO : OutL LO v tvs) (hln : ln ≤ 100000) (kd : Nat) (tx p : ByteArray) (pv : Value) (fd : Int) (n : Nat) (k l : Int) (hk : k = kd) (hl : l = n) (hf : ¬ tvs.length < 2000) :
  Calls Tryz.prog 100 #[.pointer (some ⟨b, 0, none⟩), .agg #[.int .i64 k, .string tx, .string p, pv, .int .i64 fd, .int .i64 l]] w fun e w' => e = .panicked [{ v := .iface 107 (.agg #[.int .i64 6, .int .i64 n]), recovered := false }] ∧ Kn (b :: keys LO) w w' [] := by
 subst hk; subst hl
 rw [← tkv_bs kd tx p pv [] fd n]
 exact add_full src at_ ln v b w LO tvs hL hO (⟨kd, tx.data.toList, p.data.toList, [], fd, n⟩, pv) (by omega)
end Go.Proofs.YtgboffbbpmileaaGreatDoor
set_option maxRecDepth 20000
set_option maxHeartbeats 4000000
set_option linter.unusedVariables false
set_option linter.unusedSimpArgs false
namespace Go.Proofs.YtgboffbbpmileaaGreatDoor
open Go Go.RowKit
/-- A token without parts has been added, unless there are too many. -/
def OPost (src : ByteArray) (b : Nat) (X : List Nat) (w : World) (tvs : List (Tok × Value)) (t : Tok) (at2 ln2 : Nat) (e : Ending) (w' : World) : Prop :=
 if tvs.length < 2000 then e = .returned (.tuple #[]) ∧ ∃ v2 LO2 pv, pv = Value.slice none 0 0 ∧ OutL LO2 v2 (tvs ++ [(t, pv)]) ∧ Kn X w w' ((b, .cells #[.string src, .int .i64 (at2), .int .i64 (ln2), v2] 111 (0, 0)) :: LO2)
 else e = .panicked [{ v := .iface 107 (.agg #[.int .i64 6, .int .i64 t.line]), recovered := false }] ∧ Kn X w w' []
theorem one_line (src : ByteArray) (hs0 : src.size ≤ 10000) (v : Value) (b : Nat) (at_ ln : Nat) (w : World) (LO : List (Nat × Obj)) (tvs : List (Tok × Value)) (hL : Kn (b :: keys LO) w w ((b, .cells #[.string src, .int .i64 (at_), .int .i64 (ln), v] 111 (0, 0)) :: LO)) (hO : OutL LO v tvs) (hln : ln ≤ 100000)  (x r : Bytes) (hx : src.data.toList.drop at_ = x ++ r) (hne : x ≠ []) (m : Int) (hm : m = x.length) (fd : Int) (n : Nat) (l : Int) (hl : l = n) :
  Calls Tryz.prog 82 #[.pointer (some ⟨b, 0, none⟩), .int .i64 3, .int .i64 m, .int .i64 fd, .int .i64 l] w (OPost src b (b :: keys LO) w tvs ⟨3, [], [], [], fd, n⟩ (at_ + x.length) (ln + lf x)) := by
 have hsl := szl src
 have hs : src.size ≤ 100000 := by omega
 obtain ⟨hc1, hc2, hc3⟩ := cut_x hx
 have hc4 := hc3 hne
 rw [hsl] at hc4
 
 subst hl; subst hm
 have HX := Lib.hid hx
 have HNE := Lib.hid hne
 
 
 obtain ⟨u, hu⟩ : ∃ u, src.extract at_ (at_ + x.length) = u := ⟨_, rfl⟩
 have hul : u.data.toList = x := by rw [← hu, ext_list, hc1]
 have HU := Lib.hid hul
 have hlx : 0 < x.length := List.length_pos_iff.2 hne
 have w2 : IntKind.i64.wrap ((at_ : Int) + x.length) = (at_ : Int) + x.length := by rw [IntWalk.i64_in _ (by omega)]
 have w4 : ((at_ : Int) + x.length).toNat = at_ + x.length := by omega
 have w6 : 0 ≤ (at_ : Int) + x.length := by omega
 have w7 : (at_ : Int) ≤ (at_ : Int) + x.length := by omega
 have w8 : (at_ : Int) + x.length ≤ src.size := by omega
 unfold OPost
 clear hx hne hc1 hc2 hul
 by_cases hf : tvs.length < 2000
 ·simp only [if_pos hf]
  have hF := hL.fx
  go_enter Tryz.func82, Tryz.ntmps82
  go_wp2_with (first | ((with_reducible refine zS ?_); clear hL; intro W hL hF) | (go_at_call 100; refine zG ?_; clear hF hL; intro W hL hF; (with_reducible refine (add_any src hs0 v b at_ ln _ LO tvs (by (exact hL.self1q)) hO hln 3 ⟨#[]⟩ ⟨#[]⟩ (.slice none 0 0) rfl [] fd n _ _ (by omega) (by omega) hf).mono ?_); rintro e W2 ⟨rfl, v2, LO2, hO2, hb⟩; ((replace hL := hL.tail1 hb)); clear hb hF; have hF := hL.fx) | (go_at_call 80; refine zG ?_; clear hF hL; intro W hL hF; (with_reducible refine (skip_nat src at_ x r ln v2 b _ (by (exact hL.has _ (List.mem_cons_of_mem _ List.mem_cons_self))) HX.out HNE.out hs (by omega) _ (by (simp; done))).mono ?_); rintro e W ⟨rfl, hb⟩; ((replace hL := hL.join1 1 rfl hb)); clear hb hF; simp only [List.eraseIdx_cons_zero, List.eraseIdx_cons_succ, List.cons_append, List.nil_append] at hL; have hF := hL.fx))
  go_end0
  refine ⟨rfl, v2, LO2, .slice none 0 0, rfl, ?_, ?_⟩
  ·exact hO2
  ·exact hL.pick (by simp; grind) (by have := hL.nd; simp at this ⊢; grind)
 ·simp only [if_neg hf]
  have hF := hL.fx
  go_enter Tryz.func82, Tryz.ntmps82
  go_wp2_with (first | ((with_reducible refine zS ?_); clear hL; intro W hL hF) | (go_at_call 100; refine zG ?_; clear hF hL; intro W hL hF; (with_reducible refine (add_not src hs0 v b at_ ln _ LO tvs (by (exact hL.self1q)) hO hln 3 ⟨#[]⟩ ⟨#[]⟩ (.slice none 0 0) fd n _ _ (by omega) (by omega) hf).mono ?_); rintro e W2 ⟨rfl, hb⟩; ((replace hL := hL.tail1 hb)); clear hb hF; have hF := hL.fx))
  exact ⟨rfl, rfl, hL.sub (List.nil_sublist _)⟩
theorem one_text (src : ByteArray) (hs0 : src.size ≤ 10000) (v : Value) (b : Nat) (at_ ln : Nat) (w : World) (LO : List (Nat × Obj)) (tvs : List (Tok × Value)) (hL : Kn (b :: keys LO) w w ((b, .cells #[.string src, .int .i64 (at_), .int .i64 (ln), v] 111 (0, 0)) :: LO)) (hO : OutL LO v tvs) (hln : ln ≤ 100000) (kd : Nat) (k : Int) (hk : k = kd) (h3 : kd ≠ 3) (x r : Bytes) (hx : src.data.toList.drop at_ = x ++ r) (hne : x ≠ []) (m : Int) (hm : m = x.length) (fd : Int) (n : Nat) (l : Int) (hl : l = n) :
  Calls Tryz.prog 82 #[.pointer (some ⟨b, 0, none⟩), .int .i64 k, .int .i64 m, .int .i64 fd, .int .i64 l] w (OPost src b (b :: keys LO) w tvs ⟨kd, x, [], [], fd, n⟩ (at_ + x.length) (ln + lf x)) := by
 have hsl := szl src
 have hs : src.size ≤ 100000 := by omega
 obtain ⟨hc1, hc2, hc3⟩ := cut_x hx
 have hc4 := hc3 hne
 rw [hsl] at hc4
 subst hk
 subst hl; subst hm
 have HX := Lib.hid hx
 have HNE := Lib.hid hne
 have q0 : ((kd : Int) == 3) = false := beq_false_of_ne (by omega)
 have q1 : ((kd : Int) != 3) = true := by rw [bne, q0]; rfl
 obtain ⟨u, hu⟩ : ∃ u, src.extract at_ (at_ + x.length) = u := ⟨_, rfl⟩
 have hul : u.data.toList = x := by rw [← hu, ext_list, hc1]
 have HU := Lib.hid hul
 have hlx : 0 < x.length := List.length_pos_iff.2 hne
 have w2 : IntKind.i64.wrap ((at_ : Int) + x.length) = (at_ : Int) + x.length := by rw [IntWalk.i64_in _ (by omega)]
 have w4 : ((at_ : Int) + x.length).toNat = at_ + x.length := by omega
 have w6 : 0 ≤ (at_ : Int) + x.length := by omega
 have w7 : (at_ : Int) ≤ (at_ : Int) + x.length := by omega
 have w8 : (at_ : Int) + x.length ≤ src.size := by omega
 unfold OPost
 clear hx hne hc1 hc2 hul
 by_cases hf : tvs.length < 2000
 ·simp only [if_pos hf]
  have hF := hL.fx
  go_enter Tryz.func82, Tryz.ntmps82
  go_wp2_with (first | ((with_reducible refine zS ?_); clear hL; intro W hL hF) | ((with_reducible refine at_region 2 ?_); refine zW [0, 1, 2, 3, 4, 5, 6, 7, 8, 9, 10, 11, 12, 13, 14, 15, 16] [0, 1, 2, 3, 4, 5, 6, 7, 8, 9, 10, 11, 12, 13, 14, 15] [16] [0, 1, 2, 4, 5, 6, 8, 9, 10, 12, 13, 14, 15] ?_; clear hF hL; intro ι F hne hC hG; (repeat (first | (refine cF hC ?_; intro K hK; go_big_quiet_op; go_big_quiet_on) | (refine cP ?_; intro K hK; go_big_quiet_op; go_big_quiet_on) | (refine cN ?_; intro W hL; have hF := hL.fx; go_wp2; refine zB2 ?_; clear hL hF hC hG; intro ι F hne hC hG))); refine cwk_nil ?_; clear hC hG; intro W hL; simp only [kfb] at hL; have hF := hL.fx) | (go_at_call 100; refine zG ?_; clear hF hL; intro W hL hF; (with_reducible refine (add_any src hs0 v b at_ ln _ LO tvs (by (exact hL.self1q)) hO hln kd u ⟨#[]⟩ (.slice none 0 0) rfl [] fd n _ _ (by omega) (by omega) hf).mono ?_); rintro e W2 ⟨rfl, v2, LO2, hO2, hb⟩; ((replace hL := hL.tail1 hb)); clear hb hF; have hF := hL.fx) | (go_at_call 80; refine zG ?_; clear hF hL; intro W hL hF; (with_reducible refine (skip_nat src at_ x r ln v2 b _ (by (exact hL.has _ (List.mem_cons_of_mem _ List.mem_cons_self))) HX.out HNE.out hs (by omega) _ (by (simp; done))).mono ?_); rintro e W ⟨rfl, hb⟩; ((replace hL := hL.join1 1 rfl hb)); clear hb hF; simp only [List.eraseIdx_cons_zero, List.eraseIdx_cons_succ, List.cons_append, List.nil_append] at hL; have hF := hL.fx))
  go_end0
  refine ⟨rfl, v2, LO2, .slice none 0 0, rfl, ?_, ?_⟩
  ·rw [← HU.out]; exact hO2
  ·exact hL.pick (by simp; grind) (by have := hL.nd; simp at this ⊢; grind)
 ·simp only [if_neg hf]
  have hF := hL.fx
  go_enter Tryz.func82, Tryz.ntmps82
  go_wp2_with (first | ((with_reducible refine zS ?_); clear hL; intro W hL hF) | ((with_reducible refine at_region 2 ?_); refine zW [0, 1, 2, 3, 4, 5, 6, 7, 8, 9, 10, 11, 12, 13, 14, 15, 16] [0, 1, 2, 3, 4, 5, 6, 7, 8, 9, 10, 11, 12, 13, 14, 15] [16] [0, 1, 2, 4, 5, 6, 8, 9, 10, 12, 13, 14, 15] ?_; clear hF hL; intro ι F hne hC hG; (repeat (first | (refine cF hC ?_; intro K hK; go_big_quiet_op; go_big_quiet_on) | (refine cP ?_; intro K hK; go_big_quiet_op; go_big_quiet_on) | (refine cN ?_; intro W hL; have hF := hL.fx; go_wp2; refine zB2 ?_; clear hL hF hC hG; intro ι F hne hC hG))); refine cwk_nil ?_; clear hC hG; intro W hL; simp only [kfb] at hL; have hF := hL.fx) | (go_at_call 100; refine zG ?_; clear hF hL; intro W hL hF; (with_reducible refine (add_not src hs0 v b at_ ln _ LO tvs (by (exact hL.self1q)) hO hln kd u ⟨#[]⟩ (.slice none 0 0) fd n _ _ (by omega) (by omega) hf).mono ?_); rintro e W2 ⟨rfl, hb⟩; ((replace hL := hL.tail1 hb)); clear hb hF; have hF := hL.fx))
  exact ⟨rfl, rfl, hL.sub (List.nil_sublist _)⟩
end Go.Proofs.YtgboffbbpmileaaGreatDoor
set_option maxRecDepth 20000
set_option maxHeartbeats 4000000
set_option linter.unusedVariables false
set_option linter.unusedSimpArgs false
namespace Go.Proofs.YtgboffbbpmileaaGreatDoor
open Go Go.RowKit
def TPost (src : ByteArray) (b : Nat) (X : List Nat) (w : World) (v : Value) (LO : List (Nat × Obj)) (tvs : List (Tok × Value)) (s : Step) (e : Ending) (w' : World) : Prop := match s with
 | .skip r m => e = .returned (.tuple #[]) ∧ ∃ at2 : Nat, at2 ≤ src.size ∧ src.data.toList.drop at2 = r ∧ Kn X w w' ((b, .cells #[.string src, .int .i64 (at2), .int .i64 (m), v] 111 (0, 0)) :: LO)
 | .bad m => e = .panicked [{ v := .iface 107 (.agg #[.int .i64 27, .int .i64 m]), recovered := false }] ∧ Kn X w w' []
 | .tok t r m => if tvs.length < 2000 then e = .returned (.tuple #[]) ∧ ∃ (at2 : Nat) (v2 : Value) (LO2 : List (Nat × Obj)) (pv : Value) (LP : List (Nat × Obj)), at2 ≤ src.size ∧ src.data.toList.drop at2 = r ∧ OutL LO2 v2 (tvs ++ [(t, pv)]) ∧ PtL LP pv t.parts ∧ Kn X w w' ((b, .cells #[.string src, .int .i64 (at2), .int .i64 (m), v2] 111 (0, 0)) :: (LO2 ++ LP))
   else e = .panicked [{ v := .iface 107 (.agg #[.int .i64 6, .int .i64 t.line]), recovered := false }] ∧ Kn X w w' []
theorem hp_take (l p : Bytes) : Lib.hasPrefix l p = decide (l.take p.length = p) := by
 unfold Lib.hasPrefix
 by_cases h : l.take p.length = p
 ·rw [decide_eq_true h, List.isPrefixOf_iff_prefix]
  exact ⟨l.drop p.length, by rw [← List.take_append_drop p.length l, h]; simp⟩
 ·rw [decide_eq_false h]
  cases hp : p.isPrefixOf l with
  | false => rfl
  | true =>
   rw [List.isPrefixOf_iff_prefix] at hp
   obtain ⟨x, rfl⟩ := hp
   simp at h
theorem io_is (src : ByteArray) (hs0 : src.size ≤ 10000) (v : Value) (b : Nat) (at_ ln : Nat) (w : World) (LO : List (Nat × Obj)) (tvs : List (Tok × Value)) (hL : Kn (b :: keys LO) w w ((b, .cells #[.string src, .int .i64 (at_), .int .i64 (ln), v] 111 (0, 0)) :: LO)) (hO : OutL LO v tvs) (hln : ln ≤ 100000) (l : Bytes) (hd : src.data.toList.drop at_ = l) (hc : l.head? = some 60 ∨ l.head? = some 62) (fd : Int) (n : Nat) :
  Calls Tryz.prog 84 #[.pointer (some ⟨b, 0, none⟩), .int .i64 fd, .int .i64 n] w (TPost src b (b :: keys LO) w v LO tvs (ioS l fd n ln)) := by
 have hsl := szl src
 have hs : src.size ≤ 100000 := by omega
 have hlt : at_ < src.size := by
  rcases Nat.lt_or_ge at_ src.size with h | h
  ·exact h
  ·rw [List.drop_eq_nil_of_le (by omega)] at hd
   subst hd; rcases hc with h | h <;> cases h
 have hll : l.length = src.size - at_ := by rw [← hd, List.length_drop, hsl]
 unfold ioS
 by_cases ha : l.take 2 = [62, 62]
 ·rw [if_pos (.inl ha)]
  have hA : Hid (Lib.hasPrefix (src.data.toList.drop at_) (⟨#[62, 62]⟩ : ByteArray).data.toList = true) := Lib.hid (by rw [hd, hp_take]; exact decide_eq_true ha)
  have hlk : (l.take 2).length = 2 := by rw [ha]; rfl
  have hlf0 : lf (l.take 2) = 0 := by rw [ha]; rfl
  clear ha hc hll
  have hne : l.take 2 ≠ [] := by intro h; have := congrArg List.length h; rw [hlk] at this; cases this
  have HNE := Lib.hid hne
  have hxx : src.data.toList.drop at_ = l.take 2 ++ l.drop 2 := by rw [List.take_append_drop]; exact hd
  have HX := Lib.hid hxx
  obtain ⟨hc1, hc2, hc3⟩ := cut_x hxx
  have hc4 := hc3 hne
  rw [hsl] at hc4
  have HC := Lib.hid hc2
  have hlf : lf (l.take 2) = 0 := hlf0
  have HLF := Lib.hid hlf
  have HLK := Lib.hid hlk
  clear hne hxx hc1 hc2 hc3 hlf hlf0 hlk hd
  unfold TPost
  by_cases hf : tvs.length < 2000
  ·simp only [if_pos hf]
   have hF := hL.fx
   go_enter Tryz.func84, Tryz.ntmps84
   go_wp2_with (first | ((with_reducible refine zS ?_); clear hL; intro W hL hF) | (go_at_call 83; refine zG ?_; clear hF hL; intro W hL hF; (((first | (with_reducible refine (rest_is src ⟨#[62, 62]⟩ at_ ln v b _ (by (exact hL.has _ List.mem_cons_self)) (by omega) hs true hA.out).mono ?_)))); rintro e W ⟨rfl, hb⟩; replace hL := hL.below hb; clear hb hF; have hF := hL.fx) | (go_at_call 82; refine zG ?_; clear hF hL; intro W hL hF; (with_reducible refine (one_text src hs0 v b at_ ln _ LO tvs (by (exact hL.self0q)) hO hln 2 2 rfl (by omega) (l.take 2) (l.drop 2) HX.out HNE.out _ (by rw [HLK.out]; (simp; done)) fd n _ (by (rfl))).mono ?_); rintro e W2 hb; (simp only [OPost, if_pos hf] at hb); obtain ⟨rfl, v2, LO2, pv2, rfl, hO2, hb⟩ := hb; ((replace hL := hL.tail0 hb)); clear hb hF; have hF := hL.fx))
   go_end0
   rw [HLF.out] at hL
   exact ⟨rfl, _, v2, LO2, .slice none 0 0, [], hc4, HC.out, hO2, .inl ⟨rfl, rfl, rfl⟩, by rw [List.append_nil]; exact hL⟩
  ·simp only [if_neg hf]
   have hF := hL.fx
   go_enter Tryz.func84, Tryz.ntmps84
   go_wp2_with (first | ((with_reducible refine zS ?_); clear hL; intro W hL hF) | (go_at_call 83; refine zG ?_; clear hF hL; intro W hL hF; (((first | (with_reducible refine (rest_is src ⟨#[62, 62]⟩ at_ ln v b _ (by (exact hL.has _ List.mem_cons_self)) (by omega) hs true hA.out).mono ?_)))); rintro e W ⟨rfl, hb⟩; replace hL := hL.below hb; clear hb hF; have hF := hL.fx) | (go_at_call 82; refine zG ?_; clear hF hL; intro W hL hF; (with_reducible refine (one_text src hs0 v b at_ ln _ LO tvs (by (exact hL.self0q)) hO hln 2 2 rfl (by omega) (l.take 2) (l.drop 2) HX.out HNE.out _ (by rw [HLK.out]; (simp; done)) fd n _ (by (rfl))).mono ?_); rintro e W2 hb; (simp only [OPost, if_neg hf] at hb); obtain ⟨rfl, hb⟩ := hb; ((replace hL := hL.tail0 hb)); clear hb hF; have hF := hL.fx))
   exact ⟨rfl, rfl, hL⟩
 have hA : Hid (Lib.hasPrefix (src.data.toList.drop at_) (⟨#[62, 62]⟩ : ByteArray).data.toList = false) := Lib.hid (by rw [hd, hp_take]; exact decide_eq_false ha)
 by_cases hb : l.take 2 = [62, 38]
 ·rw [if_pos (.inr hb)]
  have hB : Hid (Lib.hasPrefix (src.data.toList.drop at_) (⟨#[62, 38]⟩ : ByteArray).data.toList = true) := Lib.hid (by rw [hd, hp_take]; exact decide_eq_true hb)
  have hlk : (l.take 2).length = 2 := by rw [hb]; rfl
  have hlf0 : lf (l.take 2) = 0 := by rw [hb]; rfl
  clear ha hb hc hll
  have hne : l.take 2 ≠ [] := by intro h; have := congrArg List.length h; rw [hlk] at this; cases this
  have HNE := Lib.hid hne
  have hxx : src.data.toList.drop at_ = l.take 2 ++ l.drop 2 := by rw [List.take_append_drop]; exact hd
  have HX := Lib.hid hxx
  obtain ⟨hc1, hc2, hc3⟩ := cut_x hxx
  have hc4 := hc3 hne
  rw [hsl] at hc4
  have HC := Lib.hid hc2
  have hlf : lf (l.take 2) = 0 := hlf0
  have HLF := Lib.hid hlf
  have HLK := Lib.hid hlk
  clear hne hxx hc1 hc2 hc3 hlf hlf0 hlk hd
  unfold TPost
  by_cases hf : tvs.length < 2000
  ·simp only [if_pos hf]
   have hF := hL.fx
   go_enter Tryz.func84, Tryz.ntmps84
   go_wp2_with (first | ((with_reducible refine zS ?_); clear hL; intro W hL hF) | (go_at_call 83; refine zG ?_; clear hF hL; intro W hL hF; (((first | (with_reducible refine (rest_is src ⟨#[62, 62]⟩ at_ ln v b _ (by (exact hL.has _ List.mem_cons_self)) (by omega) hs false hA.out).mono ?_) | (with_reducible refine (rest_is src ⟨#[62, 38]⟩ at_ ln v b _ (by (exact hL.has _ List.mem_cons_self)) (by omega) hs true hB.out).mono ?_)))); rintro e W ⟨rfl, hb⟩; replace hL := hL.below hb; clear hb hF; have hF := hL.fx) | (go_at_call 82; refine zG ?_; clear hF hL; intro W hL hF; (with_reducible refine (one_text src hs0 v b at_ ln _ LO tvs (by (exact hL.self0q)) hO hln 2 2 rfl (by omega) (l.take 2) (l.drop 2) HX.out HNE.out _ (by rw [HLK.out]; (simp; done)) fd n _ (by (rfl))).mono ?_); rintro e W2 hb; (simp only [OPost, if_pos hf] at hb); obtain ⟨rfl, v2, LO2, pv2, rfl, hO2, hb⟩ := hb; ((replace hL := hL.tail0 hb)); clear hb hF; have hF := hL.fx))
   go_end0
   rw [HLF.out] at hL
   exact ⟨rfl, _, v2, LO2, .slice none 0 0, [], hc4, HC.out, hO2, .inl ⟨rfl, rfl, rfl⟩, by rw [List.append_nil]; exact hL⟩
  ·simp only [if_neg hf]
   have hF := hL.fx
   go_enter Tryz.func84, Tryz.ntmps84
   go_wp2_with (first | ((with_reducible refine zS ?_); clear hL; intro W hL hF) | (go_at_call 83; refine zG ?_; clear hF hL; intro W hL hF; (((first | (with_reducible refine (rest_is src ⟨#[62, 62]⟩ at_ ln v b _ (by (exact hL.has _ List.mem_cons_self)) (by omega) hs false hA.out).mono ?_) | (with_reducible refine (rest_is src ⟨#[62, 38]⟩ at_ ln v b _ (by (exact hL.has _ List.mem_cons_self)) (by omega) hs true hB.out).mono ?_)))); rintro e W ⟨rfl, hb⟩; replace hL := hL.below hb; clear hb hF; have hF := hL.fx) | (go_at_call 82; refine zG ?_; clear hF hL; intro W hL hF; (with_reducible refine (one_text src hs0 v b at_ ln _ LO tvs (by (exact hL.self0q)) hO hln 2 2 rfl (by omega) (l.take 2) (l.drop 2) HX.out HNE.out _ (by rw [HLK.out]; (simp; done)) fd n _ (by (rfl))).mono ?_); rintro e W2 hb; (simp only [OPost, if_neg hf] at hb); obtain ⟨rfl, hb⟩ := hb; ((replace hL := hL.tail0 hb)); clear hb hF; have hF := hL.fx))
   exact ⟨rfl, rfl, hL⟩
 rw [if_neg (fun h => h.elim ha hb)]
 have hB : Hid (Lib.hasPrefix (src.data.toList.drop at_) (⟨#[62, 38]⟩ : ByteArray).data.toList = false) := Lib.hid (by rw [hd, hp_take]; exact decide_eq_false hb)
 have hlk : (l.take 1).length = 1 := by rw [List.length_take]; omega
 have hlf0 : lf (l.take 1) = 0 := by
  cases l with
  | nil => rfl
  | cons c t =>
   simp only [List.head?_cons, Option.some.injEq] at hc
   rcases hc with rfl | rfl <;> rfl
 clear ha hb hc hll
 have hne : l.take 1 ≠ [] := by intro h; have := congrArg List.length h; rw [hlk] at this; cases this
 have HNE := Lib.hid hne
 have hxx : src.data.toList.drop at_ = l.take 1 ++ l.drop 1 := by rw [List.take_append_drop]; exact hd
 have HX := Lib.hid hxx
 obtain ⟨hc1, hc2, hc3⟩ := cut_x hxx
 have hc4 := hc3 hne
 rw [hsl] at hc4
 have HC := Lib.hid hc2
 have hlf : lf (l.take 1) = 0 := hlf0
 have HLF := Lib.hid hlf
 have HLK := Lib.hid hlk
 clear hne hxx hc1 hc2 hc3 hlf hlf0 hlk hd
 unfold TPost
 by_cases hf : tvs.length < 2000
 ·simp only [if_pos hf]
  have hF := hL.fx
  go_enter Tryz.func84, Tryz.ntmps84
  go_wp2_with (first | ((with_reducible refine zS ?_); clear hL; intro W hL hF) | (go_at_call 83; refine zG ?_; clear hF hL; intro W hL hF; (((first | (with_reducible refine (rest_is src ⟨#[62, 62]⟩ at_ ln v b _ (by (exact hL.has _ List.mem_cons_self)) (by omega) hs false hA.out).mono ?_) | (with_reducible refine (rest_is src ⟨#[62, 38]⟩ at_ ln v b _ (by (exact hL.has _ List.mem_cons_self)) (by omega) hs false hB.out).mono ?_)))); rintro e W ⟨rfl, hb⟩; replace hL := hL.below hb; clear hb hF; have hF := hL.fx) | (go_at_call 82; refine zG ?_; clear hF hL; intro W hL hF; (with_reducible refine (one_text src hs0 v b at_ ln _ LO tvs (by (exact hL.self0q)) hO hln 2 2 rfl (by omega) (l.take 1) (l.drop 1) HX.out HNE.out _ (by rw [HLK.out]; (simp; done)) fd n _ (by (rfl))).mono ?_); rintro e W2 hb; (simp only [OPost, if_pos hf] at hb); obtain ⟨rfl, v2, LO2, pv2, rfl, hO2, hb⟩ := hb; ((replace hL := hL.tail0 hb)); clear hb hF; have hF := hL.fx))
  go_end0
  rw [HLF.out] at hL
  exact ⟨rfl, _, v2, LO2, .slice none 0 0, [], hc4, HC.out, hO2, .inl ⟨rfl, rfl, rfl⟩, by rw [List.append_nil]; exact hL⟩
 ·simp only [if_neg hf]
  have hF := hL.fx
  go_enter Tryz.func84, Tryz.ntmps84
  go_wp2_with (first | ((with_reducible refine zS ?_); clear hL; intro W hL hF) | (go_at_call 83; refine zG ?_; clear hF hL; intro W hL hF; (((first | (with_reducible refine (rest_is src ⟨#[62, 62]⟩ at_ ln v b _ (by (exact hL.has _ List.mem_cons_self)) (by omega) hs false hA.out).mono ?_) | (with_reducible refine (rest_is src ⟨#[62, 38]⟩ at_ ln v b _ (by (exact hL.has _ List.mem_cons_self)) (by omega) hs false hB.out).mono ?_)))); rintro e W ⟨rfl, hb⟩; replace hL := hL.below hb; clear hb hF; have hF := hL.fx) | (go_at_call 82; refine zG ?_; clear hF hL; intro W hL hF; (with_reducible refine (one_text src hs0 v b at_ ln _ LO tvs (by (exact hL.self0q)) hO hln 2 2 rfl (by omega) (l.take 1) (l.drop 1) HX.out HNE.out _ (by rw [HLK.out]; (simp; done)) fd n _ (by (rfl))).mono ?_); rintro e W2 hb; (simp only [OPost, if_neg hf] at hb); obtain ⟨rfl, hb⟩ := hb; ((replace hL := hL.tail0 hb)); clear hb hF; have hF := hL.fx))
  exact ⟨rfl, rfl, hL⟩
end Go.Proofs.YtgboffbbpmileaaGreatDoor
