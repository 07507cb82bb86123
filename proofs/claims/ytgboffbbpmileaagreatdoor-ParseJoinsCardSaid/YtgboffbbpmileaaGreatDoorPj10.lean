/- Lemmas and walks for the law of this seat (part 10). -/
import Derived.Test.YtgboffbbpmileaaGreatDoorPj9
import Derived.Test.YtgboffbbpmileaaGreatDoorProg
import Derived.WalkKit
import Derived.Handy
import Derived.Deep.Light
import Derived.WalkSmall
import Derived.StillTailTactics
import Derived.Lib.Hide
set_option maxRecDepth 20000
set_option maxHeartbeats 4000000
set_option linter.unusedVariables false
set_option linter.unusedSimpArgs false
namespace Go.Proofs.YtgboffbbpmileaaGreatDoor
open Go Go.RowKit
theorem TPost.lift0 {src : ByteArray} {b : Nat} {X : List Nat} {w W w' : World} {o : Obj} {v : Value} {LO : List (Nat × Obj)} {tvs : List (Tok × Value)} {s : Step} {e : Ending} (h : Kn X w W ((b, o) :: LO)) (k : TPost src b (b :: keys LO) W v LO tvs s e w') : TPost src b X w v LO tvs s e w' :=
 TPost.lift (A := []) h k
theorem conv2 (c : UInt8) (W : World) : (convert 119 9 (.slice (some ⟨W.heap.size, 0, none⟩) 2 2)).run Tryz.prog (W.alloc (.cells #[.int .u8 c.toNat, .int .u8 c.toNat] 5)) = .ok (.string ⟨#[c, c]⟩) (W.alloc (.cells #[.int .u8 c.toNat, .int .u8 c.toNat] 5)) :=
 conv_own (BOwn.new (Kn.refl [] W) [c, c] #[.int .u8 c.toNat, .int .u8 c.toNat] rfl 2 rfl (by simp)) ⟨#[c, c]⟩ rfl
theorem conv2n (c : UInt8) (n : Int) (h : (c.toNat : Int) = n) (W : World) : (convert 119 9 (.slice (some ⟨W.heap.size, 0, none⟩) 2 2)).run Tryz.prog (W.alloc (.cells #[.int .u8 n, .int .u8 n] 5)) = .ok (.string ⟨#[c, c]⟩) (W.alloc (.cells #[.int .u8 n, .int .u8 n] 5)) := by
 subst h; exact conv2 c W
theorem hp2c (c : UInt8) (t : Bytes) : Lib.hasPrefix (c :: t) [c, c] = decide (t.head? = some c) := by
 cases t with
 | nil => simp [Lib.hasPrefix, List.isPrefixOf]
 | cons a r =>
  simp only [Lib.hasPrefix, List.isPrefixOf, List.head?_cons, Option.some.injEq, Bool.and_true, beq_self_eq_true, Bool.true_and]
  by_cases h : a = c
  ·subst h; simp
  ·rw [decide_eq_false h, beq_false_of_ne (Ne.symm h)]
theorem token_ops (src : ByteArray) (hs0 : src.size ≤ 10000) (v : Value) (b : Nat) (at_ ln : Nat) (w : World) (LO : List (Nat × Obj)) (tvs : List (Tok × Value)) (hL : Kn (b :: keys LO) w w ((b, .cells #[.string src, .int .i64 (at_), .int .i64 (ln), v] 111 (0, 0)) :: LO)) (hO : OutL LO v tvs) (hln : ln ≤ 100000) (c0 : UInt8) (t : Bytes) (hd : src.data.toList.drop at_ = c0 :: t) (hc0 : c0 = 32 ∨ c0 = 9 ∨ c0 = 10 ∨ c0 = 40 ∨ c0 = 41 ∨ c0 = 124 ∨ c0 = 38 ∨ c0 = 59) :
  Calls Tryz.prog 48 #[.pointer (some ⟨b, 0, none⟩)] w (TPost src b (b :: keys LO) w v LO tvs (step c0 t ln)) := by
 have hsl := szl src
 have hs : src.size ≤ 100000 := by omega
 obtain ⟨d1, d2, d3⟩ := one_parts hd
 rw [hsl] at d3
 have hlt := d3
 have eb0 := byte_at d1 d3
 by_cases hc : c0 = 32
 ·subst hc
  have hst : step 32 t ln = .skip t (ln + 0) := by simp [step]
  rw [hst]
  have hxx : src.data.toList.drop at_ = [32] ++ t := hd
  have HX := Lib.hid hxx
  obtain ⟨hc1, hc2, hc3⟩ := cut_x hxx
  have hc4 := hc3 (by simp)
  rw [hsl] at hc4
  have HC := Lib.hid hc2
  have hlf : lf [32] = 0 := by rfl
  have HLF := Lib.hid hlf
  clear hxx hc1 hc2 hc3 hlf hst hd d1 d2 
  unfold TPost
  have hF := hL.fx
  go_enter Tryz.func48, Tryz.ntmps48
  go_wp2_with (first | ((with_reducible refine zS ?_); clear hL; intro W hL hF) | ((with_reducible refine at_region 0 ?_); refine zW [0, 1, 2, 3, 4, 5, 6, 7, 8, 9] [0, 1, 2, 3, 4, 5, 6, 7, 8, 9] [] [0, 1, 2, 4, 5, 6, 8, 9] ?_; clear hF hL; intro ι F hne hC hG; (repeat (first | (refine cF hC ?_; intro K hK; go_big_quiet_op; go_big_quiet_on) | (refine cP ?_; intro K hK; go_big_quiet_op; go_big_quiet_on))); refine cwk_nil ?_; clear hC hG; intro W hL; have hF := hL.fx) | (go_at_call 80; refine zG ?_; clear hF hL; intro W hL hF; (with_reducible refine (skip_nat src at_ [32] t ln v b _ (by (exact hL.has _ List.mem_cons_self)) HX.out (by simp) hs (by omega) _ (by (simp; done))).mono ?_); rintro e W ⟨rfl, hb⟩; ((replace hL := hL.join1 0 rfl hb)); clear hb hF; simp only [List.eraseIdx_cons_zero, List.eraseIdx_cons_succ, List.cons_append, List.nil_append] at hL; have hF := hL.fx))
  go_end0
  rw [HLF.out] at hL
  exact ⟨rfl, _, hc4, HC.out, hL⟩
 by_cases hc : c0 = 9
 ·subst hc
  have hst : step 9 t ln = .skip t (ln + 0) := by simp [step]
  rw [hst]
  have hxx : src.data.toList.drop at_ = [9] ++ t := hd
  have HX := Lib.hid hxx
  obtain ⟨hc1, hc2, hc3⟩ := cut_x hxx
  have hc4 := hc3 (by simp)
  rw [hsl] at hc4
  have HC := Lib.hid hc2
  have hlf : lf [9] = 0 := by rfl
  have HLF := Lib.hid hlf
  clear hxx hc1 hc2 hc3 hlf hst hd d1 d2 
  unfold TPost
  have hF := hL.fx
  go_enter Tryz.func48, Tryz.ntmps48
  go_wp2_with (first | ((with_reducible refine zS ?_); clear hL; intro W hL hF) | ((with_reducible refine at_region 0 ?_); refine zW [0, 1, 2, 3, 4, 5, 6, 7, 8, 9] [0, 1, 2, 3, 4, 5, 6, 7, 8, 9] [] [0, 1, 2, 4, 5, 6, 8, 9] ?_; clear hF hL; intro ι F hne hC hG; (repeat (first | (refine cF hC ?_; intro K hK; go_big_quiet_op; go_big_quiet_on) | (refine cP ?_; intro K hK; go_big_quiet_op; go_big_quiet_on))); refine cwk_nil ?_; clear hC hG; intro W hL; have hF := hL.fx) | (go_at_call 80; refine zG ?_; clear hF hL; intro W hL hF; (with_reducible refine (skip_nat src at_ [9] t ln v b _ (by (exact hL.has _ List.mem_cons_self)) HX.out (by simp) hs (by omega) _ (by (simp; done))).mono ?_); rintro e W ⟨rfl, hb⟩; ((replace hL := hL.join1 0 rfl hb)); clear hb hF; simp only [List.eraseIdx_cons_zero, List.eraseIdx_cons_succ, List.cons_append, List.nil_append] at hL; have hF := hL.fx))
  go_end0
  rw [HLF.out] at hL
  exact ⟨rfl, _, hc4, HC.out, hL⟩
 by_cases hc : c0 = 10
 ·subst hc
  have hst : step 10 t ln = .tok ⟨3, [], [], [], -1, ln⟩ t (ln + 1) := by simp [step]
  rw [hst]
  have hxx : src.data.toList.drop at_ = [10] ++ t := hd
  have HX := Lib.hid hxx
  obtain ⟨hc1, hc2, hc3⟩ := cut_x hxx
  have hc4 := hc3 (by simp)
  rw [hsl] at hc4
  have HC := Lib.hid hc2
  have hlf : lf [10] = 1 := by rfl
  have HLF := Lib.hid hlf
  clear hxx hc1 hc2 hc3 hlf hst hd d1 d2
  unfold TPost
  by_cases hf : tvs.length < 2000
  ·simp only [if_pos hf]
   have hF := hL.fx
   go_enter Tryz.func48, Tryz.ntmps48
   go_wp2_with (first | ((with_reducible refine zS ?_); clear hL; intro W hL hF) | ((with_reducible refine at_region 0 ?_); refine zW [0, 1, 2, 3, 4, 5, 6, 7, 8, 9] [0, 1, 2, 3, 4, 5, 6, 7, 8, 9] [] [0, 1, 2, 4, 5, 6, 8, 9] ?_; clear hF hL; intro ι F hne hC hG; (repeat (first | (refine cF hC ?_; intro K hK; go_big_quiet_op; go_big_quiet_on) | (refine cP ?_; intro K hK; go_big_quiet_op; go_big_quiet_on))); refine cwk_nil ?_; clear hC hG; intro W hL; have hF := hL.fx) | (go_at_call 82; refine zG ?_; clear hF hL; intro W hL hF; (with_reducible refine (one_line src hs0 v b at_ ln _ LO tvs (by (exact hL.self0q)) hO hln  [10] t HX.out (by simp) _ (by (simp; done)) (-1) ln _ (by (rfl))).mono ?_); rintro e W2 hb; (simp only [OPost, if_pos hf] at hb); obtain ⟨rfl, v2, LO2, pv2, rfl, hO2, hb⟩ := hb; ((replace hL := hL.tail0 hb)); clear hb hF; have hF := hL.fx))
   go_end0
   rw [HLF.out] at hL
   exact ⟨rfl, _, v2, LO2, .slice none 0 0, [], hc4, HC.out, hO2, .inl ⟨rfl, rfl, rfl⟩, by rw [List.append_nil]; exact hL⟩
  ·simp only [if_neg hf]
   have hF := hL.fx
   go_enter Tryz.func48, Tryz.ntmps48
   go_wp2_with (first | ((with_reducible refine zS ?_); clear hL; intro W hL hF) | ((with_reducible refine at_region 0 ?_); refine zW [0, 1, 2, 3, 4, 5, 6, 7, 8, 9] [0, 1, 2, 3, 4, 5, 6, 7, 8, 9] [] [0, 1, 2, 4, 5, 6, 8, 9] ?_; clear hF hL; intro ι F hne hC hG; (repeat (first | (refine cF hC ?_; intro K hK; go_big_quiet_op; go_big_quiet_on) | (refine cP ?_; intro K hK; go_big_quiet_op; go_big_quiet_on))); refine cwk_nil ?_; clear hC hG; intro W hL; have hF := hL.fx) | (go_at_call 82; refine zG ?_; clear hF hL; intro W hL hF; (with_reducible refine (one_line src hs0 v b at_ ln _ LO tvs (by (exact hL.self0q)) hO hln  [10] t HX.out (by simp) _ (by (simp; done)) (-1) ln _ (by (rfl))).mono ?_); rintro e W2 hb; (simp only [OPost, if_neg hf] at hb); obtain ⟨rfl, hb⟩ := hb; ((replace hL := hL.tail0 hb)); clear hb hF; have hF := hL.fx))
   exact ⟨rfl, rfl, hL.sub (List.nil_sublist _)⟩
 by_cases hc : c0 = 40
 ·subst hc
  have hst : step 40 t ln = .tok (opT [40] ln) t (ln + 0) := by simp [step]
  rw [hst]
  have hxx : src.data.toList.drop at_ = [40] ++ t := hd
  have HX := Lib.hid hxx
  obtain ⟨hc1, hc2, hc3⟩ := cut_x hxx
  have hc4 := hc3 (by simp)
  rw [hsl] at hc4
  have HC := Lib.hid hc2
  have hlf : lf [40] = 0 := by rfl
  have HLF := Lib.hid hlf
  clear hxx hc1 hc2 hc3 hlf hst hd d1 d2
  unfold TPost
  by_cases hf : tvs.length < 2000
  ·simp only [if_pos hf]
   have hF := hL.fx
   go_enter Tryz.func48, Tryz.ntmps48
   go_wp2_with (first | ((with_reducible refine zS ?_); clear hL; intro W hL hF) | ((with_reducible refine at_region 0 ?_); refine zW [0, 1, 2, 3, 4, 5, 6, 7, 8, 9] [0, 1, 2, 3, 4, 5, 6, 7, 8, 9] [] [0, 1, 2, 4, 5, 6, 8, 9] ?_; clear hF hL; intro ι F hne hC hG; (repeat (first | (refine cF hC ?_; intro K hK; go_big_quiet_op; go_big_quiet_on) | (refine cP ?_; intro K hK; go_big_quiet_op; go_big_quiet_on))); refine cwk_nil ?_; clear hC hG; intro W hL; have hF := hL.fx) | (go_at_call 82; refine zG ?_; clear hF hL; intro W hL hF; (with_reducible refine (one_text src hs0 v b at_ ln _ LO tvs (by (exact hL.self0q)) hO hln 1 1 rfl (by omega) [40] t HX.out (by simp) _ (by (simp; done)) (-1) ln _ (by (rfl))).mono ?_); rintro e W2 hb; (simp only [OPost, if_pos hf] at hb); obtain ⟨rfl, v2, LO2, pv2, rfl, hO2, hb⟩ := hb; ((replace hL := hL.tail0 hb)); clear hb hF; have hF := hL.fx))
   go_end0
   rw [HLF.out] at hL
   exact ⟨rfl, _, v2, LO2, .slice none 0 0, [], hc4, HC.out, hO2, .inl ⟨rfl, rfl, rfl⟩, by rw [List.append_nil]; exact hL⟩
  ·simp only [if_neg hf]
   have hF := hL.fx
   go_enter Tryz.func48, Tryz.ntmps48
   go_wp2_with (first | ((with_reducible refine zS ?_); clear hL; intro W hL hF) | ((with_reducible refine at_region 0 ?_); refine zW [0, 1, 2, 3, 4, 5, 6, 7, 8, 9] [0, 1, 2, 3, 4, 5, 6, 7, 8, 9] [] [0, 1, 2, 4, 5, 6, 8, 9] ?_; clear hF hL; intro ι F hne hC hG; (repeat (first | (refine cF hC ?_; intro K hK; go_big_quiet_op; go_big_quiet_on) | (refine cP ?_; intro K hK; go_big_quiet_op; go_big_quiet_on))); refine cwk_nil ?_; clear hC hG; intro W hL; have hF := hL.fx) | (go_at_call 82; refine zG ?_; clear hF hL; intro W hL hF; (with_reducible refine (one_text src hs0 v b at_ ln _ LO tvs (by (exact hL.self0q)) hO hln 1 1 rfl (by omega) [40] t HX.out (by simp) _ (by (simp; done)) (-1) ln _ (by (rfl))).mono ?_); rintro e W2 hb; (simp only [OPost, if_neg hf] at hb); obtain ⟨rfl, hb⟩ := hb; ((replace hL := hL.tail0 hb)); clear hb hF; have hF := hL.fx))
   exact ⟨rfl, rfl, hL.sub (List.nil_sublist _)⟩
 by_cases hc : c0 = 41
 ·subst hc
  have hst : step 41 t ln = .tok (opT [41] ln) t (ln + 0) := by simp [step]
  rw [hst]
  have hxx : src.data.toList.drop at_ = [41] ++ t := hd
  have HX := Lib.hid hxx
  obtain ⟨hc1, hc2, hc3⟩ := cut_x hxx
  have hc4 := hc3 (by simp)
  rw [hsl] at hc4
  have HC := Lib.hid hc2
  have hlf : lf [41] = 0 := by rfl
  have HLF := Lib.hid hlf
  clear hxx hc1 hc2 hc3 hlf hst hd d1 d2
  unfold TPost
  by_cases hf : tvs.length < 2000
  ·simp only [if_pos hf]
   have hF := hL.fx
   go_enter Tryz.func48, Tryz.ntmps48
   go_wp2_with (first | ((with_reducible refine zS ?_); clear hL; intro W hL hF) | ((with_reducible refine at_region 0 ?_); refine zW [0, 1, 2, 3, 4, 5, 6, 7, 8, 9] [0, 1, 2, 3, 4, 5, 6, 7, 8, 9] [] [0, 1, 2, 4, 5, 6, 8, 9] ?_; clear hF hL; intro ι F hne hC hG; (repeat (first | (refine cF hC ?_; intro K hK; go_big_quiet_op; go_big_quiet_on) | (refine cP ?_; intro K hK; go_big_quiet_op; go_big_quiet_on))); refine cwk_nil ?_; clear hC hG; intro W hL; have hF := hL.fx) | (go_at_call 82; refine zG ?_; clear hF hL; intro W hL hF; (with_reducible refine (one_text src hs0 v b at_ ln _ LO tvs (by (exact hL.self0q)) hO hln 1 1 rfl (by omega) [41] t HX.out (by simp) _ (by (simp; done)) (-1) ln _ (by (rfl))).mono ?_); rintro e W2 hb; (simp only [OPost, if_pos hf] at hb); obtain ⟨rfl, v2, LO2, pv2, rfl, hO2, hb⟩ := hb; ((replace hL := hL.tail0 hb)); clear hb hF; have hF := hL.fx))
   go_end0
   rw [HLF.out] at hL
   exact ⟨rfl, _, v2, LO2, .slice none 0 0, [], hc4, HC.out, hO2, .inl ⟨rfl, rfl, rfl⟩, by rw [List.append_nil]; exact hL⟩
  ·simp only [if_neg hf]
   have hF := hL.fx
   go_enter Tryz.func48, Tryz.ntmps48
   go_wp2_with (first | ((with_reducible refine zS ?_); clear hL; intro W hL hF) | ((with_reducible refine at_region 0 ?_); refine zW [0, 1, 2, 3, 4, 5, 6, 7, 8, 9] [0, 1, 2, 3, 4, 5, 6, 7, 8, 9] [] [0, 1, 2, 4, 5, 6, 8, 9] ?_; clear hF hL; intro ι F hne hC hG; (repeat (first | (refine cF hC ?_; intro K hK; go_big_quiet_op; go_big_quiet_on) | (refine cP ?_; intro K hK; go_big_quiet_op; go_big_quiet_on))); refine cwk_nil ?_; clear hC hG; intro W hL; have hF := hL.fx) | (go_at_call 82; refine zG ?_; clear hF hL; intro W hL hF; (with_reducible refine (one_text src hs0 v b at_ ln _ LO tvs (by (exact hL.self0q)) hO hln 1 1 rfl (by omega) [41] t HX.out (by simp) _ (by (simp; done)) (-1) ln _ (by (rfl))).mono ?_); rintro e W2 hb; (simp only [OPost, if_neg hf] at hb); obtain ⟨rfl, hb⟩ := hb; ((replace hL := hL.tail0 hb)); clear hb hF; have hF := hL.fx))
   exact ⟨rfl, rfl, hL.sub (List.nil_sublist _)⟩
 by_cases hc : c0 = 124
 ·subst hc
  have hcv := conv2n 124 124 rfl
  have hA0 : Lib.hasPrefix (src.data.toList.drop at_) (⟨#[124, 124]⟩ : ByteArray).data.toList = decide (t.head? = some 124) := by rw [hd]; exact hp2c 124 t
  by_cases hh : t.head? = some 124
  ·have hA := Lib.hid (hA0.trans (decide_eq_true hh))
   clear hA0
   have hst : step 124 t ln = .tok (opT [124, 124] ln) (t.drop 1) (ln + 0) := by simp [step, hh]
   rw [hst]
   have hxx : src.data.toList.drop at_ = [124, 124] ++ (t.drop 1) := by rw [hd]; cases t with | nil => cases hh | cons a r => simp at hh; subst hh; rfl
   have HX := Lib.hid hxx
   obtain ⟨hc1, hc2, hc3⟩ := cut_x hxx
   have hc4 := hc3 (by simp)
   rw [hsl] at hc4
   have HC := Lib.hid hc2
   have hlf : lf [124, 124] = 0 := by rfl
   have HLF := Lib.hid hlf
   clear hxx hc1 hc2 hc3 hlf hst hd d1 d2
   unfold TPost
   by_cases hf : tvs.length < 2000
   ·simp only [if_pos hf]
    have hF := hL.fx
    go_enter Tryz.func48, Tryz.ntmps48
    go_wp2_with (first | ((with_reducible refine zS ?_); clear hL; intro W hL hF) | ((with_reducible refine at_region 0 ?_); refine zW [0, 1, 2, 3, 4, 5, 6, 7, 8, 9] [0, 1, 2, 3, 4, 5, 6, 7, 8, 9] [] [0, 1, 2, 4, 5, 6, 8, 9] ?_; clear hF hL; intro ι F hne hC hG; (repeat (first | (refine cF hC ?_; intro K hK; go_big_quiet_op; go_big_quiet_on) | (refine cP ?_; intro K hK; go_big_quiet_op; go_big_quiet_on))); refine cwk_nil ?_; clear hC hG; intro W hL; have hF := hL.fx) | (go_at_call 83; refine zG ?_; clear hF hL; intro W hL hF; (((first | (with_reducible refine (rest_is src ⟨#[124, 124]⟩ at_ ln v b _ (by (exact hL.has _ (List.mem_cons_of_mem _ List.mem_cons_self))) (by omega) hs true hA.out).mono ?_)))); rintro e W ⟨rfl, hb⟩; replace hL := hL.below hb; clear hb hF; have hF := hL.fx) | (go_at_call 82; refine zG ?_; clear hF hL; intro W hL hF; (with_reducible refine (one_text src hs0 v b at_ ln _ LO tvs (by (exact hL.self1q)) hO hln 1 1 rfl (by omega) [124, 124] (t.drop 1) HX.out (by simp) _ (by (simp; done)) (-1) ln _ (by (rfl))).mono ?_); rintro e W2 hb; (simp only [OPost, if_pos hf] at hb); obtain ⟨rfl, v2, LO2, pv2, rfl, hO2, hb⟩ := hb; ((replace hL := hL.tail1 hb)); clear hb hF; have hF := hL.fx))
    go_end0
    rw [HLF.out] at hL
    exact ⟨rfl, _, v2, LO2, .slice none 0 0, [], hc4, HC.out, hO2, .inl ⟨rfl, rfl, rfl⟩, by rw [List.append_nil]; exact hL.drop1⟩
   ·simp only [if_neg hf]
    have hF := hL.fx
    go_enter Tryz.func48, Tryz.ntmps48
    go_wp2_with (first | ((with_reducible refine zS ?_); clear hL; intro W hL hF) | ((with_reducible refine at_region 0 ?_); refine zW [0, 1, 2, 3, 4, 5, 6, 7, 8, 9] [0, 1, 2, 3, 4, 5, 6, 7, 8, 9] [] [0, 1, 2, 4, 5, 6, 8, 9] ?_; clear hF hL; intro ι F hne hC hG; (repeat (first | (refine cF hC ?_; intro K hK; go_big_quiet_op; go_big_quiet_on) | (refine cP ?_; intro K hK; go_big_quiet_op; go_big_quiet_on))); refine cwk_nil ?_; clear hC hG; intro W hL; have hF := hL.fx) | (go_at_call 83; refine zG ?_; clear hF hL; intro W hL hF; (((first | (with_reducible refine (rest_is src ⟨#[124, 124]⟩ at_ ln v b _ (by (exact hL.has _ (List.mem_cons_of_mem _ List.mem_cons_self))) (by omega) hs true hA.out).mono ?_)))); rintro e W ⟨rfl, hb⟩; replace hL := hL.below hb; clear hb hF; have hF := hL.fx) | (go_at_call 82; refine zG ?_; clear hF hL; intro W hL hF; (with_reducible refine (one_text src hs0 v b at_ ln _ LO tvs (by (exact hL.self1q)) hO hln 1 1 rfl (by omega) [124, 124] (t.drop 1) HX.out (by simp) _ (by (simp; done)) (-1) ln _ (by (rfl))).mono ?_); rintro e W2 hb; (simp only [OPost, if_neg hf] at hb); obtain ⟨rfl, hb⟩ := hb; ((replace hL := hL.tail1 hb)); clear hb hF; have hF := hL.fx))
    exact ⟨rfl, rfl, hL.sub (List.nil_sublist _)⟩
  ·have hA := Lib.hid (hA0.trans (decide_eq_false hh))
   clear hA0
   have hst : step 124 t ln = .tok (opT [124] ln) t (ln + 0) := by simp [step, hh]
   rw [hst]
   have hxx : src.data.toList.drop at_ = [124] ++ t := hd
   have HX := Lib.hid hxx
   obtain ⟨hc1, hc2, hc3⟩ := cut_x hxx
   have hc4 := hc3 (by simp)
   rw [hsl] at hc4
   have HC := Lib.hid hc2
   have hlf : lf [124] = 0 := by rfl
   have HLF := Lib.hid hlf
   clear hxx hc1 hc2 hc3 hlf hst hd d1 d2
   unfold TPost
   by_cases hf : tvs.length < 2000
   ·simp only [if_pos hf]
    have hF := hL.fx
    go_enter Tryz.func48, Tryz.ntmps48
    go_wp2_with (first | ((with_reducible refine zS ?_); clear hL; intro W hL hF) | ((with_reducible refine at_region 0 ?_); refine zW [0, 1, 2, 3, 4, 5, 6, 7, 8, 9] [0, 1, 2, 3, 4, 5, 6, 7, 8, 9] [] [0, 1, 2, 4, 5, 6, 8, 9] ?_; clear hF hL; intro ι F hne hC hG; (repeat (first | (refine cF hC ?_; intro K hK; go_big_quiet_op; go_big_quiet_on) | (refine cP ?_; intro K hK; go_big_quiet_op; go_big_quiet_on))); refine cwk_nil ?_; clear hC hG; intro W hL; have hF := hL.fx) | (go_at_call 83; refine zG ?_; clear hF hL; intro W hL hF; (((first | (with_reducible refine (rest_is src ⟨#[124, 124]⟩ at_ ln v b _ (by (exact hL.has _ (List.mem_cons_of_mem _ List.mem_cons_self))) (by omega) hs false hA.out).mono ?_)))); rintro e W ⟨rfl, hb⟩; replace hL := hL.below hb; clear hb hF; have hF := hL.fx) | (go_at_call 82; refine zG ?_; clear hF hL; intro W hL hF; (with_reducible refine (one_text src hs0 v b at_ ln _ LO tvs (by (exact hL.self1q)) hO hln 1 1 rfl (by omega) [124] t HX.out (by simp) _ (by (simp; done)) (-1) ln _ (by (rfl))).mono ?_); rintro e W2 hb; (simp only [OPost, if_pos hf] at hb); obtain ⟨rfl, v2, LO2, pv2, rfl, hO2, hb⟩ := hb; ((replace hL := hL.tail1 hb)); clear hb hF; have hF := hL.fx))
    go_end0
    rw [HLF.out] at hL
    exact ⟨rfl, _, v2, LO2, .slice none 0 0, [], hc4, HC.out, hO2, .inl ⟨rfl, rfl, rfl⟩, by rw [List.append_nil]; exact hL.drop1⟩
   ·simp only [if_neg hf]
    have hF := hL.fx
    go_enter Tryz.func48, Tryz.ntmps48
    go_wp2_with (first | ((with_reducible refine zS ?_); clear hL; intro W hL hF) | ((with_reducible refine at_region 0 ?_); refine zW [0, 1, 2, 3, 4, 5, 6, 7, 8, 9] [0, 1, 2, 3, 4, 5, 6, 7, 8, 9] [] [0, 1, 2, 4, 5, 6, 8, 9] ?_; clear hF hL; intro ι F hne hC hG; (repeat (first | (refine cF hC ?_; intro K hK; go_big_quiet_op; go_big_quiet_on) | (refine cP ?_; intro K hK; go_big_quiet_op; go_big_quiet_on))); refine cwk_nil ?_; clear hC hG; intro W hL; have hF := hL.fx) | (go_at_call 83; refine zG ?_; clear hF hL; intro W hL hF; (((first | (with_reducible refine (rest_is src ⟨#[124, 124]⟩ at_ ln v b _ (by (exact hL.has _ (List.mem_cons_of_mem _ List.mem_cons_self))) (by omega) hs false hA.out).mono ?_)))); rintro e W ⟨rfl, hb⟩; replace hL := hL.below hb; clear hb hF; have hF := hL.fx) | (go_at_call 82; refine zG ?_; clear hF hL; intro W hL hF; (with_reducible refine (one_text src hs0 v b at_ ln _ LO tvs (by (exact hL.self1q)) hO hln 1 1 rfl (by omega) [124] t HX.out (by simp) _ (by (simp; done)) (-1) ln _ (by (rfl))).mono ?_); rintro e W2 hb; (simp only [OPost, if_neg hf] at hb); obtain ⟨rfl, hb⟩ := hb; ((replace hL := hL.tail1 hb)); clear hb hF; have hF := hL.fx))
    exact ⟨rfl, rfl, hL.sub (List.nil_sublist _)⟩
 by_cases hc : c0 = 38
 ·subst hc
  have hcv := conv2n 38 38 rfl
  have hA0 : Lib.hasPrefix (src.data.toList.drop at_) (⟨#[38, 38]⟩ : ByteArray).data.toList = decide (t.head? = some 38) := by rw [hd]; exact hp2c 38 t
  by_cases hh : t.head? = some 38
  ·have hA := Lib.hid (hA0.trans (decide_eq_true hh))
   clear hA0
   have hst : step 38 t ln = .tok (opT [38, 38] ln) (t.drop 1) (ln + 0) := by simp [step, hh]
   rw [hst]
   have hxx : src.data.toList.drop at_ = [38, 38] ++ (t.drop 1) := by rw [hd]; cases t with | nil => cases hh | cons a r => simp at hh; subst hh; rfl
   have HX := Lib.hid hxx
   obtain ⟨hc1, hc2, hc3⟩ := cut_x hxx
   have hc4 := hc3 (by simp)
   rw [hsl] at hc4
   have HC := Lib.hid hc2
   have hlf : lf [38, 38] = 0 := by rfl
   have HLF := Lib.hid hlf
   clear hxx hc1 hc2 hc3 hlf hst hd d1 d2
   unfold TPost
   by_cases hf : tvs.length < 2000
   ·simp only [if_pos hf]
    have hF := hL.fx
    go_enter Tryz.func48, Tryz.ntmps48
    go_wp2_with (first | ((with_reducible refine zS ?_); clear hL; intro W hL hF) | ((with_reducible refine at_region 0 ?_); refine zW [0, 1, 2, 3, 4, 5, 6, 7, 8, 9] [0, 1, 2, 3, 4, 5, 6, 7, 8, 9] [] [0, 1, 2, 4, 5, 6, 8, 9] ?_; clear hF hL; intro ι F hne hC hG; (repeat (first | (refine cF hC ?_; intro K hK; go_big_quiet_op; go_big_quiet_on) | (refine cP ?_; intro K hK; go_big_quiet_op; go_big_quiet_on))); refine cwk_nil ?_; clear hC hG; intro W hL; have hF := hL.fx) | (go_at_call 83; refine zG ?_; clear hF hL; intro W hL hF; (((first | (with_reducible refine (rest_is src ⟨#[38, 38]⟩ at_ ln v b _ (by (exact hL.has _ (List.mem_cons_of_mem _ List.mem_cons_self))) (by omega) hs true hA.out).mono ?_)))); rintro e W ⟨rfl, hb⟩; replace hL := hL.below hb; clear hb hF; have hF := hL.fx) | (go_at_call 82; refine zG ?_; clear hF hL; intro W hL hF; (with_reducible refine (one_text src hs0 v b at_ ln _ LO tvs (by (exact hL.self1q)) hO hln 1 1 rfl (by omega) [38, 38] (t.drop 1) HX.out (by simp) _ (by (simp; done)) (-1) ln _ (by (rfl))).mono ?_); rintro e W2 hb; (simp only [OPost, if_pos hf] at hb); obtain ⟨rfl, v2, LO2, pv2, rfl, hO2, hb⟩ := hb; ((replace hL := hL.tail1 hb)); clear hb hF; have hF := hL.fx))
    go_end0
    rw [HLF.out] at hL
    exact ⟨rfl, _, v2, LO2, .slice none 0 0, [], hc4, HC.out, hO2, .inl ⟨rfl, rfl, rfl⟩, by rw [List.append_nil]; exact hL.drop1⟩
   ·simp only [if_neg hf]
    have hF := hL.fx
    go_enter Tryz.func48, Tryz.ntmps48
    go_wp2_with (first | ((with_reducible refine zS ?_); clear hL; intro W hL hF) | ((with_reducible refine at_region 0 ?_); refine zW [0, 1, 2, 3, 4, 5, 6, 7, 8, 9] [0, 1, 2, 3, 4, 5, 6, 7, 8, 9] [] [0, 1, 2, 4, 5, 6, 8, 9] ?_; clear hF hL; intro ι F hne hC hG; (repeat (first | (refine cF hC ?_; intro K hK; go_big_quiet_op; go_big_quiet_on) | (refine cP ?_; intro K hK; go_big_quiet_op; go_big_quiet_on))); refine cwk_nil ?_; clear hC hG; intro W hL; have hF := hL.fx) | (go_at_call 83; refine zG ?_; clear hF hL; intro W hL hF; (((first | (with_reducible refine (rest_is src ⟨#[38, 38]⟩ at_ ln v b _ (by (exact hL.has _ (List.mem_cons_of_mem _ List.mem_cons_self))) (by omega) hs true hA.out).mono ?_)))); rintro e W ⟨rfl, hb⟩; replace hL := hL.below hb; clear hb hF; have hF := hL.fx) | (go_at_call 82; refine zG ?_; clear hF hL; intro W hL hF; (with_reducible refine (one_text src hs0 v b at_ ln _ LO tvs (by (exact hL.self1q)) hO hln 1 1 rfl (by omega) [38, 38] (t.drop 1) HX.out (by simp) _ (by (simp; done)) (-1) ln _ (by (rfl))).mono ?_); rintro e W2 hb; (simp only [OPost, if_neg hf] at hb); obtain ⟨rfl, hb⟩ := hb; ((replace hL := hL.tail1 hb)); clear hb hF; have hF := hL.fx))
    exact ⟨rfl, rfl, hL.sub (List.nil_sublist _)⟩
  ·have hA := Lib.hid (hA0.trans (decide_eq_false hh))
   clear hA0
   have hst : step 38 t ln = .tok (opT [38] ln) t (ln + 0) := by simp [step, hh]
   rw [hst]
   have hxx : src.data.toList.drop at_ = [38] ++ t := hd
   have HX := Lib.hid hxx
   obtain ⟨hc1, hc2, hc3⟩ := cut_x hxx
   have hc4 := hc3 (by simp)
   rw [hsl] at hc4
   have HC := Lib.hid hc2
   have hlf : lf [38] = 0 := by rfl
   have HLF := Lib.hid hlf
   clear hxx hc1 hc2 hc3 hlf hst hd d1 d2
   unfold TPost
   by_cases hf : tvs.length < 2000
   ·simp only [if_pos hf]
    have hF := hL.fx
    go_enter Tryz.func48, Tryz.ntmps48
    go_wp2_with (first | ((with_reducible refine zS ?_); clear hL; intro W hL hF) | ((with_reducible refine at_region 0 ?_); refine zW [0, 1, 2, 3, 4, 5, 6, 7, 8, 9] [0, 1, 2, 3, 4, 5, 6, 7, 8, 9] [] [0, 1, 2, 4, 5, 6, 8, 9] ?_; clear hF hL; intro ι F hne hC hG; (repeat (first | (refine cF hC ?_; intro K hK; go_big_quiet_op; go_big_quiet_on) | (refine cP ?_; intro K hK; go_big_quiet_op; go_big_quiet_on))); refine cwk_nil ?_; clear hC hG; intro W hL; have hF := hL.fx) | (go_at_call 83; refine zG ?_; clear hF hL; intro W hL hF; (((first | (with_reducible refine (rest_is src ⟨#[38, 38]⟩ at_ ln v b _ (by (exact hL.has _ (List.mem_cons_of_mem _ List.mem_cons_self))) (by omega) hs false hA.out).mono ?_)))); rintro e W ⟨rfl, hb⟩; replace hL := hL.below hb; clear hb hF; have hF := hL.fx) | (go_at_call 82; refine zG ?_; clear hF hL; intro W hL hF; (with_reducible refine (one_text src hs0 v b at_ ln _ LO tvs (by (exact hL.self1q)) hO hln 1 1 rfl (by omega) [38] t HX.out (by simp) _ (by (simp; done)) (-1) ln _ (by (rfl))).mono ?_); rintro e W2 hb; (simp only [OPost, if_pos hf] at hb); obtain ⟨rfl, v2, LO2, pv2, rfl, hO2, hb⟩ := hb; ((replace hL := hL.tail1 hb)); clear hb hF; have hF := hL.fx))
    go_end0
    rw [HLF.out] at hL
    exact ⟨rfl, _, v2, LO2, .slice none 0 0, [], hc4, HC.out, hO2, .inl ⟨rfl, rfl, rfl⟩, by rw [List.append_nil]; exact hL.drop1⟩
   ·simp only [if_neg hf]
    have hF := hL.fx
    go_enter Tryz.func48, Tryz.ntmps48
    go_wp2_with (first | ((with_reducible refine zS ?_); clear hL; intro W hL hF) | ((with_reducible refine at_region 0 ?_); refine zW [0, 1, 2, 3, 4, 5, 6, 7, 8, 9] [0, 1, 2, 3, 4, 5, 6, 7, 8, 9] [] [0, 1, 2, 4, 5, 6, 8, 9] ?_; clear hF hL; intro ι F hne hC hG; (repeat (first | (refine cF hC ?_; intro K hK; go_big_quiet_op; go_big_quiet_on) | (refine cP ?_; intro K hK; go_big_quiet_op; go_big_quiet_on))); refine cwk_nil ?_; clear hC hG; intro W hL; have hF := hL.fx) | (go_at_call 83; refine zG ?_; clear hF hL; intro W hL hF; (((first | (with_reducible refine (rest_is src ⟨#[38, 38]⟩ at_ ln v b _ (by (exact hL.has _ (List.mem_cons_of_mem _ List.mem_cons_self))) (by omega) hs false hA.out).mono ?_)))); rintro e W ⟨rfl, hb⟩; replace hL := hL.below hb; clear hb hF; have hF := hL.fx) | (go_at_call 82; refine zG ?_; clear hF hL; intro W hL hF; (with_reducible refine (one_text src hs0 v b at_ ln _ LO tvs (by (exact hL.self1q)) hO hln 1 1 rfl (by omega) [38] t HX.out (by simp) _ (by (simp; done)) (-1) ln _ (by (rfl))).mono ?_); rintro e W2 hb; (simp only [OPost, if_neg hf] at hb); obtain ⟨rfl, hb⟩ := hb; ((replace hL := hL.tail1 hb)); clear hb hF; have hF := hL.fx))
    exact ⟨rfl, rfl, hL.sub (List.nil_sublist _)⟩
 by_cases hc : c0 = 59
 ·subst hc
  have hcv := conv2n 59 59 rfl
  have hA0 : Lib.hasPrefix (src.data.toList.drop at_) (⟨#[59, 59]⟩ : ByteArray).data.toList = decide (t.head? = some 59) := by rw [hd]; exact hp2c 59 t
  by_cases hh : t.head? = some 59
  ·have hA := Lib.hid (hA0.trans (decide_eq_true hh))
   clear hA0
   have hst : step 59 t ln = .tok (opT [59, 59] ln) (t.drop 1) (ln + 0) := by simp [step, hh]
   rw [hst]
   have hxx : src.data.toList.drop at_ = [59, 59] ++ (t.drop 1) := by rw [hd]; cases t with | nil => cases hh | cons a r => simp at hh; subst hh; rfl
   have HX := Lib.hid hxx
   obtain ⟨hc1, hc2, hc3⟩ := cut_x hxx
   have hc4 := hc3 (by simp)
   rw [hsl] at hc4
   have HC := Lib.hid hc2
   have hlf : lf [59, 59] = 0 := by rfl
   have HLF := Lib.hid hlf
   clear hxx hc1 hc2 hc3 hlf hst hd d1 d2
   unfold TPost
   by_cases hf : tvs.length < 2000
   ·simp only [if_pos hf]
    have hF := hL.fx
    go_enter Tryz.func48, Tryz.ntmps48
    go_wp2_with (first | ((with_reducible refine zS ?_); clear hL; intro W hL hF) | ((with_reducible refine at_region 0 ?_); refine zW [0, 1, 2, 3, 4, 5, 6, 7, 8, 9] [0, 1, 2, 3, 4, 5, 6, 7, 8, 9] [] [0, 1, 2, 4, 5, 6, 8, 9] ?_; clear hF hL; intro ι F hne hC hG; (repeat (first | (refine cF hC ?_; intro K hK; go_big_quiet_op; go_big_quiet_on) | (refine cP ?_; intro K hK; go_big_quiet_op; go_big_quiet_on))); refine cwk_nil ?_; clear hC hG; intro W hL; have hF := hL.fx) | (go_at_call 83; refine zG ?_; clear hF hL; intro W hL hF; (((first | (with_reducible refine (rest_is src ⟨#[59, 59]⟩ at_ ln v b _ (by (exact hL.has _ (List.mem_cons_of_mem _ List.mem_cons_self))) (by omega) hs true hA.out).mono ?_)))); rintro e W ⟨rfl, hb⟩; replace hL := hL.below hb; clear hb hF; have hF := hL.fx) | (go_at_call 82; refine zG ?_; clear hF hL; intro W hL hF; (with_reducible refine (one_text src hs0 v b at_ ln _ LO tvs (by (exact hL.self1q)) hO hln 1 1 rfl (by omega) [59, 59] (t.drop 1) HX.out (by simp) _ (by (simp; done)) (-1) ln _ (by (rfl))).mono ?_); rintro e W2 hb; (simp only [OPost, if_pos hf] at hb); obtain ⟨rfl, v2, LO2, pv2, rfl, hO2, hb⟩ := hb; ((replace hL := hL.tail1 hb)); clear hb hF; have hF := hL.fx))
    go_end0
    rw [HLF.out] at hL
    exact ⟨rfl, _, v2, LO2, .slice none 0 0, [], hc4, HC.out, hO2, .inl ⟨rfl, rfl, rfl⟩, by rw [List.append_nil]; exact hL.drop1⟩
   ·simp only [if_neg hf]
    have hF := hL.fx
    go_enter Tryz.func48, Tryz.ntmps48
    go_wp2_with (first | ((with_reducible refine zS ?_); clear hL; intro W hL hF) | ((with_reducible refine at_region 0 ?_); refine zW [0, 1, 2, 3, 4, 5, 6, 7, 8, 9] [0, 1, 2, 3, 4, 5, 6, 7, 8, 9] [] [0, 1, 2, 4, 5, 6, 8, 9] ?_; clear hF hL; intro ι F hne hC hG; (repeat (first | (refine cF hC ?_; intro K hK; go_big_quiet_op; go_big_quiet_on) | (refine cP ?_; intro K hK; go_big_quiet_op; go_big_quiet_on))); refine cwk_nil ?_; clear hC hG; intro W hL; have hF := hL.fx) | (go_at_call 83; refine zG ?_; clear hF hL; intro W hL hF; (((first | (with_reducible refine (rest_is src ⟨#[59, 59]⟩ at_ ln v b _ (by (exact hL.has _ (List.mem_cons_of_mem _ List.mem_cons_self))) (by omega) hs true hA.out).mono ?_)))); rintro e W ⟨rfl, hb⟩; replace hL := hL.below hb; clear hb hF; have hF := hL.fx) | (go_at_call 82; refine zG ?_; clear hF hL; intro W hL hF; (with_reducible refine (one_text src hs0 v b at_ ln _ LO tvs (by (exact hL.self1q)) hO hln 1 1 rfl (by omega) [59, 59] (t.drop 1) HX.out (by simp) _ (by (simp; done)) (-1) ln _ (by (rfl))).mono ?_); rintro e W2 hb; (simp only [OPost, if_neg hf] at hb); obtain ⟨rfl, hb⟩ := hb; ((replace hL := hL.tail1 hb)); clear hb hF; have hF := hL.fx))
    exact ⟨rfl, rfl, hL.sub (List.nil_sublist _)⟩
  ·have hA := Lib.hid (hA0.trans (decide_eq_false hh))
   clear hA0
   have hst : step 59 t ln = .tok (opT [59] ln) t (ln + 0) := by simp [step, hh]
   rw [hst]
   have hxx : src.data.toList.drop at_ = [59] ++ t := hd
   have HX := Lib.hid hxx
   obtain ⟨hc1, hc2, hc3⟩ := cut_x hxx
   have hc4 := hc3 (by simp)
   rw [hsl] at hc4
   have HC := Lib.hid hc2
   have hlf : lf [59] = 0 := by rfl
   have HLF := Lib.hid hlf
   clear hxx hc1 hc2 hc3 hlf hst hd d1 d2
   unfold TPost
   by_cases hf : tvs.length < 2000
   ·simp only [if_pos hf]
    have hF := hL.fx
    go_enter Tryz.func48, Tryz.ntmps48
    go_wp2_with (first | ((with_reducible refine zS ?_); clear hL; intro W hL hF) | ((with_reducible refine at_region 0 ?_); refine zW [0, 1, 2, 3, 4, 5, 6, 7, 8, 9] [0, 1, 2, 3, 4, 5, 6, 7, 8, 9] [] [0, 1, 2, 4, 5, 6, 8, 9] ?_; clear hF hL; intro ι F hne hC hG; (repeat (first | (refine cF hC ?_; intro K hK; go_big_quiet_op; go_big_quiet_on) | (refine cP ?_; intro K hK; go_big_quiet_op; go_big_quiet_on))); refine cwk_nil ?_; clear hC hG; intro W hL; have hF := hL.fx) | (go_at_call 83; refine zG ?_; clear hF hL; intro W hL hF; (((first | (with_reducible refine (rest_is src ⟨#[59, 59]⟩ at_ ln v b _ (by (exact hL.has _ (List.mem_cons_of_mem _ List.mem_cons_self))) (by omega) hs false hA.out).mono ?_)))); rintro e W ⟨rfl, hb⟩; replace hL := hL.below hb; clear hb hF; have hF := hL.fx) | (go_at_call 82; refine zG ?_; clear hF hL; intro W hL hF; (with_reducible refine (one_text src hs0 v b at_ ln _ LO tvs (by (exact hL.self1q)) hO hln 1 1 rfl (by omega) [59] t HX.out (by simp) _ (by (simp; done)) (-1) ln _ (by (rfl))).mono ?_); rintro e W2 hb; (simp only [OPost, if_pos hf] at hb); obtain ⟨rfl, v2, LO2, pv2, rfl, hO2, hb⟩ := hb; ((replace hL := hL.tail1 hb)); clear hb hF; have hF := hL.fx))
    go_end0
    rw [HLF.out] at hL
    exact ⟨rfl, _, v2, LO2, .slice none 0 0, [], hc4, HC.out, hO2, .inl ⟨rfl, rfl, rfl⟩, by rw [List.append_nil]; exact hL.drop1⟩
   ·simp only [if_neg hf]
    have hF := hL.fx
    go_enter Tryz.func48, Tryz.ntmps48
    go_wp2_with (first | ((with_reducible refine zS ?_); clear hL; intro W hL hF) | ((with_reducible refine at_region 0 ?_); refine zW [0, 1, 2, 3, 4, 5, 6, 7, 8, 9] [0, 1, 2, 3, 4, 5, 6, 7, 8, 9] [] [0, 1, 2, 4, 5, 6, 8, 9] ?_; clear hF hL; intro ι F hne hC hG; (repeat (first | (refine cF hC ?_; intro K hK; go_big_quiet_op; go_big_quiet_on) | (refine cP ?_; intro K hK; go_big_quiet_op; go_big_quiet_on))); refine cwk_nil ?_; clear hC hG; intro W hL; have hF := hL.fx) | (go_at_call 83; refine zG ?_; clear hF hL; intro W hL hF; (((first | (with_reducible refine (rest_is src ⟨#[59, 59]⟩ at_ ln v b _ (by (exact hL.has _ (List.mem_cons_of_mem _ List.mem_cons_self))) (by omega) hs false hA.out).mono ?_)))); rintro e W ⟨rfl, hb⟩; replace hL := hL.below hb; clear hb hF; have hF := hL.fx) | (go_at_call 82; refine zG ?_; clear hF hL; intro W hL hF; (with_reducible refine (one_text src hs0 v b at_ ln _ LO tvs (by (exact hL.self1q)) hO hln 1 1 rfl (by omega) [59] t HX.out (by simp) _ (by (simp; done)) (-1) ln _ (by (rfl))).mono ?_); rintro e W2 hb; (simp only [OPost, if_neg hf] at hb); obtain ⟨rfl, hb⟩ := hb; ((replace hL := hL.tail1 hb)); clear hb hF; have hF := hL.fx))
    exact ⟨rfl, rfl, hL.sub (List.nil_sublist _)⟩
 simp_all
end Go.Proofs.YtgboffbbpmileaaGreatDoor
set_option maxRecDepth 20000
set_option maxHeartbeats 4000000
set_option linter.unusedVariables false
set_option linter.unusedSimpArgs false
namespace Go.Proofs.YtgboffbbpmileaaGreatDoor
open Go Go.RowKit
theorem drop_ne (a r : Bytes) (h : (10 : UInt8) ∉ a) : (a ++ 10 :: r).dropWhile (· != 10) = 10 :: r := by
 induction a with
 | nil => rfl
 | cons c t ih =>
  simp only [List.mem_cons, not_or] at h
  have hc : (c != 10) = true := by rw [bne_iff_ne]; exact Ne.symm h.1
  rw [List.cons_append, List.dropWhile_cons]
  simp only [hc, if_true]
  exact ih h.2
theorem lf_none (a : Bytes) (h : (10 : UInt8) ∉ a) : lf a = 0 := List.count_eq_zero.2 h
theorem brk_none_mem {c : UInt8} : ∀ {s : Bytes}, brk c s = none → c ∉ s
 | [], _ => by simp
 | d :: t, h => by
  rw [brk] at h
  split at h
  ·cases h
  ·rename_i hd
   cases hb : brk c t with
   | none =>
    intro hm
    rcases List.mem_cons.1 hm with e | e
    ·exact hd e.symm
    ·exact brk_none_mem hb e
   | some y => rw [hb] at h; cases h
theorem token_rest (src : ByteArray) (hs0 : src.size ≤ 10000) (v : Value) (b : Nat) (at_ ln : Nat) (w : World) (LO : List (Nat × Obj)) (tvs : List (Tok × Value)) (hL : Kn (b :: keys LO) w w ((b, .cells #[.string src, .int .i64 (at_), .int .i64 (ln), v] 111 (0, 0)) :: LO)) (hO : OutL LO v tvs) (hln : ln ≤ 100000) (hz : ln ≤ at_ + 1) (c0 : UInt8) (t : Bytes) (hd : src.data.toList.drop at_ = c0 :: t) (hc0 : ¬ (c0 = 32 ∨ c0 = 9 ∨ c0 = 10 ∨ c0 = 40 ∨ c0 = 41 ∨ c0 = 124 ∨ c0 = 38 ∨ c0 = 59)) :
  Calls Tryz.prog 48 #[.pointer (some ⟨b, 0, none⟩)] w (TPost src b (b :: keys LO) w v LO tvs (step c0 t ln)) := by
 have hsl := szl src
 have hs : src.size ≤ 100000 := by omega
 obtain ⟨d1, d2, d3⟩ := one_parts hd
 rw [hsl] at d3
 have hlt := d3
 have eb0 := byte_at d1 d3
 by_cases hc : c0 = 35
 ·subst hc
  obtain ⟨u, hu⟩ : ∃ u, src.extract at_ src.size = u := ⟨_, rfl⟩
  have hul : u.data.toList = 35 :: t := by rw [← hu, ext_list, List.take_of_length_le (by omega), hd]
  rcases brk_ix 10 (35 :: t) with ⟨hb1, hb2⟩ | ⟨a, r, hb1, hb2⟩
  ·have hI : Hid (∀ W, Calls Tryz.prog 81 #[.string u, .int .u8 10] W fun e w' => e = .returned (.int .i64 (-1)) ∧ w' = W) := Lib.hid fun W => Index_any u 10 (-1) (by rw [hul]; exact hb2) 10 rfl W
   have hm := brk_none_mem hb1
   have hm2 : (10 : UInt8) ∉ t := fun h => hm (List.mem_cons_of_mem _ h)
   have hdw : t.dropWhile (· != 10) = [] := drop_all _ _ fun c hc => by
    rw [bne_iff_ne]; rintro rfl; exact hm2 hc
   have htl : t.length + 1 = src.size - at_ := by
    have := congrArg List.length hd
    rw [List.length_drop, hsl] at this
    simp at this; omega
   have hk : (src.size : Int) - at_ = t.length + 1 := by omega
   have HKK := Lib.hid hk
   have w1 : IntKind.i64.wrap ((src.size : Int) - (at_ : Int)) = (src.size : Int) - (at_ : Int) := by rw [IntWalk.i64_in _ (by omega)]
   have hst : step 35 t ln = .skip [] (ln + 0) := by simp [step, hdw]
   rw [hst]
   have hxx : src.data.toList.drop at_ = (35 :: t) ++ [] := by rw [hd]; simp
   have HX := Lib.hid hxx
   obtain ⟨hc1, hc2, hc3⟩ := cut_x hxx
   have hc4 := hc3 (by simp)
   rw [hsl] at hc4
   have HC := Lib.hid hc2
   have hlf : lf (35 :: t) = 0 := lf_none _ hm
   have HLF := Lib.hid hlf
   clear hxx hc1 hc2 hc3 hlf hst hd d1 d2 hul hb1 hb2 hm hm2 hdw htl hk hz
   unfold TPost
   have hF := hL.fx
   go_enter Tryz.func48, Tryz.ntmps48
   go_wp2_with (first | ((with_reducible refine zS ?_); clear hL; intro W hL hF) | ((with_reducible refine at_region 0 ?_); refine zW [0, 1, 2, 3, 4, 5, 6, 7, 8, 9] [0, 1, 2, 3, 4, 5, 6, 7, 8, 9] [] [0, 1, 2, 4, 5, 6, 8, 9] ?_; clear hF hL; intro ι F hne hC hG; (repeat (first | (refine cF hC ?_; intro K hK; go_big_quiet_op; go_big_quiet_on) | (refine cP ?_; intro K hK; go_big_quiet_op; go_big_quiet_on))); refine cwk_nil ?_; clear hC hG; intro W hL; have hF := hL.fx) | ((with_reducible refine at_region 9 ?_); refine zW [0, 1, 2, 3, 4, 5, 6, 7, 8, 9, 10] [0, 1, 2, 3, 4, 5, 6, 7, 8, 10] [9] [0, 1, 2, 4, 5, 6, 8, 10] ?_; clear hF hL; intro ι F hne hC hG; (repeat (first | (refine cS ?_) | (refine cF hC ?_; intro K hK; go_big_quiet_op; go_big_quiet_on) | (refine cP ?_; intro K hK; go_big_quiet_op; go_big_quiet_on) | (refine cC ?_; intro W hL; have hF := hL.fx; simp only [zA, Act.eval]; go_at_call 81; (with_reducible refine (hI.out _).mono ?_); rintro e W' ⟨rfl, rfl⟩; refine zB ?_; clear hL hF hC hG; intro ι F hne hC hG; simp only [Act.put, zT]) | (refine cN ?_; intro W hL; have hF := hL.facts; go_wp2; refine zB2 ?_; clear hL hC hG; intro ι F hne hC hG))); refine cwk_nil ?_; clear hC hG; intro W hL; have hF := hL.fx) | ((with_reducible refine at_region 11 ?_); refine zW [0, 1, 2, 3, 4, 5, 6, 7, 8, 9, 10] [0, 1, 2, 3, 4, 5, 6, 7, 8, 9, 10] [] [0, 1, 2, 4, 5, 6, 7, 9, 10] ?_; clear hF hL; intro ι F hne hC hG; (repeat (first | (refine cF hC ?_; intro K hK; go_big_quiet_op; go_big_quiet_on) | (refine cP ?_; intro K hK; go_big_quiet_op; go_big_quiet_on))); refine cwk_nil ?_; clear hC hG; intro W hL; have hF := hL.fx) | (go_at_call 80; refine zG ?_; clear hF hL; intro W hL hF; (with_reducible refine (skip_nat src at_ (35 :: t) [] ln v b _ (by (exact hL.has _ List.mem_cons_self)) HX.out (by simp) hs (by omega) _ (by rw [HKK.out]; simp)).mono ?_); rintro e W ⟨rfl, hb⟩; ((replace hL := hL.join1 0 rfl hb)); clear hb hF; simp only [List.eraseIdx_cons_zero, List.eraseIdx_cons_succ, List.cons_append, List.nil_append] at hL; have hF := hL.fx))
   go_end0
   rw [HLF.out] at hL
   exact ⟨rfl, _, hc4, HC.out, hL⟩
  ·obtain ⟨hbt, hbm⟩ := brk_text hb1
   cases a with
   | nil => cases hbt
   | cons a0 a1 =>
    have h0 : a0 = 35 := by injection hbt with h1 h2; exact h1.symm
    subst h0
    have ht : t = a1 ++ 10 :: r := by injection hbt
    obtain ⟨n, hn⟩ : ∃ n, n = (35 :: a1 : Bytes).length := ⟨_, rfl⟩
    have hI : Hid (∀ W, Calls Tryz.prog 81 #[.string u, .int .u8 10] W fun e w' => e = .returned (.int .i64 (n : Int)) ∧ w' = W) := Lib.hid fun W => Index_any u 10 n (by rw [hul, hn]; exact hb2) 10 rfl W
    have hm2 : (10 : UInt8) ∉ a1 := fun h => hbm (List.mem_cons_of_mem _ h)
    have hdw : t.dropWhile (· != 10) = 10 :: r := by rw [ht]; exact drop_ne a1 r hm2
    have q0 : ¬ (n : Int) < 0 := by omega
    have HKK : Hid ((n : Int) = (35 :: a1 : Bytes).length) := Lib.hid (by rw [hn])
    have hst : step 35 t ln = .skip (10 :: r) (ln + 0) := by simp [step, hdw]
    rw [hst]
    have hxx : src.data.toList.drop at_ = (35 :: a1) ++ (10 :: r) := by rw [hd, ht]; rfl
    have HX := Lib.hid hxx
    obtain ⟨hc1, hc2, hc3⟩ := cut_x hxx
    have hc4 := hc3 (by simp)
    rw [hsl] at hc4
    have HC := Lib.hid hc2
    have hlf : lf (35 :: a1) = 0 := lf_none _ hbm
    have HLF := Lib.hid hlf
    clear hxx hc1 hc2 hc3 hlf hst hd d1 d2 hul hb1 hb2 hm2 hdw hz hbt hbm hn ht
    unfold TPost
    have hF := hL.fx
    go_enter Tryz.func48, Tryz.ntmps48
    go_wp2_with (first | ((with_reducible refine zS ?_); clear hL; intro W hL hF) | ((with_reducible refine at_region 0 ?_); refine zW [0, 1, 2, 3, 4, 5, 6, 7, 8, 9] [0, 1, 2, 3, 4, 5, 6, 7, 8, 9] [] [0, 1, 2, 4, 5, 6, 8, 9] ?_; clear hF hL; intro ι F hne hC hG; (repeat (first | (refine cF hC ?_; intro K hK; go_big_quiet_op; go_big_quiet_on) | (refine cP ?_; intro K hK; go_big_quiet_op; go_big_quiet_on))); refine cwk_nil ?_; clear hC hG; intro W hL; have hF := hL.fx) | ((with_reducible refine at_region 9 ?_); refine zW [0, 1, 2, 3, 4, 5, 6, 7, 8, 9, 10] [0, 1, 2, 3, 4, 5, 6, 7, 8, 10] [9] [0, 1, 2, 4, 5, 6, 8, 10] ?_; clear hF hL; intro ι F hne hC hG; (repeat (first | (refine cS ?_) | (refine cF hC ?_; intro K hK; go_big_quiet_op; go_big_quiet_on) | (refine cP ?_; intro K hK; go_big_quiet_op; go_big_quiet_on) | (refine cC ?_; intro W hL; have hF := hL.fx; simp only [zA, Act.eval]; go_at_call 81; (with_reducible refine (hI.out _).mono ?_); rintro e W' ⟨rfl, rfl⟩; refine zB ?_; clear hL hF hC hG; intro ι F hne hC hG; simp only [Act.put, zT]) | (refine cN ?_; intro W hL; have hF := hL.facts; go_wp2; refine zB2 ?_; clear hL hC hG; intro ι F hne hC hG))); refine cwk_nil ?_; clear hC hG; intro W hL; have hF := hL.fx) | ((with_reducible refine at_region 11 ?_); refine zW [0, 1, 2, 3, 4, 5, 6, 7, 8, 9, 10] [0, 1, 2, 3, 4, 5, 6, 7, 8, 9, 10] [] [0, 1, 2, 4, 5, 6, 7, 9, 10] ?_; clear hL; intro ι F hne hC hG; (repeat ((refine cS ?_))); refine cwk_nil ?_; clear hC hG; intro W hL; have hF := hL.facts) | (go_at_call 80; refine zG ?_; clear hF hL; intro W hL hF; (with_reducible refine (skip_nat src at_ (35 :: a1) (10 :: r) ln v b _ (by (exact hL.has _ List.mem_cons_self)) HX.out (by simp) hs (by omega) _ HKK.out).mono ?_); rintro e W ⟨rfl, hb⟩; ((replace hL := hL.join1 0 rfl hb)); clear hb hF; simp only [List.eraseIdx_cons_zero, List.eraseIdx_cons_succ, List.cons_append, List.nil_append] at hL; have hF := hL.fx))
    go_end0
    rw [HLF.out] at hL
    exact ⟨rfl, _, hc4, HC.out, hL⟩
 have f35 : ((c0.toNat : Int) == 35) = false := beq_false_of_ne (fun h => hc (UInt8.toNat_inj.1 (show c0.toNat = 35 by omega)))
 by_cases hc60 : c0 = 60 ∨ c0 = 62
 ·have hst : step c0 t ln = ioS (c0 :: t) (-1) ln ln := by rcases hc60 with rfl | rfl <;> simp [step]
  obtain ⟨tk, r2, m2, hio⟩ := ioS_tok (c0 :: t) (-1) ln ln
  rw [hst, hio]
  have HIO : Hid (∀ W, Kn (b :: keys LO) W W ((b, .cells #[.string src, .int .i64 (at_), .int .i64 (ln), v] 111 (0, 0)) :: LO) → Calls Tryz.prog 84 #[.pointer (some ⟨b, 0, none⟩), .int .i64 (-1), .int .i64 ln] W (TPost src b (b :: keys LO) W v LO tvs (.tok tk r2 m2))) := Lib.hid fun W hK => by
   have := io_is src hs0 v b at_ ln W LO tvs hK hO hln (c0 :: t) hd (by rcases hc60 with rfl | rfl <;> simp) (-1) ln
   rw [hio] at this; exact this
  have hcv : c0 = 60 ∨ c0 = 62 := hc60
  clear hst hio hd d1 d2 hc60 hc0 hc
  unfold TPost
  by_cases hf : tvs.length < 2000
  ·simp only [if_pos hf]
   rcases hcv with rfl | rfl
   ·have hF := hL.fx
    go_enter Tryz.func48, Tryz.ntmps48
    go_wp2_with (first | ((with_reducible refine at_region 0 ?_); refine zW [0, 1, 2, 3, 4, 5, 6, 7, 8, 9] [0, 1, 2, 3, 4, 5, 6, 7, 8, 9] [] [0, 1, 2, 4, 5, 6, 8, 9] ?_; clear hF hL; intro ι F hne hC hG; (repeat (first | (refine cF hC ?_; intro K hK; go_big_quiet_op; go_big_quiet_on) | (refine cP ?_; intro K hK; go_big_quiet_op; go_big_quiet_on))); refine cwk_nil ?_; clear hC hG; intro W hL; have hF := hL.fx) | (go_at_call 84; refine zG ?_; clear hF hL; intro W hL hF; (with_reducible refine (HIO.out _ hL.self0q).mono ?_); rintro e W2 hb; replace hb := TPost.lift0 hL hb; (simp only [TPost, if_pos hf] at hb); obtain ⟨rfl, hb⟩ := hb; clear hF))
    go_end0
    exact ⟨rfl, hb⟩
   ·have hF := hL.fx
    go_enter Tryz.func48, Tryz.ntmps48
    go_wp2_with (first | ((with_reducible refine at_region 0 ?_); refine zW [0, 1, 2, 3, 4, 5, 6, 7, 8, 9] [0, 1, 2, 3, 4, 5, 6, 7, 8, 9] [] [0, 1, 2, 4, 5, 6, 8, 9] ?_; clear hF hL; intro ι F hne hC hG; (repeat (first | (refine cF hC ?_; intro K hK; go_big_quiet_op; go_big_quiet_on) | (refine cP ?_; intro K hK; go_big_quiet_op; go_big_quiet_on))); refine cwk_nil ?_; clear hC hG; intro W hL; have hF := hL.fx) | (go_at_call 84; refine zG ?_; clear hF hL; intro W hL hF; (with_reducible refine (HIO.out _ hL.self0q).mono ?_); rintro e W2 hb; replace hb := TPost.lift0 hL hb; (simp only [TPost, if_pos hf] at hb); obtain ⟨rfl, hb⟩ := hb; clear hF))
    go_end0
    exact ⟨rfl, hb⟩
  ·simp only [if_neg hf]
   rcases hcv with rfl | rfl
   ·have hF := hL.fx
    go_enter Tryz.func48, Tryz.ntmps48
    go_wp2_with (first | ((with_reducible refine at_region 0 ?_); refine zW [0, 1, 2, 3, 4, 5, 6, 7, 8, 9] [0, 1, 2, 3, 4, 5, 6, 7, 8, 9] [] [0, 1, 2, 4, 5, 6, 8, 9] ?_; clear hF hL; intro ι F hne hC hG; (repeat (first | (refine cF hC ?_; intro K hK; go_big_quiet_op; go_big_quiet_on) | (refine cP ?_; intro K hK; go_big_quiet_op; go_big_quiet_on))); refine cwk_nil ?_; clear hC hG; intro W hL; have hF := hL.fx) | (go_at_call 84; refine zG ?_; clear hF hL; intro W hL hF; (with_reducible refine (HIO.out _ hL.self0q).mono ?_); rintro e W2 hb; replace hb := TPost.lift0 hL hb; (simp only [TPost, if_neg hf] at hb); obtain ⟨rfl, hb⟩ := hb; clear hF))
    exact ⟨rfl, rfl, hb⟩
   ·have hF := hL.fx
    go_enter Tryz.func48, Tryz.ntmps48
    go_wp2_with (first | ((with_reducible refine at_region 0 ?_); refine zW [0, 1, 2, 3, 4, 5, 6, 7, 8, 9] [0, 1, 2, 3, 4, 5, 6, 7, 8, 9] [] [0, 1, 2, 4, 5, 6, 8, 9] ?_; clear hF hL; intro ι F hne hC hG; (repeat (first | (refine cF hC ?_; intro K hK; go_big_quiet_op; go_big_quiet_on) | (refine cP ?_; intro K hK; go_big_quiet_op; go_big_quiet_on))); refine cwk_nil ?_; clear hC hG; intro W hL; have hF := hL.fx) | (go_at_call 84; refine zG ?_; clear hF hL; intro W hL hF; (with_reducible refine (HIO.out _ hL.self0q).mono ?_); rintro e W2 hb; replace hb := TPost.lift0 hL hb; (simp only [TPost, if_neg hf] at hb); obtain ⟨rfl, hb⟩ := hb; clear hF))
    exact ⟨rfl, rfl, hb⟩
 simp only [not_or] at hc0 hc60
 obtain ⟨h32, h9, h10, h40, h41, h124, h38, h59⟩ := hc0
 obtain ⟨h60, h62⟩ := hc60
 have f32 : ((c0.toNat : Int) == 32) = false := beq_false_of_ne (fun h => h32 (UInt8.toNat_inj.1 (show c0.toNat = 32 by omega))); have f9 : ((c0.toNat : Int) == 9) = false := beq_false_of_ne (fun h => h9 (UInt8.toNat_inj.1 (show c0.toNat = 9 by omega))); have f10 : ((c0.toNat : Int) == 10) = false := beq_false_of_ne (fun h => h10 (UInt8.toNat_inj.1 (show c0.toNat = 10 by omega))); have f40 : ((c0.toNat : Int) == 40) = false := beq_false_of_ne (fun h => h40 (UInt8.toNat_inj.1 (show c0.toNat = 40 by omega))); have f41 : ((c0.toNat : Int) == 41) = false := beq_false_of_ne (fun h => h41 (UInt8.toNat_inj.1 (show c0.toNat = 41 by omega))); have f124 : ((c0.toNat : Int) == 124) = false := beq_false_of_ne (fun h => h124 (UInt8.toNat_inj.1 (show c0.toNat = 124 by omega))); have f38 : ((c0.toNat : Int) == 38) = false := beq_false_of_ne (fun h => h38 (UInt8.toNat_inj.1 (show c0.toNat = 38 by omega))); have f59 : ((c0.toNat : Int) == 59) = false := beq_false_of_ne (fun h => h59 (UInt8.toNat_inj.1 (show c0.toNat = 59 by omega))); have f60 : ((c0.toNat : Int) == 60) = false := beq_false_of_ne (fun h => h60 (UInt8.toNat_inj.1 (show c0.toNat = 60 by omega))); have f62 : ((c0.toNat : Int) == 62) = false := beq_false_of_ne (fun h => h62 (UInt8.toNat_inj.1 (show c0.toNat = 62 by omega)))
 by_cases hc92 : c0 = 92 ∧ t.head? = some 10
 ·obtain ⟨rfl, hh⟩ := hc92
  have hA := Lib.hid (show Lib.hasPrefix (src.data.toList.drop at_) (⟨#[92, 10]⟩ : ByteArray).data.toList = true by rw [hd]; cases t with | nil => cases hh | cons a r => simp at hh; subst hh; rfl)
  have hst : step 92 t ln = .skip (t.drop 1) (ln + 1) := by simp [step, hh]
  rw [hst]
  have hxx : src.data.toList.drop at_ = [92, 10] ++ (t.drop 1) := by rw [hd]; cases t with | nil => cases hh | cons a r => simp at hh; subst hh; rfl
  have HX := Lib.hid hxx
  obtain ⟨hc1, hc2, hc3⟩ := cut_x hxx
  have hc4 := hc3 (by simp)
  rw [hsl] at hc4
  have HC := Lib.hid hc2
  have hlf : lf [92, 10] = 1 := by rfl
  have HLF := Lib.hid hlf
  clear hxx hc1 hc2 hc3 hlf hst hd d1 d2 hz
  unfold TPost
  have hF := hL.fx
  go_enter Tryz.func48, Tryz.ntmps48
  go_wp2_with (first | ((with_reducible refine zS ?_); clear hL; intro W hL hF) | ((with_reducible refine at_region 0 ?_); refine zW [0, 1, 2, 3, 4, 5, 6, 7, 8, 9] [0, 1, 2, 3, 4, 5, 6, 7, 8, 9] [] [0, 1, 2, 4, 5, 6, 8, 9] ?_; clear hF hL; intro ι F hne hC hG; (repeat (first | (refine cF hC ?_; intro K hK; go_big_quiet_op; go_big_quiet_on) | (refine cP ?_; intro K hK; go_big_quiet_op; go_big_quiet_on))); refine cwk_nil ?_; clear hC hG; intro W hL; have hF := hL.fx) | (go_at_call 83; refine zG ?_; clear hF hL; intro W hL hF; (((first | (with_reducible refine (rest_is src ⟨#[92, 10]⟩ at_ ln v b _ (by (exact hL.has _ List.mem_cons_self)) (by omega) hs true hA.out).mono ?_)))); rintro e W ⟨rfl, hb⟩; replace hL := hL.below hb; clear hb hF; have hF := hL.fx) | (go_at_call 80; refine zG ?_; clear hF hL; intro W hL hF; (with_reducible refine (skip_nat src at_ [92, 10] (t.drop 1) ln v b _ (by (exact hL.has _ List.mem_cons_self)) HX.out (by simp) hs (by omega) _ (by (simp; done))).mono ?_); rintro e W ⟨rfl, hb⟩; ((replace hL := hL.join1 0 rfl hb)); clear hb hF; simp only [List.eraseIdx_cons_zero, List.eraseIdx_cons_succ, List.cons_append, List.nil_append] at hL; have hF := hL.fx))
  refine bodyPost_ret (by simp [results, Tryz.results48, go_sem, *]; try rfl) rfl ?_
  rw [HLF.out] at hL
  exact ⟨rfl, _, hc4, HC.out, hL⟩
 ·have hA0 : Lib.hasPrefix (src.data.toList.drop at_) (⟨#[92, 10]⟩ : ByteArray).data.toList = false := by
   rw [hd]
   cases t with
   | nil => simp [Lib.hasPrefix, List.isPrefixOf]
   | cons a r =>
    simp [Lib.hasPrefix, List.isPrefixOf]
    intro h1 h2
    exact hc92 ⟨h1.symm, by simp [h2]⟩
  have hA := Lib.hid hA0
  have hst : step c0 t ln = wordS ln (wrd ([], c0 :: t, ln)) := by
   unfold step wrd
   rw [if_neg (by simp [h32, h9]), if_neg hc, if_neg h10, if_neg (by simp [h124, h38, h59]), if_neg (by simp [h40, h41]), if_neg (by simp [h60, h62]), if_neg hc92]
   show (match word (t.length + 2) ([], c0 :: t, ln) with | .bad m => _ | .ok (ps, r, m) => _) = _
   cases word (t.length + 2) ([], c0 :: t, ln) with
   | bad m => rfl
   | ok x => rfl
  obtain ⟨V, hV⟩ : ∃ V, wordS ln (wrd ([], c0 :: t, ln)) = V := ⟨_, rfl⟩
  rw [hst, hV]
  have HW : Hid (∀ W, Kn (b :: keys LO) W W ((b, .cells #[.string src, .int .i64 (at_), .int .i64 (ln), v] 111 (0, 0)) :: LO) → Calls Tryz.prog 85 #[.pointer (some ⟨b, 0, none⟩)] W (TPost src b (b :: keys LO) W v LO tvs V)) := Lib.hid fun W hK => by
   have := word_is src hs0 v b at_ ln W LO tvs hK hO hz (by omega)
   rw [hd, hV] at this; exact this
  clear hst hV hd d1 d2 hA0 hz
  cases V with
  | skip r m =>
   unfold TPost at HW ⊢
   have hF := hL.fx
   go_enter Tryz.func48, Tryz.ntmps48
   go_wp2_with (first | ((with_reducible refine zS ?_); clear hL; intro W hL hF) | ((with_reducible refine at_region 0 ?_); refine zW [0, 1, 2, 3, 4, 5, 6, 7, 8, 9] [0, 1, 2, 3, 4, 5, 6, 7, 8, 9] [] [0, 1, 2, 4, 5, 6, 8, 9] ?_; clear hF hL; intro ι F hne hC hG; (repeat (first | (refine cF hC ?_; intro K hK; go_big_quiet_op; go_big_quiet_on) | (refine cP ?_; intro K hK; go_big_quiet_op; go_big_quiet_on))); refine cwk_nil ?_; clear hC hG; intro W hL; have hF := hL.fx) | (go_at_call 83; refine zG ?_; clear hF hL; intro W hL hF; (((first | (with_reducible refine (rest_is src ⟨#[92, 10]⟩ at_ ln v b _ (by (exact hL.has _ List.mem_cons_self)) (by omega) hs false hA.out).mono ?_)))); rintro e W ⟨rfl, hb⟩; replace hL := hL.below hb; clear hb hF; have hF := hL.fx) | (go_at_call 85; refine zG ?_; clear hF hL; intro W hL hF; (with_reducible refine (HW.out _ hL.self0q).mono ?_); rintro e W2 hb; obtain ⟨rfl, at2, ha2, hr2, hb⟩ := hb; replace hL := hL.tail0 hb; clear hb hF; have hF := hL.fx))
   go_end0
   exact ⟨rfl, at2, ha2, hr2, hL⟩
  | bad m =>
   unfold TPost at HW ⊢
   have hF := hL.fx
   go_enter Tryz.func48, Tryz.ntmps48
   go_wp2_with (first | ((with_reducible refine zS ?_); clear hL; intro W hL hF) | ((with_reducible refine at_region 0 ?_); refine zW [0, 1, 2, 3, 4, 5, 6, 7, 8, 9] [0, 1, 2, 3, 4, 5, 6, 7, 8, 9] [] [0, 1, 2, 4, 5, 6, 8, 9] ?_; clear hF hL; intro ι F hne hC hG; (repeat (first | (refine cF hC ?_; intro K hK; go_big_quiet_op; go_big_quiet_on) | (refine cP ?_; intro K hK; go_big_quiet_op; go_big_quiet_on))); refine cwk_nil ?_; clear hC hG; intro W hL; have hF := hL.fx) | (go_at_call 83; refine zG ?_; clear hF hL; intro W hL hF; (((first | (with_reducible refine (rest_is src ⟨#[92, 10]⟩ at_ ln v b _ (by (exact hL.has _ List.mem_cons_self)) (by omega) hs false hA.out).mono ?_)))); rintro e W ⟨rfl, hb⟩; replace hL := hL.below hb; clear hb hF; have hF := hL.fx) | (go_at_call 85; refine zG ?_; clear hF hL; intro W hL hF; (with_reducible refine (HW.out _ hL.self0q).mono ?_); rintro e W2 hb; obtain ⟨rfl, hb⟩ := hb; replace hL := hL.tail0 hb; clear hb hF; have hF := hL.fx))
   exact ⟨rfl, rfl, hL⟩
  | tok tk r m =>
   unfold TPost at HW ⊢
   by_cases hf : tvs.length < 2000
   ·simp only [if_pos hf] at HW ⊢
    have hF := hL.fx
    go_enter Tryz.func48, Tryz.ntmps48
    go_wp2_with (first | ((with_reducible refine zS ?_); clear hL; intro W hL hF) | ((with_reducible refine at_region 0 ?_); refine zW [0, 1, 2, 3, 4, 5, 6, 7, 8, 9] [0, 1, 2, 3, 4, 5, 6, 7, 8, 9] [] [0, 1, 2, 4, 5, 6, 8, 9] ?_; clear hF hL; intro ι F hne hC hG; (repeat (first | (refine cF hC ?_; intro K hK; go_big_quiet_op; go_big_quiet_on) | (refine cP ?_; intro K hK; go_big_quiet_op; go_big_quiet_on))); refine cwk_nil ?_; clear hC hG; intro W hL; have hF := hL.fx) | (go_at_call 83; refine zG ?_; clear hF hL; intro W hL hF; (((first | (with_reducible refine (rest_is src ⟨#[92, 10]⟩ at_ ln v b _ (by (exact hL.has _ List.mem_cons_self)) (by omega) hs false hA.out).mono ?_)))); rintro e W ⟨rfl, hb⟩; replace hL := hL.below hb; clear hb hF; have hF := hL.fx) | (go_at_call 85; refine zG ?_; clear hF hL; intro W hL hF; (with_reducible refine (HW.out _ hL.self0q).mono ?_); rintro e W2 hb; obtain ⟨rfl, at2, v2, LO2, pv, LP, h1, h2, h3, h4, hb⟩ := hb; replace hL := hL.tail0 hb; clear hb hF; have hF := hL.fx))
    go_end0
    exact ⟨rfl, at2, v2, LO2, pv, LP, h1, h2, h3, h4, hL⟩
   ·simp only [if_neg hf] at HW ⊢
    have hF := hL.fx
    go_enter Tryz.func48, Tryz.ntmps48
    go_wp2_with (first | ((with_reducible refine zS ?_); clear hL; intro W hL hF) | ((with_reducible refine at_region 0 ?_); refine zW [0, 1, 2, 3, 4, 5, 6, 7, 8, 9] [0, 1, 2, 3, 4, 5, 6, 7, 8, 9] [] [0, 1, 2, 4, 5, 6, 8, 9] ?_; clear hF hL; intro ι F hne hC hG; (repeat (first | (refine cF hC ?_; intro K hK; go_big_quiet_op; go_big_quiet_on) | (refine cP ?_; intro K hK; go_big_quiet_op; go_big_quiet_on))); refine cwk_nil ?_; clear hC hG; intro W hL; have hF := hL.fx) | (go_at_call 83; refine zG ?_; clear hF hL; intro W hL hF; (((first | (with_reducible refine (rest_is src ⟨#[92, 10]⟩ at_ ln v b _ (by (exact hL.has _ List.mem_cons_self)) (by omega) hs false hA.out).mono ?_)))); rintro e W ⟨rfl, hb⟩; replace hL := hL.below hb; clear hb hF; have hF := hL.fx) | (go_at_call 85; refine zG ?_; clear hF hL; intro W hL hF; (with_reducible refine (HW.out _ hL.self0q).mono ?_); rintro e W2 hb; obtain ⟨rfl, hb⟩ := hb; replace hL := hL.tail0 hb; clear hb hF; have hF := hL.fx))
    exact ⟨rfl, rfl, hL⟩
theorem token_is (src : ByteArray) (hs0 : src.size ≤ 10000) (v : Value) (b : Nat) (at_ ln : Nat) (w : World) (LO : List (Nat × Obj)) (tvs : List (Tok × Value)) (hL : Kn (b :: keys LO) w w ((b, .cells #[.string src, .int .i64 (at_), .int .i64 (ln), v] 111 (0, 0)) :: LO)) (hO : OutL LO v tvs) (hln : ln ≤ 100000) (hz : ln ≤ at_ + 1) (c0 : UInt8) (t : Bytes) (hd : src.data.toList.drop at_ = c0 :: t) :
  Calls Tryz.prog 48 #[.pointer (some ⟨b, 0, none⟩)] w (TPost src b (b :: keys LO) w v LO tvs (step c0 t ln)) := by
 by_cases hc0 : c0 = 32 ∨ c0 = 9 ∨ c0 = 10 ∨ c0 = 40 ∨ c0 = 41 ∨ c0 = 124 ∨ c0 = 38 ∨ c0 = 59
 ·exact token_ops src hs0 v b at_ ln w LO tvs hL hO hln c0 t hd hc0
 ·exact token_rest src hs0 v b at_ ln w LO tvs hL hO hln hz c0 t hd hc0
end Go.Proofs.YtgboffbbpmileaaGreatDoor
