/- Lemmas and walks for the law of this seat (part 6). -/
import Derived.Test.YtgboffbbpmileaaGreatDoorPj5
import Derived.Test.YtgboffbbpmileaaGreatDoorProg
import Derived.WalkKit
import Derived.Handy
import Derived.Deep.Light
import Derived.WalkSmall
import Derived.StillTailTactics
import Derived.Lib.Hide
set_option maxRecDepth 20000
set_option maxHeartbeats 4000000
set_option linter.unusedVariables false
set_option linter.unusedSimpArgs false
namespace Go.Proofs.YtgboffbbpmileaaGreatDoor
open Go Go.RowKit
theorem dollar_sub (src : ByteArray) (hs : src.size ≤ 100000) (v : Value) (b q : Nat) (at_ ln : Nat) (pv : Value) (LP : List (Nat × Obj)) (ps : List Prt) (w : World) (hL : Kn (b :: q :: keys LP) w w ((b, .cells #[.string src, .int .i64 (at_), .int .i64 (ln), v] 111 (0, 0)) :: (q, .cells #[pv] 135 (0, 0)) :: LP)) (hP : PtL LP pv ps) (hln : ln ≤ 100000) (hn : ps.length ≤ 50000) (ht : tot ps ≤ 500000) (qd : Bool) (s t : Bytes) (hd : src.data.toList.drop at_ = 36 :: 40 :: t) :
  Calls Tryz.prog 115 #[.pointer (some ⟨b, 0, none⟩), .pointer (some ⟨q, 0, none⟩), .bool qd] w (SPost src v b q (b :: q :: keys LP) w (dollar ps (40 :: t) ln qd)) := by
 obtain ⟨i0, hi, hz0, hz1, hz2⟩ := info_parts infoPt
 obtain ⟨h1, h2, h3⟩ := one_parts hd
 obtain ⟨h4, h5, h6⟩ := one_parts h2
 have hsl := szl src
 obtain ⟨u, hu⟩ : ∃ u, src.extract (at_ + 1) src.size = u := ⟨_, rfl⟩
 have hul : u.data.toList = 40 :: t := by rw [← hu, ext_list, List.take_of_length_le (by omega), h2]
 have hus : u.size + (at_ + 1) = src.size := by
  have : u.size = src.size - (at_ + 1) := by rw [← szl, hul, ← h2, List.length_drop, szl]
  omega
 obtain ⟨u2, hu2⟩ : ∃ u2, u.extract 1 u.size = u2 := ⟨_, rfl⟩
 have hul2 : u2.data.toList = t := by rw [← hu2, ext_list, List.take_of_length_le (by rw [szl]; omega), hul]; rfl
 have hus2 : u2.size + 1 = u.size := by rw [← szl, ← szl u, hul2, hul]; rfl
 have hP1 : Hid (∀ W, Calls Tryz.prog 101 #[.string u, .string ⟨#[40]⟩] W fun e w' => e = .returned (.bool true) ∧ w' = W) := Lib.hid fun W => by
  have := Tryz.strings_HasPrefix u ⟨#[40]⟩ W
  rw [show Lib.hasPrefix u.data.toList [40] = true by rw [hul, hp1]; rfl] at this
  exact this
 have hds : dollar ps (40 :: t) ln qd = match parens t with
  | none => .bad ln
  | some (a, r) => .ok (ps ++ [⟨2, a, qd⟩], r, ln + lf a) := by unfold dollar; rw [if_pos (by rfl)]; rfl
 rw [hds]
 rcases cr_parens t with ⟨hp1, hp2⟩ | ⟨a, r, hp1, hp2, hp3, hp4, hp5⟩
 ·rw [hp1]
  have hC : Hid (∀ W, Calls Tryz.prog 125 #[.string u2] W fun e w' => e = .returned (.int .i64 (-1)) ∧ w' = W) := Lib.hid fun W => by
   have := clos_is u2 (by omega) W
   rw [hul2, hp2] at this; exact this
  clear hds h1 h2 h4 h5 hd hul hul2 hp1 hp2
  have hF := hL.fx
  go_enter Tryz.func115, Tryz.ntmps115
  go_wp2_with (first | (go_at_call 101; (with_reducible refine (hP1.out _).mono ?_); rintro e w' ⟨rfl, rfl⟩) | (go_at_call 125; (with_reducible refine (hC.out _).mono ?_); rintro e w' ⟨rfl, rfl⟩) | ((with_reducible refine at_region 0 ?_); refine zW [0, 1, 2, 3, 4, 5, 6, 7, 8, 9, 10] [0, 1, 2, 3, 4, 5, 6, 7, 8, 9, 10] [] [0, 1, 2, 4, 5, 6, 8, 9, 10] ?_; clear hF hL; intro ι F hne hC hG; (repeat (first | (refine cF hC ?_; intro K hK; go_big_quiet_op; go_big_quiet_on) | (refine cP ?_; intro K hK; go_big_quiet_op; go_big_quiet_on))); refine cwk_nil ?_; clear hC hG; intro W hL; have hF := hL.fx) | (go_at_call 112; refine zG ?_; clear hF hL; intro W hL hF; (with_reducible refine (syn_is b ln _).mono ?_); rintro e W ⟨rfl, rfl⟩))
  exact ⟨rfl, rfl, hL.sub (List.nil_sublist _)⟩
 ·rw [hp1]
  have hC : Hid (∀ W, Calls Tryz.prog 125 #[.string u2] W fun e w' => e = .returned (.int .i64 (a.length : Int)) ∧ w' = W) := Lib.hid fun W => by
   have := clos_is u2 (by omega) W
   rw [hul2, hp2] at this; exact this
  have hal : a.length < u2.size := by rw [← szl, hul2]; exact hp3
  obtain ⟨u3, hu3⟩ : ∃ u3, u.extract 1 (1 + a.length) = u3 := ⟨_, rfl⟩
  have hul3 : u3.data.toList = a := by rw [← hu3, ext_list, hul, List.drop_take]; simp [← hp4]
  have hxx : src.data.toList.drop at_ = (36 :: 40 :: (a ++ [41])) ++ r := by
   have := scan_text _ _ _ _ _ hp1
   rw [hd, this]; simp [closerB]
  have HX := Lib.hid hxx
  have hlf : lf (36 :: 40 :: (a ++ [41])) = lf a := by simp [lf, List.count_cons, List.count_append]
  have hxl : (36 :: 40 :: (a ++ [41]) : Bytes).length = a.length + 3 := by simp
  obtain ⟨hc1, hc2, hc3⟩ := cut_x hxx
  have hc4 := hc3 (by simp)
  have HL := Lib.hid hlf
  have HC := Lib.hid hc2
  clear hds h1 h2 h4 h5 hd hul hul2 hp1 hp2 hp4 hp5 hxx hlf hc1 hc2 hc3
  have hal0 : ¬ (a.length : Int) < 0 := by omega
  have r1 : IntKind.i64.wrap (1 + (a.length : Int)) = 1 + (a.length : Int) := by rw [IntWalk.i64_in _ (by omega)]
  have r2 : (1 + (a.length : Int)).toNat = 1 + a.length := by omega
  have r3 : (1 : Int) ≤ 1 + (a.length : Int) := by omega
  have r4 : 1 + (a.length : Int) ≤ u.size := by omega
  have r5 : (0 : Int) ≤ 1 + (a.length : Int) := by omega
  rcases hP with ⟨rfl, rfl, rfl⟩ | ⟨g, cap, cur, rfl, rfl, hr⟩
  ·have hF := hL.fx
   go_enter Tryz.func115, Tryz.ntmps115
   go_wp2_with (first | ((with_reducible refine zS ?_); clear hL; intro W hL hF) | (go_at_call 101; (with_reducible refine (hP1.out _).mono ?_); rintro e w' ⟨rfl, rfl⟩) | (go_at_call 125; (with_reducible refine (hC.out _).mono ?_); rintro e w' ⟨rfl, rfl⟩) | ((with_reducible refine at_region 0 ?_); refine zW [0, 1, 2, 3, 4, 5, 6, 7, 8, 9, 10] [0, 1, 2, 3, 4, 5, 6, 7, 8, 9, 10] [] [0, 1, 2, 4, 5, 6, 8, 9, 10] ?_; clear hF hL; intro ι F hne hC hG; (repeat (first | (refine cF hC ?_; intro K hK; go_big_quiet_op; go_big_quiet_on) | (refine cP ?_; intro K hK; go_big_quiet_op; go_big_quiet_on))); refine cwk_nil ?_; clear hC hG; intro W hL; have hF := hL.fx) | ((with_reducible refine at_region 7 ?_); refine zW [0, 1, 2, 3, 4, 5, 6, 7, 8, 9, 10, 11, 12, 13] [0, 1, 2, 3, 4, 5, 6, 7, 8, 9, 12] [11, 13] [0, 1, 2, 4, 5, 6, 7, 8, 9, 12] ?_; clear hF hL; intro ι F hne hC hG; (repeat (first | (refine cF hC ?_; intro K hK; go_big_quiet_op; go_big_quiet_on) | (refine cP ?_; intro K hK; go_big_quiet_op; go_big_quiet_on) | (refine cN ?_; intro W hL; have hF := hL.fx; at_builtin; refine wpList_append_nilX rfl _ _ 135 rfl 118 i0 _ Tryz.underlying135 hi hz0 (by rw [hz1]; rfl) (by rw [hz1]; decide) hL  rfl _ _ _ (ptc ⟨2, u3.data.toList, qd⟩) rfl (by rw [hz1]; rfl) (fun j u hu => by rw [Go.WideShapes.add_plain, Nat.zero_add, World.cell?, hL.has _ List.mem_cons_self]; simpa [ptc, bs_list] using hu) (ptc_one _) (by unfold maxLen; omega) (by rw [hz2]; omega) (by omega) ?_; intro g2 cap2 cur2 W2 hL2 hg2 hr2; clear hL hF; have hL := hL2; clear hL2; have hF := hL.fx; go_wp2; refine zB2 ?_; clear hL hF hC hG; intro ι F hne hC hG) | (refine cN ?_; intro W hL; have hF := hL.fx; go_wp2; (first | (refine zB2 ?_; clear hL hF hC hG; intro ι F hne hC hG) | (refine zO2 ?_; clear hL hF))))); refine cwk_nil ?_; clear hC hG; intro W hL; simp only [kfb] at hL; have hF := hL.fx) | (go_at_call 80; refine zG ?_; clear hF hL; intro W hL hF; (with_reducible refine (skip_nat src at_ (36 :: 40 :: (a ++ [41])) r ln v b _ (by (exact hL.has _ (List.mem_cons_of_mem _ (List.mem_cons_of_mem _ List.mem_cons_self)))) HX.out (by simp) hs (by omega) _ (by (simp; omega))).mono ?_); rintro e W ⟨rfl, hb⟩; ((replace hL := hL.join1 2 rfl hb)); clear hb hF; simp only [List.eraseIdx_cons_zero, List.eraseIdx_cons_succ, List.cons_append, List.nil_append] at hL; have hF := hL.fx))
   rw [HL.out] at hL
   go_end0
   rw [hz1] at hr2
   rw [hul3] at hr2
   refine ⟨rfl, at_ + ((36 :: 40 :: (a ++ [41]))).length, .slice (some ⟨g2, 0, none⟩) (1) cap2, [(g2, .cells cur2 118 (0, 0))], by rw [szl] at hc4; exact hc4, HC.out, .inr ⟨g2, cap2, cur2, rfl, by simp, by simpa using hr2⟩, hL.pick (by simp) ?_⟩
   have := hL.nd
   (simp at this ⊢); grind
  ·have hF := hL.fx
   go_enter Tryz.func115, Tryz.ntmps115
   go_wp2_with (first | ((with_reducible refine zS ?_); clear hL; intro W hL hF) | (go_at_call 101; (with_reducible refine (hP1.out _).mono ?_); rintro e w' ⟨rfl, rfl⟩) | (go_at_call 125; (with_reducible refine (hC.out _).mono ?_); rintro e w' ⟨rfl, rfl⟩) | ((with_reducible refine at_region 0 ?_); refine zW [0, 1, 2, 3, 4, 5, 6, 7, 8, 9, 10] [0, 1, 2, 3, 4, 5, 6, 7, 8, 9, 10] [] [0, 1, 2, 4, 5, 6, 8, 9, 10] ?_; clear hF hL; intro ι F hne hC hG; (repeat (first | (refine cF hC ?_; intro K hK; go_big_quiet_op; go_big_quiet_on) | (refine cP ?_; intro K hK; go_big_quiet_op; go_big_quiet_on))); refine cwk_nil ?_; clear hC hG; intro W hL; have hF := hL.fx) | ((with_reducible refine at_region 7 ?_); refine kn_wp ?_; clear hF hL; intro W hL; have hF := hL.fx; refine kn_region [0, 1, 2, 3, 4, 5, 6, 7, 8, 9, 10, 11, 12, 13] [0, 1, 2, 3, 4, 5, 6, 7, 8, 9, 12] [11, 13] [0, 1, 2, 4, 5, 6, 7, 8, 9, 12] (by kernel_rfl) (by kernel_rfl) (List.Sublist.cons_cons _ (List.Sublist.cons_cons _ (List.Sublist.cons _ (List.Sublist.refl _)))) ?_; clear hF hL; intro ι F hne hC hFF; have hG := fun n => (hFF n).fx; clear hFF; (repeat (first | (refine cF hC ?_; intro K hK; go_big_quiet_op; go_big_quiet_on) | (refine cP ?_; intro K hK; go_big_quiet_op; go_big_quiet_on) | (refine cN ?_; intro W hL; have hF := hL.fx; at_builtin; refine wpList_append_blkX rfl _ _ 135 rfl 118 i0 _ Tryz.underlying135 hi hz0 (by rw [hz1]; rfl) (by rw [hz1]; decide) hL 3 _ _ _ _ _ rfl (by rw [hz1]; exact hr) rfl _ _ _ (ptc ⟨2, u3.data.toList, qd⟩) rfl (by rw [hz1]; rfl) (fun j u hu => by rw [Go.WideShapes.add_plain, Nat.zero_add, World.cell?, hL.has _ List.mem_cons_self]; simpa [ptc, bs_list] using hu) (ptc_one _) (by unfold maxLen; omega) (by rw [hz2]; omega) (by omega) ?_; intro g2 cap2 cur2 W2 hL2 hr2; clear hL hF; have hL := hL2; clear hL2; simp only [List.eraseIdx_cons_zero, List.eraseIdx_cons_succ] at hL; have hF := hL.fx; go_wp2; refine zB2 ?_; clear hL hF hC hG; intro ι F hne hC hG) | (refine cN ?_; intro W hL; have hF := hL.fx; go_wp2; refine anchQ_normal ?_; (first | (refine owedB _ (by rfl) ?_; clear hL hF hC hG; intro ι F hne hC hFF; have hG := fun n => (hFF n).fx; clear hFF) | (refine owed0 _ (by repeat' (first | (with_reducible exact List.Sublist.refl _) | (with_reducible apply List.Sublist.cons_cons) | (with_reducible apply List.Sublist.cons))) ?_; clear hL hF))))); refine cwk_nil ?_; clear hC hG; intro W hL; simp only [kfb] at hL; have hF := hL.fx) | (go_at_call 80; refine zG ?_; clear hF hL; intro W hL hF; (with_reducible refine (skip_nat src at_ (36 :: 40 :: (a ++ [41])) r ln v b _ (by (exact hL.has _ (List.mem_cons_of_mem _ (List.mem_cons_of_mem _ List.mem_cons_self)))) HX.out (by simp) hs (by omega) _ (by (simp; omega))).mono ?_); rintro e W ⟨rfl, hb⟩; ((replace hL := hL.join1 2 rfl hb)); clear hb hF; simp only [List.eraseIdx_cons_zero, List.eraseIdx_cons_succ, List.cons_append, List.nil_append] at hL; have hF := hL.fx))
   rw [HL.out] at hL
   go_end0
   rw [hz1] at hr2
   rw [hul3] at hr2
   refine ⟨rfl, at_ + ((36 :: 40 :: (a ++ [41]))).length, .slice (some ⟨g2, 0, none⟩) (ps.length + 1) cap2, [(g2, .cells cur2 118 (0, 0))], by rw [szl] at hc4; exact hc4, HC.out, .inr ⟨g2, cap2, cur2, rfl, by simp, by simpa using hr2⟩, hL.pick (by simp) ?_⟩
   have := hL.nd
   (simp at this ⊢); grind
end Go.Proofs.YtgboffbbpmileaaGreatDoor
set_option maxRecDepth 20000
set_option maxHeartbeats 4000000
set_option linter.unusedVariables false
set_option linter.unusedSimpArgs false
namespace Go.Proofs.YtgboffbbpmileaaGreatDoor
open Go Go.RowKit
theorem dollar_brace (src : ByteArray) (hs : src.size ≤ 100000) (v : Value) (b q : Nat) (at_ ln : Nat) (pv : Value) (LP : List (Nat × Obj)) (ps : List Prt) (w : World) (hL : Kn (b :: q :: keys LP) w w ((b, .cells #[.string src, .int .i64 (at_), .int .i64 (ln), v] 111 (0, 0)) :: (q, .cells #[pv] 135 (0, 0)) :: LP)) (hP : PtL LP pv ps) (hln : ln ≤ 100000) (hn : ps.length ≤ 50000) (ht : tot ps ≤ 500000) (qd : Bool) (s t : Bytes) (hd : src.data.toList.drop at_ = 36 :: s) (hst : s = 123 :: t) : Calls Tryz.prog 115 #[.pointer (some ⟨b, 0, none⟩), .pointer (some ⟨q, 0, none⟩), .bool qd] w (SPost src v b q (b :: q :: keys LP) w (dollar ps s ln qd)) := by
 obtain ⟨i0, hi, hz0, hz1, hz2⟩ := info_parts infoPt
 obtain ⟨h1, h2, h3⟩ := one_parts hd
 have hsl := szl src
 obtain ⟨u, hu⟩ : ∃ u, src.extract (at_ + 1) src.size = u := ⟨_, rfl⟩
 have hul : u.data.toList = s := by rw [← hu, ext_list, List.take_of_length_le (by omega), h2]
 have hus : u.size + (at_ + 1) = src.size := by
  have : u.size = src.size - (at_ + 1) := by rw [← szl, hul, ← h2, List.length_drop, szl]
  omega
 have hP1 : Hid (∀ W, Calls Tryz.prog 101 #[.string u, .string ⟨#[40]⟩] W fun e w' => e = .returned (.bool (decide (s.head? = some 40))) ∧ w' = W) := Lib.hid fun W => by
  have := Tryz.strings_HasPrefix u ⟨#[40]⟩ W
  rw [show Lib.hasPrefix u.data.toList [40] = _ by rw [hul, hp1]] at this
  exact this
 have hP2 : Hid (∀ W, Calls Tryz.prog 101 #[.string u, .string ⟨#[123]⟩] W fun e w' => e = .returned (.bool (decide (s.head? = some 123))) ∧ w' = W) := Lib.hid fun W => by
  have := Tryz.strings_HasPrefix u ⟨#[123]⟩ W
  rw [show Lib.hasPrefix u.data.toList [123] = _ by rw [hul, hp1]] at this
  exact this
 have hds : dollar ps s ln qd = match brk 125 t with
  | none => .bad ln
  | some (a, r) => if a = [] ∨ param a ≠ a.length then .bad ln else .ok (ps ++ [⟨1, a, qd⟩], r, ln) := by
  unfold dollar; rw [hst, if_neg (by simp), if_pos (by rfl)]; rfl
 have e1 : decide (s.head? = some 40) = false := by rw [hst]; rfl
 have e2 : decide (s.head? = some 123) = true := by rw [hst]; rfl
 rw [e1] at hP1
 rw [e2] at hP2
 clear e1 e2
 have hix : Lib.indexByte s 125 = if Lib.indexByte t 125 == -1 then -1 else Lib.indexByte t 125 + 1 := by rw [hst, Lib.indexByte, show ((123 : UInt8) == 125) = false from rfl]; rfl
 rw [hds]
 rcases brk_ix 125 t with ⟨hb1, hb2⟩ | ⟨a, r, hb1, hb2⟩
 ·rw [hb1]
  rw [hb2] at hix
  have hI : Hid (∀ W, Calls Tryz.prog 81 #[.string u, .int .u8 125] W fun e w' => e = .returned (.int .i64 (-1)) ∧ w' = W) := Lib.hid fun W => Index_any u 125 (-1) (by rw [hul, hix]; rfl) 125 rfl W
  clear hds h1 h2 hd hul hix hst hb1 hb2
  have hF := hL.fx
  go_enter Tryz.func115, Tryz.ntmps115
  go_wp2_with (first | ((with_reducible refine zS ?_); clear hL; intro W hL hF) | (go_at_call 101; (((first | (with_reducible refine (hP1.out _).mono ?_) | (with_reducible refine (hP2.out _).mono ?_)))); rintro e w' ⟨rfl, rfl⟩) | (go_at_call 81; (with_reducible refine (hI.out _).mono ?_); rintro e w' ⟨rfl, rfl⟩) | ((with_reducible refine at_region 0 ?_); refine zW [0, 1, 2, 3, 4, 5, 6, 7, 8, 9, 10] [0, 1, 2, 3, 4, 5, 6, 7, 8, 9, 10] [] [0, 1, 2, 4, 5, 6, 8, 9, 10] ?_; clear hF hL; intro ι F hne hC hG; (repeat (first | (refine cF hC ?_; intro K hK; go_big_quiet_op; go_big_quiet_on) | (refine cP ?_; intro K hK; go_big_quiet_op; go_big_quiet_on))); refine cwk_nil ?_; clear hC hG; intro W hL; have hF := hL.fx) | (go_at_call 112; refine zG ?_; clear hF hL; intro W hL hF; (with_reducible refine (syn_is b ln _).mono ?_); rintro e W ⟨rfl, rfl⟩))
  exact ⟨rfl, rfl, hL.sub (List.nil_sublist _)⟩
 ·rw [hb1]
  rw [hb2] at hix
  obtain ⟨n, hn1⟩ : ∃ n, n = a.length + 1 := ⟨_, rfl⟩
  obtain ⟨htt, _⟩ := brk_text hb1
  have hI : Hid (∀ W, Calls Tryz.prog 81 #[.string u, .int .u8 125] W fun e w' => e = .returned (.int .i64 (n : Int)) ∧ w' = W) := Lib.hid fun W => Index_any u 125 n (by rw [hul, hix, hn1, beq_false_of_ne (by omega)]; simp) 125 rfl W
  have hnu : n + 1 ≤ u.size := by rw [← szl, hul, hst, htt, hn1]; simp
  have hnu1 : n ≤ u.size := by omega
  have hnu2 : 1 ≤ n := by omega
  have hnu3 : (1 : Int) ≤ n := by omega
  have hnu4 : (n : Int) ≤ u.size := by omega
  have hnu5 : (0 : Int) ≤ n := by omega
  show Calls _ _ _ _ (SPost src v b q (b :: q :: keys LP) w (if a = [] ∨ param a ≠ a.length then .bad ln else .ok (ps ++ [⟨1, a, qd⟩], r, ln)))
  by_cases ha : a = []
  ·rw [if_pos (.inl ha)]
   have q0 : (n : Int) < 2 := by rw [hn1, ha]; simp
   clear hds h1 h2 hd hul hix hst hb1 hb2 hn1 htt
   have hF := hL.fx
   go_enter Tryz.func115, Tryz.ntmps115
   go_wp2_with (first | ((with_reducible refine zS ?_); clear hL; intro W hL hF) | (go_at_call 101; (((first | (with_reducible refine (hP1.out _).mono ?_) | (with_reducible refine (hP2.out _).mono ?_)))); rintro e w' ⟨rfl, rfl⟩) | (go_at_call 81; (with_reducible refine (hI.out _).mono ?_); rintro e w' ⟨rfl, rfl⟩) | ((with_reducible refine at_region 0 ?_); refine zW [0, 1, 2, 3, 4, 5, 6, 7, 8, 9, 10] [0, 1, 2, 3, 4, 5, 6, 7, 8, 9, 10] [] [0, 1, 2, 4, 5, 6, 8, 9, 10] ?_; clear hF hL; intro ι F hne hC hG; (repeat (first | (refine cF hC ?_; intro K hK; go_big_quiet_op; go_big_quiet_on) | (refine cP ?_; intro K hK; go_big_quiet_op; go_big_quiet_on))); refine cwk_nil ?_; clear hC hG; intro W hL; have hF := hL.fx) | (go_at_call 112; refine zG ?_; clear hF hL; intro W hL hF; (with_reducible refine (syn_is b ln _).mono ?_); rintro e W ⟨rfl, rfl⟩))
   exact ⟨rfl, rfl, hL.sub (List.nil_sublist _)⟩
  have hal : 0 < a.length := List.length_pos_iff.2 ha
  have q0 : ¬ (n : Int) < 2 := by omega
  obtain ⟨u3, hu3⟩ : ∃ u3, u.extract 1 n = u3 := ⟨_, rfl⟩
  have hul3 : u3.data.toList = a := by rw [← hu3, ext_list, hul, List.drop_take, hst, htt, hn1]; simp
  have hus3 : u3.size ≤ 100000 := by rw [← szl, hul3]; omega
  obtain ⟨m, hm⟩ : ∃ m, param a = m := ⟨_, rfl⟩
  have hPm : Hid (∀ W, Calls Tryz.prog 126 #[.string u3] W fun e w' => e = .returned (.int .i64 (m : Int)) ∧ Below W.heap.size W w') := Lib.hid fun W => by
   have := param_is u3 (by omega) W
   rw [hul3, hm] at this; exact this
  have r1 : IntKind.i64.wrap ((n : Int) - 1) = (n : Int) - 1 := by rw [IntWalk.i64_in _ (by omega)]
  by_cases hma : m = a.length
  ·rw [if_neg (by rw [hm]; exact fun h => h.elim ha fun h => h hma)]
   have q1 : ((m : Int) == (n : Int) - 1) = true := beq_iff_eq.2 (by omega)
   have q2 : ((m : Int) != (n : Int) - 1) = false := by rw [bne, q1]; rfl
   have hxx : src.data.toList.drop at_ = (36 :: 123 :: (a ++ [125])) ++ r := by rw [hd, hst, htt]; simp
   have hlf : lf (36 :: 123 :: (a ++ [125])) = 0 := by
    have := param_lf (hm.trans hma)
    simp [lf, List.count_cons, List.count_append]
    simpa [lf] using this
   have HX := Lib.hid hxx
   have hxl : (36 :: 123 :: (a ++ [125]) : Bytes).length = a.length + 3 := by simp
   obtain ⟨hc1, hc2, hc3⟩ := cut_x hxx
   have hc4 := hc3 (by simp)
   have HL := Lib.hid hlf
   have HC := Lib.hid hc2
   have HN := Lib.hid hn1
   have hn2 : (n : Int) + 2 = a.length + 3 := by omega
   clear hds h1 h2 hd hul hix hst hb1 hb2 htt hxx hlf hc1 hc2 hc3 hm hn1 hma
   rcases hP with ⟨rfl, rfl, rfl⟩ | ⟨g, cap, cur, rfl, rfl, hr⟩
   ·have hF := hL.fx
    go_enter Tryz.func115, Tryz.ntmps115
    go_wp2_with (first | ((with_reducible refine zS ?_); clear hL; intro W hL hF) | (go_at_call 101; (((first | (with_reducible refine (hP1.out _).mono ?_) | (with_reducible refine (hP2.out _).mono ?_)))); rintro e w' ⟨rfl, rfl⟩) | (go_at_call 81; (with_reducible refine (hI.out _).mono ?_); rintro e w' ⟨rfl, rfl⟩) | (go_at_call 126; refine zC (fun W hL => hPm.out _) ?_; clear hF hL; intro W hL hF) | ((with_reducible refine at_region 0 ?_); refine zW [0, 1, 2, 3, 4, 5, 6, 7, 8, 9, 10] [0, 1, 2, 3, 4, 5, 6, 7, 8, 9, 10] [] [0, 1, 2, 4, 5, 6, 8, 9, 10] ?_; clear hF hL; intro ι F hne hC hG; (repeat (first | (refine cF hC ?_; intro K hK; go_big_quiet_op; go_big_quiet_on) | (refine cP ?_; intro K hK; go_big_quiet_op; go_big_quiet_on))); refine cwk_nil ?_; clear hC hG; intro W hL; have hF := hL.fx) | ((with_reducible refine at_region 13 ?_); refine zW [0, 1, 2, 3, 4, 5, 6, 7, 8, 9, 10, 11, 12] [0, 1, 2, 3, 4, 5, 6, 7, 8, 11] [10, 12] [0, 1, 2, 4, 5, 6, 7, 8, 11] ?_; clear hF hL; intro ι F hne hC hG; (repeat (first | (refine cF hC ?_; intro K hK; go_big_quiet_op; go_big_quiet_on) | (refine cP ?_; intro K hK; go_big_quiet_op; go_big_quiet_on) | (refine cN ?_; intro W hL; have hF := hL.fx; at_builtin; refine wpList_append_nilX rfl _ _ 135 rfl 118 i0 _ Tryz.underlying135 hi hz0 (by rw [hz1]; rfl) (by rw [hz1]; decide) hL  rfl _ _ _ (ptc ⟨1, u3.data.toList, qd⟩) rfl (by rw [hz1]; rfl) (fun j u hu => by rw [Go.WideShapes.add_plain, Nat.zero_add, World.cell?, hL.has _ List.mem_cons_self]; simpa [ptc, bs_list] using hu) (ptc_one _) (by unfold maxLen; omega) (by rw [hz2]; omega) (by omega) ?_; intro g2 cap2 cur2 W2 hL2 hg2 hr2; clear hL hF; have hL := hL2; clear hL2; have hF := hL.fx; go_wp2; refine zB2 ?_; clear hL hF hC hG; intro ι F hne hC hG) | (refine cN ?_; intro W hL; have hF := hL.fx; go_wp2; (first | (refine zB2 ?_; clear hL hF hC hG; intro ι F hne hC hG) | (refine zO2 ?_; clear hL hF))))); refine cwk_nil ?_; clear hC hG; intro W hL; simp only [kfb] at hL; have hF := hL.fx) | (go_at_call 80; refine zG ?_; clear hF hL; intro W hL hF; (with_reducible refine (skip_nat src at_ (36 :: 123 :: (a ++ [125])) r ln v b _ (by (exact hL.has _ (List.mem_cons_of_mem _ (List.mem_cons_of_mem _ List.mem_cons_self)))) HX.out (by simp) hs (by omega) _ (by (simp; omega))).mono ?_); rintro e W ⟨rfl, hb⟩; ((replace hL := hL.join1 2 rfl hb)); clear hb hF; simp only [List.eraseIdx_cons_zero, List.eraseIdx_cons_succ, List.cons_append, List.nil_append] at hL; have hF := hL.fx))
    rw [HL.out] at hL
    go_end0
    rw [hz1] at hr2
    rw [hul3] at hr2
    refine ⟨rfl, at_ + ((36 :: 123 :: (a ++ [125]))).length, .slice (some ⟨g2, 0, none⟩) (1) cap2, [(g2, .cells cur2 118 (0, 0))], by rw [szl] at hc4; exact hc4, HC.out, .inr ⟨g2, cap2, cur2, rfl, by simp, by simpa using hr2⟩, hL.pick (by simp) ?_⟩
    have := hL.nd
    (simp at this ⊢); grind
   ·have hF := hL.fx
    go_enter Tryz.func115, Tryz.ntmps115
    go_wp2_with (first | ((with_reducible refine zS ?_); clear hL; intro W hL hF) | (go_at_call 101; (((first | (with_reducible refine (hP1.out _).mono ?_) | (with_reducible refine (hP2.out _).mono ?_)))); rintro e w' ⟨rfl, rfl⟩) | (go_at_call 81; (with_reducible refine (hI.out _).mono ?_); rintro e w' ⟨rfl, rfl⟩) | (go_at_call 126; refine zC (fun W hL => hPm.out _) ?_; clear hF hL; intro W hL hF) | ((with_reducible refine at_region 0 ?_); refine zW [0, 1, 2, 3, 4, 5, 6, 7, 8, 9, 10] [0, 1, 2, 3, 4, 5, 6, 7, 8, 9, 10] [] [0, 1, 2, 4, 5, 6, 8, 9, 10] ?_; clear hF hL; intro ι F hne hC hG; (repeat (first | (refine cF hC ?_; intro K hK; go_big_quiet_op; go_big_quiet_on) | (refine cP ?_; intro K hK; go_big_quiet_op; go_big_quiet_on))); refine cwk_nil ?_; clear hC hG; intro W hL; have hF := hL.fx) | ((with_reducible refine at_region 13 ?_); refine kn_wp ?_; clear hF hL; intro W hL; have hF := hL.fx; refine kn_region [0, 1, 2, 3, 4, 5, 6, 7, 8, 9, 10, 11, 12] [0, 1, 2, 3, 4, 5, 6, 7, 8, 11] [10, 12] [0, 1, 2, 4, 5, 6, 7, 8, 11] (by kernel_rfl) (by kernel_rfl) (List.Sublist.cons_cons _ (List.Sublist.cons_cons _ (List.Sublist.cons _ (List.Sublist.refl _)))) ?_; clear hF hL; intro ι F hne hC hFF; have hG := fun n => (hFF n).fx; clear hFF; (repeat (first | (refine cF hC ?_; intro K hK; go_big_quiet_op; go_big_quiet_on) | (refine cP ?_; intro K hK; go_big_quiet_op; go_big_quiet_on) | (refine cN ?_; intro W hL; have hF := hL.fx; at_builtin; refine wpList_append_blkX rfl _ _ 135 rfl 118 i0 _ Tryz.underlying135 hi hz0 (by rw [hz1]; rfl) (by rw [hz1]; decide) hL 3 _ _ _ _ _ rfl (by rw [hz1]; exact hr) rfl _ _ _ (ptc ⟨1, u3.data.toList, qd⟩) rfl (by rw [hz1]; rfl) (fun j u hu => by rw [Go.WideShapes.add_plain, Nat.zero_add, World.cell?, hL.has _ List.mem_cons_self]; simpa [ptc, bs_list] using hu) (ptc_one _) (by unfold maxLen; omega) (by rw [hz2]; omega) (by omega) ?_; intro g2 cap2 cur2 W2 hL2 hr2; clear hL hF; have hL := hL2; clear hL2; simp only [List.eraseIdx_cons_zero, List.eraseIdx_cons_succ] at hL; have hF := hL.fx; go_wp2; refine zB2 ?_; clear hL hF hC hG; intro ι F hne hC hG) | (refine cN ?_; intro W hL; have hF := hL.fx; go_wp2; refine anchQ_normal ?_; (first | (refine owedB _ (by rfl) ?_; clear hL hF hC hG; intro ι F hne hC hFF; have hG := fun n => (hFF n).fx; clear hFF) | (refine owed0 _ (by repeat' (first | (with_reducible exact List.Sublist.refl _) | (with_reducible apply List.Sublist.cons_cons) | (with_reducible apply List.Sublist.cons))) ?_; clear hL hF))))); refine cwk_nil ?_; clear hC hG; intro W hL; simp only [kfb] at hL; have hF := hL.fx) | (go_at_call 80; refine zG ?_; clear hF hL; intro W hL hF; (with_reducible refine (skip_nat src at_ (36 :: 123 :: (a ++ [125])) r ln v b _ (by (exact hL.has _ (List.mem_cons_of_mem _ (List.mem_cons_of_mem _ List.mem_cons_self)))) HX.out (by simp) hs (by omega) _ (by (simp; omega))).mono ?_); rintro e W ⟨rfl, hb⟩; ((replace hL := hL.join1 2 rfl hb)); clear hb hF; simp only [List.eraseIdx_cons_zero, List.eraseIdx_cons_succ, List.cons_append, List.nil_append] at hL; have hF := hL.fx))
    rw [HL.out] at hL
    go_end0
    rw [hz1] at hr2
    rw [hul3] at hr2
    refine ⟨rfl, at_ + ((36 :: 123 :: (a ++ [125]))).length, .slice (some ⟨g2, 0, none⟩) (ps.length + 1) cap2, [(g2, .cells cur2 118 (0, 0))], by rw [szl] at hc4; exact hc4, HC.out, .inr ⟨g2, cap2, cur2, rfl, by simp, by simpa using hr2⟩, hL.pick (by simp) ?_⟩
    have := hL.nd
    (simp at this ⊢); grind
  ·rw [if_pos (.inr (by rw [hm]; exact hma))]
   have q1 : ((m : Int) == (n : Int) - 1) = false := beq_false_of_ne (by omega)
   have q2 : ((m : Int) != (n : Int) - 1) = true := by rw [bne, q1]; rfl
   clear hds h1 h2 hd hul hix hst hb1 hb2 htt hm hn1
   have hF := hL.fx
   go_enter Tryz.func115, Tryz.ntmps115
   go_wp2_with (first | ((with_reducible refine zS ?_); clear hL; intro W hL hF) | (go_at_call 101; (((first | (with_reducible refine (hP1.out _).mono ?_) | (with_reducible refine (hP2.out _).mono ?_)))); rintro e w' ⟨rfl, rfl⟩) | (go_at_call 81; (with_reducible refine (hI.out _).mono ?_); rintro e w' ⟨rfl, rfl⟩) | (go_at_call 126; refine zC (fun W hL => hPm.out _) ?_; clear hF hL; intro W hL hF) | ((with_reducible refine at_region 0 ?_); refine zW [0, 1, 2, 3, 4, 5, 6, 7, 8, 9, 10] [0, 1, 2, 3, 4, 5, 6, 7, 8, 9, 10] [] [0, 1, 2, 4, 5, 6, 8, 9, 10] ?_; clear hF hL; intro ι F hne hC hG; (repeat (first | (refine cF hC ?_; intro K hK; go_big_quiet_op; go_big_quiet_on) | (refine cP ?_; intro K hK; go_big_quiet_op; go_big_quiet_on))); refine cwk_nil ?_; clear hC hG; intro W hL; have hF := hL.fx) | (go_at_call 112; refine zG ?_; clear hF hL; intro W hL hF; (with_reducible refine (syn_is b ln _).mono ?_); rintro e W ⟨rfl, rfl⟩))
   exact ⟨rfl, rfl, hL.sub (List.nil_sublist _)⟩
end Go.Proofs.YtgboffbbpmileaaGreatDoor
set_option maxRecDepth 20000
set_option maxHeartbeats 4000000
set_option linter.unusedVariables false
set_option linter.unusedSimpArgs false
namespace Go.Proofs.YtgboffbbpmileaaGreatDoor
open Go Go.RowKit
theorem dollar_param (src : ByteArray) (hs : src.size ≤ 100000) (v : Value) (b q : Nat) (at_ ln : Nat) (pv : Value) (LP : List (Nat × Obj)) (ps : List Prt) (w : World) (hL : Kn (b :: q :: keys LP) w w ((b, .cells #[.string src, .int .i64 (at_), .int .i64 (ln), v] 111 (0, 0)) :: (q, .cells #[pv] 135 (0, 0)) :: LP)) (hP : PtL LP pv ps) (hln : ln ≤ 100000) (hn : ps.length ≤ 50000) (ht : tot ps ≤ 500000) (qd : Bool) (s : Bytes) (hd : src.data.toList.drop at_ = 36 :: s) (e1 : s.head? ≠ some 40) (e2 : s.head? ≠ some 123) (hpos : 0 < param s) : Calls Tryz.prog 115 #[.pointer (some ⟨b, 0, none⟩), .pointer (some ⟨q, 0, none⟩), .bool qd] w (SPost src v b q (b :: q :: keys LP) w (dollar ps s ln qd)) := by
 obtain ⟨i0, hi, hz0, hz1, hz2⟩ := info_parts infoPt
 obtain ⟨h1, h2, h3⟩ := one_parts hd
 have hsl := szl src
 obtain ⟨u, hu⟩ : ∃ u, src.extract (at_ + 1) src.size = u := ⟨_, rfl⟩
 have hul : u.data.toList = s := by rw [← hu, ext_list, List.take_of_length_le (by omega), h2]
 have hus : u.size + (at_ + 1) = src.size := by
  have : u.size = src.size - (at_ + 1) := by rw [← szl, hul, ← h2, List.length_drop, szl]
  omega
 have hP1 : Hid (∀ W, Calls Tryz.prog 101 #[.string u, .string ⟨#[40]⟩] W fun e w' => e = .returned (.bool (decide (s.head? = some 40))) ∧ w' = W) := Lib.hid fun W => by
  have := Tryz.strings_HasPrefix u ⟨#[40]⟩ W
  rw [show Lib.hasPrefix u.data.toList [40] = _ by rw [hul, hp1]] at this
  exact this
 have hP2 : Hid (∀ W, Calls Tryz.prog 101 #[.string u, .string ⟨#[123]⟩] W fun e w' => e = .returned (.bool (decide (s.head? = some 123))) ∧ w' = W) := Lib.hid fun W => by
  have := Tryz.strings_HasPrefix u ⟨#[123]⟩ W
  rw [show Lib.hasPrefix u.data.toList [123] = _ by rw [hul, hp1]] at this
  exact this
 have hds : dollar ps s ln qd = .ok (ps ++ [⟨1, s.take (param s), qd⟩], s.drop (param s), ln) := by
  unfold dollar; rw [if_neg e1, if_neg e2, if_pos hpos]
 rw [decide_eq_false e1] at hP1
 rw [decide_eq_false e2] at hP2
 rw [hds]
 have hlf0 : lf (s.take (param s)) = 0 := by
  obtain ⟨_, _, h⟩ := param_ok hpos
  exact param_lf h
 have hle := param_le s
 obtain ⟨m, hm⟩ : ∃ m, param s = m := ⟨_, rfl⟩
 obtain ⟨a, ha⟩ : ∃ a, s.take (param s) = a := ⟨_, rfl⟩
 obtain ⟨r, hr0⟩ : ∃ r, s.drop (param s) = r := ⟨_, rfl⟩
 rw [ha] at hlf0 ⊢
 rw [hr0]
 have hsr : s = a ++ r := by rw [← ha, ← hr0, List.take_append_drop]
 have hal : a.length = m := by rw [← ha, List.length_take, ← hm]; omega
 have hmu : m ≤ u.size := by rw [← szl, hul, ← hm]; exact hle
 obtain ⟨u3, hu3⟩ : ∃ u3, u.extract 0 m = u3 := ⟨_, rfl⟩
 have hul3 : u3.data.toList = a := by rw [← hu3, ext_list, hul, ← ha, hm]; simp
 have hPm : Hid (∀ W, Calls Tryz.prog 126 #[.string u] W fun e w' => e = .returned (.int .i64 (m : Int)) ∧ Below W.heap.size W w') := Lib.hid fun W => by
  have := param_is u (by omega) W
  rw [hul, hm] at this; exact this
 have q1 : (m : Int) > 0 := by omega
 have hxx : src.data.toList.drop at_ = (36 :: a) ++ r := by rw [hd, hsr]; rfl
 have hlf : lf (36 :: a) = 0 := by simp [lf, List.count_cons]; simpa [lf] using hlf0
 have hxl : (36 :: a : Bytes).length = m + 1 := by simp [hal]
 have HX := Lib.hid hxx
 obtain ⟨hc1, hc2, hc3⟩ := cut_x hxx
 have hc4 := hc3 (by simp)
 have HL := Lib.hid hlf
 have HC := Lib.hid hc2
 have hal2 : (m : Int) = a.length := by omega
 have HA := Lib.hid hal2
 clear hds h1 h2 hd hul hxx hlf hc1 hc2 hc3 hm ha hr0 hsr hlf0 hpos hle hal2
 rcases hP with ⟨rfl, rfl, rfl⟩ | ⟨g, cap, cur, rfl, rfl, hr⟩
 ·have hF := hL.fx
  go_enter Tryz.func115, Tryz.ntmps115
  go_wp2_with (first | ((with_reducible refine zS ?_); clear hL; intro W hL hF) | (go_at_call 101; (((first | (with_reducible refine (hP1.out _).mono ?_) | (with_reducible refine (hP2.out _).mono ?_)))); rintro e w' ⟨rfl, rfl⟩) | (go_at_call 126; refine zC (fun W hL => hPm.out _) ?_; clear hF hL; intro W hL hF) | ((with_reducible refine at_region 0 ?_); refine zW [0, 1, 2, 3, 4, 5, 6, 7, 8, 9, 10] [0, 1, 2, 3, 4, 5, 6, 7, 8, 9, 10] [] [0, 1, 2, 4, 5, 6, 8, 9, 10] ?_; clear hF hL; intro ι F hne hC hG; (repeat (first | (refine cF hC ?_; intro K hK; go_big_quiet_op; go_big_quiet_on) | (refine cP ?_; intro K hK; go_big_quiet_op; go_big_quiet_on))); refine cwk_nil ?_; clear hC hG; intro W hL; have hF := hL.fx) | ((with_reducible refine at_region 17 ?_); refine zW [0, 1, 2, 3, 4, 5, 6, 7, 8, 9, 10, 11, 12] [0, 1, 2, 3, 4, 5, 6, 7, 8, 11] [10, 12] [0, 1, 2, 4, 5, 6, 7, 8, 11] ?_; clear hF hL; intro ι F hne hC hG; (repeat (first | (refine cF hC ?_; intro K hK; go_big_quiet_op; go_big_quiet_on) | (refine cP ?_; intro K hK; go_big_quiet_op; go_big_quiet_on) | (refine cN ?_; intro W hL; have hF := hL.fx; at_builtin; refine wpList_append_nilX rfl _ _ 135 rfl 118 i0 _ Tryz.underlying135 hi hz0 (by rw [hz1]; rfl) (by rw [hz1]; decide) hL  rfl _ _ _ (ptc ⟨1, u3.data.toList, qd⟩) rfl (by rw [hz1]; rfl) (fun j u hu => by rw [Go.WideShapes.add_plain, Nat.zero_add, World.cell?, hL.has _ List.mem_cons_self]; simpa [ptc, bs_list] using hu) (ptc_one _) (by unfold maxLen; omega) (by rw [hz2]; omega) (by omega) ?_; intro g2 cap2 cur2 W2 hL2 hg2 hr2; clear hL hF; have hL := hL2; clear hL2; have hF := hL.fx; go_wp2; refine zB2 ?_; clear hL hF hC hG; intro ι F hne hC hG) | (refine cN ?_; intro W hL; have hF := hL.fx; go_wp2; (first | (refine zB2 ?_; clear hL hF hC hG; intro ι F hne hC hG) | (refine zO2 ?_; clear hL hF))))); refine cwk_nil ?_; clear hC hG; intro W hL; simp only [kfb] at hL; have hF := hL.fx) | (go_at_call 80; refine zG ?_; clear hF hL; intro W hL hF; (with_reducible refine (skip_nat src at_ (36 :: a) r ln v b _ (by (exact hL.has _ (List.mem_cons_of_mem _ (List.mem_cons_of_mem _ List.mem_cons_self)))) HX.out (by simp) hs (by omega) _ (by (simp; omega))).mono ?_); rintro e W ⟨rfl, hb⟩; ((replace hL := hL.join1 2 rfl hb)); clear hb hF; simp only [List.eraseIdx_cons_zero, List.eraseIdx_cons_succ, List.cons_append, List.nil_append] at hL; have hF := hL.fx))
  rw [HL.out] at hL
  go_end0
  rw [hz1] at hr2
  rw [hul3] at hr2
  refine ⟨rfl, at_ + ((36 :: a)).length, .slice (some ⟨g2, 0, none⟩) (1) cap2, [(g2, .cells cur2 118 (0, 0))], by rw [szl] at hc4; exact hc4, HC.out, .inr ⟨g2, cap2, cur2, rfl, by simp, by simpa using hr2⟩, hL.pick (by simp) ?_⟩
  have := hL.nd
  (simp at this ⊢); grind
 ·have hF := hL.fx
  go_enter Tryz.func115, Tryz.ntmps115
  go_wp2_with (first | ((with_reducible refine zS ?_); clear hL; intro W hL hF) | (go_at_call 101; (((first | (with_reducible refine (hP1.out _).mono ?_) | (with_reducible refine (hP2.out _).mono ?_)))); rintro e w' ⟨rfl, rfl⟩) | (go_at_call 126; refine zC (fun W hL => hPm.out _) ?_; clear hF hL; intro W hL hF) | ((with_reducible refine at_region 0 ?_); refine zW [0, 1, 2, 3, 4, 5, 6, 7, 8, 9, 10] [0, 1, 2, 3, 4, 5, 6, 7, 8, 9, 10] [] [0, 1, 2, 4, 5, 6, 8, 9, 10] ?_; clear hF hL; intro ι F hne hC hG; (repeat (first | (refine cF hC ?_; intro K hK; go_big_quiet_op; go_big_quiet_on) | (refine cP ?_; intro K hK; go_big_quiet_op; go_big_quiet_on))); refine cwk_nil ?_; clear hC hG; intro W hL; have hF := hL.fx) | ((with_reducible refine at_region 17 ?_); refine kn_wp ?_; clear hF hL; intro W hL; have hF := hL.fx; refine kn_region [0, 1, 2, 3, 4, 5, 6, 7, 8, 9, 10, 11, 12] [0, 1, 2, 3, 4, 5, 6, 7, 8, 11] [10, 12] [0, 1, 2, 4, 5, 6, 7, 8, 11] (by kernel_rfl) (by kernel_rfl) (List.Sublist.cons_cons _ (List.Sublist.cons_cons _ (List.Sublist.cons _ (List.Sublist.refl _)))) ?_; clear hF hL; intro ι F hne hC hFF; have hG := fun n => (hFF n).fx; clear hFF; (repeat (first | (refine cF hC ?_; intro K hK; go_big_quiet_op; go_big_quiet_on) | (refine cP ?_; intro K hK; go_big_quiet_op; go_big_quiet_on) | (refine cN ?_; intro W hL; have hF := hL.fx; at_builtin; refine wpList_append_blkX rfl _ _ 135 rfl 118 i0 _ Tryz.underlying135 hi hz0 (by rw [hz1]; rfl) (by rw [hz1]; decide) hL 3 _ _ _ _ _ rfl (by rw [hz1]; exact hr) rfl _ _ _ (ptc ⟨1, u3.data.toList, qd⟩) rfl (by rw [hz1]; rfl) (fun j u hu => by rw [Go.WideShapes.add_plain, Nat.zero_add, World.cell?, hL.has _ List.mem_cons_self]; simpa [ptc, bs_list] using hu) (ptc_one _) (by unfold maxLen; omega) (by rw [hz2]; omega) (by omega) ?_; intro g2 cap2 cur2 W2 hL2 hr2; clear hL hF; have hL := hL2; clear hL2; simp only [List.eraseIdx_cons_zero, List.eraseIdx_cons_succ] at hL; have hF := hL.fx; go_wp2; refine zB2 ?_; clear hL hF hC hG; intro ι F hne hC hG) | (refine cN ?_; intro W hL; have hF := hL.fx; go_wp2; refine anchQ_normal ?_; (first | (refine owedB _ (by rfl) ?_; clear hL hF hC hG; intro ι F hne hC hFF; have hG := fun n => (hFF n).fx; clear hFF) | (refine owed0 _ (by repeat' (first | (with_reducible exact List.Sublist.refl _) | (with_reducible apply List.Sublist.cons_cons) | (with_reducible apply List.Sublist.cons))) ?_; clear hL hF))))); refine cwk_nil ?_; clear hC hG; intro W hL; simp only [kfb] at hL; have hF := hL.fx) | (go_at_call 80; refine zG ?_; clear hF hL; intro W hL hF; (with_reducible refine (skip_nat src at_ (36 :: a) r ln v b _ (by (exact hL.has _ (List.mem_cons_of_mem _ (List.mem_cons_of_mem _ List.mem_cons_self)))) HX.out (by simp) hs (by omega) _ (by (simp; omega))).mono ?_); rintro e W ⟨rfl, hb⟩; ((replace hL := hL.join1 2 rfl hb)); clear hb hF; simp only [List.eraseIdx_cons_zero, List.eraseIdx_cons_succ, List.cons_append, List.nil_append] at hL; have hF := hL.fx))
  rw [HL.out] at hL
  go_end0
  rw [hz1] at hr2
  rw [hul3] at hr2
  refine ⟨rfl, at_ + ((36 :: a)).length, .slice (some ⟨g2, 0, none⟩) (ps.length + 1) cap2, [(g2, .cells cur2 118 (0, 0))], by rw [szl] at hc4; exact hc4, HC.out, .inr ⟨g2, cap2, cur2, rfl, by simp, by simpa using hr2⟩, hL.pick (by simp) ?_⟩
  have := hL.nd
  (simp at this ⊢); grind
end Go.Proofs.YtgboffbbpmileaaGreatDoor
set_option maxRecDepth 20000
set_option maxHeartbeats 4000000
set_option linter.unusedVariables false
set_option linter.unusedSimpArgs false
namespace Go.Proofs.YtgboffbbpmileaaGreatDoor
open Go Go.RowKit
theorem nil_sz : ByteArray.size ⟨#[]⟩ = 0 := rfl
theorem one_sz (c : UInt8) : ByteArray.size ⟨#[c]⟩ = 1 := rfl
theorem dollar_text (src : ByteArray) (hs : src.size ≤ 100000) (v : Value) (b q : Nat) (at_ ln : Nat) (pv : Value) (LP : List (Nat × Obj)) (ps : List Prt) (w : World) (hL : Kn (b :: q :: keys LP) w w ((b, .cells #[.string src, .int .i64 (at_), .int .i64 (ln), v] 111 (0, 0)) :: (q, .cells #[pv] 135 (0, 0)) :: LP)) (hP : PtL LP pv ps) (hln : ln ≤ 100000) (hn : ps.length ≤ 50000) (ht : tot ps ≤ 500000) (qd : Bool) (s : Bytes) (hd : src.data.toList.drop at_ = 36 :: s) (e1 : s.head? ≠ some 40) (e2 : s.head? ≠ some 123) (hpos : ¬ 0 < param s) : Calls Tryz.prog 115 #[.pointer (some ⟨b, 0, none⟩), .pointer (some ⟨q, 0, none⟩), .bool qd] w (SPost src v b q (b :: q :: keys LP) w (dollar ps s ln qd)) := by
 obtain ⟨i0, hi, hz0, hz1, hz2⟩ := info_parts infoPt
 obtain ⟨h1, h2, h3⟩ := one_parts hd
 have hsl := szl src
 obtain ⟨u, hu⟩ : ∃ u, src.extract (at_ + 1) src.size = u := ⟨_, rfl⟩
 have hul : u.data.toList = s := by rw [← hu, ext_list, List.take_of_length_le (by omega), h2]
 have hus : u.size + (at_ + 1) = src.size := by
  have : u.size = src.size - (at_ + 1) := by rw [← szl, hul, ← h2, List.length_drop, szl]
  omega
 have hP1 : Hid (∀ W, Calls Tryz.prog 101 #[.string u, .string ⟨#[40]⟩] W fun e w' => e = .returned (.bool (decide (s.head? = some 40))) ∧ w' = W) := Lib.hid fun W => by
  have := Tryz.strings_HasPrefix u ⟨#[40]⟩ W
  rw [show Lib.hasPrefix u.data.toList [40] = _ by rw [hul, hp1]] at this
  exact this
 have hP2 : Hid (∀ W, Calls Tryz.prog 101 #[.string u, .string ⟨#[123]⟩] W fun e w' => e = .returned (.bool (decide (s.head? = some 123))) ∧ w' = W) := Lib.hid fun W => by
  have := Tryz.strings_HasPrefix u ⟨#[123]⟩ W
  rw [show Lib.hasPrefix u.data.toList [123] = _ by rw [hul, hp1]] at this
  exact this
 have hds : dollar ps s ln qd = .ok (addT ps [36] true, s, ln) := by
  unfold dollar; rw [if_neg e1, if_neg e2, if_neg hpos]
 rw [decide_eq_false e1] at hP1
 rw [decide_eq_false e2] at hP2
 rw [hds]
 have hPm : Hid (∀ W, Calls Tryz.prog 126 #[.string u] W fun e w' => e = .returned (.int .i64 0) ∧ Below W.heap.size W w') := Lib.hid fun W => by
  have := param_is u (by omega) W
  rw [hul, show param s = 0 by omega] at this; exact this
 have hxx : src.data.toList.drop at_ = [36] ++ s := by rw [hd]; rfl
 have HX := Lib.hid hxx
 obtain ⟨hc1, hc2, hc3⟩ := cut_x hxx
 have hc4 := hc3 (by simp)
 have HC := Lib.hid hc2
 clear hds h1 h2 hd hul hxx hc1 hc2 hc3 hpos
 have hF := hL.fx
 go_enter Tryz.func115, Tryz.ntmps115
 go_wp2_with (first | ((with_reducible refine zS ?_); clear hL; intro W hL hF) | (go_at_call 101; (((first | (with_reducible refine (hP1.out _).mono ?_) | (with_reducible refine (hP2.out _).mono ?_)))); rintro e w' ⟨rfl, rfl⟩) | (go_at_call 126; refine zC (fun W hL => hPm.out _) ?_; clear hF hL; intro W hL hF) | ((with_reducible refine at_region 0 ?_); refine zW [0, 1, 2, 3, 4, 5, 6, 7, 8, 9, 10] [0, 1, 2, 3, 4, 5, 6, 7, 8, 9, 10] [] [0, 1, 2, 4, 5, 6, 8, 9, 10] ?_; clear hF hL; intro ι F hne hC hG; (repeat (first | (refine cF hC ?_; intro K hK; go_big_quiet_op; go_big_quiet_on) | (refine cP ?_; intro K hK; go_big_quiet_op; go_big_quiet_on))); refine cwk_nil ?_; clear hC hG; intro W hL; have hF := hL.fx) | (go_at_call 113; refine zG ?_; clear hF hL; intro W hL hF; (with_reducible refine (text_is q pv _ LP ps (by (exact hL.self1q)) hP ⟨#[36]⟩ true (by omega) (by rw [one_sz]; omega)).mono ?_); rintro e W2 ⟨rfl, pv2, LP2, hP2, hb⟩; ((replace hL := hL.tail1 hb)); clear hb hF hP; have hP := hP2; clear hP2; have hF := hL.fx) | (go_at_call 80; refine zG ?_; clear hF hL; intro W hL hF; (with_reducible refine (skip_nat src at_ [36] s ln v b _ (by (exact hL.has _ List.mem_cons_self)) HX.out (by simp) hs (by omega) _ (by (simp; done))).mono ?_); rintro e W ⟨rfl, hb⟩; ((replace hL := hL.join1 0 rfl hb)); clear hb hF; simp only [List.eraseIdx_cons_zero, List.eraseIdx_cons_succ, List.cons_append, List.nil_append] at hL; have hF := hL.fx))
 go_end0
 exact ⟨rfl, at_ + 1, pv2, LP2, by rw [szl] at hc4; exact hc4, HC.out, hP, hL⟩
theorem PtL.one {LP : List (Nat × Obj)} {v : Value} {ps : List Prt} (h : PtL LP v ps) : v.oneCell' = true := by
 rcases h with ⟨_, rfl, _⟩ | ⟨g, cap, cur, _, rfl, _⟩ <;> rfl
end Go.Proofs.YtgboffbbpmileaaGreatDoor
set_option linter.unusedVariables false
set_option linter.unusedSimpArgs false
namespace Go.Proofs.YtgboffbbpmileaaGreatDoor
open Go Go.RowKit
theorem dollar_is (src : ByteArray) (hs : src.size ≤ 100000) (v : Value) (b q : Nat) (at_ ln : Nat) (pv : Value) (LP : List (Nat × Obj)) (ps : List Prt) (w : World) (hL : Kn (b :: q :: keys LP) w w ((b, .cells #[.string src, .int .i64 (at_), .int .i64 (ln), v] 111 (0, 0)) :: (q, .cells #[pv] 135 (0, 0)) :: LP)) (hP : PtL LP pv ps) (hln : ln ≤ 100000) (hn : ps.length ≤ 50000) (ht : tot ps ≤ 500000) (qd : Bool) (s : Bytes) (hd : src.data.toList.drop at_ = 36 :: s) : Calls Tryz.prog 115 #[.pointer (some ⟨b, 0, none⟩), .pointer (some ⟨q, 0, none⟩), .bool qd] w (SPost src v b q (b :: q :: keys LP) w (dollar ps s ln qd)) := by
 by_cases h40 : s.head? = some 40
 ·cases s with
  | nil => cases h40
  | cons c t =>
   simp only [List.head?_cons, Option.some.injEq] at h40
   subst h40
   exact dollar_sub src hs v b q at_ ln pv LP ps w hL hP hln hn ht qd (40 :: t) t hd
 by_cases h123 : s.head? = some 123
 ·cases s with
  | nil => cases h123
  | cons c t =>
   simp only [List.head?_cons, Option.some.injEq] at h123
   subst h123
   exact dollar_brace src hs v b q at_ ln pv LP ps w hL hP hln hn ht qd (123 :: t) t hd rfl
 by_cases hp : 0 < param s
 ·exact dollar_param src hs v b q at_ ln pv LP ps w hL hP hln hn ht qd s hd h40 h123 hp
 ·exact dollar_text src hs v b q at_ ln pv LP ps w hL hP hln hn ht qd s hd h40 h123 hp
end Go.Proofs.YtgboffbbpmileaaGreatDoor
