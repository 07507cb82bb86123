import Derived.Test.YtflfaobbfhjmmaaDoorProg
import Derived.WalkKit
import Derived.Handy
import Derived.Deep.Light
import Derived.WalkSmall
import Derived.StillTailTactics
import Derived.Lib.Hide
import Derived.Test.YtflfaobbfhjmmaaDoorT0
import Derived.Test.YtflfaobbfhjmmaaDoorIt
import Derived.Test.YtflfaobbfhjmmaaDoorL11
namespace Go.Proofs.YtflfaobbfhjmmaaDoor
open Go Go.RowKit
set_option linter.unusedSimpArgs false
set_option linter.unusedVariables false
theorem nil_sz : ByteArray.size ⟨#[]⟩ = 0 := rfl
theorem one_sz (c : UInt8) : ByteArray.size ⟨#[c]⟩ = 1 := rfl
set_option maxRecDepth 20000 in
set_option maxHeartbeats 4000000 in
theorem dollar_text (src : ByteArray) (hs : src.size ≤ 100000) (v : Value) (b q : Nat) (at_ ln : Nat) (pv : Value) (LP : List (Nat × Obj)) (ps : List Prt) (w : World) (hL : Kn (b :: q :: keys LP) w w ((b, .cells #[.string src, .int .i64 (at_), .int .i64 (ln), v] 43 (0, 0)) :: (q, .cells #[pv] 51 (0, 0)) :: LP)) (hP : PtL LP pv ps) (hln : ln ≤ 100000) (hn : ps.length ≤ 50000) (ht : tot ps ≤ 500000) (qd : Bool) (s : Bytes) (hd : src.data.toList.drop at_ = 36 :: s) (e1 : s.head? ≠ some 40) (e2 : s.head? ≠ some 123) (hpos : ¬ 0 < param s) : Calls Tryd.prog 36 #[.pointer (some ⟨b, 0, none⟩), .pointer (some ⟨q, 0, none⟩), .bool qd] w (SPost src v b q (b :: q :: keys LP) w (dollar ps s ln qd)) := by
  obtain ⟨i0, hi, hz0, hz1, hz2⟩ := info_parts infoPt
  obtain ⟨h1, h2, h3⟩ := one_parts hd
  have hsl := szl src
  obtain ⟨u, hu⟩ : ∃ u, src.extract (at_ + 1) src.size = u := ⟨_, rfl⟩
  have hul : u.data.toList = s := by rw [← hu, ext_list, List.take_of_length_le (by omega), h2]
  have hus : u.size + (at_ + 1) = src.size := by
    have : u.size = src.size - (at_ + 1) := by rw [← szl, hul, ← h2, List.length_drop, szl]
    omega
  have hP1 : Hid (∀ W, Calls Tryd.prog 25 #[.string u, .string ⟨#[40]⟩] W fun e w' => e = .returned (.bool (decide (s.head? = some 40))) ∧ w' = W) := Lib.hid fun W => by
    have := Tryd.strings_HasPrefix u ⟨#[40]⟩ W
    rw [show Lib.hasPrefix u.data.toList [40] = _ by rw [hul, hp1]] at this
    exact this
  have hP2 : Hid (∀ W, Calls Tryd.prog 25 #[.string u, .string ⟨#[123]⟩] W fun e w' => e = .returned (.bool (decide (s.head? = some 123))) ∧ w' = W) := Lib.hid fun W => by
    have := Tryd.strings_HasPrefix u ⟨#[123]⟩ W
    rw [show Lib.hasPrefix u.data.toList [123] = _ by rw [hul, hp1]] at this
    exact this
  have hds : dollar ps s ln qd = .ok (addT ps [36] true, s, ln) := by
    unfold dollar; rw [if_neg e1, if_neg e2, if_neg hpos]
  rw [decide_eq_false e1] at hP1
  rw [decide_eq_false e2] at hP2
  rw [hds]
  have hPm : Hid (∀ W, Calls Tryd.prog 41 #[.string u] W fun e w' => e = .returned (.int .i64 0) ∧ Below W.heap.size W w') := Lib.hid fun W => by
    have := param_is u (by omega) W
    rw [hul, show param s = 0 by omega] at this; exact this
  have hxx : src.data.toList.drop at_ = [36] ++ s := by rw [hd]; rfl
  have HX := Lib.hid hxx
  obtain ⟨hc1, hc2, hc3⟩ := cut_x hxx
  have hc4 := hc3 (by simp)
  have HC := Lib.hid hc2
  clear hds h1 h2 hd hul hxx hc1 hc2 hc3 hpos
  (try simp only [kfb] at hL); have hF := hL.facts; (try simp only [Facts, Dist, kfa, implies_true, forall_const] at hF)
  go_enter Tryd.func36, Tryd.ntmps36
  go_wp2_with (first | ((with_reducible refine kn_list_set ?_); (try clear hF); clear hL; intro W hL; (try simp only [kfb] at hL); have hF := hL.facts; (try simp only [Facts, Dist, kfa, implies_true, forall_const] at hF)) | (go_at_call 25; (((first | (with_reducible refine (hP1.out _).mono ?_) | (with_reducible refine (hP2.out _).mono ?_)))); rintro e w' ⟨rfl, rfl⟩) | (go_at_call 41; refine kn_calls ?_; (try clear hF); clear hL; intro W hL; (try simp only [kfb] at hL); have hF := hL.facts; (try simp only [Facts, Dist, kfa, implies_true, forall_const] at hF); (((with_reducible refine (hPm.out _).mono ?_))); rintro e W ⟨rfl, hb⟩; replace hL := hL.below hb; clear hb; (try clear hF); (try simp only [kfb] at hL); have hF := hL.facts; (try simp only [Facts, Dist, kfa, implies_true, forall_const] at hF)) | ((with_reducible refine at_region 0 ?_); refine kn_wp ?_; (try clear hF); clear hL; intro W hL; (try simp only [kfb] at hL); have hF := hL.facts; (try simp only [Facts, Dist, kfa, implies_true, forall_const] at hF); refine kn_region [0, 1, 2, 3, 4, 5, 6, 7, 8, 9, 10] [0, 1, 2, 3, 4, 5, 6, 7, 8, 9, 10] [] [0, 1, 2, 4, 5, 6, 8, 9, 10] (by kernel_rfl) (by kernel_rfl) (List.Sublist.refl _) ?_; (try clear hF); clear hL; intro ι F hne hC hFF; have hG := fun n => (hFF n).facts; clear hFF; (try simp only [Facts, Dist, kfa, implies_true, forall_const] at hG); (repeat (first | (refine cwk_skip rfl (by rfl) ?_; (try simp only [Act.put, List.setIfInBounds_toArray, List.set_cons_zero, List.set_cons_succ])) | (refine cwk_float rfl rfl (by rfl) (by rfl) (by rfl) hC ?_; intro K hK; go_big_quiet_op; go_big_quiet_on) | (refine cwk_pure rfl rfl (by rfl) (by rfl) ?_; intro K hK; go_big_quiet_op; go_big_quiet_on) | (refine cwk_anch rfl rfl (by rfl) (by rfl) ?_; intro W hL; (try simp only [kfb] at hL); have hF := hL.facts; (try simp only [Facts, Dist, kfa, implies_true, forall_const] at hF); go_wp2; refine anchQ_normal ?_; (first | (refine owedB _ (by rfl) ?_; clear hL; (try clear hF); clear hC hG; intro ι F hne hC hFF; have hG := fun n => (hFF n).facts; clear hFF; (try simp only [Facts, Dist, kfa, implies_true, forall_const] at hG)) | (refine owed0 _ (by repeat' (first | (with_reducible exact List.Sublist.refl _) | (with_reducible apply List.Sublist.cons_cons) | (with_reducible apply List.Sublist.cons))) ?_; clear hL; (try clear hF)))))); refine cwk_nil ?_; clear hC hG; intro W hL; (try simp only [kfb] at hL); have hF := hL.facts; (try simp only [Facts, Dist, kfa, implies_true, forall_const] at hF)) | (go_at_call 34; refine kn_calls ?_; (try clear hF); clear hL; intro W hL; (try simp only [kfb] at hL); have hF := hL.facts; (try simp only [Facts, Dist, kfa, implies_true, forall_const] at hF); (((with_reducible refine (text_is q pv _ LP ps (by first | exact hL.self1q | exact hL.self0q) hP ⟨#[36]⟩ true (by omega) (by rw [one_sz]; omega)).mono ?_))); rintro e W2 ⟨rfl, pv2, LP2, hP2, hb⟩; (first | replace hL := hL.tail1 hb | replace hL := hL.tail0 hb); clear hb hF; clear hP; have hP := hP2; clear hP2; (try simp only [kfb] at hL); have hF := hL.facts; (try simp only [Facts, Dist, kfa, implies_true, forall_const] at hF)) | (go_at_call 16; refine kn_calls ?_; (try clear hF); clear hL; intro W hL; (try simp only [kfb] at hL); have hF := hL.facts; (try simp only [Facts, Dist, kfa, implies_true, forall_const] at hF); (((with_reducible refine (skip_nat src at_ [36] s ln v b _ (by first | exact hL.has _ List.mem_cons_self | exact hL.has _ (List.mem_cons_of_mem _ List.mem_cons_self) | exact hL.has _ (List.mem_cons_of_mem _ (List.mem_cons_of_mem _ List.mem_cons_self)) | exact hL.has _ (List.mem_cons_of_mem _ (List.mem_cons_of_mem _ (List.mem_cons_of_mem _ List.mem_cons_self))) | exact hL.has _ (List.mem_cons_of_mem _ (List.mem_cons_of_mem _ (List.mem_cons_of_mem _ (List.mem_cons_of_mem _ List.mem_cons_self)))) | exact hL.has _ (List.mem_cons_of_mem _ (List.mem_cons_of_mem _ (List.mem_cons_of_mem _ (List.mem_cons_of_mem _ (List.mem_cons_of_mem _ List.mem_cons_self)))))) HX.out (by simp) hs (by omega) _ (by first | (simp; done) | (simp; omega))).mono ?_))); rintro e W ⟨rfl, hb⟩; (first | (replace hL := hL.join1 0 rfl hb) | (replace hL := hL.join1 1 rfl hb) | (replace hL := hL.join1 2 rfl hb) | (replace hL := hL.join1 3 rfl hb) | (replace hL := hL.join1 4 rfl hb) | (replace hL := hL.join1 5 rfl hb) | (replace hL := hL.join1 6 rfl hb) | (replace hL := hL.join1 7 rfl hb)); clear hb; (try clear hF); (try simp only [List.eraseIdx_cons_zero, List.eraseIdx_cons_succ, List.cons_append, List.nil_append] at hL); (try simp only [kfb] at hL); have hF := hL.facts; (try simp only [Facts, Dist, kfa, implies_true, forall_const] at hF)))
  go_end0
  exact ⟨rfl, at_ + 1, pv2, LP2, by rw [szl] at hc4; exact hc4, HC.out, hP, hL⟩
theorem PtL.one {LP : List (Nat × Obj)} {v : Value} {ps : List Prt} (h : PtL LP v ps) : v.oneCell' = true := by
  rcases h with ⟨_, rfl, _⟩ | ⟨g, cap, cur, _, rfl, _⟩ <;> rfl

end Go.Proofs.YtflfaobbfhjmmaaDoor
