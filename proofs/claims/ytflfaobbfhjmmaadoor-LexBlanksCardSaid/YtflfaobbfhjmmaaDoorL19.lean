import Derived.Test.YtflfaobbfhjmmaaDoorProg
import Derived.WalkKit
import Derived.Handy
import Derived.Deep.Light
import Derived.WalkSmall
import Derived.StillTailTactics
import Derived.Lib.Hide
import Derived.Test.YtflfaobbfhjmmaaDoorT0
import Derived.Test.YtflfaobbfhjmmaaDoorIt
import Derived.Test.YtflfaobbfhjmmaaDoorL18
namespace Go.Proofs.YtflfaobbfhjmmaaDoor
open Go Go.RowKit
set_option linter.unusedSimpArgs false
set_option linter.unusedVariables false

/-- A token without parts has been added, unless there are too many. -/
def OPost (src : ByteArray) (b : Nat) (X : List Nat) (w : World) (tvs : List (Tok × Value)) (t : Tok) (at2 ln2 : Nat) (e : Ending) (w' : World) : Prop :=
  if tvs.length < 2000 then e = .returned (.tuple #[]) ∧ ∃ v2 LO2 pv, pv = Value.slice none 0 0 ∧ OutL LO2 v2 (tvs ++ [(t, pv)]) ∧ Kn X w w' ((b, .cells #[.string src, .int .i64 (at2), .int .i64 (ln2), v2] 43 (0, 0)) :: LO2)
  else e = .panicked [{ v := .iface 39 (.agg #[.int .i64 6, .int .i64 t.line]), recovered := false }] ∧ Kn X w w' []
set_option maxRecDepth 20000 in
set_option maxHeartbeats 4000000 in
theorem one_line (src : ByteArray) (hs0 : src.size ≤ 10000) (v : Value) (b : Nat) (at_ ln : Nat) (w : World) (LO : List (Nat × Obj)) (tvs : List (Tok × Value)) (hL : Kn (b :: keys LO) w w ((b, .cells #[.string src, .int .i64 (at_), .int .i64 (ln), v] 43 (0, 0)) :: LO)) (hO : OutL LO v tvs) (hln : ln ≤ 100000)  (x r : Bytes) (hx : src.data.toList.drop at_ = x ++ r) (hne : x ≠ []) (m : Int) (hm : m = x.length) (fd : Int) (n : Nat) (l : Int) (hl : l = n) :
    Calls Tryd.prog 18 #[.pointer (some ⟨b, 0, none⟩), .int .i64 3, .int .i64 m, .int .i64 fd, .int .i64 l] w (OPost src b (b :: keys LO) w tvs ⟨3, [], [], [], fd, n⟩ (at_ + x.length) (ln + lf x)) := by
  have hsl := szl src
  have hs : src.size ≤ 100000 := by omega
  obtain ⟨hc1, hc2, hc3⟩ := cut_x hx
  have hc4 := hc3 hne
  rw [hsl] at hc4
  
  subst hl; subst hm
  have HX := Lib.hid hx
  have HNE := Lib.hid hne
  
  
  obtain ⟨u, hu⟩ : ∃ u, src.extract at_ (at_ + x.length) = u := ⟨_, rfl⟩
  have hul : u.data.toList = x := by rw [← hu, ext_list, hc1]
  have HU := Lib.hid hul
  have hlx : 0 < x.length := List.length_pos_iff.2 hne
  have w2 : IntKind.i64.wrap ((at_ : Int) + x.length) = (at_ : Int) + x.length := by rw [IntWalk.i64_in _ (by omega)]
  have w4 : ((at_ : Int) + x.length).toNat = at_ + x.length := by omega
  have w6 : 0 ≤ (at_ : Int) + x.length := by omega
  have w7 : (at_ : Int) ≤ (at_ : Int) + x.length := by omega
  have w8 : (at_ : Int) + x.length ≤ src.size := by omega
  unfold OPost
  clear hx hne hc1 hc2 hul
  by_cases hf : tvs.length < 2000
  · simp only [if_pos hf]
    (try simp only [kfb] at hL); have hF := hL.facts; (try simp only [Facts, Dist, kfa, implies_true, forall_const] at hF)
    go_enter Tryd.func18, Tryd.ntmps18
    go_wp2_with (first | ((with_reducible refine kn_list_set ?_); (try clear hF); clear hL; intro W hL; (try simp only [kfb] at hL); have hF := hL.facts; (try simp only [Facts, Dist, kfa, implies_true, forall_const] at hF)) | (go_at_call 24; refine kn_calls ?_; (try clear hF); clear hL; intro W hL; (try simp only [kfb] at hL); have hF := hL.facts; (try simp only [Facts, Dist, kfa, implies_true, forall_const] at hF); (((with_reducible refine (add_any src hs0 v b at_ ln _ LO tvs (by first | exact hL.self1q | exact hL.self0q) hO hln 3 ⟨#[]⟩ ⟨#[]⟩ (.slice none 0 0) rfl [] fd n _ _ (by omega) (by omega) hf).mono ?_))); rintro e W2 ⟨rfl, v2, LO2, hO2, hb⟩; (first | replace hL := hL.tail1 hb | replace hL := hL.tail0 hb); clear hb hF; (try simp only [kfb] at hL); have hF := hL.facts; (try simp only [Facts, Dist, kfa, implies_true, forall_const] at hF)) | (go_at_call 16; refine kn_calls ?_; (try clear hF); clear hL; intro W hL; (try simp only [kfb] at hL); have hF := hL.facts; (try simp only [Facts, Dist, kfa, implies_true, forall_const] at hF); (((with_reducible refine (skip_nat src at_ x r ln v2 b _ (by first | exact hL.has _ List.mem_cons_self | exact hL.has _ (List.mem_cons_of_mem _ List.mem_cons_self) | exact hL.has _ (List.mem_cons_of_mem _ (List.mem_cons_of_mem _ List.mem_cons_self)) | exact hL.has _ (List.mem_cons_of_mem _ (List.mem_cons_of_mem _ (List.mem_cons_of_mem _ List.mem_cons_self))) | exact hL.has _ (List.mem_cons_of_mem _ (List.mem_cons_of_mem _ (List.mem_cons_of_mem _ (List.mem_cons_of_mem _ List.mem_cons_self)))) | exact hL.has _ (List.mem_cons_of_mem _ (List.mem_cons_of_mem _ (List.mem_cons_of_mem _ (List.mem_cons_of_mem _ (List.mem_cons_of_mem _ List.mem_cons_self)))))) HX.out HNE.out hs (by omega) _ (by first | (simp; done) | (simp; omega))).mono ?_))); rintro e W ⟨rfl, hb⟩; (first | (replace hL := hL.join1 0 rfl hb) | (replace hL := hL.join1 1 rfl hb) | (replace hL := hL.join1 2 rfl hb) | (replace hL := hL.join1 3 rfl hb) | (replace hL := hL.join1 4 rfl hb) | (replace hL := hL.join1 5 rfl hb) | (replace hL := hL.join1 6 rfl hb) | (replace hL := hL.join1 7 rfl hb)); clear hb; (try clear hF); (try simp only [List.eraseIdx_cons_zero, List.eraseIdx_cons_succ, List.cons_append, List.nil_append] at hL); (try simp only [kfb] at hL); have hF := hL.facts; (try simp only [Facts, Dist, kfa, implies_true, forall_const] at hF)))
    go_end0
    refine ⟨rfl, v2, LO2, .slice none 0 0, rfl, ?_, ?_⟩
    · exact hO2
    · exact hL.pick (by simp; grind) (by have := hL.nd; simp at this ⊢; grind)
  · simp only [if_neg hf]
    (try simp only [kfb] at hL); have hF := hL.facts; (try simp only [Facts, Dist, kfa, implies_true, forall_const] at hF)
    go_enter Tryd.func18, Tryd.ntmps18
    go_wp2_with (first | ((with_reducible refine kn_list_set ?_); (try clear hF); clear hL; intro W hL; (try simp only [kfb] at hL); have hF := hL.facts; (try simp only [Facts, Dist, kfa, implies_true, forall_const] at hF)) | (go_at_call 24; refine kn_calls ?_; (try clear hF); clear hL; intro W hL; (try simp only [kfb] at hL); have hF := hL.facts; (try simp only [Facts, Dist, kfa, implies_true, forall_const] at hF); (((with_reducible refine (add_not src hs0 v b at_ ln _ LO tvs (by first | exact hL.self1q | exact hL.self0q) hO hln 3 ⟨#[]⟩ ⟨#[]⟩ (.slice none 0 0) fd n _ _ (by omega) (by omega) hf).mono ?_))); rintro e W2 ⟨rfl, hb⟩; (first | replace hL := hL.tail1 hb | replace hL := hL.tail0 hb); clear hb hF; (try simp only [kfb] at hL); have hF := hL.facts; (try simp only [Facts, Dist, kfa, implies_true, forall_const] at hF)))
    exact ⟨rfl, rfl, hL.sub (List.nil_sublist _)⟩
set_option maxRecDepth 20000 in
set_option maxHeartbeats 4000000 in
theorem one_text (src : ByteArray) (hs0 : src.size ≤ 10000) (v : Value) (b : Nat) (at_ ln : Nat) (w : World) (LO : List (Nat × Obj)) (tvs : List (Tok × Value)) (hL : Kn (b :: keys LO) w w ((b, .cells #[.string src, .int .i64 (at_), .int .i64 (ln), v] 43 (0, 0)) :: LO)) (hO : OutL LO v tvs) (hln : ln ≤ 100000) (kd : Nat) (k : Int) (hk : k = kd) (h3 : kd ≠ 3) (x r : Bytes) (hx : src.data.toList.drop at_ = x ++ r) (hne : x ≠ []) (m : Int) (hm : m = x.length) (fd : Int) (n : Nat) (l : Int) (hl : l = n) :
    Calls Tryd.prog 18 #[.pointer (some ⟨b, 0, none⟩), .int .i64 k, .int .i64 m, .int .i64 fd, .int .i64 l] w (OPost src b (b :: keys LO) w tvs ⟨kd, x, [], [], fd, n⟩ (at_ + x.length) (ln + lf x)) := by
  have hsl := szl src
  have hs : src.size ≤ 100000 := by omega
  obtain ⟨hc1, hc2, hc3⟩ := cut_x hx
  have hc4 := hc3 hne
  rw [hsl] at hc4
  subst hk
  subst hl; subst hm
  have HX := Lib.hid hx
  have HNE := Lib.hid hne
  have q0 : ((kd : Int) == 3) = false := beq_false_of_ne (by omega)
  have q1 : ((kd : Int) != 3) = true := by rw [bne, q0]; rfl
  obtain ⟨u, hu⟩ : ∃ u, src.extract at_ (at_ + x.length) = u := ⟨_, rfl⟩
  have hul : u.data.toList = x := by rw [← hu, ext_list, hc1]
  have HU := Lib.hid hul
  have hlx : 0 < x.length := List.length_pos_iff.2 hne
  have w2 : IntKind.i64.wrap ((at_ : Int) + x.length) = (at_ : Int) + x.length := by rw [IntWalk.i64_in _ (by omega)]
  have w4 : ((at_ : Int) + x.length).toNat = at_ + x.length := by omega
  have w6 : 0 ≤ (at_ : Int) + x.length := by omega
  have w7 : (at_ : Int) ≤ (at_ : Int) + x.length := by omega
  have w8 : (at_ : Int) + x.length ≤ src.size := by omega
  unfold OPost
  clear hx hne hc1 hc2 hul
  by_cases hf : tvs.length < 2000
  · simp only [if_pos hf]
    (try simp only [kfb] at hL); have hF := hL.facts; (try simp only [Facts, Dist, kfa, implies_true, forall_const] at hF)
    go_enter Tryd.func18, Tryd.ntmps18
    go_wp2_with (first | ((with_reducible refine kn_list_set ?_); (try clear hF); clear hL; intro W hL; (try simp only [kfb] at hL); have hF := hL.facts; (try simp only [Facts, Dist, kfa, implies_true, forall_const] at hF)) | ((with_reducible refine at_region 2 ?_); refine kn_wp ?_; (try clear hF); clear hL; intro W hL; (try simp only [kfb] at hL); have hF := hL.facts; (try simp only [Facts, Dist, kfa, implies_true, forall_const] at hF); refine kn_region [0, 1, 2, 3, 4, 5, 6, 7, 8, 9, 10, 11, 12, 13, 14, 15, 16] [0, 1, 2, 3, 4, 5, 6, 7, 8, 9, 10, 11, 12, 13, 14, 15] [16] [0, 1, 2, 4, 5, 6, 8, 9, 10, 12, 13, 14, 15] (by kernel_rfl) (by kernel_rfl) (List.Sublist.refl _) ?_; (try clear hF); clear hL; intro ι F hne hC hFF; have hG := fun n => (hFF n).facts; clear hFF; (try simp only [Facts, Dist, kfa, implies_true, forall_const] at hG); (repeat (first | (refine cwk_skip rfl (by rfl) ?_; (try simp only [Act.put, List.setIfInBounds_toArray, List.set_cons_zero, List.set_cons_succ])) | (refine cwk_float rfl rfl (by rfl) (by rfl) (by rfl) hC ?_; intro K hK; go_big_quiet_op; go_big_quiet_on) | (refine cwk_pure rfl rfl (by rfl) (by rfl) ?_; intro K hK; go_big_quiet_op; go_big_quiet_on) | (refine cwk_anch rfl rfl (by rfl) (by rfl) ?_; intro W hL; (try simp only [kfb] at hL); have hF := hL.facts; (try simp only [Facts, Dist, kfa, implies_true, forall_const] at hF); go_wp2; refine anchQ_normal ?_; (first | (refine owedB _ (by rfl) ?_; clear hL; (try clear hF); clear hC hG; intro ι F hne hC hFF; have hG := fun n => (hFF n).facts; clear hFF; (try simp only [Facts, Dist, kfa, implies_true, forall_const] at hG)) | (refine owed0 _ (by repeat' (first | (with_reducible exact List.Sublist.refl _) | (with_reducible apply List.Sublist.cons_cons) | (with_reducible apply List.Sublist.cons))) ?_; clear hL; (try clear hF)))))); refine cwk_nil ?_; clear hC hG; intro W hL; (try simp only [kfb] at hL); have hF := hL.facts; (try simp only [Facts, Dist, kfa, implies_true, forall_const] at hF)) | (go_at_call 24; refine kn_calls ?_; (try clear hF); clear hL; intro W hL; (try simp only [kfb] at hL); have hF := hL.facts; (try simp only [Facts, Dist, kfa, implies_true, forall_const] at hF); (((with_reducible refine (add_any src hs0 v b at_ ln _ LO tvs (by first | exact hL.self1q | exact hL.self0q) hO hln kd u ⟨#[]⟩ (.slice none 0 0) rfl [] fd n _ _ (by omega) (by omega) hf).mono ?_))); rintro e W2 ⟨rfl, v2, LO2, hO2, hb⟩; (first | replace hL := hL.tail1 hb | replace hL := hL.tail0 hb); clear hb hF; (try simp only [kfb] at hL); have hF := hL.facts; (try simp only [Facts, Dist, kfa, implies_true, forall_const] at hF)) | (go_at_call 16; refine kn_calls ?_; (try clear hF); clear hL; intro W hL; (try simp only [kfb] at hL); have hF := hL.facts; (try simp only [Facts, Dist, kfa, implies_true, forall_const] at hF); (((with_reducible refine (skip_nat src at_ x r ln v2 b _ (by first | exact hL.has _ List.mem_cons_self | exact hL.has _ (List.mem_cons_of_mem _ List.mem_cons_self) | exact hL.has _ (List.mem_cons_of_mem _ (List.mem_cons_of_mem _ List.mem_cons_self)) | exact hL.has _ (List.mem_cons_of_mem _ (List.mem_cons_of_mem _ (List.mem_cons_of_mem _ List.mem_cons_self))) | exact hL.has _ (List.mem_cons_of_mem _ (List.mem_cons_of_mem _ (List.mem_cons_of_mem _ (List.mem_cons_of_mem _ List.mem_cons_self)))) | exact hL.has _ (List.mem_cons_of_mem _ (List.mem_cons_of_mem _ (List.mem_cons_of_mem _ (List.mem_cons_of_mem _ (List.mem_cons_of_mem _ List.mem_cons_self)))))) HX.out HNE.out hs (by omega) _ (by first | (simp; done) | (simp; omega))).mono ?_))); rintro e W ⟨rfl, hb⟩; (first | (replace hL := hL.join1 0 rfl hb) | (replace hL := hL.join1 1 rfl hb) | (replace hL := hL.join1 2 rfl hb) | (replace hL := hL.join1 3 rfl hb) | (replace hL := hL.join1 4 rfl hb) | (replace hL := hL.join1 5 rfl hb) | (replace hL := hL.join1 6 rfl hb) | (replace hL := hL.join1 7 rfl hb)); clear hb; (try clear hF); (try simp only [List.eraseIdx_cons_zero, List.eraseIdx_cons_succ, List.cons_append, List.nil_append] at hL); (try simp only [kfb] at hL); have hF := hL.facts; (try simp only [Facts, Dist, kfa, implies_true, forall_const] at hF)))
    go_end0
    refine ⟨rfl, v2, LO2, .slice none 0 0, rfl, ?_, ?_⟩
    · rw [← HU.out]; exact hO2
    · exact hL.pick (by simp; grind) (by have := hL.nd; simp at this ⊢; grind)
  · simp only [if_neg hf]
    (try simp only [kfb] at hL); have hF := hL.facts; (try simp only [Facts, Dist, kfa, implies_true, forall_const] at hF)
    go_enter Tryd.func18, Tryd.ntmps18
    go_wp2_with (first | ((with_reducible refine kn_list_set ?_); (try clear hF); clear hL; intro W hL; (try simp only [kfb] at hL); have hF := hL.facts; (try simp only [Facts, Dist, kfa, implies_true, forall_const] at hF)) | ((with_reducible refine at_region 2 ?_); refine kn_wp ?_; (try clear hF); clear hL; intro W hL; (try simp only [kfb] at hL); have hF := hL.facts; (try simp only [Facts, Dist, kfa, implies_true, forall_const] at hF); refine kn_region [0, 1, 2, 3, 4, 5, 6, 7, 8, 9, 10, 11, 12, 13, 14, 15, 16] [0, 1, 2, 3, 4, 5, 6, 7, 8, 9, 10, 11, 12, 13, 14, 15] [16] [0, 1, 2, 4, 5, 6, 8, 9, 10, 12, 13, 14, 15] (by kernel_rfl) (by kernel_rfl) (List.Sublist.refl _) ?_; (try clear hF); clear hL; intro ι F hne hC hFF; have hG := fun n => (hFF n).facts; clear hFF; (try simp only [Facts, Dist, kfa, implies_true, forall_const] at hG); (repeat (first | (refine cwk_skip rfl (by rfl) ?_; (try simp only [Act.put, List.setIfInBounds_toArray, List.set_cons_zero, List.set_cons_succ])) | (refine cwk_float rfl rfl (by rfl) (by rfl) (by rfl) hC ?_; intro K hK; go_big_quiet_op; go_big_quiet_on) | (refine cwk_pure rfl rfl (by rfl) (by rfl) ?_; intro K hK; go_big_quiet_op; go_big_quiet_on) | (refine cwk_anch rfl rfl (by rfl) (by rfl) ?_; intro W hL; (try simp only [kfb] at hL); have hF := hL.facts; (try simp only [Facts, Dist, kfa, implies_true, forall_const] at hF); go_wp2; refine anchQ_normal ?_; (first | (refine owedB _ (by rfl) ?_; clear hL; (try clear hF); clear hC hG; intro ι F hne hC hFF; have hG := fun n => (hFF n).facts; clear hFF; (try simp only [Facts, Dist, kfa, implies_true, forall_const] at hG)) | (refine owed0 _ (by repeat' (first | (with_reducible exact List.Sublist.refl _) | (with_reducible apply List.Sublist.cons_cons) | (with_reducible apply List.Sublist.cons))) ?_; clear hL; (try clear hF)))))); refine cwk_nil ?_; clear hC hG; intro W hL; (try simp only [kfb] at hL); have hF := hL.facts; (try simp only [Facts, Dist, kfa, implies_true, forall_const] at hF)) | (go_at_call 24; refine kn_calls ?_; (try clear hF); clear hL; intro W hL; (try simp only [kfb] at hL); have hF := hL.facts; (try simp only [Facts, Dist, kfa, implies_true, forall_const] at hF); (((with_reducible refine (add_not src hs0 v b at_ ln _ LO tvs (by first | exact hL.self1q | exact hL.self0q) hO hln kd u ⟨#[]⟩ (.slice none 0 0) fd n _ _ (by omega) (by omega) hf).mono ?_))); rintro e W2 ⟨rfl, hb⟩; (first | replace hL := hL.tail1 hb | replace hL := hL.tail0 hb); clear hb hF; (try simp only [kfb] at hL); have hF := hL.facts; (try simp only [Facts, Dist, kfa, implies_true, forall_const] at hF)))
    exact ⟨rfl, rfl, hL.sub (List.nil_sublist _)⟩

end Go.Proofs.YtflfaobbfhjmmaaDoor
