import Derived.Test.YtflfaobbfhjmmaaDoorProg
import Derived.WalkKit
import Derived.Handy
import Derived.Deep.Light
import Derived.WalkSmall
import Derived.StillTailTactics
import Derived.Lib.Hide
import Derived.Test.YtflfaobbfhjmmaaDoorT0
import Derived.Test.YtflfaobbfhjmmaaDoorIt
import Derived.Test.YtflfaobbfhjmmaaDoorLx
import Derived.Test.YtflfaobbfhjmmaaDoorByt0
import Derived.Test.YtflfaobbfhjmmaaDoorApp
import Derived.IntWalk
namespace Go.Proofs.YtflfaobbfhjmmaaDoor
open Go Go.RowKit
set_option linter.unusedSimpArgs false
set_option linter.unusedVariables false

theorem kn_back {b : Nat} {o : Obj} {w W : World} (h : Kn [b] w W [(b, o)]) (hb : w.heap[b]? = some o) : Below w.heap.size w W :=
  ⟨h.os, h.tape, h.output, h.size, fun g hg => by
    by_cases e : g = b
    · subst e; rw [hb]; exact h.has _ List.mem_cons_self
    · exact h.block g hg (by simpa using e)⟩
set_option maxRecDepth 20000 in
set_option maxHeartbeats 4000000 in
theorem rest_is (src p : ByteArray) (at_ : Nat) (line : Int) (v : Value) (b : Nat) (w : World) (hb : w.heap[b]? = some (.cells #[.string src, .int .i64 (at_), .int .i64 (line), v] 43 (0, 0))) (hat : at_ ≤ src.size) (hs : src.size ≤ 100000) (r : Bool) (hr : Lib.hasPrefix (src.data.toList.drop at_) p.data.toList = r) :
    Calls Tryd.prog 19 #[.pointer (some ⟨b, 0, none⟩), .string p] w fun e w' => e = .returned (.bool r) ∧ Below w.heap.size w w' := by
  obtain ⟨u, hu⟩ : ∃ u, src.extract at_ src.size = u := ⟨_, rfl⟩
  have hul : u.data.toList = src.data.toList.drop at_ := by
    have := szl src
    rw [← hu, ext_list, List.take_of_length_le (by omega)]
  have HP : Hid (∀ W, Calls Tryd.prog 25 #[.string u, .string p] W fun e w' => e = .returned (.bool r) ∧ w' = W) := Lib.hid fun W => by
    have := Tryd.strings_HasPrefix u p W
    rw [hul, hr] at this; exact this
  have HB := Lib.hid hb
  have hL : Kn [b] w w [(b, .cells #[.string src, .int .i64 (at_), .int .i64 (line), v] 43 (0, 0))] := Kn.one hb
  clear hr hul hb
  (try simp only [kfb] at hL); have hF := hL.facts; (try simp only [Facts, Dist, kfa, implies_true, forall_const] at hF)
  go_enter Tryd.func19, Tryd.ntmps19
  go_wp2_with (first | ((with_reducible refine kn_list_set ?_); (try clear hF); clear hL; intro W hL; (try simp only [kfb] at hL); have hF := hL.facts; (try simp only [Facts, Dist, kfa, implies_true, forall_const] at hF)) | ((with_reducible refine at_region 1 ?_); refine kn_wp ?_; (try clear hF); clear hL; intro W hL; (try simp only [kfb] at hL); have hF := hL.facts; (try simp only [Facts, Dist, kfa, implies_true, forall_const] at hF); refine kn_region [0, 1, 2, 3, 4, 5, 6, 7, 8, 9, 10, 11] [0, 1, 2, 3, 4, 5, 6, 7, 8, 9, 11] [10] [0, 1, 2, 4, 5, 6, 8, 9, 11] (by kernel_rfl) (by kernel_rfl) (List.Sublist.refl _) ?_; (try clear hF); clear hL; intro ι F hne hC hFF; have hG := fun n => (hFF n).facts; clear hFF; (try simp only [Facts, Dist, kfa, implies_true, forall_const] at hG); (repeat (first | (refine cwk_skip rfl (by rfl) ?_; (try simp only [Act.put, List.setIfInBounds_toArray, List.set_cons_zero, List.set_cons_succ])) | (refine cwk_float rfl rfl (by rfl) (by rfl) (by rfl) hC ?_; intro K hK; go_big_quiet_op; go_big_quiet_on) | (refine cwk_pure rfl rfl (by rfl) (by rfl) ?_; intro K hK; go_big_quiet_op; go_big_quiet_on) | (refine cwk_call rfl (by rfl) (by rfl) (fun _ => rfl) ?_; intro W hL; (try simp only [kfb] at hL); have hF := hL.facts; (try simp only [Facts, Dist, kfa, implies_true, forall_const] at hF); simp only [List.map_toArray, List.map_cons, List.map_nil, Array.empty_append, Array.append_empty, Act.eval, Array.getD_eq_getD_getElem?, List.getElem?_toArray, List.getElem?_cons_zero, List.getElem?_cons_succ, Option.getD_some]; go_at_call 25; (((with_reducible refine (HP.out _).mono ?_))); rintro e W' ⟨rfl, rfl⟩; refine owed_ret ?_; (first | (refine owedB _ (by rfl) ?_; clear hL; (try clear hF); clear hC hG; intro ι F hne hC hFF; have hG := fun n => (hFF n).facts; clear hFF; (try simp only [Facts, Dist, kfa, implies_true, forall_const] at hG)) | (refine owed0 _ (by repeat' (first | (with_reducible exact List.Sublist.refl _) | (with_reducible apply List.Sublist.cons_cons) | (with_reducible apply List.Sublist.cons))) ?_; clear hL; (try clear hF))); (try simp only [Act.put, List.setIfInBounds_toArray, List.set_cons_zero, List.set_cons_succ])) | (refine cwk_anch rfl rfl (by rfl) (by rfl) ?_; intro W hL; (try simp only [kfb] at hL); have hF := hL.facts; (try simp only [Facts, Dist, kfa, implies_true, forall_const] at hF); go_wp2; refine anchQ_normal ?_; (first | (refine owedB _ (by rfl) ?_; clear hL; (try clear hF); clear hC hG; intro ι F hne hC hFF; have hG := fun n => (hFF n).facts; clear hFF; (try simp only [Facts, Dist, kfa, implies_true, forall_const] at hG)) | (refine owed0 _ (by repeat' (first | (with_reducible exact List.Sublist.refl _) | (with_reducible apply List.Sublist.cons_cons) | (with_reducible apply List.Sublist.cons))) ?_; clear hL; (try clear hF)))))); refine cwk_nil ?_; clear hC hG; intro W hL; (try simp only [kfb] at hL); have hF := hL.facts; (try simp only [Facts, Dist, kfa, implies_true, forall_const] at hF)))
  (try simp only [Exit.inBlock, Exit.then]); refine bodyPost_ret (by simp [results, Tryd.results19, go_sem, *]; try rfl) rfl ?_
  exact ⟨rfl, kn_back hL HB.out⟩
set_option maxRecDepth 20000 in
set_option maxHeartbeats 4000000 in
theorem skip_is (src : ByteArray) (at_ n : Nat) (line : Int) (v : Value) (b : Nat) (w : World) (hb : w.heap[b]? = some (.cells #[.string src, .int .i64 (at_), .int .i64 (line), v] 43 (0, 0))) (hat : at_ + n ≤ src.size) (hs : src.size ≤ 100000) (hl0 : 0 ≤ line) (hl1 : line ≤ 1000000) (c : Int) (hc0 : 0 ≤ c) (hc1 : c ≤ 1000000) (hc : Lib.countByte ((src.data.toList.take (at_ + n)).drop at_) 10 = c) :
    Calls Tryd.prog 16 #[.pointer (some ⟨b, 0, none⟩), .int .i64 n] w fun e w' => e = .returned (.tuple #[]) ∧ Kn [b] w w' [(b, .cells #[.string src, .int .i64 ((at_ : Int) + n), .int .i64 (line + c), v] 43 (0, 0))] := by
  obtain ⟨u, hu⟩ : ∃ u, src.extract at_ (at_ + n) = u := ⟨_, rfl⟩
  have HC : Hid (∀ W, Calls Tryd.prog 22 #[.string u, .string ⟨#[10]⟩] W fun e w' => e = .returned (.int .i64 c) ∧ w' = W) := Lib.hid fun W => by
    have := Tryd.strings_Count_one u 10 W
    rw [← hu, ext_list, hc, hu] at this; exact this
  have hL : Kn [b] w w [(b, .cells #[.string src, .int .i64 (at_), .int .i64 (line), v] 43 (0, 0))] := Kn.one hb
  have s1 : IntKind.i64.wrap ((at_ : Int) + n) = (at_ : Int) + n := by rw [IntWalk.i64_in _ (by omega)]
  have s2 : ((at_ : Int) + n).toNat = at_ + n := by omega
  have s3 : (at_ : Int) ≤ (at_ : Int) + n := by omega
  have s4 : (at_ : Int) + n ≤ src.size := by omega
  have s5 : 0 ≤ (at_ : Int) + n := by omega
  have s6 : IntKind.i64.wrap (line + c) = line + c := by rw [IntWalk.i64_in _ (by omega)]
  have HC2 := Lib.hid hc
  clear hb hc
  (try simp only [kfb] at hL); have hF := hL.facts; (try simp only [Facts, Dist, kfa, implies_true, forall_const] at hF)
  go_enter Tryd.func16, Tryd.ntmps16
  go_wp2_with (first | ((with_reducible refine kn_list_set ?_); (try clear hF); clear hL; intro W hL; (try simp only [kfb] at hL); have hF := hL.facts; (try simp only [Facts, Dist, kfa, implies_true, forall_const] at hF)) | ((with_reducible refine at_region 0 ?_); refine kn_wp ?_; (try clear hF); clear hL; intro W hL; (try simp only [kfb] at hL); have hF := hL.facts; (try simp only [Facts, Dist, kfa, implies_true, forall_const] at hF); refine kn_region [0, 1, 2, 3, 4, 5, 6, 7, 8, 9, 10, 11, 12, 13, 14, 15, 16, 17, 18, 19, 20, 21, 22, 23] [0, 1, 2, 3, 4, 5, 6, 7, 8, 9, 10, 11, 12, 13, 14, 15, 16, 17, 18, 20, 21, 22] [23] [0, 1, 2, 4, 5, 6, 8, 9, 10, 12, 13, 14, 16, 17, 18, 20, 21, 22] (by kernel_rfl) (by kernel_rfl) (List.Sublist.refl _) ?_; (try clear hF); clear hL; intro ι F hne hC hFF; have hG := fun n => (hFF n).facts; clear hFF; (try simp only [Facts, Dist, kfa, implies_true, forall_const] at hG); (repeat (first | (refine cwk_skip rfl (by rfl) ?_; (try simp only [Act.put, List.setIfInBounds_toArray, List.set_cons_zero, List.set_cons_succ])) | (refine cwk_float rfl rfl (by rfl) (by rfl) (by rfl) hC ?_; intro K hK; go_big_quiet_op; go_big_quiet_on) | (refine cwk_pure rfl rfl (by rfl) (by rfl) ?_; intro K hK; go_big_quiet_op; go_big_quiet_on) | (refine cwk_call rfl (by rfl) (by rfl) (fun _ => rfl) ?_; intro W hL; (try simp only [kfb] at hL); have hF := hL.facts; (try simp only [Facts, Dist, kfa, implies_true, forall_const] at hF); simp only [List.map_toArray, List.map_cons, List.map_nil, Array.empty_append, Array.append_empty, Act.eval, Array.getD_eq_getD_getElem?, List.getElem?_toArray, List.getElem?_cons_zero, List.getElem?_cons_succ, Option.getD_some]; go_at_call 22; (((with_reducible refine (HC.out _).mono ?_))); rintro e W' ⟨rfl, rfl⟩; refine owed_ret ?_; (first | (refine owedB _ (by rfl) ?_; clear hL; (try clear hF); clear hC hG; intro ι F hne hC hFF; have hG := fun n => (hFF n).facts; clear hFF; (try simp only [Facts, Dist, kfa, implies_true, forall_const] at hG)) | (refine owed0 _ (by repeat' (first | (with_reducible exact List.Sublist.refl _) | (with_reducible apply List.Sublist.cons_cons) | (with_reducible apply List.Sublist.cons))) ?_; clear hL; (try clear hF))); (try simp only [Act.put, List.setIfInBounds_toArray, List.set_cons_zero, List.set_cons_succ])) | (refine cwk_anch rfl rfl (by rfl) (by rfl) ?_; intro W hL; (try simp only [kfb] at hL); have hF := hL.facts; (try simp only [Facts, Dist, kfa, implies_true, forall_const] at hF); go_wp2; refine anchQ_normal ?_; (first | (refine owedB _ (by rfl) ?_; clear hL; (try clear hF); clear hC hG; intro ι F hne hC hFF; have hG := fun n => (hFF n).facts; clear hFF; (try simp only [Facts, Dist, kfa, implies_true, forall_const] at hG)) | (refine owed0 _ (by repeat' (first | (with_reducible exact List.Sublist.refl _) | (with_reducible apply List.Sublist.cons_cons) | (with_reducible apply List.Sublist.cons))) ?_; clear hL; (try clear hF)))))); refine cwk_nil ?_; clear hC hG; intro W hL; (try simp only [kfb] at hL); have hF := hL.facts; (try simp only [Facts, Dist, kfa, implies_true, forall_const] at hF)))
  go_end0
  exact ⟨rfl, kn_here⟩

end Go.Proofs.YtflfaobbfhjmmaaDoor
