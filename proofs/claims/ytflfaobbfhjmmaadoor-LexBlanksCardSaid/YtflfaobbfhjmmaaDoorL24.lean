import Derived.Test.YtflfaobbfhjmmaaDoorProg
import Derived.WalkKit
import Derived.Handy
import Derived.Deep.Light
import Derived.WalkSmall
import Derived.StillTailTactics
import Derived.Lib.Hide
import Derived.Test.YtflfaobbfhjmmaaDoorT0
import Derived.Test.YtflfaobbfhjmmaaDoorIt
import Derived.Test.YtflfaobbfhjmmaaDoorL23
import Derived.Defers
import Derived.Recover
import Derived.Laws.Pointers
namespace Go.Proofs.YtflfaobbfhjmmaaDoor
open Go Go.RowKit
set_option linter.unusedSimpArgs false
set_option linter.unusedVariables false

theorem assert_prob (x : Value) (W : World) : (Instr.typeAssert (.iface 39 x) 20 39 true).run Tryd.prog W = .ok (.tuple #[x, .bool true]) W := by kernel_rfl
set_option maxRecDepth 20000 in
set_option maxHeartbeats 4000000 in
theorem catch_panic (bo be bl : Nat) (v0 : Value) (hv : v0.oneCell' = true) (e0 l0 k m : Int) (older : List PanicEntry) (w : World) (hL : Kn [bo, be, bl] w w [(bo, .cells #[v0] 25 (0, 0)), (be, .cells #[.int .i64 e0] 26 (0, 0)), (bl, .cells #[.int .i64 l0] 3 (0, 0))]) :
    CallsD Tryd.prog 12 #[.pointer (some ⟨bo, 0, none⟩), .pointer (some ⟨be, 0, none⟩), .pointer (some ⟨bl, 0, none⟩)] (.panicking ({ v := .iface 39 (.agg #[.int .i64 k, .int .i64 m]), recovered := false } :: older)) w fun e u' w' =>
      e = .returned (.tuple #[]) ∧ u' = .panicking ({ v := .iface 39 (.agg #[.int .i64 k, .int .i64 m]), recovered := true } :: older) ∧ Kn [bo, be, bl] w w' [(bo, .cells #[.slice none 0 0] 25 (0, 0)), (be, .cells #[.int .i64 k] 26 (0, 0)), (bl, .cells #[.int .i64 m] 3 (0, 0))] := by
  refine callsD_of_wpS Tryd.func12 rfl fun c₀ cs hu => ?_
  apply wpS_seq
  apply wpS_region
  simp [wpOpsS, go_sem, recoverD, hu, Tryd.ntmps12, Exit.thenS]
  refine wpS_of_wp ?_
  (try simp only [kfb] at hL); have hF := hL.facts; (try simp only [Facts, Dist, kfa, implies_true, forall_const] at hF)
  generalize hR : (fun (e : Exit) (a' : Act) (w' : World) => bodyPostS _ _ _ _ _ e a' _ w') = Q2
  have key : ∀ (a' : Act) (w' : World), a'.defers = [] → Kn [bo, be, bl] w w' [(bo, .cells #[.slice none 0 0] 25 (0, 0)), (be, .cells #[.int .i64 k] 26 (0, 0)), (bl, .cells #[.int .i64 m] 3 (0, 0))] → Q2 .normal a' w' := by
    intro a' w' h1 h2
    rw [← hR]
    refine ⟨h1, _, rfl, .tuple #[], ?_, rfl, rfl, h2⟩
    simp [results, Tryd.results12, go_sem]
  have HK := Lib.hid key
  clear hR key
  clear hu
  obtain ⟨pz, hpz⟩ : ∃ pz, Value.iface 39 (.agg #[.int .i64 k, .int .i64 m]) = pz := ⟨_, rfl⟩
  rw [hpz]
  show Code.wp _ _ _ { tmps := #[.pointer (some ⟨bo, 0, none⟩), .pointer (some ⟨be, 0, none⟩), .pointer (some ⟨bl, 0, none⟩), pz, undef, undef, pz, undef, undef, undef, undef, undef, undef, undef, undef, undef, undef, undef, undef, undef, undef], defers := [] } _
  subst hpz
  have hta := assert_prob (.agg #[.int .i64 k, .int .i64 m])
  go_wp2_with (first | ((with_reducible refine kn_list_set ?_); (try clear hF); clear hL; intro W hL; (try simp only [kfb] at hL); have hF := hL.facts; (try simp only [Facts, Dist, kfa, implies_true, forall_const] at hF)) | ((with_reducible refine at_region 5 ?_); refine kn_wp ?_; (try clear hF); clear hL; intro W hL; (try simp only [kfb] at hL); have hF := hL.facts; (try simp only [Facts, Dist, kfa, implies_true, forall_const] at hF); refine kn_region [0, 1, 2, 3, 4, 5, 6] [0, 1, 2, 3] [6] [0, 2] (by kernel_rfl) (by kernel_rfl) (List.Sublist.cons_cons _ (List.Sublist.cons _ (List.Sublist.cons _ (List.Sublist.cons _ (List.Sublist.refl _))))) ?_; (try clear hF); clear hL; intro ι F hne hC hFF; have hG := fun n => (hFF n).facts; clear hFF; (try simp only [Facts, Dist, kfa, implies_true, forall_const] at hG); (repeat (first | (refine cwk_skip rfl (by rfl) ?_; (try simp only [Act.put, List.setIfInBounds_toArray, List.set_cons_zero, List.set_cons_succ])) | (refine cwk_float rfl rfl (by rfl) (by rfl) (by rfl) hC ?_; intro K hK; go_big_quiet_op; go_big_quiet_on) | (refine cwk_pure rfl rfl (by rfl) (by rfl) ?_; intro K hK; go_big_quiet_op; go_big_quiet_on) | (refine cwk_anch rfl rfl (by rfl) (by rfl) ?_; intro W hL; (try simp only [kfb] at hL); have hF := hL.facts; (try simp only [Facts, Dist, kfa, implies_true, forall_const] at hF); go_wp2; refine anchQ_normal ?_; (first | (refine owedB _ (by rfl) ?_; clear hL; (try clear hF); clear hC hG; intro ι F hne hC hFF; have hG := fun n => (hFF n).facts; clear hFF; (try simp only [Facts, Dist, kfa, implies_true, forall_const] at hG)) | (refine owed0 _ (by repeat' (first | (with_reducible exact List.Sublist.refl _) | (with_reducible apply List.Sublist.cons_cons) | (with_reducible apply List.Sublist.cons))) ?_; clear hL; (try clear hF)))))); refine cwk_nil ?_; clear hC hG; intro W hL; (try simp only [kfb] at hL); have hF := hL.facts; (try simp only [Facts, Dist, kfa, implies_true, forall_const] at hF)))
  exact HK.out _ _ rfl hL.drop1
set_option maxRecDepth 20000 in
set_option maxHeartbeats 4000000 in
theorem catch_idle (bo be bl : Nat) (w : World) :
    CallsD Tryd.prog 12 #[.pointer (some ⟨bo, 0, none⟩), .pointer (some ⟨be, 0, none⟩), .pointer (some ⟨bl, 0, none⟩)] .returning w fun e u' w' => e = .returned (.tuple #[]) ∧ u' = .returning ∧ w' = w := by
  refine callsD_of_wpS Tryd.func12 rfl fun c₀ cs hu => ?_
  apply wpS_seq
  apply wpS_region
  simp [wpOpsS, go_sem, recoverD, hu, Tryd.ntmps12, Exit.thenS]
  refine wpS_of_wp ?_
  generalize hR : (fun (e : Exit) (a' : Act) (w' : World) => bodyPostS _ _ _ _ _ e a' _ w') = Q2
  have key : ∀ (a' : Act), a'.defers = [] → Q2 .normal a' w := by
    intro a' h1
    rw [← hR]
    refine ⟨h1, c₀.mode, ?_, .tuple #[], ?_, rfl, hu, rfl⟩
    · cases c₀; rfl
    · simp [results, Tryd.results12, go_sem]
  have HK := Lib.hid key
  clear hR key hu
  show Code.wp _ _ _ { tmps := #[.pointer (some ⟨bo, 0, none⟩), .pointer (some ⟨be, 0, none⟩), .pointer (some ⟨bl, 0, none⟩), .nilIface, undef, undef, .nilIface, undef, undef, undef, undef, undef, undef, undef, undef, undef, undef, undef, undef, undef, undef], defers := [] } _
  go_wp2
  exact HK.out _ rfl

end Go.Proofs.YtflfaobbfhjmmaaDoor
