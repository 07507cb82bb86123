/- Lemmas and walks for the law LawTells (part 8). -/
import Derived.Test.YtfdlifhkeicnnaaGreatDoorWPt7
import Derived.Test.YtfdlifhkeicnnaaGreatDoorProg
import Derived.WalkKit
import Derived.Handy
import Derived.Deep.Light
import Derived.WalkSmall
import Derived.StillTailTactics
import Derived.Lib.Hide
set_option maxRecDepth 20000
set_option maxHeartbeats 4000000
set_option linter.unusedVariables false
set_option linter.unusedSimpArgs false
namespace Go.Proofs.YtfdlifhkeicnnaaGreatDoor
open Go Go.RowKit
theorem look_le {L : Labs} (hLn : ∀ p ∈ L, p.2 ≤ 100000) {s : Bytes} {n : Nat} (h : look L s = some n) : n ≤ 100000 := by
 unfold look at h
 obtain ⟨p, hp, rfl⟩ := Option.map_eq_some_iff.1 h
 exact hLn p (List.mem_of_find?_eq_some hp)
theorem address_le {L : Labs} (hLn : ∀ p ∈ L, p.2 ≤ 100000) {s : Bytes} {last : Bool} {n : Nat} (h : address L s last = .ok n) : n ≤ 100000 := by
 unfold address at h
 split at h
 ·split at h
  ·rename_i m hm
   cases h
   exact look_le hLn hm
  ·split at h
   ·cases h
   ·cases h; omega
 ·cases h
theorem address_ok (ab mb : Nat) (es : Array MapEntry) (clock : Nat) (L : Labs) (s : ByteArray) (hs : s.size ≤ 1000000) (last : Bool) (w : World) (hA : w.cell? ⟨ab, 0, none⟩ = some (.map (some mb))) (hmb : w.heap[mb]? = some (.map es clock)) (hM : MapV Tryz.prog 9 es (lv L)) (n : Nat) (h : Hid (address L s.data.toList last = .ok n)) : Calls Tryz.prog 128 #[.pointer (some ⟨ab, 0, none⟩), .string s, .bool last] w fun e w' => e = .returned (.int .i64 n) ∧ Below w.heap.size w w' := by
 have := address_is ab mb es clock L s hs last w hA hmb hM
 rw [h.out] at this
 exact this
theorem address_bad (ab mb : Nat) (es : Array MapEntry) (clock : Nat) (L : Labs) (s : ByteArray) (hs : s.size ≤ 1000000) (last : Bool) (w : World) (hA : w.cell? ⟨ab, 0, none⟩ = some (.map (some mb))) (hmb : w.heap[mb]? = some (.map es clock)) (hM : MapV Tryz.prog 9 es (lv L)) (n : Nat) (h : Hid (address L s.data.toList last = .bad n)) : Calls Tryz.prog 128 #[.pointer (some ⟨ab, 0, none⟩), .string s, .bool last] w fun e w' => e = .panicked [{ v := .iface 56 (.int .i64 n), recovered := false }] ∧ Below w.heap.size w w' := by
 have := address_is ab mb es clock L s hs last w hA hmb hM
 rw [h.out] at this
 exact this
theorem target_num (ab mb : Nat) (es : Array MapEntry) (clock : Nat) (L : Labs) (s : ByteArray) (hs : s.size ≤ 1000000) (last : Bool) (w : World) (hA : w.cell? ⟨ab, 0, none⟩ = some (.map (some mb))) (hmb : w.heap[mb]? = some (.map es clock)) (hM : MapV Tryz.prog 9 es (lv L)) (hLn : ∀ p ∈ L, p.2 ≤ 100000) (xg xo at_ op : Nat) (hat : at_ ≤ 100000) (hx3 : w.cell? ⟨xg, xo + 3, none⟩ = some (.int .i64 at_)) (hT : TabA w) (n : Int) (hc : canon s.data.toList = some n) : Calls Tryz.prog 103 #[.pointer (some ⟨ab, 0, none⟩), .pointer (some ⟨xg, xo, none⟩), .int .i64 op, .string s, .bool last] w fun e w' => RegP (target OO L at_ op s.data.toList last) e ∧ Below w.heap.size w w' := by
 rw [show target OO L at_ op s.data.toList last = .ok n by unfold target; rw [show OO.int s.data.toList = some n from hc]]
 have hL : Kn [] w w [] := Kn.refl [] w; have hF := hL.fx; go_enter Tryz.func103, Tryz.ntmps103
 go_wp2_with ((go_at_call 126; refine kc (fun W hL => Int_some s (by omega) n hc _ ((hT.kn hL (by simp)).t)) ?_; clear hF hL; intro W hL hF))
 refine bodyPost_ret (by simp [results, Tryz.results103, go_sem, *]; try rfl) rfl ?_
 exact ⟨rfl, hL.below0⟩
theorem target_25 (ab mb : Nat) (es : Array MapEntry) (clock : Nat) (L : Labs) (s : ByteArray) (hs : s.size ≤ 1000000) (last : Bool) (w : World) (hA : w.cell? ⟨ab, 0, none⟩ = some (.map (some mb))) (hmb : w.heap[mb]? = some (.map es clock)) (hM : MapV Tryz.prog 9 es (lv L)) (hLn : ∀ p ∈ L, p.2 ≤ 100000) (xg xo at_ op : Nat) (hat : at_ ≤ 100000) (hx3 : w.cell? ⟨xg, xo + 3, none⟩ = some (.int .i64 at_)) (hT : TabA w) (hc : canon s.data.toList = none) (hop : op = 25) : Calls Tryz.prog 103 #[.pointer (some ⟨ab, 0, none⟩), .pointer (some ⟨xg, xo, none⟩), .int .i64 op, .string s, .bool last] w fun e w' => RegP (target OO L at_ op s.data.toList last) e ∧ Below w.heap.size w w' := by
 have l1 := cell_lt hA
 have l2 := lt_of_has hmb
 have l3 := cell_lt hx3
 obtain ⟨o, ho⟩ : ∃ o : Int, (op : Int) = o := ⟨_, rfl⟩
 rw [ho]
 cases hd : address L s.data.toList last with
 | ok n =>
  have hnL := address_le hLn hd
  have s1 : IntKind.i64.wrap (64 + (at_ : Int)) = 64 + (at_ : Int) := by rw [IntWalk.i64_in _ (by omega)]
  have s2 : IntKind.i64.wrap (64 + (at_ : Int) + 4) = 64 + (at_ : Int) + 4 := by rw [IntWalk.i64_in _ (by omega)]
  have s3 : IntKind.i64.wrap ((n : Int) - (64 + (at_ : Int) + 4)) = (n : Int) - (64 + (at_ : Int) + 4) := by rw [IntWalk.i64_in _ (by omega)]
  have HD := Lib.hid hd
  clear hd
  have hr : target OO L at_ op s.data.toList last = .ok ((n : Int) - (64 + at_ + 4)) := by unfold target; rw [show OO.int s.data.toList = none from hc]; simp only; rw [if_pos (by omega), HD.out]
  rw [hr]
  have b25 : (o == 25) = true := beq_iff_eq.2 (by omega)
  clear hr hop ho
  have hcA := fun {W : World} {LL : List (Nat × Obj)} (hL : Kn [] w W LL) => (hL.facts.2.2.2.1 ab 0 l1 (by simp)).trans hA
  have hcM := fun {W : World} {LL : List (Nat × Obj)} (hL : Kn [] w W LL) => (hL.block mb l2 (by simp)).trans hmb
  have hL : Kn [] w w [] := Kn.refl [] w; have hF := hL.fx; go_enter Tryz.func103, Tryz.ntmps103
  go_wp2_with (first | ((with_reducible refine ks ?_); clear hL; intro W hL hF) | (go_at_call 126; refine kc (fun W hL => Int_none s (by omega) hc _ ((hT.kn hL (by simp)).t)) ?_; clear hF hL; intro W hL hF) | (go_at_call 100; (with_reducible refine (need_ok _ _).mono ?_); rintro e w' ⟨rfl, rfl⟩) | ((with_reducible refine at_region 10 ?_); refine kW [0, 1, 2, 4, 5, 6, 7, 8, 9, 3, 10, 11] [0, 1, 2, 4, 5, 6, 7, 8, 9, 10, 11] [] [0, 1, 2, 4, 5, 6, 8, 9, 10, 11] ?_; clear hF hL; intro ι F hne hC hG; (repeat (first | (refine cS ?_) | (refine cF hC ?_; intro K hK; go_big_quiet_op; go_big_quiet_on) | (refine cP ?_; intro K hK; go_big_quiet_op; go_big_quiet_on) | (refine cC ?_; intro W hL; have hF := hL.fx; simp only [ka, Act.eval]; go_at_call 128; (with_reducible refine (address_ok ab mb es clock L s hs last _ (hcA hL) (hcM hL) hM _ HD).mono ?_); rintro e W ⟨rfl, hb⟩; replace hL := hL.below hb; clear hb hF; have hF := hL.fx; refine ko ?_; clear hL hF; simp only [Act.put, kT]) | (refine cN ?_; intro W hL; have hF := hL.facts; go_wp2; refine kb2 ?_; clear hL hC hG; intro ι F hne hC hG))); refine cwk_nil ?_; clear hC hG; intro W hL; have hF := hL.fx))
  refine bodyPost_ret (by simp [results, Tryz.results103, go_sem, *]; try rfl) rfl ?_
  exact ⟨rfl, hL.below0⟩
 | bad m =>
  have HD := Lib.hid hd
  clear hd
  have hr : target OO L at_ op s.data.toList last = .bad m := by unfold target; rw [show OO.int s.data.toList = none from hc]; simp only; rw [if_pos (by omega), HD.out]
  rw [hr]
  have b25 : (o == 25) = true := beq_iff_eq.2 (by omega)
  clear hr hop ho
  have hcA := fun {W : World} {LL : List (Nat × Obj)} (hL : Kn [] w W LL) => (hL.facts.2.2.2.1 ab 0 l1 (by simp)).trans hA
  have hcM := fun {W : World} {LL : List (Nat × Obj)} (hL : Kn [] w W LL) => (hL.block mb l2 (by simp)).trans hmb
  have hL : Kn [] w w [] := Kn.refl [] w; have hF := hL.fx; go_enter Tryz.func103, Tryz.ntmps103
  go_wp2_with (first | ((with_reducible refine ks ?_); clear hL; intro W hL hF) | (go_at_call 126; refine kc (fun W hL => Int_none s (by omega) hc _ ((hT.kn hL (by simp)).t)) ?_; clear hF hL; intro W hL hF) | (go_at_call 100; (with_reducible refine (need_ok _ _).mono ?_); rintro e w' ⟨rfl, rfl⟩) | ((with_reducible refine at_region 10 ?_); refine kn_wp ?_; clear hF hL; intro W hL; have hF := hL.fx; refine kn_regionP [0, 1, 2, 4, 5, 6, 7, 8, 9, 3, 10, 11] [0, 1, 2, 4, 5, 6, 7, 8, 9, 10, 11] [] [0, 1, 2, 4, 5, 6, 8, 9, 10, 11] (by kernel_rfl) (by kernel_rfl) (List.Sublist.refl _) ?_; clear hF hL; intro Qp hQp; replace hQp := Lib.hid hQp; intro ι F hne hC hFF; have hG := fun n => (hFF n).fx; clear hFF; (repeat (first | (refine cF hC ?_; intro K hK; go_big_quiet_op; go_big_quiet_on) | (refine cP ?_; intro K hK; go_big_quiet_op; go_big_quiet_on) | (refine cwk_callP rfl (by rfl) (by rfl) (fun _ => rfl) ?_; intro W hL; have hF := hL.fx; simp only [ka, Act.eval]; go_at_call 128; (with_reducible refine (address_bad ab mb es clock L s hs last _ (hcA hL) (hcM hL) hM _ HD).mono ?_); rintro e W ⟨rfl, hb⟩; replace hL := hL.below hb; clear hb hF; have hF := hL.fx; refine ⟨_, rfl, hQp.out _ _ ?_⟩; clear hQp; intro a' ha; exact ⟨ha, rfl, hL.below0⟩))); ((done))))
theorem target_26 (ab mb : Nat) (es : Array MapEntry) (clock : Nat) (L : Labs) (s : ByteArray) (hs : s.size ≤ 1000000) (last : Bool) (w : World) (hA : w.cell? ⟨ab, 0, none⟩ = some (.map (some mb))) (hmb : w.heap[mb]? = some (.map es clock)) (hM : MapV Tryz.prog 9 es (lv L)) (hLn : ∀ p ∈ L, p.2 ≤ 100000) (xg xo at_ op : Nat) (hat : at_ ≤ 100000) (hx3 : w.cell? ⟨xg, xo + 3, none⟩ = some (.int .i64 at_)) (hT : TabA w) (hc : canon s.data.toList = none) (hop : op = 26) : Calls Tryz.prog 103 #[.pointer (some ⟨ab, 0, none⟩), .pointer (some ⟨xg, xo, none⟩), .int .i64 op, .string s, .bool last] w fun e w' => RegP (target OO L at_ op s.data.toList last) e ∧ Below w.heap.size w w' := by
 have l1 := cell_lt hA
 have l2 := lt_of_has hmb
 have l3 := cell_lt hx3
 obtain ⟨o, ho⟩ : ∃ o : Int, (op : Int) = o := ⟨_, rfl⟩
 rw [ho]
 cases hd : address L s.data.toList last with
 | ok n =>
  have hnL := address_le hLn hd
  have s1 : IntKind.i64.wrap (64 + (at_ : Int)) = 64 + (at_ : Int) := by rw [IntWalk.i64_in _ (by omega)]
  have s2 : IntKind.i64.wrap (64 + (at_ : Int) + 4) = 64 + (at_ : Int) + 4 := by rw [IntWalk.i64_in _ (by omega)]
  have s3 : IntKind.i64.wrap ((n : Int) - (64 + (at_ : Int) + 4)) = (n : Int) - (64 + (at_ : Int) + 4) := by rw [IntWalk.i64_in _ (by omega)]
  have HD := Lib.hid hd
  clear hd
  have hr : target OO L at_ op s.data.toList last = .ok ((n : Int) - (64 + at_ + 4)) := by unfold target; rw [show OO.int s.data.toList = none from hc]; simp only; rw [if_pos (by omega), HD.out]
  rw [hr]
  have b25 : (o == 25) = false := beq_false_of_ne (by omega); have b26 : (o == 26) = true := beq_iff_eq.2 (by omega)
  clear hr hop ho
  have hcA := fun {W : World} {LL : List (Nat × Obj)} (hL : Kn [] w W LL) => (hL.facts.2.2.2.1 ab 0 l1 (by simp)).trans hA
  have hcM := fun {W : World} {LL : List (Nat × Obj)} (hL : Kn [] w W LL) => (hL.block mb l2 (by simp)).trans hmb
  have hL : Kn [] w w [] := Kn.refl [] w; have hF := hL.fx; go_enter Tryz.func103, Tryz.ntmps103
  go_wp2_with (first | ((with_reducible refine ks ?_); clear hL; intro W hL hF) | (go_at_call 126; refine kc (fun W hL => Int_none s (by omega) hc _ ((hT.kn hL (by simp)).t)) ?_; clear hF hL; intro W hL hF) | (go_at_call 100; (with_reducible refine (need_ok _ _).mono ?_); rintro e w' ⟨rfl, rfl⟩) | ((with_reducible refine at_region 10 ?_); refine kW [0, 1, 2, 4, 5, 6, 7, 8, 9, 3, 10, 11] [0, 1, 2, 4, 5, 6, 7, 8, 9, 10, 11] [] [0, 1, 2, 4, 5, 6, 8, 9, 10, 11] ?_; clear hF hL; intro ι F hne hC hG; (repeat (first | (refine cS ?_) | (refine cF hC ?_; intro K hK; go_big_quiet_op; go_big_quiet_on) | (refine cP ?_; intro K hK; go_big_quiet_op; go_big_quiet_on) | (refine cC ?_; intro W hL; have hF := hL.fx; simp only [ka, Act.eval]; go_at_call 128; (with_reducible refine (address_ok ab mb es clock L s hs last _ (hcA hL) (hcM hL) hM _ HD).mono ?_); rintro e W ⟨rfl, hb⟩; replace hL := hL.below hb; clear hb hF; have hF := hL.fx; refine ko ?_; clear hL hF; simp only [Act.put, kT]) | (refine cN ?_; intro W hL; have hF := hL.facts; go_wp2; refine kb2 ?_; clear hL hC hG; intro ι F hne hC hG))); refine cwk_nil ?_; clear hC hG; intro W hL; have hF := hL.fx))
  refine bodyPost_ret (by simp [results, Tryz.results103, go_sem, *]; try rfl) rfl ?_
  exact ⟨rfl, hL.below0⟩
 | bad m =>
  have HD := Lib.hid hd
  clear hd
  have hr : target OO L at_ op s.data.toList last = .bad m := by unfold target; rw [show OO.int s.data.toList = none from hc]; simp only; rw [if_pos (by omega), HD.out]
  rw [hr]
  have b25 : (o == 25) = false := beq_false_of_ne (by omega); have b26 : (o == 26) = true := beq_iff_eq.2 (by omega)
  clear hr hop ho
  have hcA := fun {W : World} {LL : List (Nat × Obj)} (hL : Kn [] w W LL) => (hL.facts.2.2.2.1 ab 0 l1 (by simp)).trans hA
  have hcM := fun {W : World} {LL : List (Nat × Obj)} (hL : Kn [] w W LL) => (hL.block mb l2 (by simp)).trans hmb
  have hL : Kn [] w w [] := Kn.refl [] w; have hF := hL.fx; go_enter Tryz.func103, Tryz.ntmps103
  go_wp2_with (first | ((with_reducible refine ks ?_); clear hL; intro W hL hF) | (go_at_call 126; refine kc (fun W hL => Int_none s (by omega) hc _ ((hT.kn hL (by simp)).t)) ?_; clear hF hL; intro W hL hF) | (go_at_call 100; (with_reducible refine (need_ok _ _).mono ?_); rintro e w' ⟨rfl, rfl⟩) | ((with_reducible refine at_region 10 ?_); refine kn_wp ?_; clear hF hL; intro W hL; have hF := hL.fx; refine kn_regionP [0, 1, 2, 4, 5, 6, 7, 8, 9, 3, 10, 11] [0, 1, 2, 4, 5, 6, 7, 8, 9, 10, 11] [] [0, 1, 2, 4, 5, 6, 8, 9, 10, 11] (by kernel_rfl) (by kernel_rfl) (List.Sublist.refl _) ?_; clear hF hL; intro Qp hQp; replace hQp := Lib.hid hQp; intro ι F hne hC hFF; have hG := fun n => (hFF n).fx; clear hFF; (repeat (first | (refine cF hC ?_; intro K hK; go_big_quiet_op; go_big_quiet_on) | (refine cP ?_; intro K hK; go_big_quiet_op; go_big_quiet_on) | (refine cwk_callP rfl (by rfl) (by rfl) (fun _ => rfl) ?_; intro W hL; have hF := hL.fx; simp only [ka, Act.eval]; go_at_call 128; (with_reducible refine (address_bad ab mb es clock L s hs last _ (hcA hL) (hcM hL) hM _ HD).mono ?_); rintro e W ⟨rfl, hb⟩; replace hL := hL.below hb; clear hb hF; have hF := hL.fx; refine ⟨_, rfl, hQp.out _ _ ?_⟩; clear hQp; intro a' ha; exact ⟨ha, rfl, hL.below0⟩))); ((done))))
theorem target_27 (ab mb : Nat) (es : Array MapEntry) (clock : Nat) (L : Labs) (s : ByteArray) (hs : s.size ≤ 1000000) (last : Bool) (w : World) (hA : w.cell? ⟨ab, 0, none⟩ = some (.map (some mb))) (hmb : w.heap[mb]? = some (.map es clock)) (hM : MapV Tryz.prog 9 es (lv L)) (hLn : ∀ p ∈ L, p.2 ≤ 100000) (xg xo at_ op : Nat) (hat : at_ ≤ 100000) (hx3 : w.cell? ⟨xg, xo + 3, none⟩ = some (.int .i64 at_)) (hT : TabA w) (hc : canon s.data.toList = none) (hop : op = 27) : Calls Tryz.prog 103 #[.pointer (some ⟨ab, 0, none⟩), .pointer (some ⟨xg, xo, none⟩), .int .i64 op, .string s, .bool last] w fun e w' => RegP (target OO L at_ op s.data.toList last) e ∧ Below w.heap.size w w' := by
 have l1 := cell_lt hA
 have l2 := lt_of_has hmb
 have l3 := cell_lt hx3
 obtain ⟨o, ho⟩ : ∃ o : Int, (op : Int) = o := ⟨_, rfl⟩
 rw [ho]
 cases hd : address L s.data.toList last with
 | ok n =>
  have hnL := address_le hLn hd
  have s1 : IntKind.i64.wrap (64 + (at_ : Int)) = 64 + (at_ : Int) := by rw [IntWalk.i64_in _ (by omega)]
  have s2 : IntKind.i64.wrap (64 + (at_ : Int) + 4) = 64 + (at_ : Int) + 4 := by rw [IntWalk.i64_in _ (by omega)]
  have s3 : IntKind.i64.wrap ((n : Int) - (64 + (at_ : Int) + 4)) = (n : Int) - (64 + (at_ : Int) + 4) := by rw [IntWalk.i64_in _ (by omega)]
  have HD := Lib.hid hd
  clear hd
  have hr : target OO L at_ op s.data.toList last = .ok ((n : Int) - (64 + at_ + 4)) := by unfold target; rw [show OO.int s.data.toList = none from hc]; simp only; rw [if_pos (by omega), HD.out]
  rw [hr]
  have b25 : (o == 25) = false := beq_false_of_ne (by omega); have b26 : (o == 26) = false := beq_false_of_ne (by omega); have b27 : (o == 27) = true := beq_iff_eq.2 (by omega)
  clear hr hop ho
  have hcA := fun {W : World} {LL : List (Nat × Obj)} (hL : Kn [] w W LL) => (hL.facts.2.2.2.1 ab 0 l1 (by simp)).trans hA
  have hcM := fun {W : World} {LL : List (Nat × Obj)} (hL : Kn [] w W LL) => (hL.block mb l2 (by simp)).trans hmb
  have hL : Kn [] w w [] := Kn.refl [] w; have hF := hL.fx; go_enter Tryz.func103, Tryz.ntmps103
  go_wp2_with (first | ((with_reducible refine ks ?_); clear hL; intro W hL hF) | (go_at_call 126; refine kc (fun W hL => Int_none s (by omega) hc _ ((hT.kn hL (by simp)).t)) ?_; clear hF hL; intro W hL hF) | (go_at_call 100; (with_reducible refine (need_ok _ _).mono ?_); rintro e w' ⟨rfl, rfl⟩) | ((with_reducible refine at_region 10 ?_); refine kW [0, 1, 2, 4, 5, 6, 7, 8, 9, 3, 10, 11] [0, 1, 2, 4, 5, 6, 7, 8, 9, 10, 11] [] [0, 1, 2, 4, 5, 6, 8, 9, 10, 11] ?_; clear hF hL; intro ι F hne hC hG; (repeat (first | (refine cS ?_) | (refine cF hC ?_; intro K hK; go_big_quiet_op; go_big_quiet_on) | (refine cP ?_; intro K hK; go_big_quiet_op; go_big_quiet_on) | (refine cC ?_; intro W hL; have hF := hL.fx; simp only [ka, Act.eval]; go_at_call 128; (with_reducible refine (address_ok ab mb es clock L s hs last _ (hcA hL) (hcM hL) hM _ HD).mono ?_); rintro e W ⟨rfl, hb⟩; replace hL := hL.below hb; clear hb hF; have hF := hL.fx; refine ko ?_; clear hL hF; simp only [Act.put, kT]) | (refine cN ?_; intro W hL; have hF := hL.facts; go_wp2; refine kb2 ?_; clear hL hC hG; intro ι F hne hC hG))); refine cwk_nil ?_; clear hC hG; intro W hL; have hF := hL.fx))
  refine bodyPost_ret (by simp [results, Tryz.results103, go_sem, *]; try rfl) rfl ?_
  exact ⟨rfl, hL.below0⟩
 | bad m =>
  have HD := Lib.hid hd
  clear hd
  have hr : target OO L at_ op s.data.toList last = .bad m := by unfold target; rw [show OO.int s.data.toList = none from hc]; simp only; rw [if_pos (by omega), HD.out]
  rw [hr]
  have b25 : (o == 25) = false := beq_false_of_ne (by omega); have b26 : (o == 26) = false := beq_false_of_ne (by omega); have b27 : (o == 27) = true := beq_iff_eq.2 (by omega)
  clear hr hop ho
  have hcA := fun {W : World} {LL : List (Nat × Obj)} (hL : Kn [] w W LL) => (hL.facts.2.2.2.1 ab 0 l1 (by simp)).trans hA
  have hcM := fun {W : World} {LL : List (Nat × Obj)} (hL : Kn [] w W LL) => (hL.block mb l2 (by simp)).trans hmb
  have hL : Kn [] w w [] := Kn.refl [] w; have hF := hL.fx; go_enter Tryz.func103, Tryz.ntmps103
  go_wp2_with (first | ((with_reducible refine ks ?_); clear hL; intro W hL hF) | (go_at_call 126; refine kc (fun W hL => Int_none s (by omega) hc _ ((hT.kn hL (by simp)).t)) ?_; clear hF hL; intro W hL hF) | (go_at_call 100; (with_reducible refine (need_ok _ _).mono ?_); rintro e w' ⟨rfl, rfl⟩) | ((with_reducible refine at_region 10 ?_); refine kn_wp ?_; clear hF hL; intro W hL; have hF := hL.fx; refine kn_regionP [0, 1, 2, 4, 5, 6, 7, 8, 9, 3, 10, 11] [0, 1, 2, 4, 5, 6, 7, 8, 9, 10, 11] [] [0, 1, 2, 4, 5, 6, 8, 9, 10, 11] (by kernel_rfl) (by kernel_rfl) (List.Sublist.refl _) ?_; clear hF hL; intro Qp hQp; replace hQp := Lib.hid hQp; intro ι F hne hC hFF; have hG := fun n => (hFF n).fx; clear hFF; (repeat (first | (refine cF hC ?_; intro K hK; go_big_quiet_op; go_big_quiet_on) | (refine cP ?_; intro K hK; go_big_quiet_op; go_big_quiet_on) | (refine cwk_callP rfl (by rfl) (by rfl) (fun _ => rfl) ?_; intro W hL; have hF := hL.fx; simp only [ka, Act.eval]; go_at_call 128; (with_reducible refine (address_bad ab mb es clock L s hs last _ (hcA hL) (hcM hL) hM _ HD).mono ?_); rintro e W ⟨rfl, hb⟩; replace hL := hL.below hb; clear hb hF; have hF := hL.fx; refine ⟨_, rfl, hQp.out _ _ ?_⟩; clear hQp; intro a' ha; exact ⟨ha, rfl, hL.below0⟩))); ((done))))
theorem target_28 (ab mb : Nat) (es : Array MapEntry) (clock : Nat) (L : Labs) (s : ByteArray) (hs : s.size ≤ 1000000) (last : Bool) (w : World) (hA : w.cell? ⟨ab, 0, none⟩ = some (.map (some mb))) (hmb : w.heap[mb]? = some (.map es clock)) (hM : MapV Tryz.prog 9 es (lv L)) (hLn : ∀ p ∈ L, p.2 ≤ 100000) (xg xo at_ op : Nat) (hat : at_ ≤ 100000) (hx3 : w.cell? ⟨xg, xo + 3, none⟩ = some (.int .i64 at_)) (hT : TabA w) (hc : canon s.data.toList = none) (hop : op = 28) : Calls Tryz.prog 103 #[.pointer (some ⟨ab, 0, none⟩), .pointer (some ⟨xg, xo, none⟩), .int .i64 op, .string s, .bool last] w fun e w' => RegP (target OO L at_ op s.data.toList last) e ∧ Below w.heap.size w w' := by
 have l1 := cell_lt hA
 have l2 := lt_of_has hmb
 have l3 := cell_lt hx3
 obtain ⟨o, ho⟩ : ∃ o : Int, (op : Int) = o := ⟨_, rfl⟩
 rw [ho]
 cases hd : address L s.data.toList last with
 | ok n =>
  have hnL := address_le hLn hd
  have s1 : IntKind.i64.wrap (64 + (at_ : Int)) = 64 + (at_ : Int) := by rw [IntWalk.i64_in _ (by omega)]
  have s2 : IntKind.i64.wrap (64 + (at_ : Int) + 4) = 64 + (at_ : Int) + 4 := by rw [IntWalk.i64_in _ (by omega)]
  have s3 : IntKind.i64.wrap ((n : Int) - (64 + (at_ : Int) + 4)) = (n : Int) - (64 + (at_ : Int) + 4) := by rw [IntWalk.i64_in _ (by omega)]
  have HD := Lib.hid hd
  clear hd
  have hr : target OO L at_ op s.data.toList last = .ok ((n : Int) - (64 + at_ + 4)) := by unfold target; rw [show OO.int s.data.toList = none from hc]; simp only; rw [if_pos (by omega), HD.out]
  rw [hr]
  have b25 : (o == 25) = false := beq_false_of_ne (by omega); have b26 : (o == 26) = false := beq_false_of_ne (by omega); have b27 : (o == 27) = false := beq_false_of_ne (by omega); have b28 : (o == 28) = true := beq_iff_eq.2 (by omega)
  clear hr hop ho
  have hcA := fun {W : World} {LL : List (Nat × Obj)} (hL : Kn [] w W LL) => (hL.facts.2.2.2.1 ab 0 l1 (by simp)).trans hA
  have hcM := fun {W : World} {LL : List (Nat × Obj)} (hL : Kn [] w W LL) => (hL.block mb l2 (by simp)).trans hmb
  have hL : Kn [] w w [] := Kn.refl [] w; have hF := hL.fx; go_enter Tryz.func103, Tryz.ntmps103
  go_wp2_with (first | ((with_reducible refine ks ?_); clear hL; intro W hL hF) | (go_at_call 126; refine kc (fun W hL => Int_none s (by omega) hc _ ((hT.kn hL (by simp)).t)) ?_; clear hF hL; intro W hL hF) | (go_at_call 100; (with_reducible refine (need_ok _ _).mono ?_); rintro e w' ⟨rfl, rfl⟩) | ((with_reducible refine at_region 10 ?_); refine kW [0, 1, 2, 4, 5, 6, 7, 8, 9, 3, 10, 11] [0, 1, 2, 4, 5, 6, 7, 8, 9, 10, 11] [] [0, 1, 2, 4, 5, 6, 8, 9, 10, 11] ?_; clear hF hL; intro ι F hne hC hG; (repeat (first | (refine cS ?_) | (refine cF hC ?_; intro K hK; go_big_quiet_op; go_big_quiet_on) | (refine cP ?_; intro K hK; go_big_quiet_op; go_big_quiet_on) | (refine cC ?_; intro W hL; have hF := hL.fx; simp only [ka, Act.eval]; go_at_call 128; (with_reducible refine (address_ok ab mb es clock L s hs last _ (hcA hL) (hcM hL) hM _ HD).mono ?_); rintro e W ⟨rfl, hb⟩; replace hL := hL.below hb; clear hb hF; have hF := hL.fx; refine ko ?_; clear hL hF; simp only [Act.put, kT]) | (refine cN ?_; intro W hL; have hF := hL.facts; go_wp2; refine kb2 ?_; clear hL hC hG; intro ι F hne hC hG))); refine cwk_nil ?_; clear hC hG; intro W hL; have hF := hL.fx))
  refine bodyPost_ret (by simp [results, Tryz.results103, go_sem, *]; try rfl) rfl ?_
  exact ⟨rfl, hL.below0⟩
 | bad m =>
  have HD := Lib.hid hd
  clear hd
  have hr : target OO L at_ op s.data.toList last = .bad m := by unfold target; rw [show OO.int s.data.toList = none from hc]; simp only; rw [if_pos (by omega), HD.out]
  rw [hr]
  have b25 : (o == 25) = false := beq_false_of_ne (by omega); have b26 : (o == 26) = false := beq_false_of_ne (by omega); have b27 : (o == 27) = false := beq_false_of_ne (by omega); have b28 : (o == 28) = true := beq_iff_eq.2 (by omega)
  clear hr hop ho
  have hcA := fun {W : World} {LL : List (Nat × Obj)} (hL : Kn [] w W LL) => (hL.facts.2.2.2.1 ab 0 l1 (by simp)).trans hA
  have hcM := fun {W : World} {LL : List (Nat × Obj)} (hL : Kn [] w W LL) => (hL.block mb l2 (by simp)).trans hmb
  have hL : Kn [] w w [] := Kn.refl [] w; have hF := hL.fx; go_enter Tryz.func103, Tryz.ntmps103
  go_wp2_with (first | ((with_reducible refine ks ?_); clear hL; intro W hL hF) | (go_at_call 126; refine kc (fun W hL => Int_none s (by omega) hc _ ((hT.kn hL (by simp)).t)) ?_; clear hF hL; intro W hL hF) | (go_at_call 100; (with_reducible refine (need_ok _ _).mono ?_); rintro e w' ⟨rfl, rfl⟩) | ((with_reducible refine at_region 10 ?_); refine kn_wp ?_; clear hF hL; intro W hL; have hF := hL.fx; refine kn_regionP [0, 1, 2, 4, 5, 6, 7, 8, 9, 3, 10, 11] [0, 1, 2, 4, 5, 6, 7, 8, 9, 10, 11] [] [0, 1, 2, 4, 5, 6, 8, 9, 10, 11] (by kernel_rfl) (by kernel_rfl) (List.Sublist.refl _) ?_; clear hF hL; intro Qp hQp; replace hQp := Lib.hid hQp; intro ι F hne hC hFF; have hG := fun n => (hFF n).fx; clear hFF; (repeat (first | (refine cF hC ?_; intro K hK; go_big_quiet_op; go_big_quiet_on) | (refine cP ?_; intro K hK; go_big_quiet_op; go_big_quiet_on) | (refine cwk_callP rfl (by rfl) (by rfl) (fun _ => rfl) ?_; intro W hL; have hF := hL.fx; simp only [ka, Act.eval]; go_at_call 128; (with_reducible refine (address_bad ab mb es clock L s hs last _ (hcA hL) (hcM hL) hM _ HD).mono ?_); rintro e W ⟨rfl, hb⟩; replace hL := hL.below hb; clear hb hF; have hF := hL.fx; refine ⟨_, rfl, hQp.out _ _ ?_⟩; clear hQp; intro a' ha; exact ⟨ha, rfl, hL.below0⟩))); ((done))))
theorem target_30 (ab mb : Nat) (es : Array MapEntry) (clock : Nat) (L : Labs) (s : ByteArray) (hs : s.size ≤ 1000000) (last : Bool) (w : World) (hA : w.cell? ⟨ab, 0, none⟩ = some (.map (some mb))) (hmb : w.heap[mb]? = some (.map es clock)) (hM : MapV Tryz.prog 9 es (lv L)) (hLn : ∀ p ∈ L, p.2 ≤ 100000) (xg xo at_ op : Nat) (hat : at_ ≤ 100000) (hx3 : w.cell? ⟨xg, xo + 3, none⟩ = some (.int .i64 at_)) (hT : TabA w) (hc : canon s.data.toList = none) (hop : op = 30) : Calls Tryz.prog 103 #[.pointer (some ⟨ab, 0, none⟩), .pointer (some ⟨xg, xo, none⟩), .int .i64 op, .string s, .bool last] w fun e w' => RegP (target OO L at_ op s.data.toList last) e ∧ Below w.heap.size w w' := by
 have l1 := cell_lt hA
 have l2 := lt_of_has hmb
 have l3 := cell_lt hx3
 obtain ⟨o, ho⟩ : ∃ o : Int, (op : Int) = o := ⟨_, rfl⟩
 rw [ho]
 cases hd : address L s.data.toList last with
 | ok n =>
  have hnL := address_le hLn hd
  have s1 : IntKind.i64.wrap (64 + (at_ : Int)) = 64 + (at_ : Int) := by rw [IntWalk.i64_in _ (by omega)]
  have s2 : IntKind.i64.wrap (64 + (at_ : Int) + 4) = 64 + (at_ : Int) + 4 := by rw [IntWalk.i64_in _ (by omega)]
  have s3 : IntKind.i64.wrap ((n : Int) - (64 + (at_ : Int) + 4)) = (n : Int) - (64 + (at_ : Int) + 4) := by rw [IntWalk.i64_in _ (by omega)]
  have HD := Lib.hid hd
  clear hd
  have hr : target OO L at_ op s.data.toList last = .ok ((n : Int) - (64 + at_ + 4)) := by unfold target; rw [show OO.int s.data.toList = none from hc]; simp only; rw [if_pos (by omega), HD.out]
  rw [hr]
  have b25 : (o == 25) = false := beq_false_of_ne (by omega); have b26 : (o == 26) = false := beq_false_of_ne (by omega); have b27 : (o == 27) = false := beq_false_of_ne (by omega); have b28 : (o == 28) = false := beq_false_of_ne (by omega); have b30 : (o == 30) = true := beq_iff_eq.2 (by omega)
  clear hr hop ho
  have hcA := fun {W : World} {LL : List (Nat × Obj)} (hL : Kn [] w W LL) => (hL.facts.2.2.2.1 ab 0 l1 (by simp)).trans hA
  have hcM := fun {W : World} {LL : List (Nat × Obj)} (hL : Kn [] w W LL) => (hL.block mb l2 (by simp)).trans hmb
  have hL : Kn [] w w [] := Kn.refl [] w; have hF := hL.fx; go_enter Tryz.func103, Tryz.ntmps103
  go_wp2_with (first | ((with_reducible refine ks ?_); clear hL; intro W hL hF) | (go_at_call 126; refine kc (fun W hL => Int_none s (by omega) hc _ ((hT.kn hL (by simp)).t)) ?_; clear hF hL; intro W hL hF) | (go_at_call 100; (with_reducible refine (need_ok _ _).mono ?_); rintro e w' ⟨rfl, rfl⟩) | ((with_reducible refine at_region 10 ?_); refine kW [0, 1, 2, 4, 5, 6, 7, 8, 9, 3, 10, 11] [0, 1, 2, 4, 5, 6, 7, 8, 9, 10, 11] [] [0, 1, 2, 4, 5, 6, 8, 9, 10, 11] ?_; clear hF hL; intro ι F hne hC hG; (repeat (first | (refine cS ?_) | (refine cF hC ?_; intro K hK; go_big_quiet_op; go_big_quiet_on) | (refine cP ?_; intro K hK; go_big_quiet_op; go_big_quiet_on) | (refine cC ?_; intro W hL; have hF := hL.fx; simp only [ka, Act.eval]; go_at_call 128; (with_reducible refine (address_ok ab mb es clock L s hs last _ (hcA hL) (hcM hL) hM _ HD).mono ?_); rintro e W ⟨rfl, hb⟩; replace hL := hL.below hb; clear hb hF; have hF := hL.fx; refine ko ?_; clear hL hF; simp only [Act.put, kT]) | (refine cN ?_; intro W hL; have hF := hL.facts; go_wp2; refine kb2 ?_; clear hL hC hG; intro ι F hne hC hG))); refine cwk_nil ?_; clear hC hG; intro W hL; have hF := hL.fx))
  refine bodyPost_ret (by simp [results, Tryz.results103, go_sem, *]; try rfl) rfl ?_
  exact ⟨rfl, hL.below0⟩
 | bad m =>
  have HD := Lib.hid hd
  clear hd
  have hr : target OO L at_ op s.data.toList last = .bad m := by unfold target; rw [show OO.int s.data.toList = none from hc]; simp only; rw [if_pos (by omega), HD.out]
  rw [hr]
  have b25 : (o == 25) = false := beq_false_of_ne (by omega); have b26 : (o == 26) = false := beq_false_of_ne (by omega); have b27 : (o == 27) = false := beq_false_of_ne (by omega); have b28 : (o == 28) = false := beq_false_of_ne (by omega); have b30 : (o == 30) = true := beq_iff_eq.2 (by omega)
  clear hr hop ho
  have hcA := fun {W : World} {LL : List (Nat × Obj)} (hL : Kn [] w W LL) => (hL.facts.2.2.2.1 ab 0 l1 (by simp)).trans hA
  have hcM := fun {W : World} {LL : List (Nat × Obj)} (hL : Kn [] w W LL) => (hL.block mb l2 (by simp)).trans hmb
  have hL : Kn [] w w [] := Kn.refl [] w; have hF := hL.fx; go_enter Tryz.func103, Tryz.ntmps103
  go_wp2_with (first | ((with_reducible refine ks ?_); clear hL; intro W hL hF) | (go_at_call 126; refine kc (fun W hL => Int_none s (by omega) hc _ ((hT.kn hL (by simp)).t)) ?_; clear hF hL; intro W hL hF) | (go_at_call 100; (with_reducible refine (need_ok _ _).mono ?_); rintro e w' ⟨rfl, rfl⟩) | ((with_reducible refine at_region 10 ?_); refine kn_wp ?_; clear hF hL; intro W hL; have hF := hL.fx; refine kn_regionP [0, 1, 2, 4, 5, 6, 7, 8, 9, 3, 10, 11] [0, 1, 2, 4, 5, 6, 7, 8, 9, 10, 11] [] [0, 1, 2, 4, 5, 6, 8, 9, 10, 11] (by kernel_rfl) (by kernel_rfl) (List.Sublist.refl _) ?_; clear hF hL; intro Qp hQp; replace hQp := Lib.hid hQp; intro ι F hne hC hFF; have hG := fun n => (hFF n).fx; clear hFF; (repeat (first | (refine cF hC ?_; intro K hK; go_big_quiet_op; go_big_quiet_on) | (refine cP ?_; intro K hK; go_big_quiet_op; go_big_quiet_on) | (refine cwk_callP rfl (by rfl) (by rfl) (fun _ => rfl) ?_; intro W hL; have hF := hL.fx; simp only [ka, Act.eval]; go_at_call 128; (with_reducible refine (address_bad ab mb es clock L s hs last _ (hcA hL) (hcM hL) hM _ HD).mono ?_); rintro e W ⟨rfl, hb⟩; replace hL := hL.below hb; clear hb hF; have hF := hL.fx; refine ⟨_, rfl, hQp.out _ _ ?_⟩; clear hQp; intro a' ha; exact ⟨ha, rfl, hL.below0⟩))); ((done))))
theorem target_2 (ab mb : Nat) (es : Array MapEntry) (clock : Nat) (L : Labs) (s : ByteArray) (hs : s.size ≤ 1000000) (last : Bool) (w : World) (hA : w.cell? ⟨ab, 0, none⟩ = some (.map (some mb))) (hmb : w.heap[mb]? = some (.map es clock)) (hM : MapV Tryz.prog 9 es (lv L)) (hLn : ∀ p ∈ L, p.2 ≤ 100000) (xg xo at_ op : Nat) (hat : at_ ≤ 100000) (hx3 : w.cell? ⟨xg, xo + 3, none⟩ = some (.int .i64 at_)) (hT : TabA w) (hc : canon s.data.toList = none) (hop : op = 2) : Calls Tryz.prog 103 #[.pointer (some ⟨ab, 0, none⟩), .pointer (some ⟨xg, xo, none⟩), .int .i64 op, .string s, .bool last] w fun e w' => RegP (target OO L at_ op s.data.toList last) e ∧ Below w.heap.size w w' := by
 have l1 := cell_lt hA
 have l2 := lt_of_has hmb
 have l3 := cell_lt hx3
 obtain ⟨o, ho⟩ : ∃ o : Int, (op : Int) = o := ⟨_, rfl⟩
 rw [ho]
 cases hd : address L s.data.toList last with
 | ok n =>
  have hnL := address_le hLn hd
  have s1 : IntKind.i64.wrap (64 + (at_ : Int)) = 64 + (at_ : Int) := by rw [IntWalk.i64_in _ (by omega)]
  have s2 : IntKind.i64.wrap (64 + (at_ : Int) + 4) = 64 + (at_ : Int) + 4 := by rw [IntWalk.i64_in _ (by omega)]
  have s3 : IntKind.i64.wrap ((n : Int) - (64 + (at_ : Int) + 4)) = (n : Int) - (64 + (at_ : Int) + 4) := by rw [IntWalk.i64_in _ (by omega)]
  have HD := Lib.hid hd
  clear hd
  have hr : target OO L at_ op s.data.toList last = .ok (n : Int) := by unfold target; rw [show OO.int s.data.toList = none from hc]; simp only; rw [if_neg (by omega), if_pos (by omega), HD.out]
  rw [hr]
  have b25 : (o == 25) = false := beq_false_of_ne (by omega); have b26 : (o == 26) = false := beq_false_of_ne (by omega); have b27 : (o == 27) = false := beq_false_of_ne (by omega); have b28 : (o == 28) = false := beq_false_of_ne (by omega); have b30 : (o == 30) = false := beq_false_of_ne (by omega); have b2 : (o == 2) = true := beq_iff_eq.2 (by omega)
  clear hr hop ho
  have hcA := fun {W : World} {LL : List (Nat × Obj)} (hL : Kn [] w W LL) => (hL.facts.2.2.2.1 ab 0 l1 (by simp)).trans hA
  have hcM := fun {W : World} {LL : List (Nat × Obj)} (hL : Kn [] w W LL) => (hL.block mb l2 (by simp)).trans hmb
  have hL : Kn [] w w [] := Kn.refl [] w; have hF := hL.fx; go_enter Tryz.func103, Tryz.ntmps103
  go_wp2_with (first | ((with_reducible refine ks ?_); clear hL; intro W hL hF) | (go_at_call 126; refine kc (fun W hL => Int_none s (by omega) hc _ ((hT.kn hL (by simp)).t)) ?_; clear hF hL; intro W hL hF) | (go_at_call 100; (with_reducible refine (need_ok _ _).mono ?_); rintro e w' ⟨rfl, rfl⟩) | (go_at_call 128; refine kc (fun W hL => address_ok ab mb es clock L s hs last _ (hcA hL) (hcM hL) hM _ HD) ?_; clear hF hL; intro W hL hF))
  refine bodyPost_ret (by simp [results, Tryz.results103, go_sem, *]; try rfl) rfl ?_
  exact ⟨rfl, hL.below0⟩
 | bad m =>
  have HD := Lib.hid hd
  clear hd
  have hr : target OO L at_ op s.data.toList last = .bad m := by unfold target; rw [show OO.int s.data.toList = none from hc]; simp only; rw [if_neg (by omega), if_pos (by omega), HD.out]
  rw [hr]
  have b25 : (o == 25) = false := beq_false_of_ne (by omega); have b26 : (o == 26) = false := beq_false_of_ne (by omega); have b27 : (o == 27) = false := beq_false_of_ne (by omega); have b28 : (o == 28) = false := beq_false_of_ne (by omega); have b30 : (o == 30) = false := beq_false_of_ne (by omega); have b2 : (o == 2) = true := beq_iff_eq.2 (by omega)
  clear hr hop ho
  have hcA := fun {W : World} {LL : List (Nat × Obj)} (hL : Kn [] w W LL) => (hL.facts.2.2.2.1 ab 0 l1 (by simp)).trans hA
  have hcM := fun {W : World} {LL : List (Nat × Obj)} (hL : Kn [] w W LL) => (hL.block mb l2 (by simp)).trans hmb
  have hL : Kn [] w w [] := Kn.refl [] w; have hF := hL.fx; go_enter Tryz.func103, Tryz.ntmps103
  go_wp2_with (first | ((with_reducible refine ks ?_); clear hL; intro W hL hF) | (go_at_call 126; refine kc (fun W hL => Int_none s (by omega) hc _ ((hT.kn hL (by simp)).t)) ?_; clear hF hL; intro W hL hF) | (go_at_call 100; (with_reducible refine (need_ok _ _).mono ?_); rintro e w' ⟨rfl, rfl⟩) | (go_at_call 128; refine kc (fun W hL => address_bad ab mb es clock L s hs last _ (hcA hL) (hcM hL) hM _ HD) ?_; clear hF hL; intro W hL hF))
  exact ⟨rfl, rfl, hL.below0⟩
theorem target_31 (ab mb : Nat) (es : Array MapEntry) (clock : Nat) (L : Labs) (s : ByteArray) (hs : s.size ≤ 1000000) (last : Bool) (w : World) (hA : w.cell? ⟨ab, 0, none⟩ = some (.map (some mb))) (hmb : w.heap[mb]? = some (.map es clock)) (hM : MapV Tryz.prog 9 es (lv L)) (hLn : ∀ p ∈ L, p.2 ≤ 100000) (xg xo at_ op : Nat) (hat : at_ ≤ 100000) (hx3 : w.cell? ⟨xg, xo + 3, none⟩ = some (.int .i64 at_)) (hT : TabA w) (hc : canon s.data.toList = none) (hop : op = 31) : Calls Tryz.prog 103 #[.pointer (some ⟨ab, 0, none⟩), .pointer (some ⟨xg, xo, none⟩), .int .i64 op, .string s, .bool last] w fun e w' => RegP (target OO L at_ op s.data.toList last) e ∧ Below w.heap.size w w' := by
 obtain ⟨o, ho⟩ : ∃ o : Int, (op : Int) = o := ⟨_, rfl⟩
 rw [ho]
 obtain ⟨c, hcI⟩ : ∃ c, callI s = c := ⟨_, rfl⟩
 have hCI := fun W hT => Call_is s W hT
 rw [hcI] at hCI
 by_cases h0 : 0 ≤ c
 ·have q1 : decide (0 ≤ c) = true := decide_eq_true h0
  have hr : target OO L at_ op s.data.toList last = .ok (c + 1) := by
   unfold target
   rw [show OO.int s.data.toList = none from hc]
   simp only
   rw [if_neg (by omega), if_neg (by omega), if_pos (by omega), show OO.call s.data.toList = some (c.toNat + 1) by show callB _ = _; unfold callB; rw [toList_mk, hcI, if_pos h0]]
   simp only [Rs.ok.injEq]; omega
  rw [hr]
  have b25 : (o == 25) = false := beq_false_of_ne (by omega); have b26 : (o == 26) = false := beq_false_of_ne (by omega); have b27 : (o == 27) = false := beq_false_of_ne (by omega); have b28 : (o == 28) = false := beq_false_of_ne (by omega); have b30 : (o == 30) = false := beq_false_of_ne (by omega); have b2 : (o == 2) = false := beq_false_of_ne (by omega); have b31 : (o == 31) = true := beq_iff_eq.2 (by omega)
  clear hr hop ho h0 hcI
  have hL : Kn [] w w [] := Kn.refl [] w; have hF := hL.fx; go_enter Tryz.func103, Tryz.ntmps103
  go_wp2_with (first | ((with_reducible refine ks ?_); clear hL; intro W hL hF) | (go_at_call 126; refine kc (fun W hL => Int_none s (by omega) hc _ ((hT.kn hL (by simp)).t)) ?_; clear hF hL; intro W hL hF) | (go_at_call 100; (with_reducible refine (need_ok _ _).mono ?_); rintro e w' ⟨rfl, rfl⟩) | (go_at_call 22; refine kc (fun W hL => hCI _ (hT.kn hL (by simp))) ?_; clear hF hL; intro W hL hF))
  refine bodyPost_ret (by simp [results, Tryz.results103, go_sem, *]; try rfl) rfl ?_
  exact ⟨rfl, hL.below0⟩
 ·have q1 : decide (0 ≤ c) = false := decide_eq_false h0
  have hr : target OO L at_ op s.data.toList last = .bad 2 := by
   unfold target
   rw [show OO.int s.data.toList = none from hc]
   simp only
   rw [if_neg (by omega), if_neg (by omega), if_pos (by omega), show OO.call s.data.toList = none by show callB _ = _; unfold callB; rw [toList_mk, hcI, if_neg h0]]
  rw [hr]
  have b25 : (o == 25) = false := beq_false_of_ne (by omega); have b26 : (o == 26) = false := beq_false_of_ne (by omega); have b27 : (o == 27) = false := beq_false_of_ne (by omega); have b28 : (o == 28) = false := beq_false_of_ne (by omega); have b30 : (o == 30) = false := beq_false_of_ne (by omega); have b2 : (o == 2) = false := beq_false_of_ne (by omega); have b31 : (o == 31) = true := beq_iff_eq.2 (by omega)
  clear hr hop ho h0 hcI
  have hL : Kn [] w w [] := Kn.refl [] w; have hF := hL.fx; go_enter Tryz.func103, Tryz.ntmps103
  go_wp2_with (first | ((with_reducible refine ks ?_); clear hL; intro W hL hF) | (go_at_call 126; refine kc (fun W hL => Int_none s (by omega) hc _ ((hT.kn hL (by simp)).t)) ?_; clear hF hL; intro W hL hF) | (go_at_call 100; (with_reducible refine (need_bad _ _).mono ?_); rintro e w' ⟨rfl, rfl⟩) | (go_at_call 22; refine kc (fun W hL => hCI _ (hT.kn hL (by simp))) ?_; clear hF hL; intro W hL hF))
  exact ⟨rfl, rfl, hL.below0⟩
theorem target_none (ab mb : Nat) (es : Array MapEntry) (clock : Nat) (L : Labs) (s : ByteArray) (hs : s.size ≤ 1000000) (last : Bool) (w : World) (hA : w.cell? ⟨ab, 0, none⟩ = some (.map (some mb))) (hmb : w.heap[mb]? = some (.map es clock)) (hM : MapV Tryz.prog 9 es (lv L)) (hLn : ∀ p ∈ L, p.2 ≤ 100000) (xg xo at_ op : Nat) (hat : at_ ≤ 100000) (hx3 : w.cell? ⟨xg, xo + 3, none⟩ = some (.int .i64 at_)) (hT : TabA w) (hc : canon s.data.toList = none) (hop : op ≠ 25 ∧ op ≠ 26 ∧ op ≠ 27 ∧ op ≠ 28 ∧ op ≠ 30 ∧ op ≠ 2 ∧ op ≠ 31) : Calls Tryz.prog 103 #[.pointer (some ⟨ab, 0, none⟩), .pointer (some ⟨xg, xo, none⟩), .int .i64 op, .string s, .bool last] w fun e w' => RegP (target OO L at_ op s.data.toList last) e ∧ Below w.heap.size w w' := by
 obtain ⟨o, ho⟩ : ∃ o : Int, (op : Int) = o := ⟨_, rfl⟩
 rw [ho]
 have hr : target OO L at_ op s.data.toList last = .bad 2 := by
  unfold target
  rw [show OO.int s.data.toList = none from hc]
  simp only
  rw [if_neg (by omega), if_neg (by omega), if_neg (by omega)]
 rw [hr]
 clear hr
 have b25 : (o == 25) = false := beq_false_of_ne (by omega); have b26 : (o == 26) = false := beq_false_of_ne (by omega); have b27 : (o == 27) = false := beq_false_of_ne (by omega); have b28 : (o == 28) = false := beq_false_of_ne (by omega); have b30 : (o == 30) = false := beq_false_of_ne (by omega); have b2 : (o == 2) = false := beq_false_of_ne (by omega); have b31 : (o == 31) = false := beq_false_of_ne (by omega)
 clear hop ho
 have hL : Kn [] w w [] := Kn.refl [] w; have hF := hL.fx; go_enter Tryz.func103, Tryz.ntmps103
 go_wp2_with ((go_at_call 126; refine kc (fun W hL => Int_none s (by omega) hc _ ((hT.kn hL (by simp)).t)) ?_; clear hF hL; intro W hL hF))
 exact ⟨rfl, rfl, hL.below0⟩
theorem target_is (ab mb : Nat) (es : Array MapEntry) (clock : Nat) (L : Labs) (s : ByteArray) (hs : s.size ≤ 1000000) (last : Bool) (w : World) (hA : w.cell? ⟨ab, 0, none⟩ = some (.map (some mb))) (hmb : w.heap[mb]? = some (.map es clock)) (hM : MapV Tryz.prog 9 es (lv L)) (hLn : ∀ p ∈ L, p.2 ≤ 100000) (xg xo at_ op : Nat) (hat : at_ ≤ 100000) (hx3 : w.cell? ⟨xg, xo + 3, none⟩ = some (.int .i64 at_)) (hT : TabA w) : Calls Tryz.prog 103 #[.pointer (some ⟨ab, 0, none⟩), .pointer (some ⟨xg, xo, none⟩), .int .i64 op, .string s, .bool last] w fun e w' => RegP (target OO L at_ op s.data.toList last) e ∧ Below w.heap.size w w' := by
 cases hc : canon s.data.toList with
 | some n => exact target_num ab mb es clock L s hs last w hA hmb hM hLn xg xo at_ op hat hx3 hT n hc
 | none =>
  by_cases hop : op ≠ 25 ∧ op ≠ 26 ∧ op ≠ 27 ∧ op ≠ 28 ∧ op ≠ 30 ∧ op ≠ 2 ∧ op ≠ 31
  ·exact target_none ab mb es clock L s hs last w hA hmb hM hLn xg xo at_ op hat hx3 hT hc hop
  ·have : op = 25 ∨ op = 26 ∨ op = 27 ∨ op = 28 ∨ op = 30 ∨ op = 2 ∨ op = 31 := by omega
   rcases this with h | h | h | h | h | h | h
   ·exact target_25 ab mb es clock L s hs last w hA hmb hM hLn xg xo at_ op hat hx3 hT hc h
   ·exact target_26 ab mb es clock L s hs last w hA hmb hM hLn xg xo at_ op hat hx3 hT hc h
   ·exact target_27 ab mb es clock L s hs last w hA hmb hM hLn xg xo at_ op hat hx3 hT hc h
   ·exact target_28 ab mb es clock L s hs last w hA hmb hM hLn xg xo at_ op hat hx3 hT hc h
   ·exact target_30 ab mb es clock L s hs last w hA hmb hM hLn xg xo at_ op hat hx3 hT hc h
   ·exact target_2 ab mb es clock L s hs last w hA hmb hM hLn xg xo at_ op hat hx3 hT hc h
   ·exact target_31 ab mb es clock L s hs last w hA hmb hM hLn xg xo at_ op hat hx3 hT hc h
end Go.Proofs.YtfdlifhkeicnnaaGreatDoor
