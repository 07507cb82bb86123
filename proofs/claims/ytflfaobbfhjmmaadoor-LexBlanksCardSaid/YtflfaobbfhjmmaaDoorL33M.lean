import Derived.Test.YtflfaobbfhjmmaaDoorProg
import Derived.WalkKit
import Derived.Handy
import Derived.Deep.Light
import Derived.WalkSmall
import Derived.StillTailTactics
import Derived.Lib.Hide
import Derived.Test.YtflfaobbfhjmmaaDoorT0
import Derived.Test.YtflfaobbfhjmmaaDoorIt
import Derived.Test.YtflfaobbfhjmmaaDoorL28
import Derived.Test.YtflfaobbfhjmmaaDoorLxF
namespace Go.Proofs.YtflfaobbfhjmmaaDoor
open Go Go.RowKit
set_option linter.unusedSimpArgs false
set_option linter.unusedVariables false

theorem prow_at {w : World} {ao : Option Addr} {n cap : Nat} {ps : List Prt} (h : RowK 3 w (.slice ao n cap) (ps.map ptc)) {k : Nat} {p : Prt} (hp : ps[k]? = some p) :
    ∃ g o, ao = some ⟨g, o, none⟩ ∧ g < w.heap.size ∧ w.cell? ⟨g, o + k * 3, none⟩ = some (.int .i64 p.k) ∧ w.cell? ⟨g, o + k * 3 + 1, none⟩ = some (bs p.t) ∧ w.cell? ⟨g, o + k * 3 + 2, none⟩ = some (.bool p.q) := by
  obtain ⟨ao', cap', hv, hc⟩ := h
  injection hv with h1 h2 h3
  subst h1
  obtain ⟨g, o, hg, h4⟩ := hc k (ptc p) (by simp [hp])
  have h0 := h4 0 _ rfl
  exact ⟨g, o, hg, cell_lt h0, h0, h4 1 _ rfl, h4 2 _ rfl⟩
set_option maxRecDepth 20000 in
set_option maxHeartbeats 4000000 in
theorem sameParts_is (v1 v2 : Value) (ps : List Prt) (hn : ps.length ≤ 100000) (w : World) (h1 : RowK 3 w v1 (ps.map ptc)) (h2 : RowK 3 w v2 (ps.map ptc)) : Calls Tryd.prog 14 #[v1, v2] w fun e w' => e = .returned (.bool true) ∧ Below w.heap.size w w' := by
  obtain ⟨a1, c1, rfl, _⟩ := id h1
  obtain ⟨a2, c2, rfl, _⟩ := id h2
  rw [List.length_map] at h1 h2 ⊢
  obtain ⟨n, hn1⟩ : ∃ n, ps.length = n := ⟨_, rfl⟩
  rw [hn1] at h1 h2 hn ⊢
  have hL : Kn [] w w [] := Kn.refl [] w; (try simp only [kfb] at hL); have hF := hL.facts; (try simp only [Facts, Dist, kfa, implies_true, forall_const] at hF); go_enter Tryd.func14, Tryd.ntmps14
  go_wp2
  go_loopw [5] (fun i wr => ∃ k : Nat, k ≤ n ∧ i = .int .i64 k ∧ Kn [] w wr []) (fun i _ => n - (intOf i).toNat)
  case atStart => exact ⟨0, by omega, rfl, hL⟩
  case round =>
    obtain ⟨k, hk, rfl, hK⟩ := hrel
    clear hL hF
    have hL := hK
    clear hK
    (try simp only [kfb] at hL); have hF := hL.facts; (try simp only [Facts, Dist, kfa, implies_true, forall_const] at hF)
    by_cases hlt : k < n
    · obtain ⟨p, hp⟩ : ∃ p, ps[k]? = some p := ⟨_, List.getElem?_eq_getElem (by omega)⟩
      obtain ⟨g1, o1, rfl, hg1, c10, c11, c12⟩ := prow_at h1 hp
      obtain ⟨g2, o2, rfl, hg2, c20, c21, c22⟩ := prow_at h2 hp
      obtain ⟨u, hu⟩ : ∃ u : ByteArray, bs p.t = .string u := ⟨_, rfl⟩
      rw [hu] at c11 c21
      clear hu
      go_wp2_with (first | ((with_reducible refine kn_list_set ?_); (try clear hF); clear hL; intro W hL; (try simp only [kfb] at hL); have hF := hL.facts; (try simp only [Facts, Dist, kfa, implies_true, forall_const] at hF)) | ((with_reducible refine at_region 6 ?_); refine kn_wp ?_; (try clear hF); clear hL; intro W hL; (try simp only [kfb] at hL); have hF := hL.facts; (try simp only [Facts, Dist, kfa, implies_true, forall_const] at hF); refine kn_region [0, 1, 2, 3, 4, 5, 6, 7, 8] [0, 1, 2, 3, 4, 5, 6, 7, 8] [] [0, 1, 2, 4, 5, 6, 8] (by kernel_rfl) (by kernel_rfl) (List.Sublist.refl _) ?_; (try clear hF); clear hL; intro ι F hne hC hFF; have hG := fun n => (hFF n).facts; clear hFF; (try simp only [Facts, Dist, kfa, implies_true, forall_const] at hG); (repeat (first | (refine cwk_skip rfl (by rfl) ?_; (try simp only [Act.put, List.setIfInBounds_toArray, List.set_cons_zero, List.set_cons_succ])) | (refine cwk_float rfl rfl (by rfl) (by rfl) (by rfl) hC ?_; intro K hK; go_big_quiet_op; go_big_quiet_on) | (refine cwk_pure rfl rfl (by rfl) (by rfl) ?_; intro K hK; go_big_quiet_op; go_big_quiet_on) | (refine cwk_anch rfl rfl (by rfl) (by rfl) ?_; intro W hL; (try simp only [kfb] at hL); have hF := hL.facts; (try simp only [Facts, Dist, kfa, implies_true, forall_const] at hF); go_wp2; refine anchQ_normal ?_; (first | (refine owedB _ (by rfl) ?_; clear hL; (try clear hF); clear hC hG; intro ι F hne hC hFF; have hG := fun n => (hFF n).facts; clear hFF; (try simp only [Facts, Dist, kfa, implies_true, forall_const] at hG)) | (refine owed0 _ (by repeat' (first | (with_reducible exact List.Sublist.refl _) | (with_reducible apply List.Sublist.cons_cons) | (with_reducible apply List.Sublist.cons))) ?_; clear hL; (try clear hF)))))); refine cwk_nil ?_; clear hC hG; intro W hL; (try simp only [kfb] at hL); have hF := hL.facts; (try simp only [Facts, Dist, kfa, implies_true, forall_const] at hF)))
      exact ⟨⟨k + 1, by omega, by go_num, hL⟩, by simp [intOf]; omega⟩
    · go_wp2
      (try simp only [Exit.inBlock, Exit.then]); refine bodyPost_ret (by simp [results, Tryd.results14, go_sem, *]; try rfl) rfl ?_
      exact ⟨rfl, hL.below0⟩

end Go.Proofs.YtflfaobbfhjmmaaDoor

namespace Go.Proofs.YtflfaobbfhjmmaaDoor
open Go Go.RowKit
set_option linter.unusedSimpArgs false
set_option linter.unusedVariables false

theorem tok_at {w : World} {ao : Option Addr} {n cap : Nat} {ts : List Tok} (h : TokRow w (.slice ao n cap) ts) {k : Nat} {t : Tok} (ht : ts[k]? = some t) :
    ∃ g o pv, ao = some ⟨g, o, none⟩ ∧ g < w.heap.size ∧ w.cell? ⟨g, o + k * 6, none⟩ = some (.int .i64 t.kind) ∧ w.cell? ⟨g, o + k * 6 + 1, none⟩ = some (bs t.text) ∧ w.cell? ⟨g, o + k * 6 + 2, none⟩ = some (bs t.plain) ∧ w.cell? ⟨g, o + k * 6 + 3, none⟩ = some pv ∧ w.cell? ⟨g, o + k * 6 + 4, none⟩ = some (.int .i64 t.fd) ∧ w.cell? ⟨g, o + k * 6 + 5, none⟩ = some (.int .i64 t.line) ∧ RowK 3 w pv (t.parts.map ptc) := by
  obtain ⟨_, tvs, rfl, hr, hp⟩ := h
  obtain ⟨ao', cap', hv, hc⟩ := hr
  injection hv with h1 h2 h3
  subst h1
  rw [List.getElem?_map] at ht
  obtain ⟨x, hx, rfl⟩ : ∃ x, tvs[k]? = some x ∧ x.1 = t := by
    cases hq : tvs[k]? with
    | none => rw [hq] at ht; cases ht
    | some x => rw [hq] at ht; exact ⟨x, rfl, by simpa using ht⟩
  obtain ⟨g, o, hg, h4⟩ := hc k (tkc x) (by simp [hx])
  have h0 := h4 0 _ rfl
  exact ⟨g, o, x.2, hg, cell_lt h0, h0, h4 1 _ rfl, h4 2 _ rfl, h4 3 _ rfl, h4 4 _ rfl, h4 5 _ rfl, hp x (List.mem_of_getElem? hx)⟩
theorem tok_len {w : World} {v : Value} {ts : List Tok} (h : TokRow w v ts) : ∃ ao cap, v = .slice ao ts.length cap ∧ ts.length ≤ cap := by
  obtain ⟨⟨_, _, _, e, hle⟩, tvs, rfl, ⟨ao, cap, rfl, _⟩, _⟩ := h
  injection e with e1 e2 e3
  subst e2; subst e3
  exact ⟨ao, cap, by simp, by simpa using hle⟩
set_option maxRecDepth 20000 in
set_option maxHeartbeats 4000000 in
theorem same_is (v1 v2 : Value) (L : Nat) (hL0 : L ≤ 20000) (ts : List Tok) (hs : Small ts) (w : World) (h1 : TokRow w v1 ts) (h2 : TokRow w v2 (ts.map (Tok.up L))) : Calls Tryd.prog 10 #[v1, v2, .int .i64 L] w fun e w' => e = .returned (.bool true) ∧ Below w.heap.size w w' := by
  obtain ⟨a1, c1, rfl, _⟩ := tok_len h1
  obtain ⟨a2, c2, rfl, _⟩ := tok_len h2
  rw [List.length_map] at h2 ⊢
  obtain ⟨hn, hsm⟩ := hs
  obtain ⟨n, hn1⟩ : ∃ n, ts.length = n := ⟨_, rfl⟩
  rw [hn1] at h1 h2 hn ⊢
  have hL : Kn [] w w [] := Kn.refl [] w; (try simp only [kfb] at hL); have hF := hL.facts; (try simp only [Facts, Dist, kfa, implies_true, forall_const] at hF); go_enter Tryd.func10, Tryd.ntmps10
  go_wp2
  go_loopw [7] (fun i wr => ∃ k : Nat, k ≤ n ∧ i = .int .i64 k ∧ Kn [] w wr []) (fun i _ => n - (intOf i).toNat)
  case atStart => exact ⟨0, by omega, rfl, hL⟩
  case round =>
    obtain ⟨k, hk, rfl, hK⟩ := hrel
    clear hL hF
    have hL := hK
    clear hK
    (try simp only [kfb] at hL); have hF := hL.facts; (try simp only [Facts, Dist, kfa, implies_true, forall_const] at hF)
    by_cases hlt : k < n
    · obtain ⟨t, ht⟩ : ∃ t, ts[k]? = some t := ⟨_, List.getElem?_eq_getElem (by omega)⟩
      obtain ⟨g1, o1, pv1, rfl, hg1, c10, c11, c12, c13, c14, c15, hq1⟩ := tok_at h1 ht
      obtain ⟨g2, o2, pv2, rfl, hg2, c20, c21, c22, c23, c24, c25, hq2⟩ := tok_at h2 (t := t.up L) (by rw [List.getElem?_map, ht]; rfl)
      simp only [Tok.up] at c20 c21 c22 c24 c25 hq2
      obtain ⟨u, hu⟩ : ∃ u : ByteArray, bs t.text = .string u := ⟨_, rfl⟩
      obtain ⟨u2, hu2⟩ : ∃ u : ByteArray, bs t.plain = .string u := ⟨_, rfl⟩
      rw [hu] at c11 c21
      rw [hu2] at c12 c22
      clear hu hu2
      obtain ⟨hl1, hl2⟩ := hsm t (List.mem_of_getElem? ht)
      have s1 : IntKind.i64.wrap ((t.line : Int) + L) = ((t.line + L : Nat) : Int) := by rw [IntWalk.i64_in _ (by omega)]; omega
      have HQ1 := Lib.hid hq1
      have HQ2 := Lib.hid hq2
      have HPN := Lib.hid (show t.parts.length ≤ 100000 by omega)
      clear hq1 hq2 hl1 hl2
      go_wp2_with (first | ((with_reducible refine kn_list_set ?_); (try clear hF); clear hL; intro W hL; (try simp only [kfb] at hL); have hF := hL.facts; (try simp only [Facts, Dist, kfa, implies_true, forall_const] at hF)) | ((with_reducible refine at_region 6 ?_); refine kn_wp ?_; (try clear hF); clear hL; intro W hL; (try simp only [kfb] at hL); have hF := hL.facts; (try simp only [Facts, Dist, kfa, implies_true, forall_const] at hF); refine kn_region [0, 1, 2, 3, 4, 5, 6, 7, 8, 9, 10, 11, 12, 13, 14, 15, 16, 17, 18, 19, 20, 21, 22, 23, 24, 25, 26, 27, 28, 29, 30, 31, 32, 33, 34, 35, 36, 37, 38, 39, 40, 41, 42, 43, 44, 45, 46, 47, 48, 49, 50, 51, 52, 53, 54, 55, 56, 57, 58, 59, 60, 61, 62, 63, 64, 65, 66, 67, 68, 69, 70, 71, 72, 73, 74, 75, 76, 77, 78] [0, 1, 2, 3, 4, 5, 6, 7, 8, 9, 10, 11, 12, 13, 14, 15, 16, 17, 18, 19, 20, 21, 22, 23, 24, 25, 26, 27, 28, 29, 30, 31, 32, 33, 34, 35, 36, 37, 38, 39, 40, 41, 42, 43, 44, 45, 46, 47, 48, 49, 50, 51, 52, 53, 54, 55, 56, 57, 58, 59, 60, 61, 62, 63, 64, 65, 66, 67, 68, 69, 70, 71, 72, 73, 74, 75, 77, 78] [76] [0, 1, 2, 3, 5, 6, 7, 8, 10, 11, 12, 13, 14, 15, 17, 18, 19, 20, 22, 23, 24, 25, 26, 27, 28, 30, 31, 32, 33, 35, 36, 37, 38, 39, 40, 41, 43, 44, 45, 46, 48, 49, 50, 51, 52, 53, 54, 56, 57, 58, 59, 60, 61, 63, 64, 65, 66, 67, 68, 69, 71, 72, 73, 74, 77, 78] (by kernel_rfl) (by kernel_rfl) (List.Sublist.refl _) ?_; (try clear hF); clear hL; intro ι F hne hC hFF; have hG := fun n => (hFF n).facts; clear hFF; (try simp only [Facts, Dist, kfa, implies_true, forall_const] at hG); (repeat (first | (refine cwk_skip rfl (by rfl) ?_; (try simp only [Act.put, List.setIfInBounds_toArray, List.set_cons_zero, List.set_cons_succ])) | (refine cwk_float rfl rfl (by rfl) (by rfl) (by rfl) hC ?_; intro K hK; go_big_quiet_op; go_big_quiet_on) | (refine cwk_pure rfl rfl (by rfl) (by rfl) ?_; intro K hK; go_big_quiet_op; go_big_quiet_on) | (refine cwk_call rfl (by rfl) (by rfl) (fun _ => rfl) ?_; intro W hL; (try simp only [kfb] at hL); have hF := hL.facts; (try simp only [Facts, Dist, kfa, implies_true, forall_const] at hF); simp only [List.map_toArray, List.map_cons, List.map_nil, Array.empty_append, Array.append_empty, Act.eval, Array.getD_eq_getD_getElem?, List.getElem?_toArray, List.getElem?_cons_zero, List.getElem?_cons_succ, Option.getD_some]; go_at_call 14; (((with_reducible refine (sameParts_is _ _ _ HPN.out _ (HQ1.out.kn hL (by simp)) (HQ2.out.kn hL (by simp))).mono ?_))); rintro e W ⟨rfl, hb⟩; replace hL := hL.below hb; clear hb; (try clear hF); (try simp only [kfb] at hL); have hF := hL.facts; (try simp only [Facts, Dist, kfa, implies_true, forall_const] at hF); refine owed_ret ?_; (first | (refine owedB _ (by rfl) ?_; clear hL; (try clear hF); clear hC hG; intro ι F hne hC hFF; have hG := fun n => (hFF n).facts; clear hFF; (try simp only [Facts, Dist, kfa, implies_true, forall_const] at hG)) | (refine owed0 _ (by repeat' (first | (with_reducible exact List.Sublist.refl _) | (with_reducible apply List.Sublist.cons_cons) | (with_reducible apply List.Sublist.cons))) ?_; clear hL; (try clear hF))); (try simp only [Act.put, List.setIfInBounds_toArray, List.set_cons_zero, List.set_cons_succ])) | (refine cwk_anch rfl rfl (by rfl) (by rfl) ?_; intro W hL; (try simp only [kfb] at hL); have hF := hL.facts; (try simp only [Facts, Dist, kfa, implies_true, forall_const] at hF); go_wp2; refine anchQ_normal ?_; (first | (refine owedB _ (by rfl) ?_; clear hL; (try clear hF); clear hC hG; intro ι F hne hC hFF; have hG := fun n => (hFF n).facts; clear hFF; (try simp only [Facts, Dist, kfa, implies_true, forall_const] at hG)) | (refine owed0 _ (by repeat' (first | (with_reducible exact List.Sublist.refl _) | (with_reducible apply List.Sublist.cons_cons) | (with_reducible apply List.Sublist.cons))) ?_; clear hL; (try clear hF)))))); refine cwk_nil ?_; clear hC hG; intro W hL; (try simp only [kfb] at hL); have hF := hL.facts; (try simp only [Facts, Dist, kfa, implies_true, forall_const] at hF)))
      exact ⟨⟨k + 1, by omega, by go_num, hL⟩, by simp [intOf]; omega⟩
    · go_wp2
      (try simp only [Exit.inBlock, Exit.then]); refine bodyPost_ret (by simp [results, Tryd.results10, go_sem, *]; try rfl) rfl ?_
      exact ⟨rfl, hL.below0⟩

end Go.Proofs.YtflfaobbfhjmmaaDoor

namespace Go.Proofs.YtflfaobbfhjmmaaDoor
open Go Go.RowKit
set_option linter.unusedSimpArgs false
set_option linter.unusedVariables false

theorem same0_is (v1 v2 : Value) (ts : List Tok) (hs : Small ts) (w : World) (h1 : TokRow w v1 ts) (h2 : TokRow w v2 ts) : Calls Tryd.prog 10 #[v1, v2, .int .i64 0] w fun e w' => e = .returned (.bool true) ∧ Below w.heap.size w w' :=
  same_is v1 v2 0 (by omega) ts hs w h1 (by rw [up_zero]; exact h2)
theorem same1_is (v1 v2 : Value) (ts : List Tok) (hs : Small ts) (w : World) (h1 : TokRow w v1 ts) (h2 : TokRow w v2 (ts.map (Tok.up 1))) : Calls Tryd.prog 10 #[v1, v2, .int .i64 1] w fun e w' => e = .returned (.bool true) ∧ Below w.heap.size w w' :=
  same_is v1 v2 1 (by omega) ts hs w h1 h2

end Go.Proofs.YtflfaobbfhjmmaaDoor

namespace Go.Proofs.YtflfaobbfhjmmaaDoor
open Go Go.RowKit
set_option linter.unusedSimpArgs false
set_option linter.unusedVariables false

theorem TokRow.kn0 {w w' : World} {L : List (Nat × Obj)} {v : Value} {ts : List Tok} (h : TokRow w v ts) (k : Kn [] w w' L) : TokRow w' v ts := h.ext k.below0
theorem TokRow.takes {w : World} {g o n cap : Nat} {ts : List Tok} (h : TokRow w (.slice (some ⟨g, o, none⟩) n cap) ts) (k : Nat) (hk : k ≤ n) : TokRow w (.slice (some ⟨g, o, none⟩) k cap) (ts.take k) := by
  obtain ⟨⟨_, _, _, e, hle⟩, tvs, rfl, ⟨ao, cap', hv, hc⟩, hp⟩ := h
  injection e with e1 e2 e3
  subst e2; subst e3
  injection hv with h1 h2 h3
  rw [List.length_map] at h2
  refine ⟨⟨_, _, _, rfl, by omega⟩, tvs.take k, by rw [List.map_take], ⟨some ⟨g, o, none⟩, cap, by rw [List.length_map, List.length_take, Nat.min_eq_left (by omega)], fun j cs hj => ⟨g, o, rfl, fun c x hx => ?_⟩⟩, fun x hx => hp x (List.mem_of_mem_take hx)⟩
  have hj2 : (tvs.map tkc)[j]? = some cs := by
    rw [List.map_take, List.getElem?_take] at hj
    split at hj
    · exact hj
    · cases hj
  obtain ⟨g', o', e4, h4⟩ := hc j cs hj2
  rw [← h1] at e4
  injection e4 with e4
  injection e4 with e5 e6
  subst e5; subst e6
  exact h4 c x hx
theorem TokRow.drops {w : World} {g o n cap : Nat} {ts : List Tok} (h : TokRow w (.slice (some ⟨g, o, none⟩) n cap) ts) (k : Nat) (hk : k ≤ n) : TokRow w (.slice (some ⟨g, o + k * 6, none⟩) (n - k) (cap - k)) (ts.drop k) := by
  obtain ⟨⟨_, _, _, e, hle⟩, tvs, rfl, ⟨ao, cap', hv, hc⟩, hp⟩ := h
  injection e with e1 e2 e3
  subst e2; subst e3
  injection hv with h1 h2 h3
  rw [List.length_map] at h2
  refine ⟨⟨_, _, _, rfl, by omega⟩, tvs.drop k, by rw [List.map_drop], ⟨some ⟨g, o + k * 6, none⟩, cap - k, by rw [List.length_map, List.length_drop, h2], fun j cs hj => ⟨g, o + k * 6, rfl, fun c x hx => ?_⟩⟩, fun x hx => hp x (List.mem_of_mem_drop hx)⟩
  have hj2 : (tvs.map tkc)[k + j]? = some cs := by
    rw [List.map_drop, List.getElem?_drop] at hj
    exact hj
  obtain ⟨g', o', e4, h4⟩ := hc (k + j) cs hj2
  rw [← h1] at e4
  injection e4 with e4
  injection e4 with e5 e6
  subst e5; subst e6
  have := h4 c x hx
  rw [show o + (k + j) * 6 + c = o + k * 6 + j * 6 + c by rw [Nat.add_mul]; omega] at this
  exact this
theorem tok_line {w : World} {g o n cap : Nat} {ts : List Tok} (h : TokRow w (.slice (some ⟨g, o, none⟩) n cap) ts) {k : Nat} {t : Tok} (ht : ts[k]? = some t) : w.cell? ⟨g, o + k * 6 + 5, none⟩ = some (.int .i64 t.line) ∧ g < w.heap.size := by
  obtain ⟨g', o', pv, e, hg, c0, c1, c2, c3, c4, c5, _⟩ := tok_at h ht
  injection e with e
  injection e with e5 e6
  subst e5; subst e6
  exact ⟨c5, hg⟩
theorem tok_six {w : World} {g o n cap : Nat} {ts : List Tok} (h : TokRow w (.slice (some ⟨g, o, none⟩) n cap) ts) {k : Nat} {t : Tok} (ht : ts[k]? = some t) : ∃ pv, g < w.heap.size ∧ w.cell? ⟨g, o + k * 6, none⟩ = some (.int .i64 t.kind) ∧ w.cell? ⟨g, o + k * 6 + 1, none⟩ = some (bs t.text) ∧ w.cell? ⟨g, o + k * 6 + 2, none⟩ = some (bs t.plain) ∧ w.cell? ⟨g, o + k * 6 + 3, none⟩ = some pv ∧ w.cell? ⟨g, o + k * 6 + 4, none⟩ = some (.int .i64 t.fd) ∧ w.cell? ⟨g, o + k * 6 + 5, none⟩ = some (.int .i64 t.line) ∧ RowK 3 w pv (t.parts.map ptc) := by
  obtain ⟨g', o', pv, e, hg, c0, c1, c2, c3, c4, c5, hq⟩ := tok_at h ht
  injection e with e
  injection e with e5 e6
  subst e5; subst e6
  exact ⟨pv, hg, c0, c1, c2, c3, c4, c5, hq⟩
theorem lexAny (src : ByteArray) (hs : src.size ≤ 8000) (W : World) : Calls Tryd.prog 9 #[.string src] W fun e w' => Below W.heap.size W w' ∧ ∃ (v : Value) (er m : Int), e = .returned (.tuple #[v, .int .i64 er, .int .i64 m]) :=
  (Lex_is src hs W).mono fun e w' h => by
    obtain ⟨hb, hr⟩ := h
    refine ⟨hb, ?_⟩
    generalize lex src.data.toList = V at hr
    cases V with
    | ok ts => obtain ⟨v, he, _⟩ := hr; exact ⟨v, 0, 0, he⟩
    | err full m => exact ⟨_, _, _, hr⟩
theorem lexFix (src : ByteArray) (hs : src.size ≤ 8000) : ∃ er m : Int, ∀ W : World, Calls Tryd.prog 9 #[.string src] W fun e w' => Below W.heap.size W w' ∧ ∃ v, e = .returned (.tuple #[v, .int .i64 er, .int .i64 m]) := by
  have key : ∀ W, Calls Tryd.prog 9 #[.string src] W (LPost src W) := fun W => Lex_is src hs W
  unfold LPost at key
  generalize lex src.data.toList = V at key
  cases V with
  | ok ts => exact ⟨0, 0, fun W => (key W).mono fun e w' ⟨hb, v, he, _⟩ => ⟨hb, v, he⟩⟩
  | err full m => exact ⟨if full then 6 else 27, m, fun W => (key W).mono fun e w' ⟨hb, hr⟩ => ⟨hb, _, hr⟩⟩
theorem lexErr (src : ByteArray) (hs : src.size ≤ 8000) (full : Bool) (m : Nat) (er : Int) (he : er = if full then 6 else 27) (h : lex src.data.toList = .err full m) (W : World) : Calls Tryd.prog 9 #[.string src] W fun e w' => Below W.heap.size W w' ∧ e = .returned (.tuple #[.slice none 0 0, .int .i64 er, .int .i64 m]) :=
  (Lex_is src hs W).mono fun e w' hp => by
    obtain ⟨hb, hr⟩ := hp
    rw [h] at hr
    exact ⟨hb, by rw [he]; exact hr⟩
theorem lexOk (src : ByteArray) (hs : src.size ≤ 8000) (ts : List Tok) (n : Nat) (h : lex src.data.toList = .ok ts) (hn : ts.length = n) (h0 : 0 < n) (W : World) : Calls Tryd.prog 9 #[.string src] W fun e w' => Below W.heap.size W w' ∧ ∃ g o cap, e = .returned (.tuple #[.slice (some ⟨g, o, none⟩) n cap, .int .i64 0, .int .i64 0]) ∧ n ≤ cap ∧ TokRow w' (.slice (some ⟨g, o, none⟩) n cap) ts :=
  (Lex_is src hs W).mono fun e w' hp => by
    obtain ⟨hb, hr⟩ := hp
    rw [h] at hr
    obtain ⟨v, he, ht⟩ := hr
    obtain ⟨ao, cap, rfl, hle⟩ := tok_len ht
    obtain ⟨x, hx⟩ : ∃ x, ts[0]? = some x := ⟨_, List.getElem?_eq_getElem (by omega)⟩
    obtain ⟨g, o, pv, rfl, _⟩ := tok_at ht hx
    rw [hn] at he hle ht
    exact ⟨hb, g, o, cap, he, hle, ht⟩

end Go.Proofs.YtflfaobbfhjmmaaDoor

