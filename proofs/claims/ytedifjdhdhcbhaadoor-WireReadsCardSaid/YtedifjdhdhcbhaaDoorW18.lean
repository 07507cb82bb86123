import Derived.Test.YtedifjdhdhcbhaaDoorProg
import Derived.WalkKit
import Derived.Handy
import Derived.Deep.Light
import Derived.WalkSmall
import Derived.StillTailTactics
import Derived.Lib.Hide
import Derived.Test.YtedifjdhdhcbhaaDoorW0
import Derived.Test.YtedifjdhdhcbhaaDoorIt
import Derived.Test.YtedifjdhdhcbhaaDoorW17
namespace Go.Proofs.YtedifjdhdhcbhaaDoor
open Go Go.RowKit
set_option linter.unusedSimpArgs false
set_option linter.unusedVariables false

def one (x : Val) : Nat := x.s.size + x.l.length + x.t.length + (x.t.map ByteArray.size).sum
def FewX (vs : List Val) : Prop := Few vs ∧ (vs.map one).sum ≤ 400
noncomputable def fewB (vs : List Val) : Bool := @decide (FewX vs) (Classical.propDecidable _)
theorem fewB_true {vs : List Val} (h : fewB vs = true) : FewX vs := @of_decide_eq_true _ (Classical.propDecidable _) h
theorem fewB_of {vs : List Val} (h : FewX vs) : fewB vs = true := @decide_eq_true _ (Classical.propDecidable _) h
theorem fewB_not {vs : List Val} (h : ¬ FewX vs) : fewB vs = false := @decide_eq_false _ (Classical.propDecidable _) h
theorem sum_le {α : Type} (f : α → Nat) (c : Nat) : ∀ l : List α, (∀ x ∈ l, f x ≤ c) → (l.map f).sum ≤ l.length * c
  | [], _ => by simp
  | x :: l, h => by
    have h1 := sum_le f c l (fun y hy => h y (List.mem_cons_of_mem _ hy))
    have h2 := h x (by simp)
    simp only [List.map_cons, List.sum_cons, List.length_cons, Nat.add_mul]; omega
theorem one_le {x : Val} (h : FewOne x) : one x ≤ 161200 := by
  obtain ⟨h1, h2, h3, h4⟩ := h
  have := sum_le ByteArray.size 400 x.t h4
  unfold one
  have h5 : x.t.length * 400 ≤ 400 * 400 := Nat.mul_le_mul_right _ h2
  omega
theorem sum_step {α : Type} (f : α → Nat) {l : List α} {k : Nat} {x : α} (h : l[k]? = some x) : ((l.take (k + 1)).map f).sum = ((l.take k).map f).sum + f x := by
  rw [List.take_add_one, h]; simp
set_option maxRecDepth 20000 in
set_option maxHeartbeats 4000000 in
theorem few_any (vs : List Val) (v : Value) (w : World) (hv : VRow w v vs) (hlen : vs.length ≤ maxLen) :
    Calls Tryd.prog 10 #[v] w fun e w' => e = .returned (.bool (fewB vs)) ∧ Below w.heap.size w w' := by
  obtain ⟨ao, cap, rfl, _⟩ := id hv.row
  rw [List.length_map] at hv ⊢
  unfold maxLen at hlen
  by_cases hn : (vs.length : Int) > 20
  · have hfb : fewB vs = false := fewB_not (vs := vs) (fun h => by have := h.1.1; omega)
    have hL : Kn [] w w [] := Kn.refl [] w; (try simp only [List.setIfInBounds_toArray, List.set_cons_zero, List.set_cons_succ, List.cons_append, List.nil_append] at hL); have hF := hL.facts; (try simp only [Facts, Dist, List.map_cons, List.map_nil, List.forall_mem_cons, false_implies, ne_eq, not_false_eq_true, List.not_mem_nil, not_false_eq_true, true_implies, forall_const, List.mem_cons, or_false, implies_true, and_true, true_and, Nat.le_refl, List.setIfInBounds_toArray, List.set_cons_zero, List.set_cons_succ] at hF); go_enter Tryd.func10, Tryd.ntmps10
    go_wp2
    (try simp only [Exit.inBlock, Exit.then]); refine bodyPost_ret (by simp [results, Tryd.results10, go_sem, *]; try rfl) rfl ?_
    exact ⟨by first | rfl | rw [hfb], hL.below0⟩
  · have hL : Kn [] w w [] := Kn.refl [] w; (try simp only [List.setIfInBounds_toArray, List.set_cons_zero, List.set_cons_succ, List.cons_append, List.nil_append] at hL); have hF := hL.facts; (try simp only [Facts, Dist, List.map_cons, List.map_nil, List.forall_mem_cons, false_implies, ne_eq, not_false_eq_true, List.not_mem_nil, not_false_eq_true, true_implies, forall_const, List.mem_cons, or_false, implies_true, and_true, true_and, Nat.le_refl, List.setIfInBounds_toArray, List.set_cons_zero, List.set_cons_succ] at hF); go_enter Tryd.func10, Tryd.ntmps10
    go_wp2
    go_loopw [3, 4] (fun n i wr => ∃ (k m : Nat), k ≤ vs.length ∧ i = .int .i64 k ∧ n = .int .i64 m ∧ Kn [] w wr [] ∧ ((vs.take k).map one).sum = m ∧ ∀ x ∈ vs.take k, FewOne x) (fun _ i _ => vs.length - (intOf i).toNat)
    case atStart => exact ⟨0, 0, by omega, rfl, rfl, hL, by simp, by simp⟩
    case round =>
      obtain ⟨k, m, hk, rfl, rfl, hK, hm, hpre⟩ := hrel
      clear hL hF
      have hL := hK
      clear hK
      (try simp only [List.setIfInBounds_toArray, List.set_cons_zero, List.set_cons_succ, List.cons_append, List.nil_append] at hL); have hF := hL.facts; (try simp only [Facts, Dist, List.map_cons, List.map_nil, List.forall_mem_cons, false_implies, ne_eq, not_false_eq_true, List.not_mem_nil, not_false_eq_true, true_implies, forall_const, List.mem_cons, or_false, implies_true, and_true, true_and, Nat.le_refl, List.setIfInBounds_toArray, List.set_cons_zero, List.set_cons_succ] at hF)
      have hms : m ≤ k * 161200 := by
        have := sum_le one 161200 (vs.take k) (fun x hx => one_le (hpre x hx))
        rw [List.length_take] at this
        have h2 : min k vs.length * 161200 ≤ k * 161200 := Nat.mul_le_mul_right _ (Nat.min_le_left _ _)
        omega
      by_cases hlt : k < vs.length
      · obtain ⟨x, hx⟩ : ∃ x, vs[k]? = some x := ⟨_, List.getElem?_eq_getElem hlt⟩
        have hxm : x ∈ vs := List.mem_of_getElem? hx
        obtain ⟨g, o, rfl, hg, c0, c1, c2, c3, c4⟩ := vrow_at hv hx
        have hxi := hv.all x hxm
        obtain ⟨la, lc, hlv, _⟩ := id hxi.l
        obtain ⟨ta, tc, htv, _⟩ := id hxi.t
        have htr := hxi.t
        rw [List.length_map] at hlv htv
        rw [hlv] at c3
        rw [htv] at c4 htr
        have z1 := hxi.llen
        have z2 := hxi.tlen
        have z3 := hxi.slen
        have z4 := hxi.ts
        unfold maxLen at z1 z2 z3
        clear hlv htv hxi
        by_cases hb : (x.l.length : Int) ≤ 400 ∧ (x.t.length : Int) ≤ 400 ∧ (x.s.size : Int) ≤ 400
        · obtain ⟨hb1, hb2, hb3⟩ := hb
          go_wp2_with (first | ((with_reducible refine kn_list_set ?_); (try clear hF); clear hL; intro W hL; (try simp only [List.setIfInBounds_toArray, List.set_cons_zero, List.set_cons_succ, List.cons_append, List.nil_append] at hL); have hF := hL.facts; (try simp only [Facts, Dist, List.map_cons, List.map_nil, List.forall_mem_cons, false_implies, ne_eq, not_false_eq_true, List.not_mem_nil, not_false_eq_true, true_implies, forall_const, List.mem_cons, or_false, implies_true, and_true, true_and, Nat.le_refl, List.setIfInBounds_toArray, List.set_cons_zero, List.set_cons_succ] at hF)) | ((with_reducible refine at_region 9 ?_); refine kn_wp ?_; (try clear hF); clear hL; intro W hL; (try simp only [List.setIfInBounds_toArray, List.set_cons_zero, List.set_cons_succ, List.cons_append, List.nil_append] at hL); have hF := hL.facts; (try simp only [Facts, Dist, List.map_cons, List.map_nil, List.forall_mem_cons, false_implies, ne_eq, not_false_eq_true, List.not_mem_nil, not_false_eq_true, true_implies, forall_const, List.mem_cons, or_false, implies_true, and_true, true_and, Nat.le_refl, List.setIfInBounds_toArray, List.set_cons_zero, List.set_cons_succ] at hF); refine kn_region [0, 1, 2, 3, 4, 5, 6, 7, 8, 9, 10, 11, 12, 13, 14, 15, 16, 17, 18, 19, 20, 21, 22] [0, 1, 2, 3, 4, 5, 6, 7, 8, 9, 10, 11, 12, 13, 14, 15, 16, 17, 18, 19, 20, 21, 22] [] [0, 1, 2, 3, 4, 6, 7, 8, 9, 10, 11, 13, 14, 15, 16, 17, 18, 20, 21, 22] (by kernel_rfl) (by kernel_rfl) (List.Sublist.refl _) ?_; (try clear hF); clear hL; intro ι F hne hC hFF; have hG := fun n => (hFF n).facts; clear hFF; (try simp only [Facts, Dist, List.map_cons, List.map_nil, List.forall_mem_cons, false_implies, ne_eq, not_false_eq_true, List.not_mem_nil, not_false_eq_true, true_implies, forall_const, List.mem_cons, or_false, implies_true, and_true, true_and, Nat.le_refl, List.setIfInBounds_toArray, List.set_cons_zero, List.set_cons_succ] at hG); (repeat (first | (refine cwk_skip rfl (by rfl) ?_; (try simp only [Act.put, List.setIfInBounds_toArray, List.set_cons_zero, List.set_cons_succ])) | (refine cwk_float rfl rfl (by rfl) (by rfl) (by rfl) hC ?_; intro K hK; go_big_quiet_op; go_big_quiet_on) | (refine cwk_pure rfl rfl (by rfl) (by rfl) ?_; intro K hK; go_big_quiet_op; go_big_quiet_on) | (refine cwk_anch rfl rfl (by rfl) (by rfl) ?_; intro W hL; (try simp only [List.setIfInBounds_toArray, List.set_cons_zero, List.set_cons_succ, List.cons_append, List.nil_append] at hL); have hF := hL.facts; (try simp only [Facts, Dist, List.map_cons, List.map_nil, List.forall_mem_cons, false_implies, ne_eq, not_false_eq_true, List.not_mem_nil, not_false_eq_true, true_implies, forall_const, List.mem_cons, or_false, implies_true, and_true, true_and, Nat.le_refl, List.setIfInBounds_toArray, List.set_cons_zero, List.set_cons_succ] at hF); go_wp2; refine anchQ_normal ?_; (first | (refine owedB _ (by rfl) ?_; clear hL; (try clear hF); clear hC hG; intro ι F hne hC hFF; have hG := fun n => (hFF n).facts; clear hFF; (try simp only [Facts, Dist, List.map_cons, List.map_nil, List.forall_mem_cons, false_implies, ne_eq, not_false_eq_true, List.not_mem_nil, not_false_eq_true, true_implies, forall_const, List.mem_cons, or_false, implies_true, and_true, true_and, Nat.le_refl, List.setIfInBounds_toArray, List.set_cons_zero, List.set_cons_succ] at hG)) | (refine owed0 _ (by repeat' (first | (with_reducible exact List.Sublist.refl _) | (with_reducible apply List.Sublist.cons_cons) | (with_reducible apply List.Sublist.cons))) ?_; clear hL; (try clear hF)))))); refine cwk_nil ?_; clear hC hG; intro W hL; (try simp only [List.setIfInBounds_toArray, List.set_cons_zero, List.set_cons_succ, List.cons_append, List.nil_append] at hL); have hF := hL.facts; (try simp only [Facts, Dist, List.map_cons, List.map_nil, List.forall_mem_cons, false_implies, ne_eq, not_false_eq_true, List.not_mem_nil, not_false_eq_true, true_implies, forall_const, List.mem_cons, or_false, implies_true, and_true, true_and, Nat.le_refl, List.setIfInBounds_toArray, List.set_cons_zero, List.set_cons_succ] at hF)))
          go_loopw [3, 5] (fun n i wr => ∃ (j m2 : Nat), j ≤ x.t.length ∧ i = .int .i64 j ∧ n = .int .i64 m2 ∧ Kn [] w wr [] ∧ m + x.s.size + x.l.length + x.t.length + ((x.t.take j).map ByteArray.size).sum = m2 ∧ ∀ y ∈ x.t.take j, y.size ≤ 400) (fun _ i _ => x.t.length - (intOf i).toNat)
          case atStart =>
            refine ⟨0, _, by omega, rfl, ?_, hL, rfl, by simp⟩
            simp only [List.take_zero, List.map_nil, List.sum_nil]
            first | (congr 1; done) | (congr 1; unfold wrap64; omega)
          case round =>
            obtain ⟨j, m2, hj, rfl, rfl, hK, hm2, hpre2⟩ := hrel
            clear hL hF
            have hL := hK
            clear hK
            (try simp only [List.setIfInBounds_toArray, List.set_cons_zero, List.set_cons_succ, List.cons_append, List.nil_append] at hL); have hF := hL.facts; (try simp only [Facts, Dist, List.map_cons, List.map_nil, List.forall_mem_cons, false_implies, ne_eq, not_false_eq_true, List.not_mem_nil, not_false_eq_true, true_implies, forall_const, List.mem_cons, or_false, implies_true, and_true, true_and, Nat.le_refl, List.setIfInBounds_toArray, List.set_cons_zero, List.set_cons_succ] at hF)
            have hms2 : ((x.t.take j).map ByteArray.size).sum ≤ 160000 := by
              have := sum_le ByteArray.size 400 (x.t.take j) hpre2
              rw [List.length_take] at this
              have h2 : min j x.t.length * 400 ≤ 400 * 400 := Nat.mul_le_mul_right _ (by omega)
              omega
            by_cases hlt2 : j < x.t.length
            · obtain ⟨y, hy⟩ : ∃ y, x.t[j]? = some y := ⟨_, List.getElem?_eq_getElem hlt2⟩
              obtain ⟨g2, o2, rfl, hg2, d0⟩ := row_at htr (k := j) (x := .string y) (by simp [hy])
              have z5 := z4 y (List.mem_of_getElem? hy)
              unfold maxLen at z5
              by_cases hys : (y.size : Int) ≤ 400
              · have hsum := sum_step ByteArray.size hy
                go_wp2
                go_roundw
                case rel =>
                  refine ⟨j + 1, m2 + y.size, by omega, by go_num, ?_, hL, by omega, fun q hq => ?_⟩
                  · first | (congr 1; done) | (congr 1; unfold wrap64; omega)
                  rw [List.take_add_one, hy, List.mem_append] at hq
                  rcases hq with hq | hq
                  · exact hpre2 q hq
                  · simp at hq; subst hq; omega
                case measure => simp [intOf]; omega
              · have hfb : fewB vs = false := fewB_not (vs := vs) (fun h => by have := (h.1.2 x hxm).2.2.2 y (List.mem_of_getElem? hy); omega)
                go_wp2
                (try simp only [Exit.inBlock, Exit.then]); refine bodyPost_ret (by simp [results, Tryd.results10, go_sem, *]; try rfl) rfl ?_
                exact ⟨by first | rfl | rw [hfb], hL.below0⟩
            · obtain rfl : j = x.t.length := by omega
              rw [List.take_length] at hpre2 hm2
              have hsum := sum_step one hx
              have hone : one x = x.s.size + x.l.length + x.t.length + (x.t.map ByteArray.size).sum := rfl
              go_wp2
              go_roundw
              case rel =>
                refine ⟨k + 1, m2, by omega, by go_num, rfl, hL, by omega, fun q hq => ?_⟩
                rw [List.take_add_one, hx, List.mem_append] at hq
                rcases hq with hq | hq
                · exact hpre q hq
                · simp at hq; subst hq; exact ⟨by omega, by omega, by omega, hpre2⟩
              case measure => simp [intOf]; omega
        · have hfb : fewB vs = false := fewB_not (vs := vs) (fun h => by obtain ⟨h1, h2, h3, _⟩ := h.1.2 x hxm; omega)
          go_wp2
          all_goals first | (exfalso; omega) | skip
          all_goals (try simp only [Exit.inBlock, Exit.then]); refine bodyPost_ret (by simp [results, Tryd.results10, go_sem, *]; try rfl) rfl ?_
          all_goals exact ⟨by first | rfl | rw [hfb], hL.below0⟩
      · obtain rfl : k = vs.length := by omega
        rw [List.take_length] at hpre hm
        by_cases hm4 : (m : Int) ≤ 400
        · have hfb : fewB vs = true := fewB_of (vs := vs) ⟨⟨by omega, hpre⟩, by omega⟩
          go_wp2
          (try simp only [Exit.inBlock, Exit.then]); refine bodyPost_ret (by simp [results, Tryd.results10, go_sem, *]; try rfl) rfl ?_
          exact ⟨by first | rfl | rw [hfb], hL.below0⟩
        · have hfb : fewB vs = false := fewB_not (vs := vs) (fun h => by have := h.2; omega)
          go_wp2
          (try simp only [Exit.inBlock, Exit.then]); refine bodyPost_ret (by simp [results, Tryd.results10, go_sem, *]; try rfl) rfl ?_
          exact ⟨by first | rfl | rw [hfb], hL.below0⟩
theorem few_is (vs : List Val) (b : Bool) (hb : fewB vs = b) (v : Value) (w : World) (hv : VRow w v vs) (hlen : vs.length ≤ maxLen) :
    Calls Tryd.prog 10 #[v] w fun e w' => e = .returned (.bool b) ∧ Below w.heap.size w w' := hb ▸ few_any vs v w hv hlen

end Go.Proofs.YtedifjdhdhcbhaaDoor
