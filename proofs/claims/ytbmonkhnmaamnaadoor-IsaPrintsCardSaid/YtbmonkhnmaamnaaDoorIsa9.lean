import Derived.Test.YtbmonkhnmaamnaaDoorProg
import Derived.WalkKit
import Derived.Handy
import Derived.Deep.Light
import Derived.WalkSmall
import Derived.StillTailTactics
import Derived.Lib.Hide
import Derived.Test.YtbmonkhnmaamnaaDoorReg
import Derived.Test.YtbmonkhnmaamnaaDoorIsa0
import Derived.Test.YtbmonkhnmaamnaaDoorIsa4
import Derived.Test.YtbmonkhnmaamnaaDoorIt
import Derived.Deep.Cut
namespace Go.Proofs.YtbmonkhnmaamnaaDoor
open Go Go.RowKit
set_option linter.unusedSimpArgs false
set_option linter.unusedVariables false

/-- What a row that is owned says, block by block. -/
theorem owned {w w' : World} {v : Value} {xs : List Value} {n : Nat} {E : TypeId} (h : w'.ownsRow w.heap.size E 1 v n xs) (hv : v ≠ .slice none 0 0) (hb : Below w.heap.size w w') :
    ∃ b cap cur, v = .slice (some ⟨b, 0, none⟩) n cap ∧ Kn [] w w' [(b, .cells cur E (0, 0))] ∧ n ≤ cap ∧ cap ≤ maxLen ∧ ∀ k : Nat, k < n → cur[k]? = xs[k]? := by
  obtain ⟨hl, h | ⟨g, cap, cur, e1, e2, e3, e4, e5, e6, e7⟩⟩ := h
  · exact absurd h.1 hv
  · refine ⟨g, cap, cur, e1, ⟨hb.os, hb.tape, hb.output, hb.size, fun c hc _ => hb.block c hc, fun p hp => ?_, fun p hp => ?_, by simp⟩, e4, e5, fun k hk => ?_⟩
    · simp at hp; subst hp; exact .inl e2
    · simp at hp; subst hp; exact e3
    · rw [← e7, Nat.mul_one, List.getElem?_take_of_lt hk]; simp
theorem namesB_len : namesB.length = 32 := rfl
theorem Clone_names (w : World) (hT : Tab w) : Calls Tryd.prog 32 #[.slice (some ⟨1, 0, none⟩) 32 32] w fun e w' =>
    ∃ b cap cur, e = .returned (.slice (some ⟨b, 0, none⟩) 32 cap) ∧ Kn [] w w' [(b, .cells cur 9 (0, 0))] ∧ 32 ≤ cap ∧ ∀ k : Nat, k < 32 → cur[k]? = some (.string (namesB.getD k ByteArray.empty)) :=
  (Tryd.slices_Clone_string 1 0 32 32 namesB w (by decide) (by decide) (fun j hj => by rw [Nat.zero_add]; exact hT.2.2.2.1 j hj)).mono fun e w' ⟨v, he, ho, hv, hb⟩ => by
    obtain ⟨b, cap, cur, h1, h2, h3, h4, h5⟩ := owned ho hv hb
    refine ⟨b, cap, cur, by rw [he, h1], h2, h3, fun k hk => ?_⟩
    rw [h5 k hk, List.getElem?_map, List.getElem?_take_of_lt hk, List.getElem?_eq_getElem (by rw [namesB_len]; exact hk), List.getD_eq_getElem?_getD, List.getElem?_eq_getElem (by rw [namesB_len]; exact hk)]
    rfl
theorem Names_any (w : World) (hT : Tab w) : Calls Tryd.prog 23 #[] w fun e w' =>
    ∃ b cap cur, e = .returned (.slice (some ⟨b, 0, none⟩) 32 cap) ∧ Kn [] w w' [(b, .cells cur 9 (0, 0))] ∧ 32 ≤ cap ∧ ∀ k : Nat, k < 32 → cur[k]? = some (.string (namesB.getD k ByteArray.empty)) := by
  have hL : Kn [] w w [] := Kn.refl [] w; (try simp only [List.setIfInBounds_toArray, List.set_cons_zero, List.set_cons_succ, List.cons_append, List.nil_append] at hL); have hF := hL.facts; (try simp only [Facts, Dist, List.map_cons, List.map_nil, List.forall_mem_cons, false_implies, ne_eq, not_false_eq_true, List.not_mem_nil, not_false_eq_true, true_implies, forall_const, List.mem_cons, or_false, implies_true, and_true, true_and, Nat.le_refl, List.setIfInBounds_toArray, List.set_cons_zero, List.set_cons_succ] at hF); go_enter Tryd.func23, Tryd.ntmps23
  go_wp2_with (first | ((with_reducible refine kn_list_set ?_); (try clear hF); clear hL; intro W hL; (try simp only [List.setIfInBounds_toArray, List.set_cons_zero, List.set_cons_succ, List.cons_append, List.nil_append] at hL); have hF := hL.facts; (try simp only [Facts, Dist, List.map_cons, List.map_nil, List.forall_mem_cons, false_implies, ne_eq, not_false_eq_true, List.not_mem_nil, not_false_eq_true, true_implies, forall_const, List.mem_cons, or_false, implies_true, and_true, true_and, Nat.le_refl, List.setIfInBounds_toArray, List.set_cons_zero, List.set_cons_succ] at hF)) | (go_at_call 32; refine kn_calls ?_; (try clear hF); clear hL; intro W hL; (try simp only [List.setIfInBounds_toArray, List.set_cons_zero, List.set_cons_succ, List.cons_append, List.nil_append] at hL); have hF := hL.facts; (try simp only [Facts, Dist, List.map_cons, List.map_nil, List.forall_mem_cons, false_implies, ne_eq, not_false_eq_true, List.not_mem_nil, not_false_eq_true, true_implies, forall_const, List.mem_cons, or_false, implies_true, and_true, true_and, Nat.le_refl, List.setIfInBounds_toArray, List.set_cons_zero, List.set_cons_succ] at hF); (with_reducible refine (Clone_names _ (hT.ext hL.below0)).mono ?_); rintro e W ⟨b, cap, cur, rfl, hb, hcap, hcur⟩; replace hL := hL.join hb; clear hb; (try clear hF); (try simp only [List.setIfInBounds_toArray, List.set_cons_zero, List.set_cons_succ, List.cons_append, List.nil_append] at hL); have hF := hL.facts; (try simp only [Facts, Dist, List.map_cons, List.map_nil, List.forall_mem_cons, false_implies, ne_eq, not_false_eq_true, List.not_mem_nil, not_false_eq_true, true_implies, forall_const, List.mem_cons, or_false, implies_true, and_true, true_and, Nat.le_refl, List.setIfInBounds_toArray, List.set_cons_zero, List.set_cons_succ] at hF)))
  (try simp only [Exit.inBlock, Exit.then]); refine bodyPost_ret (by simp [results, Tryd.results23, go_sem, *]; try rfl) rfl ?_
  exact ⟨b, cap, cur, rfl, kn_here, hcap, hcur⟩
def findI (s : ByteArray) : Int := Lib.idxOfS namesB s
theorem findI_lt (s : ByteArray) : -1 ≤ findI s ∧ findI s < 32 := by
  unfold findI Lib.idxOfS
  have key : ∀ (zs : List ByteArray) (i : Nat), -1 ≤ Lib.idxFromS zs s i ∧ (Lib.idxFromS zs s i < i + zs.length) := by
    intro zs
    induction zs with
    | nil => intro i; simp [Lib.idxFromS]; omega
    | cons z zs ih =>
      intro i
      unfold Lib.idxFromS
      split
      · simp; omega
      · have := ih (i + 1); simp at this ⊢; omega
  have := key namesB 0
  rw [namesB_len] at this
  simpa using this
theorem Index_names (s : ByteArray) (w : World) (hT : Tab w) : Calls Tryd.prog 28 #[.slice (some ⟨1, 0, none⟩) 32 32, .string s] w fun e w' => e = .returned (.int .i64 (findI s)) ∧ w = w' :=
  (Tryd.slices_Index_string 1 0 32 32 namesB s w (by decide) (by decide) (fun j hj => by rw [Nat.zero_add]; exact hT.2.2.2.1 j hj)).mono fun e w' ⟨h1, h2⟩ => ⟨h1, h2.symm⟩
theorem Find_any (s : ByteArray) (w : World) (hT : Tab w) : Calls Tryd.prog 15 #[.string s] w fun e w' => e = .returned (.tuple #[.int .i64 (max (findI s) 0), .bool (decide (0 ≤ findI s))]) ∧ Below w.heap.size w w' := by
  have hL : Kn [] w w [] := Kn.refl [] w; (try simp only [List.setIfInBounds_toArray, List.set_cons_zero, List.set_cons_succ, List.cons_append, List.nil_append] at hL); have hF := hL.facts; (try simp only [Facts, Dist, List.map_cons, List.map_nil, List.forall_mem_cons, false_implies, ne_eq, not_false_eq_true, List.not_mem_nil, not_false_eq_true, true_implies, forall_const, List.mem_cons, or_false, implies_true, and_true, true_and, Nat.le_refl, List.setIfInBounds_toArray, List.set_cons_zero, List.set_cons_succ] at hF); go_enter Tryd.func15, Tryd.ntmps15
  go_wp2_with (first | ((with_reducible refine kn_list_set ?_); (try clear hF); clear hL; intro W hL; (try simp only [List.setIfInBounds_toArray, List.set_cons_zero, List.set_cons_succ, List.cons_append, List.nil_append] at hL); have hF := hL.facts; (try simp only [Facts, Dist, List.map_cons, List.map_nil, List.forall_mem_cons, false_implies, ne_eq, not_false_eq_true, List.not_mem_nil, not_false_eq_true, true_implies, forall_const, List.mem_cons, or_false, implies_true, and_true, true_and, Nat.le_refl, List.setIfInBounds_toArray, List.set_cons_zero, List.set_cons_succ] at hF)) | (go_at_call 28; refine kn_calls ?_; (try clear hF); clear hL; intro W hL; (try simp only [List.setIfInBounds_toArray, List.set_cons_zero, List.set_cons_succ, List.cons_append, List.nil_append] at hL); have hF := hL.facts; (try simp only [Facts, Dist, List.map_cons, List.map_nil, List.forall_mem_cons, false_implies, ne_eq, not_false_eq_true, List.not_mem_nil, not_false_eq_true, true_implies, forall_const, List.mem_cons, or_false, implies_true, and_true, true_and, Nat.le_refl, List.setIfInBounds_toArray, List.set_cons_zero, List.set_cons_succ] at hF); (with_reducible refine (Index_names s _ (hT.ext hL.below0)).mono ?_); rintro e w' ⟨rfl, rfl⟩))
  all_goals (try simp only [Exit.inBlock, Exit.then]); refine bodyPost_ret (by simp [results, Tryd.results15, go_sem, *]; try rfl) rfl ?_
  all_goals exact ⟨by first | rfl | (congr 4; simp; omega), kn_here.below0⟩
theorem refNames_any (w : World) : Calls Tryd.prog 29 #[] w fun e w' =>
    ∃ b, e = .returned (.slice (some ⟨b, 0, none⟩) 32 32) ∧ Kn [] w w' [(b, .cells #[.string ⟨#[110, 111, 112]⟩, .string ⟨#[109, 111, 118]⟩, .string ⟨#[115, 101, 116]⟩, .string ⟨#[104, 105, 103, 104]⟩, .string ⟨#[97, 100, 100]⟩, .string ⟨#[115, 117, 98]⟩, .string ⟨#[109, 117, 108]⟩, .string ⟨#[100, 105, 118]⟩, .string ⟨#[109, 111, 100]⟩, .string ⟨#[97, 110, 100]⟩, .string ⟨#[111, 114]⟩, .string ⟨#[120, 111, 114]⟩, .string ⟨#[115, 104, 108]⟩, .string ⟨#[115, 104, 114]⟩, .string ⟨#[101, 113]⟩, .string ⟨#[110, 101]⟩, .string ⟨#[108, 116]⟩, .string ⟨#[108, 101]⟩, .string ⟨#[97, 100, 100, 105]⟩, .string ⟨#[108, 100, 98]⟩, .string ⟨#[108, 100, 119]⟩, .string ⟨#[115, 116, 98]⟩, .string ⟨#[115, 116, 119]⟩, .string ⟨#[112, 117, 115, 104]⟩, .string ⟨#[112, 111, 112]⟩, .string ⟨#[106, 109, 112]⟩, .string ⟨#[106, 122]⟩, .string ⟨#[106, 110, 122]⟩, .string ⟨#[108, 105, 110, 107]⟩, .string ⟨#[106, 114]⟩, .string ⟨#[97, 100, 100, 114]⟩, .string ⟨#[99, 97, 108, 108]⟩] 9 (0, 0))] := by
  have hL : Kn [] w w [] := Kn.refl [] w; (try simp only [List.setIfInBounds_toArray, List.set_cons_zero, List.set_cons_succ, List.cons_append, List.nil_append] at hL); have hF := hL.facts; (try simp only [Facts, Dist, List.map_cons, List.map_nil, List.forall_mem_cons, false_implies, ne_eq, not_false_eq_true, List.not_mem_nil, not_false_eq_true, true_implies, forall_const, List.mem_cons, or_false, implies_true, and_true, true_and, Nat.le_refl, List.setIfInBounds_toArray, List.set_cons_zero, List.set_cons_succ] at hF); go_enter Tryd.func29, Tryd.ntmps29
  go_wp2
  (try simp only [Exit.inBlock, Exit.then]); refine bodyPost_ret (by simp [results, Tryd.results29, go_sem, *]; try rfl) rfl ?_
  exact ⟨_, rfl, kn_here⟩

end Go.Proofs.YtbmonkhnmaamnaaDoor
