import Derived.Test.YtedifjdhdhcbhaaDoorProg
import Derived.WalkKit
import Derived.Handy
import Derived.Deep.Light
import Derived.WalkSmall
import Derived.StillTailTactics
import Derived.Lib.Hide
import Derived.Test.YtedifjdhdhcbhaaDoorW0
import Derived.Test.YtedifjdhdhcbhaaDoorIt
import Derived.Test.YtedifjdhdhcbhaaDoorW14
namespace Go.Proofs.YtedifjdhdhcbhaaDoor
open Go Go.RowKit
set_option linter.unusedSimpArgs false
set_option linter.unusedVariables false

theorem cut_fact (s rs : ByteArray) (enc : Bytes) (h : s.data.toList = enc ++ rs.data.toList) (hs : s.size ≤ 400) :
    ∃ d : Nat, wrap64 ((s.size : Int) - rs.size) = d ∧ (d : Int) ≤ s.size ∧ s.extract 0 (max 0 (min (d : Int) s.size)).toNat = ⟨enc.toArray⟩ ∧ (rs = ByteArray.empty → ⟨enc.toArray⟩ = s) := by
  have h1 : s.size = enc.length + rs.size := by
    have := congrArg List.length h
    rw [List.length_append] at this
    simpa using this
  refine ⟨enc.length, by unfold wrap64; omega, by omega, ?_, fun e => ?_⟩
  · apply ba_ext
    rw [ext_list, List.drop_zero, h]
    have e1 : (max 0 (min ((enc.length : Nat) : Int) s.size)).toNat = enc.length := by omega
    rw [e1, List.take_left']
    rfl
  · subst e
    apply ba_ext
    rw [h]; simp
theorem num_okI (e : UInt8) (least : Int) (r : Rd) (h0 : minInt ≤ least) (h : least ≤ 0) : okI (numR e least r).1 := ⟨Int.le_trans h0 (num_ge e least r h), num_max e least r h⟩
theorem text_short (r : Rd) : (textR r).1.length ≤ r.rest.length := by
  have h := num_shrink 58 0 r
  unfold textR
  split
  · simp
  · split
    · simp
    · simp only [List.length_take]; omega
theorem encT_map : ∀ l : List Bytes, (l.map fun x => (⟨x.toArray⟩ : ByteArray)).flatMap encT = l.flatMap encText
  | [] => rfl
  | x :: l => by simp only [List.map_cons, List.flatMap_cons, encT_map l]; rfl
theorem Texts_enc2 (l : List Bytes) (hin : ∀ s ∈ l, s.length ≤ 100000000) (v : Value) (w : World) (hT : Tab w) (hv : Row w v (l.map fun x => .string ⟨x.toArray⟩)) (hlen : l.length ≤ 1000) (hbytes : (l.flatMap encText).length ≤ 100000000) :
    Calls Tryd.prog 19 #[v] w fun e w' => e = .returned (.string ⟨(encTexts l).toArray⟩) ∧ Below w.heap.size w w' := by
  have h := Texts_enc (l.map fun x => (⟨x.toArray⟩ : ByteArray)) (fun s hs => by
    obtain ⟨x, hx, rfl⟩ := List.mem_map.1 hs
    have := hin x hx
    show x.toArray.size ≤ _
    simpa using this) v w hT (by simpa [List.map_map, Function.comp_def] using hv) (by simpa using hlen) (by rw [encT_map]; exact hbytes)
  rw [encT_map, List.length_map] at h
  exact h
theorem again_long (s : ByteArray) (k : Int) (hs : (s.size : Int) > 400) (w : World) (hT : Tab w) :
    Calls Tryd.prog 4 #[.string s, .int .i64 k] w fun e w' => e = .returned (.bool true) ∧ Below w.heap.size w w' := by
  have hL : Kn [] w w [] := Kn.refl [] w; (try simp only [List.setIfInBounds_toArray, List.set_cons_zero, List.set_cons_succ, List.cons_append, List.nil_append] at hL); have hF := hL.facts; (try simp only [Facts, Dist, List.map_cons, List.map_nil, List.forall_mem_cons, false_implies, ne_eq, not_false_eq_true, List.not_mem_nil, not_false_eq_true, true_implies, forall_const, List.mem_cons, or_false, implies_true, and_true, true_and, Nat.le_refl, List.setIfInBounds_toArray, List.set_cons_zero, List.set_cons_succ] at hF); go_enter Tryd.func4, Tryd.ntmps4
  go_wp2_with (first | ((with_reducible refine kn_list_set ?_); (try clear hF); clear hL; intro W hL; (try simp only [List.setIfInBounds_toArray, List.set_cons_zero, List.set_cons_succ, List.cons_append, List.nil_append] at hL); have hF := hL.facts; (try simp only [Facts, Dist, List.map_cons, List.map_nil, List.forall_mem_cons, false_implies, ne_eq, not_false_eq_true, List.not_mem_nil, not_false_eq_true, true_implies, forall_const, List.mem_cons, or_false, implies_true, and_true, true_and, Nat.le_refl, List.setIfInBounds_toArray, List.set_cons_zero, List.set_cons_succ] at hF)) | (go_at_call 9; refine kn_calls ?_; (try clear hF); clear hL; intro W hL; (try simp only [List.setIfInBounds_toArray, List.set_cons_zero, List.set_cons_succ, List.cons_append, List.nil_append] at hL); have hF := hL.facts; (try simp only [Facts, Dist, List.map_cons, List.map_nil, List.forall_mem_cons, false_implies, ne_eq, not_false_eq_true, List.not_mem_nil, not_false_eq_true, true_implies, forall_const, List.mem_cons, or_false, implies_true, and_true, true_and, Nat.le_refl, List.setIfInBounds_toArray, List.set_cons_zero, List.set_cons_succ] at hF); (with_reducible refine (small_any _ (hT.kn hL (by simp))).mono ?_); rintro e W ⟨rfl, hb⟩; replace hL := hL.below hb; clear hb; (try clear hF); (try simp only [List.setIfInBounds_toArray, List.set_cons_zero, List.set_cons_succ, List.cons_append, List.nil_append] at hL); have hF := hL.facts; (try simp only [Facts, Dist, List.map_cons, List.map_nil, List.forall_mem_cons, false_implies, ne_eq, not_false_eq_true, List.not_mem_nil, not_false_eq_true, true_implies, forall_const, List.mem_cons, or_false, implies_true, and_true, true_and, Nat.le_refl, List.setIfInBounds_toArray, List.set_cons_zero, List.set_cons_succ] at hF)))
  all_goals (try simp only [Exit.inBlock, Exit.then]); refine bodyPost_ret (by simp [results, Tryd.results4, go_sem, *]; try rfl) rfl ?_
  all_goals exact ⟨rfl, hL.below0⟩
theorem wireAgain_any (s : ByteArray) (k : Int) (hk : -9223372036854775808 ≤ k ∧ k ≤ 9223372036854775807) (w : World) (hT : Tab w) :
    Calls Tryd.prog 4 #[.string s, .int .i64 k] w fun e w' => e = .returned (.bool true) ∧ Below w.heap.size w w' := by
  by_cases hs : s.size ≤ 400
  · have hz0 : ∀ rs : ByteArray, rs.data.toList = [] → rs.size = 0 := fun rs h => by
      have := congrArg List.length h
      simpa using this
    have hsl : s.data.toList.length = s.size := by simp
    have hkr := kind_range k
    have hcase : kindI k = 0 ∨ kindI k = 1 ∨ kindI k = 2 ∨ kindI k = 3 ∨ kindI k = 4 := by omega
    rcases hcase with hc | hc | hc | hc | hc
    · obtain ⟨x, r, e⟩ : ∃ x r, natR ⟨s.data.toList, false⟩ = (x, r) := ⟨_, _, rfl⟩
      obtain ⟨rs, bd, rfl⟩ := rd_eq r
      have hx := num_okI 59 0 ⟨s.data.toList, false⟩ (by decide) (by decide)
      rw [show numR 59 0 ⟨s.data.toList, false⟩ = _ from e] at hx
      cases bd
      · obtain ⟨d, h1, h2, h3, h4⟩ := cut_fact s rs _ (nat_again e rfl).1 hs
        exact again_0g s k hk hs rs w hT hc x e _ (Lib.hid fun W hW => Num_enc x hx.1 hx.2 W hW) d h1 h2 h3 h4
      · have hg := good_num 59 0 (good_open s.data.toList)
        rw [show numR 59 0 ⟨s.data.toList, false⟩ = _ from e] at hg
        exact again_0b s k hk hs rs w hT hc x e _ (Lib.hid fun W hW => Num_enc x hx.1 hx.2 W hW) (hz0 rs (hg rfl))
    · obtain ⟨x, r, e⟩ : ∃ x r, intR ⟨s.data.toList, false⟩ = (x, r) := ⟨_, _, rfl⟩
      obtain ⟨rs, bd, rfl⟩ := rd_eq r
      have hx := num_okI 59 minInt ⟨s.data.toList, false⟩ (by decide) (by decide)
      rw [show numR 59 minInt ⟨s.data.toList, false⟩ = _ from e] at hx
      cases bd
      · obtain ⟨d, h1, h2, h3, h4⟩ := cut_fact s rs _ (int_again _ _ _ e rfl).1 hs
        exact again_1g s k hk hs rs w hT hc x e _ (Lib.hid fun W hW => Int_enc x hx.1 hx.2 W hW) d h1 h2 h3 h4
      · have hg := good_num 59 minInt (good_open s.data.toList)
        rw [show numR 59 minInt ⟨s.data.toList, false⟩ = _ from e] at hg
        exact again_1b s k hk hs rs w hT hc x e _ (Lib.hid fun W hW => Int_enc x hx.1 hx.2 W hW) (hz0 rs (hg rfl))
    · obtain ⟨y, r, e⟩ : ∃ x r, textR ⟨s.data.toList, false⟩ = (x, r) := ⟨_, _, rfl⟩
      obtain ⟨x, rfl⟩ : ∃ x : ByteArray, y = x.data.toList := ⟨⟨y.toArray⟩, rfl⟩
      obtain ⟨rs, bd, rfl⟩ := rd_eq r
      have hx := text_short ⟨s.data.toList, false⟩
      rw [e] at hx
      have hxs : x.size ≤ 100000000 := by
        have : x.data.toList.length = x.size := by simp
        simp only at hx; omega
      cases bd
      · obtain ⟨d, h1, h2, h3, h4⟩ := cut_fact s rs _ (text_again e rfl).1 hs
        exact again_2g s k hk hs rs w hT hc x e _ (Lib.hid fun W hW => Text_enc x hxs W hW) d h1 h2 h3 h4
      · have hg := good_text (good_open s.data.toList)
        rw [e] at hg
        exact again_2b s k hk hs rs w hT hc x e _ (Lib.hid fun W hW => Text_enc x hxs W hW) (hz0 rs (hg rfl))
    · obtain ⟨x, r, e⟩ : ∃ x r, numsR ⟨s.data.toList, false⟩ = (x, r) := ⟨_, _, rfl⟩
      obtain ⟨rs, bd, rfl⟩ := rd_eq r
      obtain ⟨a1, a2, a3⟩ := nums_read e
      cases bd
      · obtain ⟨d, h1, h2, h3, h4⟩ := cut_fact s rs _ (nums_again e rfl) hs
        exact again_3g s k hk hs rs w hT hc x e _ (Lib.hid fun v W hW hv => Nums_enc x a3 v W hW hv (by omega) (by omega)) d h1 h2 h3 h4
      · have hg := good_items (one := intR) (fun r h => good_num 59 minInt h) (good_open s.data.toList)
        rw [show itemsR intR ⟨s.data.toList, false⟩ = _ from e] at hg
        exact again_3b s k hk hs rs w hT hc x e _ (Lib.hid fun v W hW hv => Nums_enc x a3 v W hW hv (by omega) (by omega)) (hz0 rs (hg rfl))
    · obtain ⟨x, r, e⟩ : ∃ x r, textsR ⟨s.data.toList, false⟩ = (x, r) := ⟨_, _, rfl⟩
      obtain ⟨rs, bd, rfl⟩ := rd_eq r
      obtain ⟨a1, a2, a3⟩ := texts_read e
      have a4 : ∀ y ∈ x, y.length ≤ 100000000 := fun y hy => by have := a3 y hy; omega
      cases bd
      · obtain ⟨d, h1, h2, h3, h4⟩ := cut_fact s rs _ (texts_again e rfl) hs
        exact again_4g s k hk hs rs w hT hc x e _ (Lib.hid fun v W hW hv => Texts_enc2 x a4 v W hW hv (by omega) (by omega)) d h1 h2 h3 h4
      · have hg := good_items (one := textR) (fun r h => good_text h) (good_open s.data.toList)
        rw [show itemsR textR ⟨s.data.toList, false⟩ = _ from e] at hg
        exact again_4b s k hk hs rs w hT hc x e _ (Lib.hid fun v W hW hv => Texts_enc2 x a4 v W hW hv (by omega) (by omega)) (hz0 rs (hg rfl))
  · exact again_long s k (by omega) w hT

end Go.Proofs.YtedifjdhdhcbhaaDoor
