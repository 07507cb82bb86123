import Derived.Test.YtbmonkhnmaamnaaDoorProg
import Derived.WalkKit
import Derived.Handy
import Derived.Deep.Light
import Derived.WalkSmall
import Derived.StillTailTactics
import Derived.Lib.Hide
import Derived.Test.YtbmonkhnmaamnaaDoorReg
import Derived.Test.YtbmonkhnmaamnaaDoorIsa0
import Derived.Test.YtbmonkhnmaamnaaDoorIsaL
namespace Go.Proofs.YtbmonkhnmaamnaaDoor
open Go Go.RowKit
set_option linter.unusedSimpArgs false
set_option linter.unusedVariables false

theorem itoa_small (n : Nat) (h : n < 10) : Lib.itoa n = [UInt8.ofNat (48 + n)] := by
  unfold Lib.itoa; rw [if_neg (by omega), Int.toNat_natCast, Lib.decDigits, dif_pos h]
theorem itoa_minus (n : Nat) (h : n < 10) (h0 : 0 < n) : Lib.itoa (-(n : Int)) = [45, UInt8.ofNat (48 + n)] := by
  unfold Lib.itoa; rw [if_pos (by omega)]
  have e : (-(n : Int)).natAbs = n := by omega
  rw [e, Lib.decDigits, dif_pos h]
theorem dec_lit (w : World) (hT : Tab w) : Calls Tryd.prog 10 #[.string ⟨#[0, 0, 0, 1]⟩] w fun e w' => e = .returned (.tuple #[.agg #[.int .i64 0, .int .i64 0, .int .i64 0, .int .i64 0], .bool false]) ∧ Below w.heap.size w w' := Decode_no 0 0 0 1 w hT (by decide +kernel)
theorem enc_lit (w : World) (hT : Tab w) : Calls Tryd.prog 9 #[.agg #[.int .i64 2, .int .i64 3, .int .i64 (-2), .int .i64 0]] w fun e w' => e = .returned (.string ⟨#[2, 3, 254, 255]⟩) ∧ Below w.heap.size w w' := by
  have e : encS 2 3 (-2) 0 = ⟨#[2, 3, 254, 255]⟩ := by
    have hv : valid 2 3 (-2) 0 = true := by decide +kernel
    rw [encS, if_pos hv]; decide +kernel
  have := Encode_any 2 3 (-2) 0 w hT
  rw [e] at this; exact this
theorem wrap_lit (w : World) : Calls Tryd.prog 13 #[.int .i64 2147483648] w fun e w' => e = .returned (.int .i64 (-2147483648)) ∧ w = w' := by
  have e : wrap32 2147483648 = -2147483648 := by unfold wrap32; omega
  have := Wrap_any 2147483648 w
  rw [e] at this; exact this
theorem prn_lit0 (w : World) (hT : Tab w) : Calls Tryd.prog 12 #[.agg #[.int .i64 4, .int .i64 1, .int .i64 2, .int .i64 3]] w fun e w' => e = .returned (.string ⟨#[97, 100, 100, 32, 114, 49, 44, 32, 114, 50, 44, 32, 114, 51]⟩) ∧ Below w.heap.size w w' := by
  have e : printS 4 1 2 3 = ⟨#[97, 100, 100, 32, 114, 49, 44, 32, 114, 50, 44, 32, 114, 51]⟩ := by
    have hv : valid 4 1 2 3 = true := by decide +kernel
    have hf : form 4 = 3 := by decide
    have hn : nameB 4 = ⟨#[97, 100, 100]⟩ := by decide +kernel
    rw [printS, if_pos hv, hf, if_neg (by decide), hn]
    apply ba_ext
    have i1 : Lib.itoa 1 = [49] := itoa_small 1 (by decide)
    have i2 : Lib.itoa 2 = [50] := itoa_small 2 (by decide)
    have i3 : Lib.itoa 3 = [51] := itoa_small 3 (by decide)
    have i7 : Lib.itoa 7 = [55] := itoa_small 7 (by decide)
    have m4 : Lib.itoa (-4) = [45, 52] := itoa_minus 4 (by decide) (by decide)
    have m8 : Lib.itoa (-8) = [45, 56] := itoa_minus 8 (by decide) (by decide)
    simp [toList_app, opsB, joinB, regB, numS, Lib.join, List.intercalate, List.intersperse, i1, i2, i3, i7, m4, m8]
  have := Print_any 4 1 2 3 w hT
  rw [e] at this; exact this
theorem prn_lit1 (w : World) (hT : Tab w) : Calls Tryd.prog 12 #[.agg #[.int .i64 20, .int .i64 1, .int .i64 7, .int .i64 (-4)]] w fun e w' => e = .returned (.string ⟨#[108, 100, 119, 32, 114, 49, 44, 32, 114, 55, 44, 32, 45, 52]⟩) ∧ Below w.heap.size w w' := by
  have e : printS 20 1 7 (-4) = ⟨#[108, 100, 119, 32, 114, 49, 44, 32, 114, 55, 44, 32, 45, 52]⟩ := by
    have hv : valid 20 1 7 (-4) = true := by decide +kernel
    have hf : form 20 = 4 := by decide
    have hn : nameB 20 = ⟨#[108, 100, 119]⟩ := by decide +kernel
    rw [printS, if_pos hv, hf, if_neg (by decide), hn]
    apply ba_ext
    have i1 : Lib.itoa 1 = [49] := itoa_small 1 (by decide)
    have i2 : Lib.itoa 2 = [50] := itoa_small 2 (by decide)
    have i3 : Lib.itoa 3 = [51] := itoa_small 3 (by decide)
    have i7 : Lib.itoa 7 = [55] := itoa_small 7 (by decide)
    have m4 : Lib.itoa (-4) = [45, 52] := itoa_minus 4 (by decide) (by decide)
    have m8 : Lib.itoa (-8) = [45, 56] := itoa_minus 8 (by decide) (by decide)
    simp [toList_app, opsB, joinB, regB, numS, Lib.join, List.intercalate, List.intersperse, i1, i2, i3, i7, m4, m8]
  have := Print_any 20 1 7 (-4) w hT
  rw [e] at this; exact this
theorem prn_lit2 (w : World) (hT : Tab w) : Calls Tryd.prog 12 #[.agg #[.int .i64 26, .int .i64 2, .int .i64 (-8), .int .i64 0]] w fun e w' => e = .returned (.string ⟨#[106, 122, 32, 114, 50, 44, 32, 45, 56]⟩) ∧ Below w.heap.size w w' := by
  have e : printS 26 2 (-8) 0 = ⟨#[106, 122, 32, 114, 50, 44, 32, 45, 56]⟩ := by
    have hv : valid 26 2 (-8) 0 = true := by decide +kernel
    have hf : form 26 = 5 := by decide
    have hn : nameB 26 = ⟨#[106, 122]⟩ := by decide +kernel
    rw [printS, if_pos hv, hf, if_neg (by decide), hn]
    apply ba_ext
    have i1 : Lib.itoa 1 = [49] := itoa_small 1 (by decide)
    have i2 : Lib.itoa 2 = [50] := itoa_small 2 (by decide)
    have i3 : Lib.itoa 3 = [51] := itoa_small 3 (by decide)
    have i7 : Lib.itoa 7 = [55] := itoa_small 7 (by decide)
    have m4 : Lib.itoa (-4) = [45, 52] := itoa_minus 4 (by decide) (by decide)
    have m8 : Lib.itoa (-8) = [45, 56] := itoa_minus 8 (by decide) (by decide)
    simp [toList_app, opsB, joinB, regB, numS, Lib.join, List.intercalate, List.intersperse, i1, i2, i3, i7, m4, m8]
  have := Print_any 26 2 (-8) 0 w hT
  rw [e] at this; exact this

set_option maxRecDepth 20000 in
set_option maxHeartbeats 4000000 in
theorem small_any (w : World) (hT : Tab w) : Calls Tryd.prog 8 #[] w fun e w' => e = .returned (.bool true) ∧ Below w.heap.size w w' := by
  have hL : Kn [] w w [] := Kn.refl [] w; (try simp only [List.setIfInBounds_toArray, List.set_cons_zero, List.set_cons_succ, List.cons_append, List.nil_append] at hL); have hF := hL.facts; (try simp only [Facts, Dist, List.map_cons, List.map_nil, List.forall_mem_cons, false_implies, ne_eq, not_false_eq_true, List.not_mem_nil, not_false_eq_true, true_implies, forall_const, List.mem_cons, or_false, implies_true, and_true, true_and, Nat.le_refl, List.setIfInBounds_toArray, List.set_cons_zero, List.set_cons_succ] at hF); go_enter Tryd.func8, Tryd.ntmps8
  go_wp2_with (first | ((with_reducible refine kn_list_set ?_); (try clear hF); clear hL; intro W hL; (try simp only [List.setIfInBounds_toArray, List.set_cons_zero, List.set_cons_succ, List.cons_append, List.nil_append] at hL); have hF := hL.facts; (try simp only [Facts, Dist, List.map_cons, List.map_nil, List.forall_mem_cons, false_implies, ne_eq, not_false_eq_true, List.not_mem_nil, not_false_eq_true, true_implies, forall_const, List.mem_cons, or_false, implies_true, and_true, true_and, Nat.le_refl, List.setIfInBounds_toArray, List.set_cons_zero, List.set_cons_succ] at hF)) | (go_at_call 10; refine kn_calls ?_; (try clear hF); clear hL; intro W hL; (try simp only [List.setIfInBounds_toArray, List.set_cons_zero, List.set_cons_succ, List.cons_append, List.nil_append] at hL); have hF := hL.facts; (try simp only [Facts, Dist, List.map_cons, List.map_nil, List.forall_mem_cons, false_implies, ne_eq, not_false_eq_true, List.not_mem_nil, not_false_eq_true, true_implies, forall_const, List.mem_cons, or_false, implies_true, and_true, true_and, Nat.le_refl, List.setIfInBounds_toArray, List.set_cons_zero, List.set_cons_succ] at hF); (with_reducible refine (dec_lit _ (hT.ext hL.below0)).mono ?_); rintro e W ⟨rfl, hb⟩; replace hL := hL.below hb; clear hb; (try clear hF); (try simp only [List.setIfInBounds_toArray, List.set_cons_zero, List.set_cons_succ, List.cons_append, List.nil_append] at hL); have hF := hL.facts; (try simp only [Facts, Dist, List.map_cons, List.map_nil, List.forall_mem_cons, false_implies, ne_eq, not_false_eq_true, List.not_mem_nil, not_false_eq_true, true_implies, forall_const, List.mem_cons, or_false, implies_true, and_true, true_and, Nat.le_refl, List.setIfInBounds_toArray, List.set_cons_zero, List.set_cons_succ] at hF)) | (go_at_call 12; refine kn_calls ?_; (try clear hF); clear hL; intro W hL; (try simp only [List.setIfInBounds_toArray, List.set_cons_zero, List.set_cons_succ, List.cons_append, List.nil_append] at hL); have hF := hL.facts; (try simp only [Facts, Dist, List.map_cons, List.map_nil, List.forall_mem_cons, false_implies, ne_eq, not_false_eq_true, List.not_mem_nil, not_false_eq_true, true_implies, forall_const, List.mem_cons, or_false, implies_true, and_true, true_and, Nat.le_refl, List.setIfInBounds_toArray, List.set_cons_zero, List.set_cons_succ] at hF); first | ((with_reducible refine (prn_lit0 _ (hT.ext hL.below0)).mono ?_); rintro e W ⟨rfl, hb⟩; replace hL := hL.below hb; clear hb; (try clear hF); (try simp only [List.setIfInBounds_toArray, List.set_cons_zero, List.set_cons_succ, List.cons_append, List.nil_append] at hL); have hF := hL.facts; (try simp only [Facts, Dist, List.map_cons, List.map_nil, List.forall_mem_cons, false_implies, ne_eq, not_false_eq_true, List.not_mem_nil, not_false_eq_true, true_implies, forall_const, List.mem_cons, or_false, implies_true, and_true, true_and, Nat.le_refl, List.setIfInBounds_toArray, List.set_cons_zero, List.set_cons_succ] at hF)) | ((with_reducible refine (prn_lit1 _ (hT.ext hL.below0)).mono ?_); rintro e W ⟨rfl, hb⟩; replace hL := hL.below hb; clear hb; (try clear hF); (try simp only [List.setIfInBounds_toArray, List.set_cons_zero, List.set_cons_succ, List.cons_append, List.nil_append] at hL); have hF := hL.facts; (try simp only [Facts, Dist, List.map_cons, List.map_nil, List.forall_mem_cons, false_implies, ne_eq, not_false_eq_true, List.not_mem_nil, not_false_eq_true, true_implies, forall_const, List.mem_cons, or_false, implies_true, and_true, true_and, Nat.le_refl, List.setIfInBounds_toArray, List.set_cons_zero, List.set_cons_succ] at hF)) | ((with_reducible refine (prn_lit2 _ (hT.ext hL.below0)).mono ?_); rintro e W ⟨rfl, hb⟩; replace hL := hL.below hb; clear hb; (try clear hF); (try simp only [List.setIfInBounds_toArray, List.set_cons_zero, List.set_cons_succ, List.cons_append, List.nil_append] at hL); have hF := hL.facts; (try simp only [Facts, Dist, List.map_cons, List.map_nil, List.forall_mem_cons, false_implies, ne_eq, not_false_eq_true, List.not_mem_nil, not_false_eq_true, true_implies, forall_const, List.mem_cons, or_false, implies_true, and_true, true_and, Nat.le_refl, List.setIfInBounds_toArray, List.set_cons_zero, List.set_cons_succ] at hF))) | (go_at_call 9; refine kn_calls ?_; (try clear hF); clear hL; intro W hL; (try simp only [List.setIfInBounds_toArray, List.set_cons_zero, List.set_cons_succ, List.cons_append, List.nil_append] at hL); have hF := hL.facts; (try simp only [Facts, Dist, List.map_cons, List.map_nil, List.forall_mem_cons, false_implies, ne_eq, not_false_eq_true, List.not_mem_nil, not_false_eq_true, true_implies, forall_const, List.mem_cons, or_false, implies_true, and_true, true_and, Nat.le_refl, List.setIfInBounds_toArray, List.set_cons_zero, List.set_cons_succ] at hF); (with_reducible refine (enc_lit _ (hT.ext hL.below0)).mono ?_); rintro e W ⟨rfl, hb⟩; replace hL := hL.below hb; clear hb; (try clear hF); (try simp only [List.setIfInBounds_toArray, List.set_cons_zero, List.set_cons_succ, List.cons_append, List.nil_append] at hL); have hF := hL.facts; (try simp only [Facts, Dist, List.map_cons, List.map_nil, List.forall_mem_cons, false_implies, ne_eq, not_false_eq_true, List.not_mem_nil, not_false_eq_true, true_implies, forall_const, List.mem_cons, or_false, implies_true, and_true, true_and, Nat.le_refl, List.setIfInBounds_toArray, List.set_cons_zero, List.set_cons_succ] at hF)) | (go_at_call 13; (with_reducible refine (wrap_lit _).mono ?_); rintro e w' ⟨rfl, rfl⟩) | (go_at_call 23; refine kn_calls ?_; (try clear hF); clear hL; intro W hL; (try simp only [List.setIfInBounds_toArray, List.set_cons_zero, List.set_cons_succ, List.cons_append, List.nil_append] at hL); have hF := hL.facts; (try simp only [Facts, Dist, List.map_cons, List.map_nil, List.forall_mem_cons, false_implies, ne_eq, not_false_eq_true, List.not_mem_nil, not_false_eq_true, true_implies, forall_const, List.mem_cons, or_false, implies_true, and_true, true_and, Nat.le_refl, List.setIfInBounds_toArray, List.set_cons_zero, List.set_cons_succ] at hF); (with_reducible refine (Names_any _ (hT.ext hL.below0)).mono ?_); rintro e W ⟨nb, cap, cur, rfl, hb, hcap, hcur⟩; replace hL := hL.join hb; clear hb; (try clear hF); (try simp only [List.setIfInBounds_toArray, List.set_cons_zero, List.set_cons_succ, List.cons_append, List.nil_append] at hL); have hF := hL.facts; (try simp only [Facts, Dist, List.map_cons, List.map_nil, List.forall_mem_cons, false_implies, ne_eq, not_false_eq_true, List.not_mem_nil, not_false_eq_true, true_implies, forall_const, List.mem_cons, or_false, implies_true, and_true, true_and, Nat.le_refl, List.setIfInBounds_toArray, List.set_cons_zero, List.set_cons_succ] at hF)))
  (try simp only [Exit.inBlock, Exit.then]); refine bodyPost_ret (by simp [results, Tryd.results8, go_sem, *]; try rfl) rfl ?_
  exact ⟨rfl, kn_here.below0⟩

end Go.Proofs.YtbmonkhnmaamnaaDoor
