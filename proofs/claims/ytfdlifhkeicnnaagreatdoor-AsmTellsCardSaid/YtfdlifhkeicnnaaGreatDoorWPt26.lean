/- Lemmas and walks for the law LawTells (part 26). -/
import Derived.Test.YtfdlifhkeicnnaaGreatDoorWPt25
import Derived.Test.YtfdlifhkeicnnaaGreatDoorProg
import Derived.WalkKit
import Derived.Handy
import Derived.Deep.Light
import Derived.WalkSmall
import Derived.StillTailTactics
import Derived.Lib.Hide
import Derived.Deep.Cut
set_option maxRecDepth 20000
set_option maxHeartbeats 4000000
set_option linter.unusedVariables false
set_option linter.unusedSimpArgs false
namespace Go.Proofs.YtfdlifhkeicnnaaGreatDoor
open Go Go.RowKit
theorem refPrint_0 (op  : Int) (w : World) (hf : form op = 0) (h0 : 0 ≤ op) (h32 : op < 32) (hv : valid op 0 0 0 = true) :
  Calls Tryz.prog 54 #[.agg #[.int .i64 op, .int .i64 0, .int .i64 0, .int .i64 0]] w fun e w' => e = .returned (.string (nameB op)) ∧ Below w.heap.size w w' := by
 obtain ⟨nm, hnmb⟩ : ∃ x, nameB op = x := ⟨_, rfl⟩
 have hnsz : nm.size ≤ 4 := by rw [← hnmb]; exact nameB_size op
 have HNC : Hid (∀ W, Calls Tryz.prog 72 #[] W fun e w' => ∃ b cur, e = .returned (.slice (some ⟨b, 0, none⟩) 32 32) ∧ Kn [] W w' [(b, .cells cur 9 (0, 0))] ∧ cur[op.toNat]? = some (.string nm)) :=
  Lib.hid fun W => (refNames2 W).mono fun e w' ⟨b, cur, h1, h2, h3⟩ => ⟨b, cur, h1, h2, hnmb ▸ h3 op.toNat (by omega)⟩
 have HNM := Lib.hid hnmb
 clear hnmb
 obtain ⟨s0, hs0⟩ : ∃ x, numI 0 = x := ⟨_, rfl⟩
 have hz0 : s0.size ≤ 22 := by rw [← hs0]; exact num_sz 0 (by decide)
 have HD0 : Hid (∀ W, Calls Tryz.prog 55 #[.int .i64 0] W fun e w' => e = .returned (.string s0) ∧ Below W.heap.size W w') := Lib.hid fun W => hs0 ▸ refDecimal_any 0 (by decide) W
 have HS0 := Lib.hid hs0
 clear hs0
 have hL : Kn [] w w [] := Kn.refl [] w; have hF := hL.fx; go_enter Tryz.func54, Tryz.ntmps54
 go_wp2_with (first | ((with_reducible refine ks ?_); clear hL; intro W hL hF) | (go_at_call 79; refine kc (fun W hL => refValid_any _ _ _ _ _) ?_; clear hF hL; intro W hL hF) | (go_at_call 75; (with_reducible refine (refForm_any _ _).mono ?_); rintro e w' ⟨rfl, rfl⟩) | (go_at_call 55; refine kG ?_; clear hF hL; intro W hL hF; first | ((with_reducible refine (HD0.out _).mono ?_); rintro e W ⟨rfl, hb⟩; replace hL := hL.below hb; clear hb hF; have hF := hL.fx)) | ((with_reducible refine at_region 3 ?_); refine kW [1, 2, 0, 3, 4, 5] [1, 2, 3, 4, 5] [] [1, 3, 5] ?_; clear hF hL; intro ι F hne hC hG; (repeat (first | (refine cS ?_) | (refine cF hC ?_; intro K hK; go_big_quiet_op; go_big_quiet_on) | (refine cP ?_; intro K hK; go_big_quiet_op; go_big_quiet_on) | (refine cC ?_; intro W hL; have hF := hL.fx; simp only [ka, Act.eval]; go_at_call 72; (with_reducible refine (HNC.out _).mono ?_); rintro e W ⟨nb, cur, rfl, hb, hcur⟩; replace hL := hL.join hb; clear hb hF; simp only [kfb] at hL; have hF := hL.fx; refine owed_ret ?_; ((refine owedS _ (by repeat' (first | (with_reducible exact List.Sublist.refl _) | (with_reducible apply List.Sublist.cons))) ?_; clear hL hF hC hG; intro ι F hne hC hFF; have hG := fun n => (hFF n).fx; clear hFF)); simp only [Act.put, kT]) | (refine cN ?_; intro W hL; have hF := hL.facts; go_wp2; refine kb2 ?_; clear hL hC hG; intro ι F hne hC hG))); refine cwk_nil ?_; clear hC hG; intro W hL; have hF := hL.fx))
 refine bodyPost_ret (by simp [results, Tryz.results54, go_sem, *]; try rfl) rfl ?_
 refine ⟨?_, kn_here.below0⟩
 rw [HNM.out]
theorem refPrint_1 (op a : Int) (w : World) (hf : form op = 1) (h0 : 0 ≤ op) (h32 : op < 32) (hv : valid op a 0 0 = true) (ha : -9223372036854775808 ≤ a ∧ a ≤ 9223372036854775807) :
  Calls Tryz.prog 54 #[.agg #[.int .i64 op, .int .i64 a, .int .i64 0, .int .i64 0]] w fun e w' => e = .returned (.string ((nameB op ++ ⟨#[32]⟩) ++ joinB [regB a])) ∧ Below w.heap.size w w' := by
 obtain ⟨nm, hnmb⟩ : ∃ x, nameB op = x := ⟨_, rfl⟩
 have hnsz : nm.size ≤ 4 := by rw [← hnmb]; exact nameB_size op
 have HNC : Hid (∀ W, Calls Tryz.prog 72 #[] W fun e w' => ∃ b cur, e = .returned (.slice (some ⟨b, 0, none⟩) 32 32) ∧ Kn [] W w' [(b, .cells cur 9 (0, 0))] ∧ cur[op.toNat]? = some (.string nm)) :=
  Lib.hid fun W => (refNames2 W).mono fun e w' ⟨b, cur, h1, h2, h3⟩ => ⟨b, cur, h1, h2, hnmb ▸ h3 op.toNat (by omega)⟩
 have HNM := Lib.hid hnmb
 clear hnmb
 obtain ⟨s0, hs0⟩ : ∃ x, numI 0 = x := ⟨_, rfl⟩
 have hz0 : s0.size ≤ 22 := by rw [← hs0]; exact num_sz 0 (by decide)
 have HD0 : Hid (∀ W, Calls Tryz.prog 55 #[.int .i64 0] W fun e w' => e = .returned (.string s0) ∧ Below W.heap.size W w') := Lib.hid fun W => hs0 ▸ refDecimal_any 0 (by decide) W
 have HS0 := Lib.hid hs0
 clear hs0
 obtain ⟨sa, hsa⟩ : ∃ x, numI a = x := ⟨_, rfl⟩
 have hza : sa.size ≤ 22 := by rw [← hsa]; exact num_sz a ha
 have HDa : Hid (∀ W, Calls Tryz.prog 55 #[.int .i64 a] W fun e w' => e = .returned (.string sa) ∧ Below W.heap.size W w') := Lib.hid fun W => hsa ▸ refDecimal_any a ha W
 have HSa := Lib.hid hsa
 clear hsa
 have hL : Kn [] w w [] := Kn.refl [] w; have hF := hL.fx; go_enter Tryz.func54, Tryz.ntmps54
 go_wp2_with (first | ((with_reducible refine ks ?_); clear hL; intro W hL hF) | (go_at_call 79; refine kc (fun W hL => refValid_any _ _ _ _ _) ?_; clear hF hL; intro W hL hF) | (go_at_call 75; (with_reducible refine (refForm_any _ _).mono ?_); rintro e w' ⟨rfl, rfl⟩) | (go_at_call 55; refine kG ?_; clear hF hL; intro W hL hF; first | ((with_reducible refine (HD0.out _).mono ?_); rintro e W ⟨rfl, hb⟩; replace hL := hL.below hb; clear hb hF; have hF := hL.fx) | ((with_reducible refine (HDa.out _).mono ?_); rintro e W ⟨rfl, hb⟩; replace hL := hL.below hb; clear hb hF; have hF := hL.fx)) | ((with_reducible refine at_region 3 ?_); refine kW [1, 2, 0, 3, 4, 5] [1, 2, 3, 4, 5] [] [1, 3, 5] ?_; clear hF hL; intro ι F hne hC hG; (repeat (first | (refine cS ?_) | (refine cF hC ?_; intro K hK; go_big_quiet_op; go_big_quiet_on) | (refine cP ?_; intro K hK; go_big_quiet_op; go_big_quiet_on) | (refine cC ?_; intro W hL; have hF := hL.fx; simp only [ka, Act.eval]; go_at_call 72; (with_reducible refine (HNC.out _).mono ?_); rintro e W ⟨nb, cur, rfl, hb, hcur⟩; replace hL := hL.join hb; clear hb hF; simp only [kfb] at hL; have hF := hL.fx; refine owed_ret ?_; ((refine owedS _ (by repeat' (first | (with_reducible exact List.Sublist.refl _) | (with_reducible apply List.Sublist.cons))) ?_; clear hL hF hC hG; intro ι F hne hC hFF; have hG := fun n => (hFF n).fx; clear hFF)); simp only [Act.put, kT]) | (refine cN ?_; intro W hL; have hF := hL.facts; go_wp2; refine kb2 ?_; clear hL hC hG; intro ι F hne hC hG))); refine cwk_nil ?_; clear hC hG; intro W hL; have hF := hL.fx))
 refine bodyPost_ret (by simp [results, Tryz.results54, go_sem, *]; try rfl) rfl ?_
 refine ⟨?_, kn_here.below0⟩
 rw [HNM.out]
 apply congrArg Ending.returned
 apply congrArg Value.string
 apply ba_ext
 simp only [toList_app, joinB, List.map_cons, List.map_nil, regB]
 simp [Lib.join, List.intercalate, List.intersperse, toList_app, ← HSa.out, numI]
theorem refPrint_2 (op a b : Int) (w : World) (hf : form op = 2) (h0 : 0 ≤ op) (h32 : op < 32) (hv : valid op a b 0 = true) (ha : -9223372036854775808 ≤ a ∧ a ≤ 9223372036854775807) (hb : -9223372036854775808 ≤ b ∧ b ≤ 9223372036854775807) :
  Calls Tryz.prog 54 #[.agg #[.int .i64 op, .int .i64 a, .int .i64 b, .int .i64 0]] w fun e w' => e = .returned (.string ((nameB op ++ ⟨#[32]⟩) ++ joinB [regB a, regB b])) ∧ Below w.heap.size w w' := by
 obtain ⟨nm, hnmb⟩ : ∃ x, nameB op = x := ⟨_, rfl⟩
 have hnsz : nm.size ≤ 4 := by rw [← hnmb]; exact nameB_size op
 have HNC : Hid (∀ W, Calls Tryz.prog 72 #[] W fun e w' => ∃ b cur, e = .returned (.slice (some ⟨b, 0, none⟩) 32 32) ∧ Kn [] W w' [(b, .cells cur 9 (0, 0))] ∧ cur[op.toNat]? = some (.string nm)) :=
  Lib.hid fun W => (refNames2 W).mono fun e w' ⟨b, cur, h1, h2, h3⟩ => ⟨b, cur, h1, h2, hnmb ▸ h3 op.toNat (by omega)⟩
 have HNM := Lib.hid hnmb
 clear hnmb
 obtain ⟨sa, hsa⟩ : ∃ x, numI a = x := ⟨_, rfl⟩
 have hza : sa.size ≤ 22 := by rw [← hsa]; exact num_sz a ha
 have HDa : Hid (∀ W, Calls Tryz.prog 55 #[.int .i64 a] W fun e w' => e = .returned (.string sa) ∧ Below W.heap.size W w') := Lib.hid fun W => hsa ▸ refDecimal_any a ha W
 have HSa := Lib.hid hsa
 clear hsa
 obtain ⟨sb, hsb⟩ : ∃ x, numI b = x := ⟨_, rfl⟩
 have hzb : sb.size ≤ 22 := by rw [← hsb]; exact num_sz b hb
 have HDb : Hid (∀ W, Calls Tryz.prog 55 #[.int .i64 b] W fun e w' => e = .returned (.string sb) ∧ Below W.heap.size W w') := Lib.hid fun W => hsb ▸ refDecimal_any b hb W
 have HSb := Lib.hid hsb
 clear hsb
 have hL : Kn [] w w [] := Kn.refl [] w; have hF := hL.fx; go_enter Tryz.func54, Tryz.ntmps54
 go_wp2_with (first | ((with_reducible refine ks ?_); clear hL; intro W hL hF) | (go_at_call 79; refine kc (fun W hL => refValid_any _ _ _ _ _) ?_; clear hF hL; intro W hL hF) | (go_at_call 75; (with_reducible refine (refForm_any _ _).mono ?_); rintro e w' ⟨rfl, rfl⟩) | (go_at_call 55; refine kG ?_; clear hF hL; intro W hL hF; first | ((with_reducible refine (HDa.out _).mono ?_); rintro e W ⟨rfl, hb⟩; replace hL := hL.below hb; clear hb hF; have hF := hL.fx) | ((with_reducible refine (HDb.out _).mono ?_); rintro e W ⟨rfl, hb⟩; replace hL := hL.below hb; clear hb hF; have hF := hL.fx)) | ((with_reducible refine at_region 3 ?_); refine kW [1, 2, 0, 3, 4, 5] [1, 2, 3, 4, 5] [] [1, 3, 5] ?_; clear hF hL; intro ι F hne hC hG; (repeat (first | (refine cS ?_) | (refine cF hC ?_; intro K hK; go_big_quiet_op; go_big_quiet_on) | (refine cP ?_; intro K hK; go_big_quiet_op; go_big_quiet_on) | (refine cC ?_; intro W hL; have hF := hL.fx; simp only [ka, Act.eval]; go_at_call 72; (with_reducible refine (HNC.out _).mono ?_); rintro e W ⟨nb, cur, rfl, hb, hcur⟩; replace hL := hL.join hb; clear hb hF; simp only [kfb] at hL; have hF := hL.fx; refine owed_ret ?_; ((refine owedS _ (by repeat' (first | (with_reducible exact List.Sublist.refl _) | (with_reducible apply List.Sublist.cons))) ?_; clear hL hF hC hG; intro ι F hne hC hFF; have hG := fun n => (hFF n).fx; clear hFF)); simp only [Act.put, kT]) | (refine cN ?_; intro W hL; have hF := hL.facts; go_wp2; refine kb2 ?_; clear hL hC hG; intro ι F hne hC hG))); refine cwk_nil ?_; clear hC hG; intro W hL; have hF := hL.fx))
 refine bodyPost_ret (by simp [results, Tryz.results54, go_sem, *]; try rfl) rfl ?_
 refine ⟨?_, kn_here.below0⟩
 rw [HNM.out]
 apply congrArg Ending.returned
 apply congrArg Value.string
 apply ba_ext
 simp only [toList_app, joinB, List.map_cons, List.map_nil, regB]
 simp [Lib.join, List.intercalate, List.intersperse, toList_app, ← HSa.out, numI, ← HSb.out, numI]
theorem refPrint_3 (op a b c : Int) (w : World) (hf : form op = 3) (h0 : 0 ≤ op) (h32 : op < 32) (hv : valid op a b c = true) (ha : -9223372036854775808 ≤ a ∧ a ≤ 9223372036854775807) (hb : -9223372036854775808 ≤ b ∧ b ≤ 9223372036854775807) (hc : -9223372036854775808 ≤ c ∧ c ≤ 9223372036854775807) :
  Calls Tryz.prog 54 #[.agg #[.int .i64 op, .int .i64 a, .int .i64 b, .int .i64 c]] w fun e w' => e = .returned (.string ((nameB op ++ ⟨#[32]⟩) ++ joinB [regB a, regB b, regB c])) ∧ Below w.heap.size w w' := by
 obtain ⟨nm, hnmb⟩ : ∃ x, nameB op = x := ⟨_, rfl⟩
 have hnsz : nm.size ≤ 4 := by rw [← hnmb]; exact nameB_size op
 have HNC : Hid (∀ W, Calls Tryz.prog 72 #[] W fun e w' => ∃ b cur, e = .returned (.slice (some ⟨b, 0, none⟩) 32 32) ∧ Kn [] W w' [(b, .cells cur 9 (0, 0))] ∧ cur[op.toNat]? = some (.string nm)) :=
  Lib.hid fun W => (refNames2 W).mono fun e w' ⟨b, cur, h1, h2, h3⟩ => ⟨b, cur, h1, h2, hnmb ▸ h3 op.toNat (by omega)⟩
 have HNM := Lib.hid hnmb
 clear hnmb
 obtain ⟨sa, hsa⟩ : ∃ x, numI a = x := ⟨_, rfl⟩
 have hza : sa.size ≤ 22 := by rw [← hsa]; exact num_sz a ha
 have HDa : Hid (∀ W, Calls Tryz.prog 55 #[.int .i64 a] W fun e w' => e = .returned (.string sa) ∧ Below W.heap.size W w') := Lib.hid fun W => hsa ▸ refDecimal_any a ha W
 have HSa := Lib.hid hsa
 clear hsa
 obtain ⟨sb, hsb⟩ : ∃ x, numI b = x := ⟨_, rfl⟩
 have hzb : sb.size ≤ 22 := by rw [← hsb]; exact num_sz b hb
 have HDb : Hid (∀ W, Calls Tryz.prog 55 #[.int .i64 b] W fun e w' => e = .returned (.string sb) ∧ Below W.heap.size W w') := Lib.hid fun W => hsb ▸ refDecimal_any b hb W
 have HSb := Lib.hid hsb
 clear hsb
 obtain ⟨sc, hsc⟩ : ∃ x, numI c = x := ⟨_, rfl⟩
 have hzc : sc.size ≤ 22 := by rw [← hsc]; exact num_sz c hc
 have HDc : Hid (∀ W, Calls Tryz.prog 55 #[.int .i64 c] W fun e w' => e = .returned (.string sc) ∧ Below W.heap.size W w') := Lib.hid fun W => hsc ▸ refDecimal_any c hc W
 have HSc := Lib.hid hsc
 clear hsc
 have hL : Kn [] w w [] := Kn.refl [] w; have hF := hL.fx; go_enter Tryz.func54, Tryz.ntmps54
 go_wp2_with (first | ((with_reducible refine ks ?_); clear hL; intro W hL hF) | (go_at_call 79; refine kc (fun W hL => refValid_any _ _ _ _ _) ?_; clear hF hL; intro W hL hF) | (go_at_call 75; (with_reducible refine (refForm_any _ _).mono ?_); rintro e w' ⟨rfl, rfl⟩) | (go_at_call 55; refine kG ?_; clear hF hL; intro W hL hF; first | ((with_reducible refine (HDa.out _).mono ?_); rintro e W ⟨rfl, hb⟩; replace hL := hL.below hb; clear hb hF; have hF := hL.fx) | ((with_reducible refine (HDb.out _).mono ?_); rintro e W ⟨rfl, hb⟩; replace hL := hL.below hb; clear hb hF; have hF := hL.fx) | ((with_reducible refine (HDc.out _).mono ?_); rintro e W ⟨rfl, hb⟩; replace hL := hL.below hb; clear hb hF; have hF := hL.fx)) | ((with_reducible refine at_region 3 ?_); refine kW [1, 2, 0, 3, 4, 5] [1, 2, 3, 4, 5] [] [1, 3, 5] ?_; clear hF hL; intro ι F hne hC hG; (repeat (first | (refine cS ?_) | (refine cF hC ?_; intro K hK; go_big_quiet_op; go_big_quiet_on) | (refine cP ?_; intro K hK; go_big_quiet_op; go_big_quiet_on) | (refine cC ?_; intro W hL; have hF := hL.fx; simp only [ka, Act.eval]; go_at_call 72; (with_reducible refine (HNC.out _).mono ?_); rintro e W ⟨nb, cur, rfl, hb, hcur⟩; replace hL := hL.join hb; clear hb hF; simp only [kfb] at hL; have hF := hL.fx; refine owed_ret ?_; ((refine owedS _ (by repeat' (first | (with_reducible exact List.Sublist.refl _) | (with_reducible apply List.Sublist.cons))) ?_; clear hL hF hC hG; intro ι F hne hC hFF; have hG := fun n => (hFF n).fx; clear hFF)); simp only [Act.put, kT]) | (refine cN ?_; intro W hL; have hF := hL.facts; go_wp2; refine kb2 ?_; clear hL hC hG; intro ι F hne hC hG))); refine cwk_nil ?_; clear hC hG; intro W hL; have hF := hL.fx))
 refine bodyPost_ret (by simp [results, Tryz.results54, go_sem, *]; try rfl) rfl ?_
 refine ⟨?_, kn_here.below0⟩
 rw [HNM.out]
 apply congrArg Ending.returned
 apply congrArg Value.string
 apply ba_ext
 simp only [toList_app, joinB, List.map_cons, List.map_nil, regB]
 simp [Lib.join, List.intercalate, List.intersperse, toList_app, ← HSa.out, numI, ← HSb.out, numI, ← HSc.out, numI]
theorem refPrint_4 (op a b c : Int) (w : World) (hf : form op = 4) (h0 : 0 ≤ op) (h32 : op < 32) (hv : valid op a b c = true) (ha : -9223372036854775808 ≤ a ∧ a ≤ 9223372036854775807) (hb : -9223372036854775808 ≤ b ∧ b ≤ 9223372036854775807) (hc : -9223372036854775808 ≤ c ∧ c ≤ 9223372036854775807) :
  Calls Tryz.prog 54 #[.agg #[.int .i64 op, .int .i64 a, .int .i64 b, .int .i64 c]] w fun e w' => e = .returned (.string ((nameB op ++ ⟨#[32]⟩) ++ joinB [regB a, regB b, numI c])) ∧ Below w.heap.size w w' := by
 obtain ⟨nm, hnmb⟩ : ∃ x, nameB op = x := ⟨_, rfl⟩
 have hnsz : nm.size ≤ 4 := by rw [← hnmb]; exact nameB_size op
 have HNC : Hid (∀ W, Calls Tryz.prog 72 #[] W fun e w' => ∃ b cur, e = .returned (.slice (some ⟨b, 0, none⟩) 32 32) ∧ Kn [] W w' [(b, .cells cur 9 (0, 0))] ∧ cur[op.toNat]? = some (.string nm)) :=
  Lib.hid fun W => (refNames2 W).mono fun e w' ⟨b, cur, h1, h2, h3⟩ => ⟨b, cur, h1, h2, hnmb ▸ h3 op.toNat (by omega)⟩
 have HNM := Lib.hid hnmb
 clear hnmb
 obtain ⟨sa, hsa⟩ : ∃ x, numI a = x := ⟨_, rfl⟩
 have hza : sa.size ≤ 22 := by rw [← hsa]; exact num_sz a ha
 have HDa : Hid (∀ W, Calls Tryz.prog 55 #[.int .i64 a] W fun e w' => e = .returned (.string sa) ∧ Below W.heap.size W w') := Lib.hid fun W => hsa ▸ refDecimal_any a ha W
 have HSa := Lib.hid hsa
 clear hsa
 obtain ⟨sb, hsb⟩ : ∃ x, numI b = x := ⟨_, rfl⟩
 have hzb : sb.size ≤ 22 := by rw [← hsb]; exact num_sz b hb
 have HDb : Hid (∀ W, Calls Tryz.prog 55 #[.int .i64 b] W fun e w' => e = .returned (.string sb) ∧ Below W.heap.size W w') := Lib.hid fun W => hsb ▸ refDecimal_any b hb W
 have HSb := Lib.hid hsb
 clear hsb
 obtain ⟨sc, hsc⟩ : ∃ x, numI c = x := ⟨_, rfl⟩
 have hzc : sc.size ≤ 22 := by rw [← hsc]; exact num_sz c hc
 have HDc : Hid (∀ W, Calls Tryz.prog 55 #[.int .i64 c] W fun e w' => e = .returned (.string sc) ∧ Below W.heap.size W w') := Lib.hid fun W => hsc ▸ refDecimal_any c hc W
 have HSc := Lib.hid hsc
 clear hsc
 have hL : Kn [] w w [] := Kn.refl [] w; have hF := hL.fx; go_enter Tryz.func54, Tryz.ntmps54
 go_wp2_with (first | ((with_reducible refine ks ?_); clear hL; intro W hL hF) | (go_at_call 79; refine kc (fun W hL => refValid_any _ _ _ _ _) ?_; clear hF hL; intro W hL hF) | (go_at_call 75; (with_reducible refine (refForm_any _ _).mono ?_); rintro e w' ⟨rfl, rfl⟩) | (go_at_call 55; refine kG ?_; clear hF hL; intro W hL hF; first | ((with_reducible refine (HDa.out _).mono ?_); rintro e W ⟨rfl, hb⟩; replace hL := hL.below hb; clear hb hF; have hF := hL.fx) | ((with_reducible refine (HDb.out _).mono ?_); rintro e W ⟨rfl, hb⟩; replace hL := hL.below hb; clear hb hF; have hF := hL.fx) | ((with_reducible refine (HDc.out _).mono ?_); rintro e W ⟨rfl, hb⟩; replace hL := hL.below hb; clear hb hF; have hF := hL.fx)) | ((with_reducible refine at_region 3 ?_); refine kW [1, 2, 0, 3, 4, 5] [1, 2, 3, 4, 5] [] [1, 3, 5] ?_; clear hF hL; intro ι F hne hC hG; (repeat (first | (refine cS ?_) | (refine cF hC ?_; intro K hK; go_big_quiet_op; go_big_quiet_on) | (refine cP ?_; intro K hK; go_big_quiet_op; go_big_quiet_on) | (refine cC ?_; intro W hL; have hF := hL.fx; simp only [ka, Act.eval]; go_at_call 72; (with_reducible refine (HNC.out _).mono ?_); rintro e W ⟨nb, cur, rfl, hb, hcur⟩; replace hL := hL.join hb; clear hb hF; simp only [kfb] at hL; have hF := hL.fx; refine owed_ret ?_; ((refine owedS _ (by repeat' (first | (with_reducible exact List.Sublist.refl _) | (with_reducible apply List.Sublist.cons))) ?_; clear hL hF hC hG; intro ι F hne hC hFF; have hG := fun n => (hFF n).fx; clear hFF)); simp only [Act.put, kT]) | (refine cN ?_; intro W hL; have hF := hL.facts; go_wp2; refine kb2 ?_; clear hL hC hG; intro ι F hne hC hG))); refine cwk_nil ?_; clear hC hG; intro W hL; have hF := hL.fx))
 refine bodyPost_ret (by simp [results, Tryz.results54, go_sem, *]; try rfl) rfl ?_
 refine ⟨?_, kn_here.below0⟩
 rw [HNM.out]
 apply congrArg Ending.returned
 apply congrArg Value.string
 apply ba_ext
 simp only [toList_app, joinB, List.map_cons, List.map_nil, regB]
 simp [Lib.join, List.intercalate, List.intersperse, toList_app, ← HSa.out, numI, ← HSb.out, numI, ← HSc.out, numI]
theorem refPrint_5 (op a b : Int) (w : World) (hf : form op = 5) (h0 : 0 ≤ op) (h32 : op < 32) (hv : valid op a b 0 = true) (ha : -9223372036854775808 ≤ a ∧ a ≤ 9223372036854775807) (hb : -9223372036854775808 ≤ b ∧ b ≤ 9223372036854775807) :
  Calls Tryz.prog 54 #[.agg #[.int .i64 op, .int .i64 a, .int .i64 b, .int .i64 0]] w fun e w' => e = .returned (.string ((nameB op ++ ⟨#[32]⟩) ++ joinB [regB a, numI b])) ∧ Below w.heap.size w w' := by
 obtain ⟨nm, hnmb⟩ : ∃ x, nameB op = x := ⟨_, rfl⟩
 have hnsz : nm.size ≤ 4 := by rw [← hnmb]; exact nameB_size op
 have HNC : Hid (∀ W, Calls Tryz.prog 72 #[] W fun e w' => ∃ b cur, e = .returned (.slice (some ⟨b, 0, none⟩) 32 32) ∧ Kn [] W w' [(b, .cells cur 9 (0, 0))] ∧ cur[op.toNat]? = some (.string nm)) :=
  Lib.hid fun W => (refNames2 W).mono fun e w' ⟨b, cur, h1, h2, h3⟩ => ⟨b, cur, h1, h2, hnmb ▸ h3 op.toNat (by omega)⟩
 have HNM := Lib.hid hnmb
 clear hnmb
 obtain ⟨sa, hsa⟩ : ∃ x, numI a = x := ⟨_, rfl⟩
 have hza : sa.size ≤ 22 := by rw [← hsa]; exact num_sz a ha
 have HDa : Hid (∀ W, Calls Tryz.prog 55 #[.int .i64 a] W fun e w' => e = .returned (.string sa) ∧ Below W.heap.size W w') := Lib.hid fun W => hsa ▸ refDecimal_any a ha W
 have HSa := Lib.hid hsa
 clear hsa
 obtain ⟨sb, hsb⟩ : ∃ x, numI b = x := ⟨_, rfl⟩
 have hzb : sb.size ≤ 22 := by rw [← hsb]; exact num_sz b hb
 have HDb : Hid (∀ W, Calls Tryz.prog 55 #[.int .i64 b] W fun e w' => e = .returned (.string sb) ∧ Below W.heap.size W w') := Lib.hid fun W => hsb ▸ refDecimal_any b hb W
 have HSb := Lib.hid hsb
 clear hsb
 have hL : Kn [] w w [] := Kn.refl [] w; have hF := hL.fx; go_enter Tryz.func54, Tryz.ntmps54
 go_wp2_with (first | ((with_reducible refine ks ?_); clear hL; intro W hL hF) | (go_at_call 79; refine kc (fun W hL => refValid_any _ _ _ _ _) ?_; clear hF hL; intro W hL hF) | (go_at_call 75; (with_reducible refine (refForm_any _ _).mono ?_); rintro e w' ⟨rfl, rfl⟩) | (go_at_call 55; refine kG ?_; clear hF hL; intro W hL hF; first | ((with_reducible refine (HDa.out _).mono ?_); rintro e W ⟨rfl, hb⟩; replace hL := hL.below hb; clear hb hF; have hF := hL.fx) | ((with_reducible refine (HDb.out _).mono ?_); rintro e W ⟨rfl, hb⟩; replace hL := hL.below hb; clear hb hF; have hF := hL.fx)) | ((with_reducible refine at_region 3 ?_); refine kW [1, 2, 0, 3, 4, 5] [1, 2, 3, 4, 5] [] [1, 3, 5] ?_; clear hF hL; intro ι F hne hC hG; (repeat (first | (refine cS ?_) | (refine cF hC ?_; intro K hK; go_big_quiet_op; go_big_quiet_on) | (refine cP ?_; intro K hK; go_big_quiet_op; go_big_quiet_on) | (refine cC ?_; intro W hL; have hF := hL.fx; simp only [ka, Act.eval]; go_at_call 72; (with_reducible refine (HNC.out _).mono ?_); rintro e W ⟨nb, cur, rfl, hb, hcur⟩; replace hL := hL.join hb; clear hb hF; simp only [kfb] at hL; have hF := hL.fx; refine owed_ret ?_; ((refine owedS _ (by repeat' (first | (with_reducible exact List.Sublist.refl _) | (with_reducible apply List.Sublist.cons))) ?_; clear hL hF hC hG; intro ι F hne hC hFF; have hG := fun n => (hFF n).fx; clear hFF)); simp only [Act.put, kT]) | (refine cN ?_; intro W hL; have hF := hL.facts; go_wp2; refine kb2 ?_; clear hL hC hG; intro ι F hne hC hG))); refine cwk_nil ?_; clear hC hG; intro W hL; have hF := hL.fx))
 refine bodyPost_ret (by simp [results, Tryz.results54, go_sem, *]; try rfl) rfl ?_
 refine ⟨?_, kn_here.below0⟩
 rw [HNM.out]
 apply congrArg Ending.returned
 apply congrArg Value.string
 apply ba_ext
 simp only [toList_app, joinB, List.map_cons, List.map_nil, regB]
 simp [Lib.join, List.intercalate, List.intersperse, toList_app, ← HSa.out, numI, ← HSb.out, numI]
theorem refPrint_6 (op b : Int) (w : World) (hf : form op = 6) (h0 : 0 ≤ op) (h32 : op < 32) (hv : valid op 0 b 0 = true) (hb : -9223372036854775808 ≤ b ∧ b ≤ 9223372036854775807) :
  Calls Tryz.prog 54 #[.agg #[.int .i64 op, .int .i64 0, .int .i64 b, .int .i64 0]] w fun e w' => e = .returned (.string ((nameB op ++ ⟨#[32]⟩) ++ joinB [numI b])) ∧ Below w.heap.size w w' := by
 obtain ⟨nm, hnmb⟩ : ∃ x, nameB op = x := ⟨_, rfl⟩
 have hnsz : nm.size ≤ 4 := by rw [← hnmb]; exact nameB_size op
 have HNC : Hid (∀ W, Calls Tryz.prog 72 #[] W fun e w' => ∃ b cur, e = .returned (.slice (some ⟨b, 0, none⟩) 32 32) ∧ Kn [] W w' [(b, .cells cur 9 (0, 0))] ∧ cur[op.toNat]? = some (.string nm)) :=
  Lib.hid fun W => (refNames2 W).mono fun e w' ⟨b, cur, h1, h2, h3⟩ => ⟨b, cur, h1, h2, hnmb ▸ h3 op.toNat (by omega)⟩
 have HNM := Lib.hid hnmb
 clear hnmb
 obtain ⟨s0, hs0⟩ : ∃ x, numI 0 = x := ⟨_, rfl⟩
 have hz0 : s0.size ≤ 22 := by rw [← hs0]; exact num_sz 0 (by decide)
 have HD0 : Hid (∀ W, Calls Tryz.prog 55 #[.int .i64 0] W fun e w' => e = .returned (.string s0) ∧ Below W.heap.size W w') := Lib.hid fun W => hs0 ▸ refDecimal_any 0 (by decide) W
 have HS0 := Lib.hid hs0
 clear hs0
 obtain ⟨sb, hsb⟩ : ∃ x, numI b = x := ⟨_, rfl⟩
 have hzb : sb.size ≤ 22 := by rw [← hsb]; exact num_sz b hb
 have HDb : Hid (∀ W, Calls Tryz.prog 55 #[.int .i64 b] W fun e w' => e = .returned (.string sb) ∧ Below W.heap.size W w') := Lib.hid fun W => hsb ▸ refDecimal_any b hb W
 have HSb := Lib.hid hsb
 clear hsb
 have hL : Kn [] w w [] := Kn.refl [] w; have hF := hL.fx; go_enter Tryz.func54, Tryz.ntmps54
 go_wp2_with (first | ((with_reducible refine ks ?_); clear hL; intro W hL hF) | (go_at_call 79; refine kc (fun W hL => refValid_any _ _ _ _ _) ?_; clear hF hL; intro W hL hF) | (go_at_call 75; (with_reducible refine (refForm_any _ _).mono ?_); rintro e w' ⟨rfl, rfl⟩) | (go_at_call 55; refine kG ?_; clear hF hL; intro W hL hF; first | ((with_reducible refine (HD0.out _).mono ?_); rintro e W ⟨rfl, hb⟩; replace hL := hL.below hb; clear hb hF; have hF := hL.fx) | ((with_reducible refine (HDb.out _).mono ?_); rintro e W ⟨rfl, hb⟩; replace hL := hL.below hb; clear hb hF; have hF := hL.fx)) | ((with_reducible refine at_region 3 ?_); refine kW [1, 2, 0, 3, 4, 5] [1, 2, 3, 4, 5] [] [1, 3, 5] ?_; clear hF hL; intro ι F hne hC hG; (repeat (first | (refine cS ?_) | (refine cF hC ?_; intro K hK; go_big_quiet_op; go_big_quiet_on) | (refine cP ?_; intro K hK; go_big_quiet_op; go_big_quiet_on) | (refine cC ?_; intro W hL; have hF := hL.fx; simp only [ka, Act.eval]; go_at_call 72; (with_reducible refine (HNC.out _).mono ?_); rintro e W ⟨nb, cur, rfl, hb, hcur⟩; replace hL := hL.join hb; clear hb hF; simp only [kfb] at hL; have hF := hL.fx; refine owed_ret ?_; ((refine owedS _ (by repeat' (first | (with_reducible exact List.Sublist.refl _) | (with_reducible apply List.Sublist.cons))) ?_; clear hL hF hC hG; intro ι F hne hC hFF; have hG := fun n => (hFF n).fx; clear hFF)); simp only [Act.put, kT]) | (refine cN ?_; intro W hL; have hF := hL.facts; go_wp2; refine kb2 ?_; clear hL hC hG; intro ι F hne hC hG))); refine cwk_nil ?_; clear hC hG; intro W hL; have hF := hL.fx))
 refine bodyPost_ret (by simp [results, Tryz.results54, go_sem, *]; try rfl) rfl ?_
 refine ⟨?_, kn_here.below0⟩
 rw [HNM.out]
 apply congrArg Ending.returned
 apply congrArg Value.string
 apply ba_ext
 simp only [toList_app, joinB, List.map_cons, List.map_nil, regB]
 simp [Lib.join, List.intercalate, List.intersperse, toList_app, ← HSb.out, numI]
end Go.Proofs.YtfdlifhkeicnnaaGreatDoor
