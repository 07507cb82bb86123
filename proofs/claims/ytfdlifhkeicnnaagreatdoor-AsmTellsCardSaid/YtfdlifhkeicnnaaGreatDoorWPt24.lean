/- Lemmas and walks for the law LawTells (part 24). -/
import Derived.Test.YtfdlifhkeicnnaaGreatDoorWPt23
import Derived.Test.YtfdlifhkeicnnaaGreatDoorProg
import Derived.WalkKit
import Derived.Handy
import Derived.Deep.Light
import Derived.WalkSmall
import Derived.StillTailTactics
import Derived.Lib.Hide
import Derived.Deep.Cut
set_option maxRecDepth 20000
set_option maxHeartbeats 4000000
set_option linter.unusedVariables false
set_option linter.unusedSimpArgs false
namespace Go.Proofs.YtfdlifhkeicnnaaGreatDoor
open Go Go.RowKit
theorem Print_0 (op  : Int) (w : World) (hT : TabI w) (hf : form op = 0) (h0 : 0 ≤ op) (h32 : op < 32) (hv : valid op 0 0 0 = true) :
  Calls Tryz.prog 19 #[.agg #[.int .i64 op, .int .i64 0, .int .i64 0, .int .i64 0]] w fun e w' => e = .returned (.string (nameB op)) ∧ Below w.heap.size w w' := by
 have hop : w.cell? ⟨0, 0, none⟩ = some (.string ⟨#[]⟩) := hT.2.2.1 0 (by decide)
 have hs0 : 0 < w.heap.size := Nat.lt_of_lt_of_le (by decide) hT.1
 obtain ⟨nm, hnmb⟩ : ∃ x, nameB op = x := ⟨_, rfl⟩
 have hnsz : nm.size ≤ 4 := by rw [← hnmb]; exact nameB_size op
 have hnm : w.cell? ⟨1, op.toNat, none⟩ = some (.string nm) := by rw [← hnmb]; exact hT.2.2.2.1 op.toNat (by omega)
 have HNM := Lib.hid hnmb
 clear hnmb
 have hs1 : 1 < w.heap.size := Nat.lt_of_lt_of_le (by decide) hT.1
 have hmk : ∀ w, (Instr.makeSlice 35 (.int .i64 0) (.int .i64 0)).run Tryz.prog w = .ok (.slice (some ⟨w.heap.size, 0, none⟩) 0 0) (w.alloc (.cells #[] 9)) := fun _ => by kernel_rfl
 have hL : Kn [] w w [] := Kn.refl [] w; have hF := hL.fx; go_enter Tryz.func19, Tryz.ntmps19
 go_wp2_with (first | (go_at_call 18; refine kc (fun W hL => Valid_any _ _ _ _ _ (hT.ext hL.below0)) ?_; clear hF hL; intro W hL hF) | (go_at_call 40; refine kG ?_; clear hF hL; intro W hL hF; (with_reducible refine (list_0 op  _ (hT.ext hL.below0) hf).mono ?_); rintro e W ⟨lb, rfl, hb⟩; replace hL := hL.join hb; clear hb hF; simp only [kfb] at hL; have hF := hL.fx) | (go_at_call 39; refine kp (fun W hL => Form_any _ _ (hT.ext hL.below0)) ?_; clear hF hL; intro W hL hF))
 refine wp_loop_rounds 1 ?_
 repeat any_goals (rw [rounds_succ]; go_upto_region 6 with (fail); (refine kn_wp ?_; clear hF hL; intro W hL; have hF := hL.fx; (first | (have hnx := fun ty => next_out (P := Tryz.prog) (s := ⟨#[]⟩) (pos := 0) hL (by repeat ((with_reducible exact List.mem_cons_self))) (by decide) ty)); go_upto_if 26 with (fail); refine kn_wp ?_; clear hF hL; intro W hL; have hF := hL.fx; clear hnx); go_wp2_with ((with_reducible refine ks ?_); clear hL; intro W hL hF))
 
 refine bodyPost_ret (by simp [results, Tryz.results19, go_sem, *]; try rfl) rfl ?_
 refine ⟨?_, kn_here.below0⟩
 rw [HNM.out]
theorem Print_1 (op a : Int) (w : World) (hT : TabI w) (hf : form op = 1) (h0 : 0 ≤ op) (h32 : op < 32) (hv : valid op a 0 0 = true) (ha : -9223372036854775808 ≤ a ∧ a ≤ 9223372036854775807) :
  Calls Tryz.prog 19 #[.agg #[.int .i64 op, .int .i64 a, .int .i64 0, .int .i64 0]] w fun e w' => e = .returned (.string ((nameB op ++ ⟨#[32]⟩) ++ joinB [regB a])) ∧ Below w.heap.size w w' := by
 have hop : w.cell? ⟨0, 1, none⟩ = some (.string ⟨#[114]⟩) := hT.2.2.1 1 (by decide)
 have hs0 : 0 < w.heap.size := Nat.lt_of_lt_of_le (by decide) hT.1
 obtain ⟨nm, hnmb⟩ : ∃ x, nameB op = x := ⟨_, rfl⟩
 have hnsz : nm.size ≤ 4 := by rw [← hnmb]; exact nameB_size op
 have hnm : w.cell? ⟨1, op.toNat, none⟩ = some (.string nm) := by rw [← hnmb]; exact hT.2.2.2.1 op.toNat (by omega)
 have HNM := Lib.hid hnmb
 clear hnmb
 have hs1 : 1 < w.heap.size := Nat.lt_of_lt_of_le (by decide) hT.1
 obtain ⟨jb, hjb⟩ : ∃ x, joinB [regB a] = x := ⟨_, rfl⟩
 have hxs : ∀ x ∈ [regB a], x.data.toList.length ≤ 22 := by simp only [List.forall_mem_cons]; exact ⟨reg_size a ha, fun _ h => by cases h⟩
 have hjs : jb.size ≤ 100 := by rw [← hjb]; exact joinB_size hxs (by simp)
 have HJ : Hid (∀ W jk L, Kn [] w W L → (jk, Obj.cells #[.string ((⟨#[114]⟩ : ByteArray) ++ ⟨(Lib.itoa a).toArray⟩)] 9 (0, 0)) ∈ L → Calls Tryz.prog 41 #[.slice (some ⟨jk, 0, none⟩) 1 1, .string ⟨#[44, 32]⟩] W fun e w' => e = .returned (.string jb) ∧ Below W.heap.size W w') := Lib.hid fun W jk L h hm => hjb ▸ join_any [regB a] 1 rfl hxs (by simp) h hm
 have HJB := Lib.hid hjb
 clear hjb hxs
 have hla := Lib.itoa_length_le a ha.1 ha.2
 have hmk : ∀ w, (Instr.makeSlice 35 (.int .i64 1) (.int .i64 1)).run Tryz.prog w = .ok (.slice (some ⟨w.heap.size, 0, none⟩) 1 1) (w.alloc (.cells #[.string ⟨#[]⟩] 9)) := fun _ => by kernel_rfl
 have hL : Kn [] w w [] := Kn.refl [] w; have hF := hL.fx; go_enter Tryz.func19, Tryz.ntmps19
 go_wp2_with (first | (go_at_call 18; refine kc (fun W hL => Valid_any _ _ _ _ _ (hT.ext hL.below0)) ?_; clear hF hL; intro W hL hF) | (go_at_call 40; refine kG ?_; clear hF hL; intro W hL hF; (with_reducible refine (list_1 op a _ (hT.ext hL.below0) hf).mono ?_); rintro e W ⟨lb, rfl, hb⟩; replace hL := hL.join hb; clear hb hF; simp only [kfb] at hL; have hF := hL.fx) | (go_at_call 39; refine kp (fun W hL => Form_any _ _ (hT.ext hL.below0)) ?_; clear hF hL; intro W hL hF))
 refine wp_loop_rounds 2 ?_
 repeat any_goals (rw [rounds_succ]; go_upto_region 6 with (fail); (refine kn_wp ?_; clear hF hL; intro W hL; (try simp only [kfb] at hL); have hF := hL.fx; (first | (have hnx := fun ty => next_in (P := Tryz.prog) (s := ⟨#[114]⟩) (pos := 0) hL (by repeat (first | (with_reducible exact List.mem_cons_self) | (with_reducible apply List.mem_cons_of_mem))) 114 rfl (by decide) ty) | (have hnx := fun ty => next_out (P := Tryz.prog) (s := ⟨#[114]⟩) (pos := 1) hL (by repeat ((with_reducible exact List.mem_cons_self))) (by decide) ty)); go_upto_if 26 with (fail); refine kn_wp ?_; clear hF hL; intro W hL; have hF := hL.fx; clear hnx); go_wp2_with (first | ((with_reducible refine ks ?_); clear hF hL; intro W hL hF) | (go_at_call 39; refine kp (fun W hL => Form_any _ _ (hT.ext hL.below0)) ?_; clear hL; intro W hL hF) | (go_at_call 10; refine kG ?_; clear hF hL; intro W hL hF; first | ((with_reducible refine (Decimal_isa a ha.1 ha.2 _ (hT.ext hL.below0)).mono ?_); rintro e W ⟨rfl, hb⟩; replace hL := hL.below hb; clear hb hF; have hF := hL.fx))))
 go_wp2_with (first | ((with_reducible refine ks ?_); clear hL; intro W hL hF) | ((with_reducible refine at_region 13 ?_); refine kW [0, 1, 2, 3, 4, 5, 6, 7, 8] [0, 1, 2, 3, 4, 5, 7, 8] [] [0, 2, 4, 5, 7, 8] ?_; clear hF hL; intro ι F hne hC hG; (repeat (first | (refine cS ?_) | (refine cF hC ?_; intro K hK; go_big_quiet_op; go_big_quiet_on) | (refine cP ?_; intro K hK; go_big_quiet_op; go_big_quiet_on) | (refine cC ?_; intro W hL; have hF := hL.fx; simp only [ka, Act.eval]; go_at_call 41; (with_reducible refine (HJ.out _ _ _ hL (by repeat (first | (with_reducible exact List.mem_cons_self) | (with_reducible apply List.mem_cons_of_mem)))).mono ?_); rintro e W ⟨rfl, hb⟩; replace hL := hL.below hb; clear hb hF; have hF := hL.fx; refine ko ?_; clear hL hF; simp only [Act.put, kT]) | (refine cN ?_; intro W hL; have hF := hL.facts; go_wp2; refine kb2 ?_; clear hL hC hG; intro ι F hne hC hG))); refine cwk_nil ?_; clear hC hG; intro W hL; have hF := hL.fx))
 refine bodyPost_ret (by simp [results, Tryz.results19, go_sem, *]; try rfl) rfl ?_
 refine ⟨?_, kn_here.below0⟩
 rw [HNM.out, HJB.out]
theorem Print_2 (op a b : Int) (w : World) (hT : TabI w) (hf : form op = 2) (h0 : 0 ≤ op) (h32 : op < 32) (hv : valid op a b 0 = true) (ha : -9223372036854775808 ≤ a ∧ a ≤ 9223372036854775807) (hb : -9223372036854775808 ≤ b ∧ b ≤ 9223372036854775807) :
  Calls Tryz.prog 19 #[.agg #[.int .i64 op, .int .i64 a, .int .i64 b, .int .i64 0]] w fun e w' => e = .returned (.string ((nameB op ++ ⟨#[32]⟩) ++ joinB [regB a, regB b])) ∧ Below w.heap.size w w' := by
 have hop : w.cell? ⟨0, 2, none⟩ = some (.string ⟨#[114, 114]⟩) := hT.2.2.1 2 (by decide)
 have hs0 : 0 < w.heap.size := Nat.lt_of_lt_of_le (by decide) hT.1
 obtain ⟨nm, hnmb⟩ : ∃ x, nameB op = x := ⟨_, rfl⟩
 have hnsz : nm.size ≤ 4 := by rw [← hnmb]; exact nameB_size op
 have hnm : w.cell? ⟨1, op.toNat, none⟩ = some (.string nm) := by rw [← hnmb]; exact hT.2.2.2.1 op.toNat (by omega)
 have HNM := Lib.hid hnmb
 clear hnmb
 have hs1 : 1 < w.heap.size := Nat.lt_of_lt_of_le (by decide) hT.1
 obtain ⟨jb, hjb⟩ : ∃ x, joinB [regB a, regB b] = x := ⟨_, rfl⟩
 have hxs : ∀ x ∈ [regB a, regB b], x.data.toList.length ≤ 22 := by simp only [List.forall_mem_cons]; exact ⟨reg_size a ha, reg_size b hb, fun _ h => by cases h⟩
 have hjs : jb.size ≤ 100 := by rw [← hjb]; exact joinB_size hxs (by simp)
 have HJ : Hid (∀ W jk L, Kn [] w W L → (jk, Obj.cells #[.string ((⟨#[114]⟩ : ByteArray) ++ ⟨(Lib.itoa a).toArray⟩), .string ((⟨#[114]⟩ : ByteArray) ++ ⟨(Lib.itoa b).toArray⟩)] 9 (0, 0)) ∈ L → Calls Tryz.prog 41 #[.slice (some ⟨jk, 0, none⟩) 2 2, .string ⟨#[44, 32]⟩] W fun e w' => e = .returned (.string jb) ∧ Below W.heap.size W w') := Lib.hid fun W jk L h hm => hjb ▸ join_any [regB a, regB b] 2 rfl hxs (by simp) h hm
 have HJB := Lib.hid hjb
 clear hjb hxs
 have hla := Lib.itoa_length_le a ha.1 ha.2
 have hlb := Lib.itoa_length_le b hb.1 hb.2
 have hmk : ∀ w, (Instr.makeSlice 35 (.int .i64 2) (.int .i64 2)).run Tryz.prog w = .ok (.slice (some ⟨w.heap.size, 0, none⟩) 2 2) (w.alloc (.cells #[.string ⟨#[]⟩, .string ⟨#[]⟩] 9)) := fun _ => by kernel_rfl
 have hL : Kn [] w w [] := Kn.refl [] w; have hF := hL.fx; go_enter Tryz.func19, Tryz.ntmps19
 go_wp2_with (first | (go_at_call 18; refine kc (fun W hL => Valid_any _ _ _ _ _ (hT.ext hL.below0)) ?_; clear hF hL; intro W hL hF) | (go_at_call 40; refine kG ?_; clear hF hL; intro W hL hF; (with_reducible refine (list_2 op a b _ (hT.ext hL.below0) hf).mono ?_); rintro e W ⟨lb, rfl, hb⟩; replace hL := hL.join hb; clear hb hF; simp only [kfb] at hL; have hF := hL.fx) | (go_at_call 39; refine kp (fun W hL => Form_any _ _ (hT.ext hL.below0)) ?_; clear hF hL; intro W hL hF))
 refine wp_loop_rounds 3 ?_
 repeat any_goals (rw [rounds_succ]; go_upto_region 6 with (fail); (refine kn_wp ?_; clear hF hL; intro W hL; (try simp only [kfb] at hL); have hF := hL.fx; (first | (have hnx := fun ty => next_in (P := Tryz.prog) (s := ⟨#[114, 114]⟩) (pos := 0) hL (by repeat (first | (with_reducible exact List.mem_cons_self) | (with_reducible apply List.mem_cons_of_mem))) 114 rfl (by decide) ty) | (have hnx := fun ty => next_in (P := Tryz.prog) (s := ⟨#[114, 114]⟩) (pos := 1) hL (by repeat (first | (with_reducible exact List.mem_cons_self) | (with_reducible apply List.mem_cons_of_mem))) 114 rfl (by decide) ty) | (have hnx := fun ty => next_out (P := Tryz.prog) (s := ⟨#[114, 114]⟩) (pos := 2) hL (by repeat ((with_reducible exact List.mem_cons_self))) (by decide) ty)); go_upto_if 26 with (fail); refine kn_wp ?_; clear hF hL; intro W hL; have hF := hL.fx; clear hnx); go_wp2_with (first | ((with_reducible refine ks ?_); clear hF hL; intro W hL hF) | (go_at_call 39; refine kp (fun W hL => Form_any _ _ (hT.ext hL.below0)) ?_; clear hL; intro W hL hF) | (go_at_call 10; refine kG ?_; clear hF hL; intro W hL hF; first | ((with_reducible refine (Decimal_isa a ha.1 ha.2 _ (hT.ext hL.below0)).mono ?_); rintro e W ⟨rfl, hb⟩; replace hL := hL.below hb; clear hb hF; have hF := hL.fx) | ((with_reducible refine (Decimal_isa b hb.1 hb.2 _ (hT.ext hL.below0)).mono ?_); rintro e W ⟨rfl, hb⟩; replace hL := hL.below hb; clear hb hF; have hF := hL.fx))))
 go_wp2_with (first | ((with_reducible refine ks ?_); clear hL; intro W hL hF) | ((with_reducible refine at_region 13 ?_); refine kW [0, 1, 2, 3, 4, 5, 6, 7, 8] [0, 1, 2, 3, 4, 5, 7, 8] [] [0, 2, 4, 5, 7, 8] ?_; clear hF hL; intro ι F hne hC hG; (repeat (first | (refine cS ?_) | (refine cF hC ?_; intro K hK; go_big_quiet_op; go_big_quiet_on) | (refine cP ?_; intro K hK; go_big_quiet_op; go_big_quiet_on) | (refine cC ?_; intro W hL; have hF := hL.fx; simp only [ka, Act.eval]; go_at_call 41; (with_reducible refine (HJ.out _ _ _ hL (by repeat (first | (with_reducible exact List.mem_cons_self) | (with_reducible apply List.mem_cons_of_mem)))).mono ?_); rintro e W ⟨rfl, hb⟩; replace hL := hL.below hb; clear hb hF; have hF := hL.fx; refine ko ?_; clear hL hF; simp only [Act.put, kT]) | (refine cN ?_; intro W hL; have hF := hL.facts; go_wp2; refine kb2 ?_; clear hL hC hG; intro ι F hne hC hG))); refine cwk_nil ?_; clear hC hG; intro W hL; have hF := hL.fx))
 refine bodyPost_ret (by simp [results, Tryz.results19, go_sem, *]; try rfl) rfl ?_
 refine ⟨?_, kn_here.below0⟩
 rw [HNM.out, HJB.out]
theorem Print_6 (op b : Int) (w : World) (hT : TabI w) (hf : form op = 6) (h0 : 0 ≤ op) (h32 : op < 32) (hv : valid op 0 b 0 = true) (hb : -9223372036854775808 ≤ b ∧ b ≤ 9223372036854775807) :
  Calls Tryz.prog 19 #[.agg #[.int .i64 op, .int .i64 0, .int .i64 b, .int .i64 0]] w fun e w' => e = .returned (.string ((nameB op ++ ⟨#[32]⟩) ++ joinB [numI b])) ∧ Below w.heap.size w w' := by
 have hop : w.cell? ⟨0, 6, none⟩ = some (.string ⟨#[110]⟩) := hT.2.2.1 6 (by decide)
 have hs0 : 0 < w.heap.size := Nat.lt_of_lt_of_le (by decide) hT.1
 obtain ⟨nm, hnmb⟩ : ∃ x, nameB op = x := ⟨_, rfl⟩
 have hnsz : nm.size ≤ 4 := by rw [← hnmb]; exact nameB_size op
 have hnm : w.cell? ⟨1, op.toNat, none⟩ = some (.string nm) := by rw [← hnmb]; exact hT.2.2.2.1 op.toNat (by omega)
 have HNM := Lib.hid hnmb
 clear hnmb
 have hs1 : 1 < w.heap.size := Nat.lt_of_lt_of_le (by decide) hT.1
 obtain ⟨jb, hjb⟩ : ∃ x, joinB [numI b] = x := ⟨_, rfl⟩
 have hxs : ∀ x ∈ [numI b], x.data.toList.length ≤ 22 := by simp only [List.forall_mem_cons]; exact ⟨num_size b hb, fun _ h => by cases h⟩
 have hjs : jb.size ≤ 100 := by rw [← hjb]; exact joinB_size hxs (by simp)
 have HJ : Hid (∀ W jk L, Kn [] w W L → (jk, Obj.cells #[.string ((⟨(Lib.itoa b).toArray⟩ : ByteArray))] 9 (0, 0)) ∈ L → Calls Tryz.prog 41 #[.slice (some ⟨jk, 0, none⟩) 1 1, .string ⟨#[44, 32]⟩] W fun e w' => e = .returned (.string jb) ∧ Below W.heap.size W w') := Lib.hid fun W jk L h hm => hjb ▸ join_any [numI b] 1 rfl hxs (by simp) h hm
 have HJB := Lib.hid hjb
 clear hjb hxs
 have hlb := Lib.itoa_length_le b hb.1 hb.2
 have hmk : ∀ w, (Instr.makeSlice 35 (.int .i64 1) (.int .i64 1)).run Tryz.prog w = .ok (.slice (some ⟨w.heap.size, 0, none⟩) 1 1) (w.alloc (.cells #[.string ⟨#[]⟩] 9)) := fun _ => by kernel_rfl
 have hL : Kn [] w w [] := Kn.refl [] w; have hF := hL.fx; go_enter Tryz.func19, Tryz.ntmps19
 go_wp2_with (first | (go_at_call 18; refine kc (fun W hL => Valid_any _ _ _ _ _ (hT.ext hL.below0)) ?_; clear hF hL; intro W hL hF) | (go_at_call 40; refine kG ?_; clear hF hL; intro W hL hF; (with_reducible refine (list_6 op b _ (hT.ext hL.below0) hf).mono ?_); rintro e W ⟨lb, rfl, hb⟩; replace hL := hL.join hb; clear hb hF; simp only [kfb] at hL; have hF := hL.fx) | (go_at_call 39; refine kp (fun W hL => Form_any _ _ (hT.ext hL.below0)) ?_; clear hF hL; intro W hL hF))
 refine wp_loop_rounds 2 ?_
 repeat any_goals (rw [rounds_succ]; go_upto_region 6 with (fail); (refine kn_wp ?_; clear hF hL; intro W hL; have hF := hL.fx; (first | (have hnx := fun ty => next_in (P := Tryz.prog) (s := ⟨#[110]⟩) (pos := 0) hL (by repeat (first | (with_reducible exact List.mem_cons_self) | (with_reducible apply List.mem_cons_of_mem))) 110 rfl (by decide) ty) | (have hnx := fun ty => next_out (P := Tryz.prog) (s := ⟨#[110]⟩) (pos := 1) hL (by repeat ((with_reducible exact List.mem_cons_self))) (by decide) ty)); go_upto_if 26 with (fail); refine kn_wp ?_; clear hF hL; intro W hL; have hF := hL.fx; clear hnx); go_wp2_with (first | ((with_reducible refine ks ?_); clear hF hL; intro W hL hF) | (go_at_call 39; refine kp (fun W hL => Form_any _ _ (hT.ext hL.below0)) ?_; clear hL; intro W hL hF) | (go_at_call 10; refine kG ?_; clear hF hL; intro W hL hF; first | ((with_reducible refine (Decimal_isa b hb.1 hb.2 _ (hT.ext hL.below0)).mono ?_); rintro e W ⟨rfl, hb⟩; replace hL := hL.below hb; clear hb hF; have hF := hL.fx))))
 go_wp2_with (first | ((with_reducible refine ks ?_); clear hL; intro W hL hF) | ((with_reducible refine at_region 13 ?_); refine kW [0, 1, 2, 3, 4, 5, 6, 7, 8] [0, 1, 2, 3, 4, 5, 7, 8] [] [0, 2, 4, 5, 7, 8] ?_; clear hF hL; intro ι F hne hC hG; (repeat (first | (refine cS ?_) | (refine cF hC ?_; intro K hK; go_big_quiet_op; go_big_quiet_on) | (refine cP ?_; intro K hK; go_big_quiet_op; go_big_quiet_on) | (refine cC ?_; intro W hL; have hF := hL.fx; simp only [ka, Act.eval]; go_at_call 41; (with_reducible refine (HJ.out _ _ _ hL (by repeat (first | (with_reducible exact List.mem_cons_self) | (with_reducible apply List.mem_cons_of_mem)))).mono ?_); rintro e W ⟨rfl, hb⟩; replace hL := hL.below hb; clear hb hF; have hF := hL.fx; refine ko ?_; clear hL hF; simp only [Act.put, kT]) | (refine cN ?_; intro W hL; have hF := hL.facts; go_wp2; refine kb2 ?_; clear hL hC hG; intro ι F hne hC hG))); refine cwk_nil ?_; clear hC hG; intro W hL; have hF := hL.fx))
 refine bodyPost_ret (by simp [results, Tryz.results19, go_sem, *]; try rfl) rfl ?_
 refine ⟨?_, kn_here.below0⟩
 rw [HNM.out, HJB.out]
end Go.Proofs.YtfdlifhkeicnnaaGreatDoor
