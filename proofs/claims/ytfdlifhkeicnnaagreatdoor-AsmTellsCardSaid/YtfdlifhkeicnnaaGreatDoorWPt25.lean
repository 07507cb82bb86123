/- Lemmas and walks for the law LawTells (part 25). -/
import Derived.Test.YtfdlifhkeicnnaaGreatDoorWPt24
import Derived.Test.YtfdlifhkeicnnaaGreatDoorProg
import Derived.WalkKit
import Derived.Handy
import Derived.Deep.Light
import Derived.WalkSmall
import Derived.StillTailTactics
import Derived.Lib.Hide
import Derived.Deep.Cut
import Derived.Laws.BytesArg
set_option maxRecDepth 20000
set_option maxHeartbeats 4000000
set_option linter.unusedVariables false
set_option linter.unusedSimpArgs false
namespace Go.Proofs.YtfdlifhkeicnnaaGreatDoor
open Go Go.RowKit
theorem Print_3 (op a b c : Int) (w : World) (hT : TabI w) (hf : form op = 3) (h0 : 0 ≤ op) (h32 : op < 32) (hv : valid op a b c = true) (ha : -9223372036854775808 ≤ a ∧ a ≤ 9223372036854775807) (hb : -9223372036854775808 ≤ b ∧ b ≤ 9223372036854775807) (hc : -9223372036854775808 ≤ c ∧ c ≤ 9223372036854775807) :
    Calls Tryz.prog 19 #[.agg #[.int .i64 op, .int .i64 a, .int .i64 b, .int .i64 c]] w fun e w' => e = .returned (.string ((nameB op ++ ⟨#[32]⟩) ++ joinB [regB a, regB b, regB c])) ∧ Below w.heap.size w w' := by
  have hop : w.cell? ⟨0, 3, none⟩ = some (.string ⟨#[114, 114, 114]⟩) := hT.2.2.1 3 (by decide)
  have hs0 : 0 < w.heap.size := Nat.lt_of_lt_of_le (by decide) hT.1
  obtain ⟨nm, hnmb⟩ : ∃ x, nameB op = x := ⟨_, rfl⟩
  have hnsz : nm.size ≤ 4 := by rw [← hnmb]; exact nameB_size op
  have hnm : w.cell? ⟨1, op.toNat, none⟩ = some (.string nm) := by rw [← hnmb]; exact hT.2.2.2.1 op.toNat (by omega)
  have HNM := Lib.hid hnmb
  clear hnmb
  have hs1 : 1 < w.heap.size := Nat.lt_of_lt_of_le (by decide) hT.1
  obtain ⟨jb, hjb⟩ : ∃ x, joinB [regB a, regB b, regB c] = x := ⟨_, rfl⟩
  have hxs : ∀ x ∈ [regB a, regB b, regB c], x.data.toList.length ≤ 22 := by simp only [List.forall_mem_cons]; exact ⟨reg_size a ha, reg_size b hb, reg_size c hc, fun _ h => by cases h⟩
  have hjs : jb.size ≤ 100 := by rw [← hjb]; exact joinB_size hxs (by simp)
  have HJ : Hid (∀ W jk L, Kn [] w W L → (jk, Obj.cells #[.string ((⟨#[114]⟩ : ByteArray) ++ ⟨(Lib.itoa a).toArray⟩), .string ((⟨#[114]⟩ : ByteArray) ++ ⟨(Lib.itoa b).toArray⟩), .string ((⟨#[114]⟩ : ByteArray) ++ ⟨(Lib.itoa c).toArray⟩)] 9 (0, 0)) ∈ L → Calls Tryz.prog 41 #[.slice (some ⟨jk, 0, none⟩) 3 3, .string ⟨#[44, 32]⟩] W fun e w' => e = .returned (.string jb) ∧ Below W.heap.size W w') := Lib.hid fun W jk L h hm => hjb ▸ join_any [regB a, regB b, regB c] 3 rfl hxs (by simp) h hm
  have HJB := Lib.hid hjb
  clear hjb hxs
  have hla := Lib.itoa_length_le a ha.1 ha.2
  have hlb := Lib.itoa_length_le b hb.1 hb.2
  have hlc := Lib.itoa_length_le c hc.1 hc.2
  have hmk : ∀ w, (Instr.makeSlice 35 (.int .i64 3) (.int .i64 3)).run Tryz.prog w = .ok (.slice (some ⟨w.heap.size, 0, none⟩) 3 3) (w.alloc (.cells #[.string ⟨#[]⟩, .string ⟨#[]⟩, .string ⟨#[]⟩] 9)) := fun _ => by kernel_rfl
  have hL : Kn [] w w [] := Kn.refl [] w; have hF := hL.fx; go_enter Tryz.func19, Tryz.ntmps19
  go_wp2_with (first | (go_at_call 18; refine kc (fun W hL => Valid_any _ _ _ _ _ (hT.ext hL.below0)) ?_; (try clear hF); clear hL; intro W hL hF) | (go_at_call 40; refine kG ?_; (try clear hF); clear hL; intro W hL hF; (with_reducible refine (list_3 op a b c _ (hT.ext hL.below0) hf).mono ?_); rintro e W ⟨lb, rfl, hb⟩; replace hL := hL.join hb; clear hb; (try clear hF); (try simp only [kfb] at hL); have hF := hL.fx) | (go_at_call 39; refine kp (fun W hL => Form_any _ _ (hT.ext hL.below0)) ?_; (try clear hF); clear hL; intro W hL hF))
  refine wp_loop_rounds 4 ?_
  repeat any_goals (rw [rounds_succ]; go_upto_region 6 with (fail); (refine kn_wp ?_; (try clear hF); clear hL; intro W hL; (try simp only [kfb] at hL); have hF := hL.fx; (first | (have hnx := fun ty => next_in (P := Tryz.prog) (s := ⟨#[114, 114, 114]⟩) (pos := 0) hL (by repeat (first | (with_reducible exact List.mem_cons_self) | (with_reducible apply List.mem_cons_of_mem))) 114 rfl (by decide) ty) | (have hnx := fun ty => next_in (P := Tryz.prog) (s := ⟨#[114, 114, 114]⟩) (pos := 1) hL (by repeat (first | (with_reducible exact List.mem_cons_self) | (with_reducible apply List.mem_cons_of_mem))) 114 rfl (by decide) ty) | (have hnx := fun ty => next_in (P := Tryz.prog) (s := ⟨#[114, 114, 114]⟩) (pos := 2) hL (by repeat (first | (with_reducible exact List.mem_cons_self) | (with_reducible apply List.mem_cons_of_mem))) 114 rfl (by decide) ty) | (have hnx := fun ty => next_out (P := Tryz.prog) (s := ⟨#[114, 114, 114]⟩) (pos := 3) hL (by repeat ((with_reducible exact List.mem_cons_self))) (by decide) ty)); go_upto_if 26 with (fail); refine kn_wp ?_; (try clear hF); clear hL; intro W hL; have hF := hL.fx; clear hnx); go_wp2_with (first | ((with_reducible refine ks ?_); (try clear hF); clear hL; intro W hL hF) | (go_at_call 39; refine kp (fun W hL => Form_any _ _ (hT.ext hL.below0)) ?_; (try clear hF); clear hL; intro W hL hF) | (go_at_call 10; refine kG ?_; (try clear hF); clear hL; intro W hL hF; first | ((with_reducible refine (Decimal_isa a ha.1 ha.2 _ (hT.ext hL.below0)).mono ?_); rintro e W ⟨rfl, hb⟩; replace hL := hL.below hb; clear hb; (try clear hF); have hF := hL.fx) | ((with_reducible refine (Decimal_isa b hb.1 hb.2 _ (hT.ext hL.below0)).mono ?_); rintro e W ⟨rfl, hb⟩; replace hL := hL.below hb; clear hb; (try clear hF); have hF := hL.fx) | ((with_reducible refine (Decimal_isa c hc.1 hc.2 _ (hT.ext hL.below0)).mono ?_); rintro e W ⟨rfl, hb⟩; replace hL := hL.below hb; clear hb; (try clear hF); have hF := hL.fx))))
  go_wp2_with (first | ((with_reducible refine ks ?_); clear hL; intro W hL hF) | ((with_reducible refine at_region 13 ?_); refine kW [0, 1, 2, 3, 4, 5, 6, 7, 8] [0, 1, 2, 3, 4, 5, 7, 8] [] [0, 2, 4, 5, 7, 8] ?_; (try clear hF); clear hL; intro ι F hne hC hG; (repeat (first | (refine cS ?_) | (refine cF hC ?_; intro K hK; go_big_quiet_op; go_big_quiet_on) | (refine cP ?_; intro K hK; go_big_quiet_op; go_big_quiet_on) | (refine cC ?_; intro W hL; have hF := hL.fx; simp only [ka, Act.eval]; go_at_call 41; (with_reducible refine (HJ.out _ _ _ hL (by repeat (first | (with_reducible exact List.mem_cons_self) | (with_reducible apply List.mem_cons_of_mem)))).mono ?_); rintro e W ⟨rfl, hb⟩; replace hL := hL.below hb; clear hb; (try clear hF); have hF := hL.fx; refine ko ?_; clear hL; (try clear hF); (try simp only [Act.put, List.setIfInBounds_toArray, List.set_cons_zero, List.set_cons_succ])) | (refine cN ?_; intro W hL; have hF := hL.facts; go_wp2; refine kb2 ?_; clear hL; clear hC hG; intro ι F hne hC hG))); refine cwk_nil ?_; clear hC hG; intro W hL; have hF := hL.fx))
  refine bodyPost_ret (by simp [results, Tryz.results19, go_sem, *]; try rfl) rfl ?_
  refine ⟨?_, kn_here.below0⟩
  rw [HNM.out, HJB.out]
theorem Print_4 (op a b c : Int) (w : World) (hT : TabI w) (hf : form op = 4) (h0 : 0 ≤ op) (h32 : op < 32) (hv : valid op a b c = true) (ha : -9223372036854775808 ≤ a ∧ a ≤ 9223372036854775807) (hb : -9223372036854775808 ≤ b ∧ b ≤ 9223372036854775807) (hc : -9223372036854775808 ≤ c ∧ c ≤ 9223372036854775807) :
    Calls Tryz.prog 19 #[.agg #[.int .i64 op, .int .i64 a, .int .i64 b, .int .i64 c]] w fun e w' => e = .returned (.string ((nameB op ++ ⟨#[32]⟩) ++ joinB [regB a, regB b, numI c])) ∧ Below w.heap.size w w' := by
  have hop : w.cell? ⟨0, 4, none⟩ = some (.string ⟨#[114, 114, 111]⟩) := hT.2.2.1 4 (by decide)
  have hs0 : 0 < w.heap.size := Nat.lt_of_lt_of_le (by decide) hT.1
  obtain ⟨nm, hnmb⟩ : ∃ x, nameB op = x := ⟨_, rfl⟩
  have hnsz : nm.size ≤ 4 := by rw [← hnmb]; exact nameB_size op
  have hnm : w.cell? ⟨1, op.toNat, none⟩ = some (.string nm) := by rw [← hnmb]; exact hT.2.2.2.1 op.toNat (by omega)
  have HNM := Lib.hid hnmb
  clear hnmb
  have hs1 : 1 < w.heap.size := Nat.lt_of_lt_of_le (by decide) hT.1
  obtain ⟨jb, hjb⟩ : ∃ x, joinB [regB a, regB b, numI c] = x := ⟨_, rfl⟩
  have hxs : ∀ x ∈ [regB a, regB b, numI c], x.data.toList.length ≤ 22 := by simp only [List.forall_mem_cons]; exact ⟨reg_size a ha, reg_size b hb, num_size c hc, fun _ h => by cases h⟩
  have hjs : jb.size ≤ 100 := by rw [← hjb]; exact joinB_size hxs (by simp)
  have HJ : Hid (∀ W jk L, Kn [] w W L → (jk, Obj.cells #[.string ((⟨#[114]⟩ : ByteArray) ++ ⟨(Lib.itoa a).toArray⟩), .string ((⟨#[114]⟩ : ByteArray) ++ ⟨(Lib.itoa b).toArray⟩), .string ((⟨(Lib.itoa c).toArray⟩ : ByteArray))] 9 (0, 0)) ∈ L → Calls Tryz.prog 41 #[.slice (some ⟨jk, 0, none⟩) 3 3, .string ⟨#[44, 32]⟩] W fun e w' => e = .returned (.string jb) ∧ Below W.heap.size W w') := Lib.hid fun W jk L h hm => hjb ▸ join_any [regB a, regB b, numI c] 3 rfl hxs (by simp) h hm
  have HJB := Lib.hid hjb
  clear hjb hxs
  have hla := Lib.itoa_length_le a ha.1 ha.2
  have hlb := Lib.itoa_length_le b hb.1 hb.2
  have hlc := Lib.itoa_length_le c hc.1 hc.2
  have hmk : ∀ w, (Instr.makeSlice 35 (.int .i64 3) (.int .i64 3)).run Tryz.prog w = .ok (.slice (some ⟨w.heap.size, 0, none⟩) 3 3) (w.alloc (.cells #[.string ⟨#[]⟩, .string ⟨#[]⟩, .string ⟨#[]⟩] 9)) := fun _ => by kernel_rfl
  have hL : Kn [] w w [] := Kn.refl [] w; have hF := hL.fx; go_enter Tryz.func19, Tryz.ntmps19
  go_wp2_with (first | (go_at_call 18; refine kc (fun W hL => Valid_any _ _ _ _ _ (hT.ext hL.below0)) ?_; (try clear hF); clear hL; intro W hL hF) | (go_at_call 40; refine kG ?_; (try clear hF); clear hL; intro W hL hF; (with_reducible refine (list_4 op a b c _ (hT.ext hL.below0) hf).mono ?_); rintro e W ⟨lb, rfl, hb⟩; replace hL := hL.join hb; clear hb; (try clear hF); (try simp only [kfb] at hL); have hF := hL.fx) | (go_at_call 39; refine kp (fun W hL => Form_any _ _ (hT.ext hL.below0)) ?_; (try clear hF); clear hL; intro W hL hF))
  refine wp_loop_rounds 4 ?_
  repeat any_goals (rw [rounds_succ]; go_upto_region 6 with (fail); (refine kn_wp ?_; (try clear hF); clear hL; intro W hL; (try simp only [kfb] at hL); have hF := hL.fx; (first | (have hnx := fun ty => next_in (P := Tryz.prog) (s := ⟨#[114, 114, 111]⟩) (pos := 0) hL (by repeat (first | (with_reducible exact List.mem_cons_self) | (with_reducible apply List.mem_cons_of_mem))) 114 rfl (by decide) ty) | (have hnx := fun ty => next_in (P := Tryz.prog) (s := ⟨#[114, 114, 111]⟩) (pos := 1) hL (by repeat (first | (with_reducible exact List.mem_cons_self) | (with_reducible apply List.mem_cons_of_mem))) 114 rfl (by decide) ty) | (have hnx := fun ty => next_in (P := Tryz.prog) (s := ⟨#[114, 114, 111]⟩) (pos := 2) hL (by repeat (first | (with_reducible exact List.mem_cons_self) | (with_reducible apply List.mem_cons_of_mem))) 111 rfl (by decide) ty) | (have hnx := fun ty => next_out (P := Tryz.prog) (s := ⟨#[114, 114, 111]⟩) (pos := 3) hL (by repeat ((with_reducible exact List.mem_cons_self))) (by decide) ty)); go_upto_if 26 with (fail); refine kn_wp ?_; (try clear hF); clear hL; intro W hL; have hF := hL.fx; clear hnx); go_wp2_with (first | ((with_reducible refine ks ?_); (try clear hF); clear hL; intro W hL hF) | (go_at_call 39; refine kp (fun W hL => Form_any _ _ (hT.ext hL.below0)) ?_; (try clear hF); clear hL; intro W hL hF) | (go_at_call 10; refine kG ?_; (try clear hF); clear hL; intro W hL hF; first | ((with_reducible refine (Decimal_isa a ha.1 ha.2 _ (hT.ext hL.below0)).mono ?_); rintro e W ⟨rfl, hb⟩; replace hL := hL.below hb; clear hb; (try clear hF); have hF := hL.fx) | ((with_reducible refine (Decimal_isa b hb.1 hb.2 _ (hT.ext hL.below0)).mono ?_); rintro e W ⟨rfl, hb⟩; replace hL := hL.below hb; clear hb; (try clear hF); have hF := hL.fx) | ((with_reducible refine (Decimal_isa c hc.1 hc.2 _ (hT.ext hL.below0)).mono ?_); rintro e W ⟨rfl, hb⟩; replace hL := hL.below hb; clear hb; (try clear hF); have hF := hL.fx))))
  go_wp2_with (first | ((with_reducible refine ks ?_); clear hL; intro W hL hF) | ((with_reducible refine at_region 13 ?_); refine kW [0, 1, 2, 3, 4, 5, 6, 7, 8] [0, 1, 2, 3, 4, 5, 7, 8] [] [0, 2, 4, 5, 7, 8] ?_; (try clear hF); clear hL; intro ι F hne hC hG; (repeat (first | (refine cS ?_) | (refine cF hC ?_; intro K hK; go_big_quiet_op; go_big_quiet_on) | (refine cP ?_; intro K hK; go_big_quiet_op; go_big_quiet_on) | (refine cC ?_; intro W hL; have hF := hL.fx; simp only [ka, Act.eval]; go_at_call 41; (with_reducible refine (HJ.out _ _ _ hL (by repeat (first | (with_reducible exact List.mem_cons_self) | (with_reducible apply List.mem_cons_of_mem)))).mono ?_); rintro e W ⟨rfl, hb⟩; replace hL := hL.below hb; clear hb; (try clear hF); have hF := hL.fx; refine ko ?_; clear hL; (try clear hF); (try simp only [Act.put, List.setIfInBounds_toArray, List.set_cons_zero, List.set_cons_succ])) | (refine cN ?_; intro W hL; have hF := hL.facts; go_wp2; refine kb2 ?_; clear hL; clear hC hG; intro ι F hne hC hG))); refine cwk_nil ?_; clear hC hG; intro W hL; have hF := hL.fx))
  refine bodyPost_ret (by simp [results, Tryz.results19, go_sem, *]; try rfl) rfl ?_
  refine ⟨?_, kn_here.below0⟩
  rw [HNM.out, HJB.out]
theorem Print_5 (op a b : Int) (w : World) (hT : TabI w) (hf : form op = 5) (h0 : 0 ≤ op) (h32 : op < 32) (hv : valid op a b 0 = true) (ha : -9223372036854775808 ≤ a ∧ a ≤ 9223372036854775807) (hb : -9223372036854775808 ≤ b ∧ b ≤ 9223372036854775807) :
    Calls Tryz.prog 19 #[.agg #[.int .i64 op, .int .i64 a, .int .i64 b, .int .i64 0]] w fun e w' => e = .returned (.string ((nameB op ++ ⟨#[32]⟩) ++ joinB [regB a, numI b])) ∧ Below w.heap.size w w' := by
  have hop : w.cell? ⟨0, 5, none⟩ = some (.string ⟨#[114, 110]⟩) := hT.2.2.1 5 (by decide)
  have hs0 : 0 < w.heap.size := Nat.lt_of_lt_of_le (by decide) hT.1
  obtain ⟨nm, hnmb⟩ : ∃ x, nameB op = x := ⟨_, rfl⟩
  have hnsz : nm.size ≤ 4 := by rw [← hnmb]; exact nameB_size op
  have hnm : w.cell? ⟨1, op.toNat, none⟩ = some (.string nm) := by rw [← hnmb]; exact hT.2.2.2.1 op.toNat (by omega)
  have HNM := Lib.hid hnmb
  clear hnmb
  have hs1 : 1 < w.heap.size := Nat.lt_of_lt_of_le (by decide) hT.1
  obtain ⟨jb, hjb⟩ : ∃ x, joinB [regB a, numI b] = x := ⟨_, rfl⟩
  have hxs : ∀ x ∈ [regB a, numI b], x.data.toList.length ≤ 22 := by simp only [List.forall_mem_cons]; exact ⟨reg_size a ha, num_size b hb, fun _ h => by cases h⟩
  have hjs : jb.size ≤ 100 := by rw [← hjb]; exact joinB_size hxs (by simp)
  have HJ : Hid (∀ W jk L, Kn [] w W L → (jk, Obj.cells #[.string ((⟨#[114]⟩ : ByteArray) ++ ⟨(Lib.itoa a).toArray⟩), .string ((⟨(Lib.itoa b).toArray⟩ : ByteArray))] 9 (0, 0)) ∈ L → Calls Tryz.prog 41 #[.slice (some ⟨jk, 0, none⟩) 2 2, .string ⟨#[44, 32]⟩] W fun e w' => e = .returned (.string jb) ∧ Below W.heap.size W w') := Lib.hid fun W jk L h hm => hjb ▸ join_any [regB a, numI b] 2 rfl hxs (by simp) h hm
  have HJB := Lib.hid hjb
  clear hjb hxs
  have hla := Lib.itoa_length_le a ha.1 ha.2
  have hlb := Lib.itoa_length_le b hb.1 hb.2
  have hmk : ∀ w, (Instr.makeSlice 35 (.int .i64 2) (.int .i64 2)).run Tryz.prog w = .ok (.slice (some ⟨w.heap.size, 0, none⟩) 2 2) (w.alloc (.cells #[.string ⟨#[]⟩, .string ⟨#[]⟩] 9)) := fun _ => by kernel_rfl
  have hL : Kn [] w w [] := Kn.refl [] w; have hF := hL.fx; go_enter Tryz.func19, Tryz.ntmps19
  go_wp2_with (first | (go_at_call 18; refine kc (fun W hL => Valid_any _ _ _ _ _ (hT.ext hL.below0)) ?_; (try clear hF); clear hL; intro W hL hF) | (go_at_call 40; refine kG ?_; (try clear hF); clear hL; intro W hL hF; (with_reducible refine (list_5 op a b _ (hT.ext hL.below0) hf).mono ?_); rintro e W ⟨lb, rfl, hb⟩; replace hL := hL.join hb; clear hb; (try clear hF); (try simp only [kfb] at hL); have hF := hL.fx) | (go_at_call 39; refine kp (fun W hL => Form_any _ _ (hT.ext hL.below0)) ?_; (try clear hF); clear hL; intro W hL hF))
  refine wp_loop_rounds 3 ?_
  repeat any_goals (rw [rounds_succ]; go_upto_region 6 with (fail); (refine kn_wp ?_; (try clear hF); clear hL; intro W hL; (try simp only [kfb] at hL); have hF := hL.fx; (first | (have hnx := fun ty => next_in (P := Tryz.prog) (s := ⟨#[114, 110]⟩) (pos := 0) hL (by repeat (first | (with_reducible exact List.mem_cons_self) | (with_reducible apply List.mem_cons_of_mem))) 114 rfl (by decide) ty) | (have hnx := fun ty => next_in (P := Tryz.prog) (s := ⟨#[114, 110]⟩) (pos := 1) hL (by repeat (first | (with_reducible exact List.mem_cons_self) | (with_reducible apply List.mem_cons_of_mem))) 110 rfl (by decide) ty) | (have hnx := fun ty => next_out (P := Tryz.prog) (s := ⟨#[114, 110]⟩) (pos := 2) hL (by repeat ((with_reducible exact List.mem_cons_self))) (by decide) ty)); go_upto_if 26 with (fail); refine kn_wp ?_; (try clear hF); clear hL; intro W hL; have hF := hL.fx; clear hnx); go_wp2_with (first | ((with_reducible refine ks ?_); (try clear hF); clear hL; intro W hL hF) | (go_at_call 39; refine kp (fun W hL => Form_any _ _ (hT.ext hL.below0)) ?_; (try clear hF); clear hL; intro W hL hF) | (go_at_call 10; refine kG ?_; (try clear hF); clear hL; intro W hL hF; first | ((with_reducible refine (Decimal_isa a ha.1 ha.2 _ (hT.ext hL.below0)).mono ?_); rintro e W ⟨rfl, hb⟩; replace hL := hL.below hb; clear hb; (try clear hF); have hF := hL.fx) | ((with_reducible refine (Decimal_isa b hb.1 hb.2 _ (hT.ext hL.below0)).mono ?_); rintro e W ⟨rfl, hb⟩; replace hL := hL.below hb; clear hb; (try clear hF); have hF := hL.fx))))
  go_wp2_with (first | ((with_reducible refine ks ?_); clear hL; intro W hL hF) | ((with_reducible refine at_region 13 ?_); refine kW [0, 1, 2, 3, 4, 5, 6, 7, 8] [0, 1, 2, 3, 4, 5, 7, 8] [] [0, 2, 4, 5, 7, 8] ?_; (try clear hF); clear hL; intro ι F hne hC hG; (repeat (first | (refine cS ?_) | (refine cF hC ?_; intro K hK; go_big_quiet_op; go_big_quiet_on) | (refine cP ?_; intro K hK; go_big_quiet_op; go_big_quiet_on) | (refine cC ?_; intro W hL; have hF := hL.fx; simp only [ka, Act.eval]; go_at_call 41; (with_reducible refine (HJ.out _ _ _ hL (by repeat (first | (with_reducible exact List.mem_cons_self) | (with_reducible apply List.mem_cons_of_mem)))).mono ?_); rintro e W ⟨rfl, hb⟩; replace hL := hL.below hb; clear hb; (try clear hF); have hF := hL.fx; refine ko ?_; clear hL; (try clear hF); (try simp only [Act.put, List.setIfInBounds_toArray, List.set_cons_zero, List.set_cons_succ])) | (refine cN ?_; intro W hL; have hF := hL.facts; go_wp2; refine kb2 ?_; clear hL; clear hC hG; intro ι F hne hC hG))); refine cwk_nil ?_; clear hC hG; intro W hL; have hF := hL.fx))
  refine bodyPost_ret (by simp [results, Tryz.results19, go_sem, *]; try rfl) rfl ?_
  refine ⟨?_, kn_here.below0⟩
  rw [HNM.out, HJB.out]
theorem idx_hit {s : ByteArray} {k : Nat} (hk : k < 32) (h : namesB.getD k ByteArray.empty = s) (hn : ∀ j, j < k → namesB.getD j ByteArray.empty ≠ s) : findI s = k := by
 have := Lib.idxFromS_hit s namesB k 0 (by rw [namesB_len]; exact hk) h hn
 unfold findI Lib.idxOfS; rw [this]; simp
theorem refNames2 (w : World) : Calls Tryz.prog 72 #[] w fun e w' =>
  ∃ b cur, e = .returned (.slice (some ⟨b, 0, none⟩) 32 32) ∧ Kn [] w w' [(b, .cells cur 9 (0, 0))] ∧ ∀ k : Nat, k < 32 → cur[k]? = some (.string (namesB.getD k ByteArray.empty)) :=
 (refNames_any w).mono fun e w' ⟨b, h1, h2⟩ => ⟨b, #[.string ⟨#[110, 111, 112]⟩, .string ⟨#[109, 111, 118]⟩, .string ⟨#[115, 101, 116]⟩, .string ⟨#[104, 105, 103, 104]⟩, .string ⟨#[97, 100, 100]⟩, .string ⟨#[115, 117, 98]⟩, .string ⟨#[109, 117, 108]⟩, .string ⟨#[100, 105, 118]⟩, .string ⟨#[109, 111, 100]⟩, .string ⟨#[97, 110, 100]⟩, .string ⟨#[111, 114]⟩, .string ⟨#[120, 111, 114]⟩, .string ⟨#[115, 104, 108]⟩, .string ⟨#[115, 104, 114]⟩, .string ⟨#[101, 113]⟩, .string ⟨#[110, 101]⟩, .string ⟨#[108, 116]⟩, .string ⟨#[108, 101]⟩, .string ⟨#[97, 100, 100, 105]⟩, .string ⟨#[108, 100, 98]⟩, .string ⟨#[108, 100, 119]⟩, .string ⟨#[115, 116, 98]⟩, .string ⟨#[115, 116, 119]⟩, .string ⟨#[112, 117, 115, 104]⟩, .string ⟨#[112, 111, 112]⟩, .string ⟨#[106, 109, 112]⟩, .string ⟨#[106, 122]⟩, .string ⟨#[106, 110, 122]⟩, .string ⟨#[108, 105, 110, 107]⟩, .string ⟨#[106, 114]⟩, .string ⟨#[97, 100, 100, 114]⟩, .string ⟨#[99, 97, 108, 108]⟩], h1, h2, fun k hk => by
  have : ∀ k : Fin 32, (#[.string ⟨#[110, 111, 112]⟩, .string ⟨#[109, 111, 118]⟩, .string ⟨#[115, 101, 116]⟩, .string ⟨#[104, 105, 103, 104]⟩, .string ⟨#[97, 100, 100]⟩, .string ⟨#[115, 117, 98]⟩, .string ⟨#[109, 117, 108]⟩, .string ⟨#[100, 105, 118]⟩, .string ⟨#[109, 111, 100]⟩, .string ⟨#[97, 110, 100]⟩, .string ⟨#[111, 114]⟩, .string ⟨#[120, 111, 114]⟩, .string ⟨#[115, 104, 108]⟩, .string ⟨#[115, 104, 114]⟩, .string ⟨#[101, 113]⟩, .string ⟨#[110, 101]⟩, .string ⟨#[108, 116]⟩, .string ⟨#[108, 101]⟩, .string ⟨#[97, 100, 100, 105]⟩, .string ⟨#[108, 100, 98]⟩, .string ⟨#[108, 100, 119]⟩, .string ⟨#[115, 116, 98]⟩, .string ⟨#[115, 116, 119]⟩, .string ⟨#[112, 117, 115, 104]⟩, .string ⟨#[112, 111, 112]⟩, .string ⟨#[106, 109, 112]⟩, .string ⟨#[106, 122]⟩, .string ⟨#[106, 110, 122]⟩, .string ⟨#[108, 105, 110, 107]⟩, .string ⟨#[106, 114]⟩, .string ⟨#[97, 100, 100, 114]⟩, .string ⟨#[99, 97, 108, 108]⟩] : Array Value)[k.val]? = some (.string (namesB.getD k.val ByteArray.empty)) := by
   intro k
   have e : (#[.string ⟨#[110, 111, 112]⟩, .string ⟨#[109, 111, 118]⟩, .string ⟨#[115, 101, 116]⟩, .string ⟨#[104, 105, 103, 104]⟩, .string ⟨#[97, 100, 100]⟩, .string ⟨#[115, 117, 98]⟩, .string ⟨#[109, 117, 108]⟩, .string ⟨#[100, 105, 118]⟩, .string ⟨#[109, 111, 100]⟩, .string ⟨#[97, 110, 100]⟩, .string ⟨#[111, 114]⟩, .string ⟨#[120, 111, 114]⟩, .string ⟨#[115, 104, 108]⟩, .string ⟨#[115, 104, 114]⟩, .string ⟨#[101, 113]⟩, .string ⟨#[110, 101]⟩, .string ⟨#[108, 116]⟩, .string ⟨#[108, 101]⟩, .string ⟨#[97, 100, 100, 105]⟩, .string ⟨#[108, 100, 98]⟩, .string ⟨#[108, 100, 119]⟩, .string ⟨#[115, 116, 98]⟩, .string ⟨#[115, 116, 119]⟩, .string ⟨#[112, 117, 115, 104]⟩, .string ⟨#[112, 111, 112]⟩, .string ⟨#[106, 109, 112]⟩, .string ⟨#[106, 122]⟩, .string ⟨#[106, 110, 122]⟩, .string ⟨#[108, 105, 110, 107]⟩, .string ⟨#[106, 114]⟩, .string ⟨#[97, 100, 100, 114]⟩, .string ⟨#[99, 97, 108, 108]⟩] : Array Value) = (namesB.map Value.string).toArray := rfl
   rw [e, List.getElem?_toArray, List.getElem?_map, List.getElem?_eq_getElem (by rw [namesB_len]; exact k.isLt), List.getD_eq_getElem?_getD, List.getElem?_eq_getElem (by rw [namesB_len]; exact k.isLt)]
   rfl
  exact this ⟨k, hk⟩⟩
theorem refFind_any (s : ByteArray) (w : World) :
  Calls Tryz.prog 45 #[.string s] w fun e w' => e = .returned (.tuple #[.int .i64 (max (findI s) 0), .bool (decide (0 ≤ findI s))]) ∧ Below w.heap.size w w' := by
 have hL : Kn [] w w [] := Kn.refl [] w; have hF := hL.fx; go_enter Tryz.func45, Tryz.ntmps45
 go_wp2_with ((go_at_call 72; refine kG ?_; clear hF hL; intro W hL hF; (with_reducible refine (refNames2 _).mono ?_); rintro e W ⟨nb, cur, rfl, hb, hcur⟩; replace hL := hL.join hb; clear hb hF; simp only [kfb] at hL; have hF := hL.fx))
 go_loop [5] (fun i => ∃ k : Nat, k ≤ 32 ∧ i = .int .i64 k ∧ ∀ j, j < k → namesB.getD j ByteArray.empty ≠ s) (fun i => 32 - (intOf i).toNat)
 case atStart => exact ⟨0, by omega, rfl, fun j hj => by omega⟩
 case round =>
  obtain ⟨k, hk, rfl, hno⟩ := hrel
  have HN := Lib.hid hno
  clear hno
  by_cases hlt : k < 32
  ·have hck := hcur k hlt
   clear hcur
   obtain ⟨z, hz⟩ : ∃ z, namesB.getD k ByteArray.empty = z := ⟨_, rfl⟩
   rw [hz] at hck
   have HZ := Lib.hid hz
   clear hz
   cases hq : (z.toList == s.toList)
   ·go_wp2
    go_round
    case rel =>
     refine ⟨k + 1, by omega, by go_num, fun j hj => ?_⟩
     rcases Nat.lt_or_ge j k with h | h
     ·exact HN.out j h
     ·obtain rfl : j = k := by omega
      rw [HZ.out]; exact (Lib.bytes_beq_false_iff _ _).1 hq
    case measure => simp [intOf]; omega
   ·go_wp2
    refine bodyPost_ret (by simp [results, Tryz.results45, go_sem, *]; try rfl) rfl ?_
    have e := idx_hit hlt (HZ.out.trans ((Lib.bytes_beq_iff _ _).1 hq)) HN.out
    refine ⟨?_, kn_here.below0⟩
    rw [e]
    have e1 : max (k : Int) 0 = k := by omega
    have e2 : decide (0 ≤ (k : Int)) = true := by simp
    rw [e1, e2]
  ·go_wp2
   refine bodyPost_ret (by simp [results, Tryz.results45, go_sem, *]; try rfl) rfl ?_
   have e : findI s = -1 := by
    have h0 := findI_lt s
    apply Classical.byContradiction
    intro hn
    have hp : 0 ≤ Lib.idxOfS namesB s := by unfold findI at *; omega
    have hm := (Lib.idxOfS_nonneg_iff _ _).1 hp
    obtain ⟨j, hj, he⟩ := List.mem_iff_getElem.1 hm
    rw [namesB_len] at hj
    refine HN.out j (by omega) ?_
    rw [List.getD_eq_getElem?_getD, List.getElem?_eq_getElem (by rw [namesB_len]; exact hj), he]; rfl
   refine ⟨?_, kn_here.below0⟩
   rw [e]
   rfl
theorem conv1 (w : World) (x : Int) : (convert 47 9 (.slice (some ⟨w.heap.size, 0, none⟩) 1 1)).run Tryz.prog (w.alloc (.cells #[.int .u8 x] 5)) =
  .ok (.string ⟨#[UInt8.ofNat x.toNat]⟩) (w.alloc (.cells #[.int .u8 x] 5)) :=
 run_convert_bytes_arg (P := Tryz.prog) _ 47 5 Tryz.underlying47 Tryz.underlying5 w.heap.size 0 1 1 [x] rfl (fun i hi => by
  have : i = 0 := by omega
  subst this; rw [World.cell?_alloc_new]; rfl) 9 Tryz.underlying9
theorem refDec_small (n : Int) (h0 : 0 ≤ n) (h1 : n < 10) (w : World) :
  Calls Tryz.prog 55 #[.int .i64 n] w fun e w' => e = .returned (.string (numI n)) ∧ Below w.heap.size w w' := by
 have hcv := conv1
 have hL : Kn [] w w [] := Kn.refl [] w; have hF := hL.fx; go_enter Tryz.func55, Tryz.ntmps55
 go_wp2
 refine bodyPost_ret (by simp [results, Tryz.results55, go_sem, *]; try rfl) rfl ?_
 refine ⟨?_, kn_here.below0⟩
 have e : numI n = ⟨#[UInt8.ofNat ((48 + n).toNat)]⟩ := by
  obtain ⟨k, rfl⟩ := Int.eq_ofNat_of_zero_le h0
  unfold numI Lib.itoa
  rw [if_neg (by omega), Lib.decDigits, dif_pos (by simp; omega)]
  rfl
 rw [e]
theorem toList_app (x y : ByteArray) : (x ++ y).data.toList = x.data.toList ++ y.data.toList := by simp
theorem digits_step (k : Nat) (h : 10 ≤ k) : Lib.decDigits k = Lib.decDigits (k / 10) ++ Lib.decDigits (k % 10) := by
 rw [Lib.decDigits, dif_neg (by omega)]
 congr 1
 rw [Lib.decDigits, dif_pos (by omega)]
theorem numS_list (n : Int) : (numI n).data.toList = Lib.itoa n := rfl
theorem numS_pos (n : Int) (h : 10 ≤ n) : numI n = numI (n / 10) ++ numI (n % 10) := by
 apply ba_ext
 rw [toList_app, numS_list, numS_list, numS_list]
 obtain ⟨k, rfl⟩ := Int.eq_ofNat_of_zero_le (show 0 ≤ n by omega)
 unfold Lib.itoa
 rw [if_neg (by omega), if_neg (by omega), if_neg (by omega)]
 have e1 : ((k : Int) / 10).toNat = k / 10 := by omega
 have e2 : ((k : Int) % 10).toNat = k % 10 := by omega
 rw [e1, e2, Int.toNat_natCast]
 exact digits_step k (by omega)
theorem numS_low (n : Int) (h : n < 0) : numI n = (⟨#[45]⟩ : ByteArray) ++ numI (-n) := by
 apply ba_ext
 rw [toList_app, numS_list, numS_list]
 unfold Lib.itoa
 rw [if_pos h, if_neg (by omega)]
 have e1 : (-n).toNat = n.natAbs := by omega
 rw [e1]; rfl
theorem tdiv_low (n : Int) (h : n ≤ 0) : n.tdiv 10 = -((-n) / 10) := by
 have := Int.neg_tdiv (-n) 10
 rw [Int.neg_neg] at this
 rw [this, Int.tdiv_eq_ediv_of_nonneg (by omega)]
theorem tmod_low (n : Int) (h : n ≤ 0) : n.tmod 10 = -((-n) % 10) := by
 have := Int.neg_tmod (-n) 10
 rw [Int.neg_neg] at this
 rw [this, Int.tmod_eq_emod_of_nonneg (by omega)]
theorem numS_neg (n : Int) (h : n ≤ -10) : numI n = numI (n.tdiv 10) ++ numI (-(n.tmod 10)) := by
 obtain ⟨k, rfl⟩ : ∃ k : Nat, n = -(k : Int) := ⟨n.natAbs, by omega⟩
 have e0 : (-(k : Int)).tdiv 10 = -((k / 10 : Nat) : Int) := by rw [Int.neg_tdiv]; simp [Int.tdiv_eq_ediv]
 have e1 : -((-(k : Int)).tmod 10) = ((k % 10 : Nat) : Int) := by rw [Int.neg_tmod]; simp [Int.tmod_eq_emod]
 rw [e0, e1]
 apply ba_ext
 rw [toList_app, numS_list, numS_list, numS_list]
 unfold Lib.itoa
 rw [if_pos (by omega), if_pos (by omega), if_neg (by omega)]
 have a1 : (-(k : Int)).natAbs = k := by omega
 have a2 : (-((k / 10 : Nat) : Int)).natAbs = k / 10 := by omega
 rw [a1, a2, Int.toNat_natCast, digits_step k (by omega)]
 rfl
theorem refDec_pos (n : Int) (h10 : 10 ≤ n) (h0 : -9223372036854775808 ≤ n) (h1 : n ≤ 9223372036854775807) (w : World)
    (H0 : ∀ W, Calls Tryz.prog 55 #[.int .i64 (n / 10)] W fun e w' => e = .returned (.string (numI (n / 10))) ∧ Below W.heap.size W w')
    (H1 : ∀ W, Calls Tryz.prog 55 #[.int .i64 (n % 10)] W fun e w' => e = .returned (.string (numI (n % 10))) ∧ Below W.heap.size W w') :
    Calls Tryz.prog 55 #[.int .i64 n] w fun e w' => e = .returned (.string (numI n)) ∧ Below w.heap.size w w' := by
  obtain ⟨s0, hs0⟩ : ∃ x, numI (n / 10) = x := ⟨_, rfl⟩
  have hz0 : s0.size ≤ 22 := by rw [← hs0]; exact num_sz (n / 10) ⟨by omega, by omega⟩
  have K0 := Lib.hid (hs0 ▸ H0)
  obtain ⟨s1, hs1⟩ : ∃ x, numI (n % 10) = x := ⟨_, rfl⟩
  have hz1 : s1.size ≤ 22 := by rw [← hs1]; exact num_sz (n % 10) ⟨by omega, by omega⟩
  have K1 := Lib.hid (hs1 ▸ H1)
  have HE : Hid (numI n = s0 ++ s1) := Lib.hid (by rw [← hs0, ← hs1]; exact numS_pos n h10)
  clear hs0 H0 hs1 H1
  have hL : Kn [] w w [] := Kn.refl [] w; have hF := hL.fx; go_enter Tryz.func55, Tryz.ntmps55
  go_wp2_with (first | (go_at_call 55; refine kn_calls ?_; (try clear hF); clear hL; intro W hL; have hF := hL.fx; (with_reducible refine (K0.out _).mono ?_); rintro e W ⟨rfl, hb⟩; replace hL := hL.below hb; clear hb; (try clear hF); have hF := hL.fx) | (go_at_call 55; refine kn_calls ?_; (try clear hF); clear hL; intro W hL; have hF := hL.fx; (with_reducible refine (K1.out _).mono ?_); rintro e W ⟨rfl, hb⟩; replace hL := hL.below hb; clear hb; (try clear hF); have hF := hL.fx))
  refine bodyPost_ret (by simp [results, Tryz.results55, go_sem, *]; try rfl) rfl ?_
  exact ⟨by rw [HE.out], kn_here.below0⟩
theorem refDec_neg (n : Int) (h10 : n ≤ -10) (h0 : -9223372036854775808 ≤ n) (h1 : n ≤ 9223372036854775807) (w : World)
    (H0 : ∀ W, Calls Tryz.prog 55 #[.int .i64 (n.tdiv 10)] W fun e w' => e = .returned (.string (numI (n.tdiv 10))) ∧ Below W.heap.size W w')
    (H1 : ∀ W, Calls Tryz.prog 55 #[.int .i64 (-(n.tmod 10))] W fun e w' => e = .returned (.string (numI (-(n.tmod 10)))) ∧ Below W.heap.size W w') :
    Calls Tryz.prog 55 #[.int .i64 n] w fun e w' => e = .returned (.string (numI n)) ∧ Below w.heap.size w w' := by
  have d1 := tdiv_low n (by omega)
  have d2 := tmod_low n (by omega)
  obtain ⟨s0, hs0⟩ : ∃ x, numI (n.tdiv 10) = x := ⟨_, rfl⟩
  have hz0 : s0.size ≤ 22 := by rw [← hs0]; exact num_sz (n.tdiv 10) ⟨by omega, by omega⟩
  have K0 := Lib.hid (hs0 ▸ H0)
  obtain ⟨s1, hs1⟩ : ∃ x, numI (-(n.tmod 10)) = x := ⟨_, rfl⟩
  have hz1 : s1.size ≤ 22 := by rw [← hs1]; exact num_sz (-(n.tmod 10)) ⟨by omega, by omega⟩
  have K1 := Lib.hid (hs1 ▸ H1)
  have HE : Hid (numI n = s0 ++ s1) := Lib.hid (by rw [← hs0, ← hs1]; exact numS_neg n h10)
  have hw : wrap64 (-(n.tmod 10)) = -(n.tmod 10) := by unfold wrap64; omega
  clear d1 d2 hs0 H0 hs1 H1
  have hL : Kn [] w w [] := Kn.refl [] w; have hF := hL.fx; go_enter Tryz.func55, Tryz.ntmps55
  go_wp2_with (first | (go_at_call 55; refine kn_calls ?_; (try clear hF); clear hL; intro W hL; have hF := hL.fx; (with_reducible refine (K0.out _).mono ?_); rintro e W ⟨rfl, hb⟩; replace hL := hL.below hb; clear hb; (try clear hF); have hF := hL.fx) | (go_at_call 55; refine kn_calls ?_; (try clear hF); clear hL; intro W hL; have hF := hL.fx; (with_reducible refine (K1.out _).mono ?_); rintro e W ⟨rfl, hb⟩; replace hL := hL.below hb; clear hb; (try clear hF); have hF := hL.fx))
  refine bodyPost_ret (by simp [results, Tryz.results55, go_sem, *]; try rfl) rfl ?_
  exact ⟨by rw [HE.out], kn_here.below0⟩
theorem refDec_low (n : Int) (h10 : -10 < n) (h11 : n < 0) (h0 : -9223372036854775808 ≤ n) (h1 : n ≤ 9223372036854775807) (w : World)
  (H0 : ∀ W, Calls Tryz.prog 55 #[.int .i64 (-n)] W fun e w' => e = .returned (.string (numI (-n))) ∧ Below W.heap.size W w') :
  Calls Tryz.prog 55 #[.int .i64 n] w fun e w' => e = .returned (.string (numI n)) ∧ Below w.heap.size w w' := by
 obtain ⟨s0, hs0⟩ : ∃ x, numI (-n) = x := ⟨_, rfl⟩
 have hz0 : s0.size ≤ 22 := by rw [← hs0]; exact num_sz (-n) ⟨by omega, by omega⟩
 have K0 := Lib.hid (hs0 ▸ H0)
 have HE : Hid (numI n = (⟨#[45]⟩ : ByteArray) ++ s0) := Lib.hid (by rw [← hs0]; exact numS_low n h11)
 clear hs0 H0
 have hL : Kn [] w w [] := Kn.refl [] w; have hF := hL.fx; go_enter Tryz.func55, Tryz.ntmps55
 go_wp2_with ((go_at_call 55; refine kc (fun W hL => K0.out _) ?_; clear hF hL; intro W hL hF))
 refine bodyPost_ret (by simp [results, Tryz.results55, go_sem, *]; try rfl) rfl ?_
 exact ⟨by rw [HE.out], kn_here.below0⟩
theorem refDec_any : ∀ (m : Nat) (n : Int), n.natAbs ≤ m → -9223372036854775808 ≤ n → n ≤ 9223372036854775807 → ∀ w : World,
    Calls Tryz.prog 55 #[.int .i64 n] w fun e w' => e = .returned (.string (numI n)) ∧ Below w.heap.size w w' := by
  intro m
  induction m with
  | zero => intro n hm h0 h1 w; exact refDec_small n (by omega) (by omega) w
  | succ m ih =>
    intro n hm h0 h1 w
    by_cases c1 : 0 ≤ n ∧ n < 10
    · exact refDec_small n c1.1 c1.2 w
    · by_cases c2 : 10 ≤ n
      · exact refDec_pos n c2 h0 h1 w (fun W => ih (n / 10) (by omega) (by omega) (by omega) W) (fun W => refDec_small (n % 10) (by omega) (by omega) W)
      · by_cases c3 : n ≤ -10
        · have d1 := tdiv_low n (by omega)
          have d2 := tmod_low n (by omega)
          exact refDec_neg n c3 h0 h1 w (fun W => ih (n.tdiv 10) (by omega) (by omega) (by omega) W) (fun W => refDec_small (-(n.tmod 10)) (by omega) (by omega) W)
        · exact refDec_low n (by omega) (by omega) h0 h1 w (fun W => refDec_small (-n) (by omega) (by omega) W)
theorem refDecimal_any (n : Int) (h : -9223372036854775808 ≤ n ∧ n ≤ 9223372036854775807) (w : World) :
  Calls Tryz.prog 55 #[.int .i64 n] w fun e w' => e = .returned (.string (numI n)) ∧ Below w.heap.size w w' := refDec_any n.natAbs n (Nat.le_refl _) h.1 h.2 w
end Go.Proofs.YtfdlifhkeicnnaaGreatDoor
