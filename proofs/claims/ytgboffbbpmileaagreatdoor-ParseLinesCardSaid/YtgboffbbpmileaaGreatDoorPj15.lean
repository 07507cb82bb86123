/- Lemmas and walks for the law of this seat (part 15). -/
import Derived.Test.YtgboffbbpmileaaGreatDoorPj14
import Derived.Test.YtgboffbbpmileaaGreatDoorProg
import Derived.WalkKit
import Derived.Handy
import Derived.Deep.Light
import Derived.WalkSmall
import Derived.StillTailTactics
import Derived.Lib.Hide
import Derived.Deep.LoopGhost
import Derived.Deep.DeepCutAuto
set_option maxRecDepth 20000
set_option maxHeartbeats 4000000
set_option linter.unusedVariables false
set_option linter.unusedSimpArgs false
namespace Go.Proofs.YtgboffbbpmileaaGreatDoor
open Go Go.RowKit
theorem redir_c {W0 : World} {g o cap : Nat} {tvs : List (Tok × Value)} (E : PEnv W0 g o cap tvs) (b i : Nat) (v : Value) (d : Nat) (w : World) (hB : Below W0.heap.size W0 w) (hbb : W0.heap.size ≤ b) (hv : Hid (AtV g o cap tvs i v)) (hb : w.heap[b]? = some (.cells #[v, .int .i64 (d : Int)] 73 (0, 0))) (hne : (TT tvs).drop i ≠ []) : Calls Tryz.prog 145 #[.pointer (some ⟨b, 0, none⟩)] w fun e w' => POut b d g o cap tvs w (RedV tvs) (redir ((TT tvs).drop i)) e w' := by
 obtain ⟨x, pa, pn, pc, hx, hx2⟩ := E.tok hv.out
 have HX := Lib.hid hx
 have HX2 := Lib.hid hx2
 have f0 := tkf0 x.1.kind x.1.fd x.1.line ⟨x.1.text.toArray⟩ ⟨x.1.plain.toArray⟩ pa pn pc
 have f1 := tkf1 x.1.kind x.1.fd x.1.line ⟨x.1.text.toArray⟩ ⟨x.1.plain.toArray⟩ pa pn pc
 have f2 := tkf2 x.1.kind x.1.fd x.1.line ⟨x.1.text.toArray⟩ ⟨x.1.plain.toArray⟩ pa pn pc
 have f3 := tkf3 x.1.kind x.1.fd x.1.line ⟨x.1.text.toArray⟩ ⟨x.1.plain.toArray⟩ pa pn pc
 have f4 := tkf4 x.1.kind x.1.fd x.1.line ⟨x.1.text.toArray⟩ ⟨x.1.plain.toArray⟩ pa pn pc
 have f5 := tkf5 x.1.kind x.1.fd x.1.line ⟨x.1.text.toArray⟩ ⟨x.1.plain.toArray⟩ pa pn pc
 clear hx hx2
 have h4 : x.1.kind ≠ 4 := by rcases drop_at E HX.out with h | h; exact absurd h.1 hne; exact h.2.1
 have hd : redir ((TT tvs).drop i) = (wordP ((TT tvs).drop (i + 1))).bind fun w r => .ok (mkRedir x.1 w) r := by
  rcases drop_at E HX.out with h | h
  ·exact absurd h.1 hne
  ·rw [h.1]; rfl
 rw [hd]
 obtain ⟨kx, hkx⟩ : ∃ k, Lib.idxOfS rxL ⟨x.1.text.toArray⟩ = k := ⟨_, rfl⟩
 have hrx := rx_idx ⟨x.1.text.toArray⟩
 rw [hkx] at hrx
 have HRX := Lib.hid hrx
 have HIX := Lib.hid (fun (zb : Nat) (W : World) (h : ∀ j, j < rxL.length → W.cell? ⟨zb, 0 + j, none⟩ = some (.string (rxL.getD j ByteArray.empty))) => (Tryz.slices_Index_string zb 0 3 3 rxL ⟨x.1.text.toArray⟩ W (by decide) (by decide) h).mono (R' := fun e w' => e = .returned (.int .i64 kx) ∧ w' = W) fun e w' h => ⟨by rw [h.1]; exact congrArg _ (congrArg _ hkx), h.2⟩)
 obtain ⟨k1, hk1⟩ : ∃ k : Bool, (decide (kx < 0)) = k := ⟨_, rfl⟩
 obtain ⟨k2, hk2⟩ : ∃ k : Bool, (decide (x.1.fd < 0)) = k := ⟨_, rfl⟩
 have HK1 := Lib.hid hk1
 have HK2 := Lib.hid hk2
 have H4 := Lib.hid h4
 clear hne h4 hd hkx hrx
 have HB0 := Lib.hid hB
 have HXB := Lib.hid (show ∀ y ∈ [b], W0.heap.size ≤ y from by simpa using hbb)
 have hL : Kn [b] w w [(b, .cells #[v, .int .i64 (d : Int)] 73 (0, 0))] := Kn.one hb
 have HBS := Lib.hid hb
 clear hB hb
 have hF := hL.fx
 have HW := Lib.hid (fun vj (hvj : Hid (AtV g o cap tvs (i + 1) vj)) W hB hb => word_c E b (i + 1) vj d W hB hbb hvj hb)
 cases hw : wordP ((TT tvs).drop (i + 1)) with
 | bad er m =>
  rw [hw] at HW
  clear hw
  cases k1 <;> cases k2 <;> (
   go_enter Tryz.func145, Tryz.ntmps145
   go_wp2_with (first | ((with_reducible refine zS ?_); clear hF hL; intro W hL hF) | (go_at_call 53; refine zG ?_; clear hF hL; intro W hL hF; (with_reducible refine (pass_i E b i v (d : Int) _ (kn_bw HB0.out hL HXB.out) hbb hv (by (exact hL.has _ (List.mem_cons_of_mem _ List.mem_cons_self))) HX.out pa pn pc HX2.out H4.out).mono ?_); rintro e W ⟨rfl, vj, HVJ, hb⟩; ((replace hL := hL.join1 1 rfl hb)); clear hb hF; simp only [List.eraseIdx_cons_zero, List.eraseIdx_cons_succ, List.cons_append, List.nil_append] at hL; have hF := hL.fx) | ((with_reducible refine at_region 2 ?_); refine kn_wp ?_; clear hF hL; intro W hL; have hF := hL.fx; refine reg_of (by kernel_rfl) ?_; refine reg_split 7 2 (by decide) (by decide) (by decide) ?_ ?_; (focus (dsimp only [addE]; refine kn_regAny0 [0, 1, 3, 4, 7, 2, 5, 6, 8] [0, 1, 3, 4, 6] [8] [0, 3, 6] (by kernel_rfl) (List.Sublist.refl _) ?_; clear hF hL; intro ι F hne hC hFF; have hG := fun n => (hFF n).fx; clear hFF; (repeat (first | (refine cS ?_) | (refine cF hC ?_; intro K hK; go_big_quiet_op; go_big_quiet_on) | (refine cP ?_; intro K hK; go_big_quiet_op; go_big_quiet_on) | (refine cC ?_; intro W hL; have hF := hL.fx; simp only [zA, Act.eval]; go_at_call 118; (with_reducible refine (HIX.out _ _ (three_words hL (by (exact List.mem_cons_self)))).mono ?_); rintro e W' ⟨rfl, rfl⟩; refine zO ?_; clear hL hF; simp only [Act.put, zT]) | (refine cN ?_; intro W hL; have hF := hL.fx; go_wp2; (first | (refine zB2 ?_; clear hL hF hC hG; intro ι F hne hC hG) | (refine zO2 ?_; clear hL hF))))); refine cwk_nil ?_; clear hC hG; intro W hL; simp only [kfb] at hL; have hF := hL.fx)); rotate_left; (focus (refine reg_split 7 5 (by decide) (by decide) (by decide) ?_ ?_; (focus (dsimp only [addE]; refine kn_regAny0 [0, 1, 3, 4, 2, 7, 5, 6, 8] [0, 1, 3, 4, 6] [8] [0, 3, 6] (by kernel_rfl) (List.Sublist.refl _) ?_; clear hF hL; intro ι F hne hC hFF; have hG := fun n => (hFF n).fx; clear hFF; (repeat (first | (refine cS ?_) | (refine cF hC ?_; intro K hK; go_big_quiet_op; go_big_quiet_on) | (refine cP ?_; intro K hK; go_big_quiet_op; go_big_quiet_on) | (refine cC ?_; intro W hL; have hF := hL.fx; simp only [zA, Act.eval]; go_at_call 118; (with_reducible refine (HIX.out _ _ (three_words hL (by (exact (List.mem_cons_of_mem _ List.mem_cons_self))))).mono ?_); rintro e W' ⟨rfl, rfl⟩; refine zO ?_; clear hL hF; simp only [Act.put, zT]) | (refine cN ?_; intro W hL; have hF := hL.fx; go_wp2; (first | (refine zB2 ?_; clear hL hF hC hG; intro ι F hne hC hG) | (refine zO2 ?_; clear hL hF))))); refine cwk_nil ?_; clear hC hG; intro W hL; simp only [kfb] at hL; have hF := hL.fx)); rotate_left; (focus ((dsimp only [addE]; refine kn_regAny0 [0, 1, 3, 4, 2, 5, 6, 7, 8] [0, 1, 3, 4, 6] [8] [0, 3, 6] (by kernel_rfl) (List.Sublist.refl _) ?_; clear hF hL; intro ι F hne hC hFF; have hG := fun n => (hFF n).fx; clear hFF; (repeat (first | (refine cS ?_) | (refine cF hC ?_; intro K hK; go_big_quiet_op; go_big_quiet_on) | (refine cP ?_; intro K hK; go_big_quiet_op; go_big_quiet_on) | (refine cC ?_; intro W hL; have hF := hL.fx; simp only [zA, Act.eval]; go_at_call 118; (with_reducible refine (HIX.out _ _ (three_words hL (by (exact List.mem_cons_self)))).mono ?_); rintro e W' ⟨rfl, rfl⟩; refine zO ?_; clear hL hF; simp only [Act.put, zT]) | (refine cN ?_; intro W hL; have hF := hL.fx; go_wp2; (first | (refine zB2 ?_; clear hL hF hC hG; intro ι F hne hC hG) | (refine zO2 ?_; clear hL hF))))); refine cwk_nil ?_; clear hC hG; intro W hL; simp only [kfb] at hL; have hF := hL.fx)))))) | (go_at_call 164; refine zG ?_; clear hF hL; intro W hL hF; (with_reducible refine (HW.out _ HVJ _ (kn_bw HB0.out hL HXB.out) (by (exact hL.has _ (List.mem_cons_of_mem _ (List.mem_cons_of_mem _ (List.mem_cons_of_mem _ List.mem_cons_self)))))).mono ?_); rintro e W ⟨vj2, dj, rfl, hb⟩; ((replace hL := hL.join1 3 rfl hb)); clear hb hF; simp only [List.eraseIdx_cons_zero, List.eraseIdx_cons_succ, List.cons_append, List.nil_append] at hL; have hF := hL.fx))
   all_goals exact ⟨rfl, _, _, rfl, hL.sub (by repeat' (first | exact List.Sublist.refl _ | apply List.Sublist.cons_cons | apply List.Sublist.cons))⟩)
 | ok ps r =>
  rw [hw] at HW
  clear hw
  cases k1 <;> cases k2 <;> (
   go_enter Tryz.func145, Tryz.ntmps145
   go_wp2_with (first | ((with_reducible refine zS ?_); clear hF hL; intro W hL hF) | (go_at_call 53; refine zG ?_; clear hF hL; intro W hL hF; (with_reducible refine (pass_i E b i v (d : Int) _ (kn_bw HB0.out hL HXB.out) hbb hv (by (exact hL.has _ (List.mem_cons_of_mem _ List.mem_cons_self))) HX.out pa pn pc HX2.out H4.out).mono ?_); rintro e W ⟨rfl, vj, HVJ, hb⟩; ((replace hL := hL.join1 1 rfl hb)); clear hb hF; simp only [List.eraseIdx_cons_zero, List.eraseIdx_cons_succ, List.cons_append, List.nil_append] at hL; have hF := hL.fx) | ((with_reducible refine at_region 2 ?_); refine kn_wp ?_; clear hF hL; intro W hL; have hF := hL.fx; refine reg_of (by kernel_rfl) ?_; refine reg_split 7 2 (by decide) (by decide) (by decide) ?_ ?_; (focus (dsimp only [addE]; refine kn_regAny0 [0, 1, 3, 4, 7, 2, 5, 6, 8] [0, 1, 3, 4, 6] [8] [0, 3, 6] (by kernel_rfl) (List.Sublist.refl _) ?_; clear hF hL; intro ι F hne hC hFF; have hG := fun n => (hFF n).fx; clear hFF; (repeat (first | (refine cS ?_) | (refine cF hC ?_; intro K hK; go_big_quiet_op; go_big_quiet_on) | (refine cP ?_; intro K hK; go_big_quiet_op; go_big_quiet_on) | (refine cC ?_; intro W hL; have hF := hL.fx; simp only [zA, Act.eval]; go_at_call 118; (with_reducible refine (HIX.out _ _ (three_words hL (by (exact List.mem_cons_self)))).mono ?_); rintro e W' ⟨rfl, rfl⟩; refine zO ?_; clear hL hF; simp only [Act.put, zT]) | (refine cN ?_; intro W hL; have hF := hL.fx; go_wp2; (first | (refine zB2 ?_; clear hL hF hC hG; intro ι F hne hC hG) | (refine zO2 ?_; clear hL hF))))); refine cwk_nil ?_; clear hC hG; intro W hL; simp only [kfb] at hL; have hF := hL.fx)); rotate_left; (focus (refine reg_split 7 5 (by decide) (by decide) (by decide) ?_ ?_; (focus (dsimp only [addE]; refine kn_regAny0 [0, 1, 3, 4, 2, 7, 5, 6, 8] [0, 1, 3, 4, 6] [8] [0, 3, 6] (by kernel_rfl) (List.Sublist.refl _) ?_; clear hF hL; intro ι F hne hC hFF; have hG := fun n => (hFF n).fx; clear hFF; (repeat (first | (refine cS ?_) | (refine cF hC ?_; intro K hK; go_big_quiet_op; go_big_quiet_on) | (refine cP ?_; intro K hK; go_big_quiet_op; go_big_quiet_on) | (refine cC ?_; intro W hL; have hF := hL.fx; simp only [zA, Act.eval]; go_at_call 118; (with_reducible refine (HIX.out _ _ (three_words hL (by (exact (List.mem_cons_of_mem _ List.mem_cons_self))))).mono ?_); rintro e W' ⟨rfl, rfl⟩; refine zO ?_; clear hL hF; simp only [Act.put, zT]) | (refine cN ?_; intro W hL; have hF := hL.fx; go_wp2; (first | (refine zB2 ?_; clear hL hF hC hG; intro ι F hne hC hG) | (refine zO2 ?_; clear hL hF))))); refine cwk_nil ?_; clear hC hG; intro W hL; simp only [kfb] at hL; have hF := hL.fx)); rotate_left; (focus ((dsimp only [addE]; refine kn_regAny0 [0, 1, 3, 4, 2, 5, 6, 7, 8] [0, 1, 3, 4, 6] [8] [0, 3, 6] (by kernel_rfl) (List.Sublist.refl _) ?_; clear hF hL; intro ι F hne hC hFF; have hG := fun n => (hFF n).fx; clear hFF; (repeat (first | (refine cS ?_) | (refine cF hC ?_; intro K hK; go_big_quiet_op; go_big_quiet_on) | (refine cP ?_; intro K hK; go_big_quiet_op; go_big_quiet_on) | (refine cC ?_; intro W hL; have hF := hL.fx; simp only [zA, Act.eval]; go_at_call 118; (with_reducible refine (HIX.out _ _ (three_words hL (by (exact List.mem_cons_self)))).mono ?_); rintro e W' ⟨rfl, rfl⟩; refine zO ?_; clear hL hF; simp only [Act.put, zT]) | (refine cN ?_; intro W hL; have hF := hL.fx; go_wp2; (first | (refine zB2 ?_; clear hL hF hC hG; intro ι F hne hC hG) | (refine zO2 ?_; clear hL hF))))); refine cwk_nil ?_; clear hC hG; intro W hL; simp only [kfb] at hL; have hF := hL.fx)))))) | (go_at_call 164; refine zG ?_; clear hF hL; intro W hL hF; (with_reducible refine (HW.out _ HVJ _ (kn_bw HB0.out hL HXB.out) (by (exact hL.has _ (List.mem_cons_of_mem _ (List.mem_cons_of_mem _ (List.mem_cons_of_mem _ List.mem_cons_self)))))).mono ?_); rintro e W ⟨_, j2, v2, rfl, ⟨x2, pa2, pn2, pc2, hm2, hq2, rfl, hps⟩, HV2, hb⟩; ((replace hL := hL.join1 3 rfl hb)); clear hb hF; simp only [List.eraseIdx_cons_zero, List.eraseIdx_cons_succ, List.cons_append, List.nil_append] at hL; have hF := hL.fx; have g3 := tkf3 x2.1.kind x2.1.fd x2.1.line ⟨x2.1.text.toArray⟩ ⟨x2.1.plain.toArray⟩ pa2 pn2 pc2))
   all_goals (
    refine kn_body ?_; clear hF hL; intro W hL; simp only [kfb] at hL; have hF := hL.fx
    refine bodyPost_ret (by simp [results, Tryz.results145, go_sem, *]; try rfl) rfl ?_
    exact ⟨_, j2, v2, rfl, ⟨x2, pa2, pn2, pc2, hm2, hq2, by have hv9 := red_val x.1 ps kx _ _ HRX.out HK1.out HK2.out; rw [(Prod.mk.inj hv9).1, (Prod.mk.inj hv9).2]; rfl, hps⟩, HV2, hL.sub (by repeat' (first | exact List.Sublist.refl _ | apply List.Sublist.cons_cons | apply List.Sublist.cons))⟩))
end Go.Proofs.YtgboffbbpmileaaGreatDoor
set_option maxRecDepth 20000
set_option maxHeartbeats 4000000
set_option linter.unusedVariables false
set_option linter.unusedSimpArgs false
namespace Go.Proofs.YtgboffbbpmileaaGreatDoor
open Go Go.RowKit
theorem simpleL_end {f : Nat} {x : Sim} {ts : List Tok} (h2 : isK 2 ts = false) (h0 : isK 0 ts = false) : simpleL f x ts = .ok x.nd ts := by
 cases f with
 | zero => rfl
 | succ f =>
  cases ts with
  | nil => rfl
  | cons t r =>
   simp only [isK, beq_eq_false_iff_ne, ne_eq] at h2 h0
   simp only [simpleL]
   rw [if_neg h2, if_neg h0]
theorem simpleL_rd {f : Nat} {x : Sim} {ts : List Tok} (h2 : isK 2 ts = true) (hf : ts.length ≤ f) : ∃ f', f = f' + 1 ∧ simpleL f x ts = (redir ts).bind fun y r => simpleL f' ⟨x.a, x.w, x.r ++ [y]⟩ r := by
 cases ts with
 | nil => cases h2
 | cons t r =>
  cases f with
  | zero => simp at hf
  | succ f =>
   simp only [isK, beq_iff_eq] at h2
   refine ⟨f, rfl, ?_⟩
   simp only [simpleL]
   rw [if_pos h2]
theorem simpleL_wd {f : Nat} {x : Sim} {t : Tok} {r : List Tok} (h0 : t.kind = 0) (hf : r.length + 1 ≤ f) : ∃ f', f = f' + 1 ∧ simpleL f x (t :: r) = simpleL f' (x.word t.parts) r := by
 cases f with
 | zero => omega
 | succ f =>
  refine ⟨f, rfl, ?_⟩
  simp only [simpleL]
  rw [if_neg (by omega), if_pos h0]
theorem redir_len {ts : List Tok} {y : Int × Nat × List Prt} {r : List Tok} (h : redir ts = .ok y r) : r.length + 2 ≤ ts.length := by
 have := wi_redir ts
 rw [h] at this
 exact this.2
theorem rowM_slice {k : Nat} {W0 : World} {L : List (Nat × Obj)} {v : Value} {xs : List (List Value)} (h : RowM k W0 L v xs) : ∃ ao n cap, v = .slice ao n cap := by
 obtain ⟨ao, cap, h1, _⟩ := h; exact ⟨ao, _, cap, h1⟩
theorem at_lt {i g o cap : Nat} {tvs : List (Tok × Value)} {j : Nat} {vj : Value} (h : AtV g o cap tvs j vj) {n : Nat} (e : ((TT tvs).drop j).length + n ≤ ((TT tvs).drop i).length) (hi : i < tvs.length) : i + n ≤ j := by
 have h1 := h.1
 rw [List.length_drop, List.length_drop, TT_len] at e
 omega
theorem sim_node {W0 : World} (av : List ((Bytes × List Prt) × Value)) (wv : List (List Prt × Value)) (rv : List ((Int × Nat × List Prt) × Value)) {aa aw ar : Option Addr} {ca cw cr : Nat} {LC LA LW LR : List (Nat × Obj)} (HRA : RowL 2 91 LA (.slice aa av.length ca) av.length (av.flatMap asc)) (HRW : RowL 1 29 LW (.slice aw wv.length cw) wv.length (wv.flatMap fun x => [x.2])) (HRR : RowL 3 94 LR (.slice ar rv.length cr) rv.length (rv.flatMap rsc))
  (HPA : ∀ x ∈ av, PRm W0 LC x.2 x.1.2) (HPW : ∀ x ∈ wv, PRm W0 [] x.2 x.1) (HPR : ∀ x ∈ rv, PRm W0 [] x.2 x.1.2.2) : NodeL W0 (LC ++ (LA ++ (LW ++ LR))) (Sim.nd ⟨av.map (·.1), wv.map (·.1), rv.map (·.1)⟩) [.int .i64 ((Sim.nd ⟨av.map (·.1), wv.map (·.1), rv.map (·.1)⟩).kind : Int), .string ⟨#[]⟩, .bool (Sim.nd ⟨av.map (·.1), wv.map (·.1), rv.map (·.1)⟩).neg, .slice aa av.length ca, .slice aw wv.length cw, .slice ar rv.length cr, .slice none 0 0] := by
 have m1 : ∀ p ∈ LA, p ∈ LC ++ (LA ++ (LW ++ LR)) := fun p hp => List.mem_append_right _ (List.mem_append_left _ hp)
 have m2 : ∀ p ∈ LW, p ∈ LC ++ (LA ++ (LW ++ LR)) := fun p hp => List.mem_append_right _ (List.mem_append_right _ (List.mem_append_left _ hp))
 have m3 : ∀ p ∈ LR, p ∈ LC ++ (LA ++ (LW ++ LR)) := fun p hp => List.mem_append_right _ (List.mem_append_right _ (List.mem_append_right _ hp))
 have r1 := RowL.rowM (W0 := W0) (f := asc) (fun _ => rfl) HRA m1
 have r2 := RowL.rowM (W0 := W0) (f := fun x : List Prt × Value => [x.2]) (fun _ => rfl) HRW m2
 have r3 := RowL.rowM (W0 := W0) (f := rsc) (fun _ => rfl) HRR m3
 show NodeL W0 _ (.mk 0 [] false (av.map (·.1)) (wv.map (·.1)) (rv.map (·.1)) (([] : List (Nd × List Value)).map (·.1))) [.int .i64 ((0 : Nat) : Int), bs [], .bool false, .slice aa av.length ca, .slice aw wv.length cw, .slice ar rv.length cr, .slice none 0 0]
 exact NodeL.mk 0 [] false av wv rv [] _ _ _ _ r1 (fun x hx => (HPA x hx).mono (fun p hp => List.mem_append_left _ hp)) r2 (fun x hx => (HPW x hx).mono (fun p hp => by cases hp)) r3 (fun x hx => (HPR x hx).mono (fun p hp => by cases hp)) RowM.nil (fun x hx => by cases hx)
theorem Kn.rot5A {X : List Nat} {w0 W : World} {p0 p1 p2 p3 p4 : Nat × Obj} {LC LA LW LR : List (Nat × Obj)} (h : Kn X w0 W (p0 :: p1 :: p2 :: p3 :: p4 :: (LC ++ (LA ++ (LW ++ LR))))) : Kn X w0 W (p0 :: p1 :: p2 :: p3 :: p4 :: ((LC ++ (LW ++ LR)) ++ LA)) := h.perm fun p => by simp only [List.countP_cons, List.countP_append]; omega
theorem Kn.rot5W {X : List Nat} {w0 W : World} {p0 p1 p2 p3 p4 : Nat × Obj} {LC LA LW LR : List (Nat × Obj)} (h : Kn X w0 W (p0 :: p1 :: p2 :: p3 :: p4 :: (LC ++ (LA ++ (LW ++ LR))))) : Kn X w0 W (p0 :: p1 :: p2 :: p3 :: p4 :: ((LC ++ (LA ++ LR)) ++ LW)) := h.perm fun p => by simp only [List.countP_cons, List.countP_append]; omega
theorem Kn.in3 {X : List Nat} {w0 W : World} {p0 p1 p2 : Nat × Obj} {LP LC R : List (Nat × Obj)} (h : Kn X w0 W (LP ++ (p0 :: p1 :: p2 :: (LC ++ R)))) : Kn X w0 W (p0 :: p1 :: p2 :: ((LP ++ LC) ++ R)) := h.perm fun p => by simp only [List.countP_cons, List.countP_append]; omega
theorem Kn.rot4R {X : List Nat} {w0 W : World} {p0 p1 p2 p3 : Nat × Obj} {LC LA LW LR : List (Nat × Obj)} (h : Kn X w0 W (p0 :: p1 :: p2 :: p3 :: (LC ++ (LA ++ (LW ++ LR))))) : Kn X w0 W (p0 :: p1 :: p2 :: p3 :: ((LC ++ (LA ++ LW)) ++ LR)) := h.perm fun p => by simp only [List.countP_cons, List.countP_append]; omega
/-- An assignment, with its value written out. -/
def AsgV (W0 : World) (r : Option (Bytes × List Prt)) (w : World) (e : Ending) (w' : World) : Prop := match r with
 | some z => ∃ LP ao k7 c7, e = .returned (.tuple #[.agg #[.string ⟨z.1.toArray⟩, .slice ao k7 c7], .bool true]) ∧ Hid (PRm W0 LP (.slice ao k7 c7) z.2) ∧ Kn [] w w' LP
 | none => e = .returned (.tuple #[.agg #[.string ⟨#[]⟩, .slice none 0 0], .bool false]) ∧ Below w.heap.size w w'
theorem AsgR.v {W0 : World} {r : Option (Bytes × List Prt)} {w : World} {e : Ending} {w' : World} (h : AsgR W0 r w e w') : AsgV W0 r w e w' := by
 cases r with
 | none => exact h
 | some z =>
  obtain ⟨n, p⟩ := z
  obtain ⟨LP, v, h1, h2, h3⟩ := h
  obtain ⟨ao, k7, c7, rfl⟩ := rowM_slice h2.out
  exact ⟨LP, ao, k7, c7, h1, h2, h3⟩
theorem sim_w1 (av : List ((Bytes × List Prt) × Value)) (wv : List (List Prt × Value)) (rv : List ((Int × Nat × List Prt) × Value)) {ps : List Prt} (v : Value) (h : assignment ps = none ∨ ((wv.length : Int) == 0) = false) : Sim.word ⟨av.map (·.1), wv.map (·.1), rv.map (·.1)⟩ ps = ⟨av.map (·.1), (wv ++ [(ps, v)]).map (·.1), rv.map (·.1)⟩ := by
 unfold Sim.word
 rw [List.map_append]
 rcases h with h | h
 ·rw [h]; rfl
 ·have : ((wv.map (·.1)).isEmpty) = false := by
   cases wv with
   | nil => cases h
   | cons x r => rfl
  cases assignment ps with
  | none => rfl
  | some y => simp only [this]; rfl
theorem sim_a1 (av : List ((Bytes × List Prt) × Value)) (wv : List (List Prt × Value)) (rv : List ((Int × Nat × List Prt) × Value)) {ps : List Prt} {z : Bytes × List Prt} (v : Value) (h : assignment ps = some z) (hw : ((wv.length : Int) == 0) = true) : Sim.word ⟨av.map (·.1), wv.map (·.1), rv.map (·.1)⟩ ps = ⟨(av ++ [(z, v)]).map (·.1), wv.map (·.1), rv.map (·.1)⟩ := by
 cases wv with
 | cons x r => exfalso; rw [beq_iff_eq] at hw; simp at hw; omega
 | nil => unfold Sim.word; rw [h, List.map_append]; rfl
theorem Kn.name {X : List Nat} {w0 W : World} {L L' : List (Nat × Obj)} [h : Kn X w0 W L] (k : Kn X w0 W L → Kn X w0 W L') : Kn X w0 W L' := k h
theorem all_snoc {α : Type} {P : α → Prop} {l : List α} {x : α} (h : ∀ y ∈ l, P y) (hx : P x) : ∀ y ∈ l ++ [x], P y := fun y hy => by
 rcases List.mem_append.1 hy with hy | hy
 ·exact h y hy
 ·rw [List.mem_singleton.1 hy]; exact hx
theorem sim_out {W0 : World} {b d j g o cap : Nat} {tvs : List (Tok × Value)} {w W : World} {vj : Value} (av : List ((Bytes × List Prt) × Value)) (wv : List (List Prt × Value)) (rv : List ((Int × Nat × List Prt) × Value)) {aa aw ar : Option Addr} {ca cw cr : Nat} {LC LA LW LR : List (Nat × Obj)} (HRA : RowL 2 91 LA (.slice aa av.length ca) av.length (av.flatMap asc)) (HRW : RowL 1 29 LW (.slice aw wv.length cw) wv.length (wv.flatMap fun x => [x.2])) (HRR : RowL 3 94 LR (.slice ar rv.length cr) rv.length (rv.flatMap rsc))
  (HPA : ∀ x ∈ av, PRm W0 LC x.2 x.1.2) (HPW : ∀ x ∈ wv, PRm W0 [] x.2 x.1) (HPR : ∀ x ∈ rv, PRm W0 [] x.2 x.1.2.2) (Hvj : AtV g o cap tvs j vj) {q1 q2 : Nat × Obj} (hL : Kn [b] w W ((b, .cells #[vj, .int .i64 (d : Int)] 73 (0, 0)) :: q1 :: q2 :: (LC ++ (LA ++ (LW ++ LR))))) :
  NOut W0 b d g o cap tvs w (.ok (Sim.nd ⟨av.map (·.1), wv.map (·.1), rv.map (·.1)⟩) ((TT tvs).drop j)) (.returned (.agg #[.int .i64 0, .string ⟨#[]⟩, .bool false, .slice aa av.length ca, .slice aw wv.length cw, .slice ar rv.length cr, .slice none 0 0])) W :=
 ⟨⟨#[]⟩, aa, av.length, ca, aw, wv.length, cw, ar, rv.length, cr, none, 0, 0, LC ++ (LA ++ (LW ++ LR)), j, vj, rfl, Lib.hid (sim_node av wv rv HRA HRW HRR HPA HPW HPR), Lib.hid ⟨Hvj, rfl⟩, hL.sub (List.Sublist.cons_cons _ (List.Sublist.cons _ (List.Sublist.cons _ (List.Sublist.refl _))))⟩
theorem sim_wd {W0 : World} {g o cap : Nat} {tvs : List (Tok × Value)} (E : PEnv W0 g o cap tvs) {i j : Nat} {y : Tok × Value} (hy : tvs[j]? = some y) (hk : isK 0 ((TT tvs).drop j) = true) (x : Sim) (HF : ∃ f, ((TT tvs).drop j).length ≤ f ∧ simple ((TT tvs).drop i) = simpleL f x ((TT tvs).drop j)) :
  y.1.kind ≠ 4 ∧ ∃ f, ((TT tvs).drop (j + 1)).length ≤ f ∧ simple ((TT tvs).drop i) = simpleL f (x.word y.1.parts) ((TT tvs).drop (j + 1)) := by
 rcases drop_at E hy with h | ⟨hdr, h4, _⟩
 ·rw [h.1] at hk; cases hk
 ·refine ⟨h4, ?_⟩
  obtain ⟨f, hf1, hf⟩ := HF
  rw [hdr] at hk hf1 hf
  rw [List.length_cons] at hf1
  have hy0 : y.1.kind = 0 := by simpa [isK] using hk
  obtain ⟨f2, rfl, hf3⟩ := simpleL_wd (f := f) (x := x) (t := { y.1 with line := 0 }) (r := (TT tvs).drop (j + 1)) hy0 hf1
  exact ⟨f2, by omega, by rw [hf, hf3]⟩
theorem sim_rd {ts r : List Tok} {y : Int × Nat × List Prt} (hk : isK 2 ts = true) (x : Sim) {p : PR Nd} (HF : ∃ f, ts.length ≤ f ∧ p = simpleL f x ts) (hr : redir ts = .ok y r) : ∃ f, r.length ≤ f ∧ p = simpleL f ⟨x.a, x.w, x.r ++ [y]⟩ r := by
 obtain ⟨f, hf1, hf⟩ := HF
 obtain ⟨f2, rfl, hf3⟩ := simpleL_rd (x := x) hk hf1
 have := redir_len hr
 exact ⟨f2, by omega, by rw [hf, hf3, hr]; rfl⟩
theorem sim_bad {ts : List Tok} {er m : Nat} (hk : isK 2 ts = true) (x : Sim) {p : PR Nd} (HF : ∃ f, ts.length ≤ f ∧ p = simpleL f x ts) (hr : redir ts = .bad er m) : p = .bad er m := by
 obtain ⟨f, hf1, hf⟩ := HF
 obtain ⟨f2, rfl, hf3⟩ := simpleL_rd (x := x) hk hf1
 rw [hf, hf3, hr]; rfl
theorem simple_c {W0 : World} {g o cap : Nat} {tvs : List (Tok × Value)} (E : PEnv W0 g o cap tvs) (b i : Nat) (v : Value) (d : Nat) (w : World) (hB : Below W0.heap.size W0 w) (hbb : W0.heap.size ≤ b) (hv : Hid (AtV g o cap tvs i v)) (hb : w.heap[b]? = some (.cells #[v, .int .i64 (d : Int)] 73 (0, 0))) : Calls Tryz.prog 123 #[.pointer (some ⟨b, 0, none⟩)] w fun e w' => NOut W0 b d g o cap tvs w (simple ((TT tvs).drop i)) e w' := by
 obtain ⟨x, pa, pn, pc, hx, hx2⟩ := E.tok hv.out
 have HX := Lib.hid hx
 have HX2 := Lib.hid hx2
 have f0 := tkf0 x.1.kind x.1.fd x.1.line ⟨x.1.text.toArray⟩ ⟨x.1.plain.toArray⟩ pa pn pc
 have f1 := tkf1 x.1.kind x.1.fd x.1.line ⟨x.1.text.toArray⟩ ⟨x.1.plain.toArray⟩ pa pn pc
 have f2 := tkf2 x.1.kind x.1.fd x.1.line ⟨x.1.text.toArray⟩ ⟨x.1.plain.toArray⟩ pa pn pc
 have f3 := tkf3 x.1.kind x.1.fd x.1.line ⟨x.1.text.toArray⟩ ⟨x.1.plain.toArray⟩ pa pn pc
 have f4 := tkf4 x.1.kind x.1.fd x.1.line ⟨x.1.text.toArray⟩ ⟨x.1.plain.toArray⟩ pa pn pc
 have f5 := tkf5 x.1.kind x.1.fd x.1.line ⟨x.1.text.toArray⟩ ⟨x.1.plain.toArray⟩ pa pn pc
 clear hx hx2
 obtain ⟨k0, hk0⟩ : ∃ z : Bool, ((x.1.kind : Int) != 0) = z := ⟨_, rfl⟩
 obtain ⟨k2, hk2⟩ : ∃ z : Bool, ((x.1.kind : Int) != 2) = z := ⟨_, rfl⟩
 have HS : simple ((TT tvs).drop i) = if (k0 && k2) = true then syn ((TT tvs).drop i) else simpleL ((TT tvs).drop i).length ⟨[], [], []⟩ ((TT tvs).drop i) := by
  unfold simple
  rw [k_at E HX.out 0 (by omega), k_at E HX.out 2 (by omega), show ((x.1.kind : Int) == ((0 : Nat) : Int)) = !k0 from by rw [← hk0]; exact (Bool.not_not _).symm, show ((x.1.kind : Int) == ((2 : Nat) : Int)) = !k2 from by rw [← hk2]; exact (Bool.not_not _).symm]
  cases k0 <;> cases k2 <;> rfl
 have hi := hv.out.1
 have hmx := E.max
 obtain ⟨m, hm⟩ : ∃ m, m = ((TT tvs).drop i).length := ⟨_, rfl⟩
 have Hm := Lib.hid hm
 clear hm
 by_cases hkk : (k0 && k2) = true
 ·rw [if_pos hkk] at HS
  rw [HS]
  clear HS
  have HB0 := Lib.hid hB
  have HXB := Lib.hid (show ∀ y ∈ [b], W0.heap.size ≤ y from by simpa using hbb)
  have hL : Kn [b] w w [(b, .cells #[v, .int .i64 (d : Int)] 73 (0, 0))] := Kn.one hb
  have HBS := Lib.hid hb
  clear hB hb
  have hF := hL.fx
  go_enter Tryz.func123, Tryz.ntmps123
  obtain ⟨rfl, rfl⟩ := (Bool.and_eq_true _ _ ▸ hkk : k0 = true ∧ k2 = true)
  go_wp2_with (first | ((with_reducible refine zS ?_); clear hL; intro W hL hF) | (go_at_call 27; refine zC (fun W hL => next_i E b i v (d : Int) _ (kn_bw HB0.out hL HXB.out) hbb hv (by (exact hL.has _ (List.mem_cons_of_mem _ (List.mem_cons_of_mem _ List.mem_cons_self)))) HX.out pa pn pc HX2.out ) ?_; clear hF hL; intro W hL hF) | (go_at_call 28; refine zG ?_; clear hF hL; intro W hL hF; (with_reducible refine (fail_c E b i v d _ (kn_bw HB0.out hL HXB.out) hbb hv (by (exact hL.has _ (List.mem_cons_of_mem _ (List.mem_cons_of_mem _ List.mem_cons_self)))) 27 d 1 (Lib.hid rfl) m Hm).mono ?_); rintro e W ⟨vj, dj, rfl, hb⟩; ((replace hL := hL.join1 2 rfl hb)); clear hb hF; simp only [List.eraseIdx_cons_zero, List.eraseIdx_cons_succ, List.cons_append, List.nil_append] at hL; have hF := hL.fx))
  exact ⟨rfl, _, _, by rw [Hm.out] <;> rfl, hL.sub (by repeat' (first | exact List.Sublist.refl _ | apply List.Sublist.cons_cons | apply List.Sublist.cons))⟩
 ·rw [if_neg hkk] at HS
  have HS2 := Lib.hid HS
  clear HS
  have HB0 := Lib.hid hB
  have HXB := Lib.hid (show ∀ y ∈ [b], W0.heap.size ≤ y from by simpa using hbb)
  have hL : Kn [b] w w [(b, .cells #[v, .int .i64 (d : Int)] 73 (0, 0))] := Kn.one hb
  have HBS := Lib.hid hb
  clear hB hb
  have hF := hL.fx
  go_enter Tryz.func123, Tryz.ntmps123
  go_upto_region 3 with ((go_at_call 27; refine zC (fun W hL => next_i E b i v (d : Int) _ (kn_bw HB0.out hL HXB.out) hbb hv (by (exact hL.has _ (List.mem_cons_of_mem _ (List.mem_cons_of_mem _ List.mem_cons_self)))) HX.out pa pn pc HX2.out ) ?_; clear hF hL; intro W hL hF))
  go_cut [17] (fun s wc => s = .bool false ∧ Kn [b] w wc ((b, .cells #[v, .int .i64 (d : Int)] 73 (0, 0)) :: (w.heap.size + 1, .cells #[.int .i64 0, .string ⟨#[]⟩, .bool false, .slice none 0 0, .slice none 0 0, .slice none 0 0, .slice none 0 0] 41 (0, 0)) :: (w.heap.size, .cells #[.int .i64 0, .string ⟨#[]⟩, .bool false, .slice none 0 0, .slice none 0 0, .slice none 0 0, .slice none 0 0] 41 (0, 0)) :: ([])))
  case first =>
   cases k0 <;> cases k2
   case true.true => exact absurd rfl hkk
   all_goals (
    go_wp2
    go_meet
    case rel => exact ⟨rfl, (hL.perml fun p => by simp only [List.countP_cons, List.countP_nil, List.countP_append, List.append_nil, List.nil_append, List.length_nil]; omega)⟩)
  case rest =>
   clear hL
   obtain ⟨rfl, hL⟩ := hcut
   have hF := hL.fx
   go_wp2
   go_loopg [] (tvs.length - i) (fun n wr => ∃ (j : Nat) (vj : Value) (av : List ((Bytes × List Prt) × Value)) (wv : List (List Prt × Value)) (rv : List ((Int × Nat × List Prt) × Value)) (aa aw ar : Option Addr) (ca cw cr : Nat) (LC LA LW LR : List (Nat × Obj)), n = tvs.length - j ∧ Hid (AtV g o cap tvs j vj) ∧ Hid (∃ f, ((TT tvs).drop j).length ≤ f ∧ simple ((TT tvs).drop i) = simpleL f ⟨av.map (·.1), wv.map (·.1), rv.map (·.1)⟩ ((TT tvs).drop j)) ∧ Hid (RowL 2 91 LA (.slice aa av.length ca) av.length (av.flatMap asc)) ∧ Hid (RowL 1 29 LW (.slice aw wv.length cw) wv.length (wv.flatMap fun x => [x.2])) ∧ Hid (RowL 3 94 LR (.slice ar rv.length cr) rv.length (rv.flatMap rsc)) ∧ Hid (∀ x ∈ av, PRm W0 LC x.2 x.1.2) ∧ Hid (∀ x ∈ wv, PRm W0 [] x.2 x.1) ∧ Hid (∀ x ∈ rv, PRm W0 [] x.2 x.1.2.2) ∧ av.length + wv.length + rv.length ≤ j ∧ j < tvs.length ∧ Kn [b] w wr ((b, .cells #[vj, .int .i64 (d : Int)] 73 (0, 0)) :: (w.heap.size + 1, .cells #[.int .i64 0, .string ⟨#[]⟩, .bool false, .slice aa av.length ca, .slice aw wv.length cw, .slice ar rv.length cr, .slice none 0 0] 41 (0, 0)) :: (w.heap.size, .cells #[.int .i64 0, .string ⟨#[]⟩, .bool false, .slice none 0 0, .slice none 0 0, .slice none 0 0, .slice none 0 0] 41 (0, 0)) :: (LC ++ (LA ++ (LW ++ LR)))))
   case atStart => exact ⟨i, v, [], [], [], none, none, none, 0, 0, 0, [], [], [], [], rfl, hv, Lib.hid ⟨_, Nat.le_refl _, HS2.out⟩, Lib.hid RowL.nil, Lib.hid RowL.nil, Lib.hid RowL.nil, Lib.hid (by simp), Lib.hid (by simp), Lib.hid (by simp), by simp, hi, (hL.perml fun p => by simp only [List.countP_cons, List.countP_nil, List.countP_append, List.append_nil, List.nil_append, List.length_nil]; omega)⟩
   case round =>
    clear hL
    obtain ⟨j, vj, av, wv, rv, aa, aw, ar, ca, cw, cr, LC, LA, LW, LR, rfl, Hvj, HF, HRA, HRW, HRR, HPA, HPW, HPR, hsz, hjl, hL⟩ := hrel
    have hF := hL.fx
    obtain ⟨y, pa9, pn9, pc9, hx9, hx29⟩ := E.tok Hvj.out
    have HX9 := Lib.hid hx9
    have HX29 := Lib.hid hx29
    have f09 := tkf0 y.1.kind y.1.fd y.1.line ⟨y.1.text.toArray⟩ ⟨y.1.plain.toArray⟩ pa9 pn9 pc9
    have f19 := tkf1 y.1.kind y.1.fd y.1.line ⟨y.1.text.toArray⟩ ⟨y.1.plain.toArray⟩ pa9 pn9 pc9
    have f29 := tkf2 y.1.kind y.1.fd y.1.line ⟨y.1.text.toArray⟩ ⟨y.1.plain.toArray⟩ pa9 pn9 pc9
    have f39 := tkf3 y.1.kind y.1.fd y.1.line ⟨y.1.text.toArray⟩ ⟨y.1.plain.toArray⟩ pa9 pn9 pc9
    have f49 := tkf4 y.1.kind y.1.fd y.1.line ⟨y.1.text.toArray⟩ ⟨y.1.plain.toArray⟩ pa9 pn9 pc9
    have f59 := tkf5 y.1.kind y.1.fd y.1.line ⟨y.1.text.toArray⟩ ⟨y.1.plain.toArray⟩ pa9 pn9 pc9
    clear hx9 hx29
    obtain ⟨e2, he2⟩ : ∃ z : Bool, ((y.1.kind : Int) == 2) = z := ⟨_, rfl⟩
    obtain ⟨e0, he0⟩ : ∃ z : Bool, ((y.1.kind : Int) == 0) = z := ⟨_, rfl⟩
    have HK2 := Lib.hid ((k_at E HX9.out 2 (by omega)).trans he2)
    have HK0 := Lib.hid ((k_at E HX9.out 0 (by omega)).trans he0)
    cases e2
    ·cases e0
     ·have hs9 : simple ((TT tvs).drop i) = .ok (Sim.nd ⟨av.map (·.1), wv.map (·.1), rv.map (·.1)⟩) ((TT tvs).drop j) := by
       obtain ⟨f, _, hf⟩ := HF.out
       rw [hf, simpleL_end HK2.out HK0.out]
      have HS9 := Lib.hid hs9
      clear hs9
      go_wp2_with (first | ((with_reducible refine zS ?_); clear hL; intro W hL hF) | (go_at_call 27; refine zC (fun W hL => next_i E b j vj (d : Int) _ (kn_bw HB0.out hL HXB.out) hbb Hvj (by (exact hL.has _ List.mem_cons_self)) HX9.out pa9 pn9 pc9 HX29.out ) ?_; clear hF hL; intro W hL hF))
      refine kn_body ?_; clear hF hL; intro W hL; simp only [kfb] at hL; have hF := hL.fx
      refine bodyPost_ret (by simp [results, Tryz.results123, go_sem, *]; try rfl) rfl ?_
      rw [HS9.out]
      exact sim_out av wv rv HRA.out HRW.out HRR.out HPA.out HPW.out HPR.out Hvj.out hL
     ·have hw9 := sim_wd E HX9.out HK0.out _ HF.out
      have H49 := Lib.hid hw9.1
      have HF2 := hw9.2
      clear hw9
      obtain ⟨kw, hkw⟩ : ∃ z : Bool, ((wv.length : Int) == 0) = z := ⟨_, rfl⟩
      have HKW := Lib.hid hkw
      have HASG := Lib.hid (fun W (hB : Below W0.heap.size W0 W) => (assignment_c E (List.mem_of_getElem? HX9.out) pa9 pn9 pc9 HX29.out W hB).mono fun _ _ h => h.v)
      have HPT := Lib.hid (prm_tok E (List.mem_of_getElem? HX9.out) (L := []))
      rw [HX29.out] at HPT
      cases has : assignment y.1.parts with
      | none =>
       rw [has] at HASG
       rw [sim_w1 av wv rv (.slice pa9 pn9 pc9) (.inl has)] at HF2
       have HF3 := Lib.hid HF2
       clear HF2 has
       go_wp2_with (first | ((with_reducible refine zS ?_); clear hL; intro W hL hF) | (go_at_call 27; refine zC (fun W hL => next_i E b j vj (d : Int) _ (kn_bw HB0.out hL HXB.out) hbb Hvj (by (exact hL.has _ List.mem_cons_self)) HX9.out pa9 pn9 pc9 HX29.out ) ?_; clear hF hL; intro W hL hF) | (go_at_call 53; refine zG ?_; clear hF hL; intro W hL hF; (with_reducible refine (pass_i E b j vj (d : Int) _ (kn_bw HB0.out hL HXB.out) hbb Hvj (by (exact hL.has _ List.mem_cons_self)) HX9.out pa9 pn9 pc9 HX29.out H49.out).mono ?_); rintro e W ⟨rfl, vj2, HVJ2, hb⟩; ((replace hL := hL.join1 0 rfl hb)); clear hb hF; simp only [List.eraseIdx_cons_zero, List.eraseIdx_cons_succ, List.cons_append, List.nil_append] at hL; have hF := hL.fx) | (go_at_call 147; refine zC (fun W hL => HASG.out _ (kn_bw HB0.out hL HXB.out)) ?_; clear hF hL; intro W hL hF) | (at_builtin; refine zL ?_; clear hF hL; intro W hL hF; replace hL := hL.rot5W; clear hF; have hF := hL.fx; go_loud (refine wpList_append_end rfl _ _ 37 37 rfl (_ :: _ :: _ :: _ :: _ :: (LC ++ (LA ++ LR))) LW hL wv.length 1 (wv.flatMap fun x => [x.2]) [.slice pa9 pn9 pc9] _ _ HRW.out rfl rfl (fun ho => run_append_Wd rfl (fun j u hu => by rw [Go.WideShapes.add_plain, Nat.zero_add, kn_cell hL List.mem_cons_self]; simpa using hu) (by intro u hu; simp only [List.mem_cons, List.not_mem_nil, or_false] at hu; subst hu; rfl) (by omega) ho) ?_); intro LP3 a3 c3 W3 hL2 hr3; clear hL hF; have hL := hL2; clear hL2; simp only [List.append_eq, List.cons_append, List.nil_append] at hL; have hF := hL.fx))
       go_roundg (tvs.length - (j + 1))
       case measure => have := HVJ2.out.1; omega
       case rel => exact ⟨j + 1, vj2, av, wv ++ [(y.1.parts, .slice pa9 pn9 pc9)], rv, aa, a3, ar, ca, c3, cr, LC, LA, LP3, LR, rfl, HVJ2, HF3, HRA, Lib.hid (by simpa using hr3), HRR, HPA, Lib.hid (all_snoc HPW.out HPT.out), HPR, by have := HVJ2.out.1; simp only [List.length_append, List.length_singleton]; omega, by have := HVJ2.out.1; omega, by refine Kn.name ?_; clear hL; intro hL; simp only [kfb] at hL; simp only [List.length_append, List.length_singleton]; exact (hL.perml fun p => by simp only [List.countP_cons, List.countP_nil, List.countP_append, List.append_nil, List.nil_append, List.length_nil]; omega)⟩
      | some z =>
       have HAS := Lib.hid has
       rw [has] at HASG
       clear has
       cases kw
       ·rw [sim_w1 av wv rv (.slice pa9 pn9 pc9) (.inr hkw)] at HF2
        have HF3 := Lib.hid HF2
        clear HF2
        go_wp2_with (first | ((with_reducible refine zS ?_); clear hL; intro W hL hF) | (go_at_call 27; refine zC (fun W hL => next_i E b j vj (d : Int) _ (kn_bw HB0.out hL HXB.out) hbb Hvj (by (exact hL.has _ List.mem_cons_self)) HX9.out pa9 pn9 pc9 HX29.out ) ?_; clear hF hL; intro W hL hF) | (go_at_call 53; refine zG ?_; clear hF hL; intro W hL hF; (with_reducible refine (pass_i E b j vj (d : Int) _ (kn_bw HB0.out hL HXB.out) hbb Hvj (by (exact hL.has _ List.mem_cons_self)) HX9.out pa9 pn9 pc9 HX29.out H49.out).mono ?_); rintro e W ⟨rfl, vj2, HVJ2, hb⟩; ((replace hL := hL.join1 0 rfl hb)); clear hb hF; simp only [List.eraseIdx_cons_zero, List.eraseIdx_cons_succ, List.cons_append, List.nil_append] at hL; have hF := hL.fx) | (go_at_call 147; refine zG ?_; clear hF hL; intro W hL hF; (with_reducible refine (HASG.out _ (kn_bw HB0.out hL HXB.out)).mono ?_); rintro e W ⟨LPa, ao7, k7, c7, rfl, HPa, hb⟩; replace hL := hL.join hb; clear hb hF; have hF := hL.fx; replace hL := hL.in3; clear hF; have hF := hL.fx) | (at_builtin; refine zL ?_; clear hF hL; intro W hL hF; replace hL := hL.rot5W; clear hF; have hF := hL.fx; go_loud (refine wpList_append_end rfl _ _ 37 37 rfl (_ :: _ :: _ :: _ :: _ :: ((LPa ++ LC) ++ (LA ++ LR))) LW hL wv.length 1 (wv.flatMap fun x => [x.2]) [.slice pa9 pn9 pc9] _ _ HRW.out rfl rfl (fun ho => run_append_Wd rfl (fun j u hu => by rw [Go.WideShapes.add_plain, Nat.zero_add, kn_cell hL List.mem_cons_self]; simpa using hu) (by intro u hu; simp only [List.mem_cons, List.not_mem_nil, or_false] at hu; subst hu; rfl) (by omega) ho) ?_); intro LP3 a3 c3 W3 hL2 hr3; clear hL hF; have hL := hL2; clear hL2; simp only [List.append_eq, List.cons_append, List.nil_append] at hL; have hF := hL.fx))
        go_roundg (tvs.length - (j + 1))
        case measure => have := HVJ2.out.1; omega
        case rel => exact ⟨j + 1, vj2, av, wv ++ [(y.1.parts, .slice pa9 pn9 pc9)], rv, aa, a3, ar, ca, c3, cr, LPa ++ LC, LA, LP3, LR, rfl, HVJ2, HF3, HRA, Lib.hid (by simpa using hr3), HRR, Lib.hid (fun x hx => (HPA.out x hx).mono fun p hp => List.mem_append_right _ hp), Lib.hid (all_snoc HPW.out HPT.out), HPR, by have := HVJ2.out.1; simp only [List.length_append, List.length_singleton]; omega, by have := HVJ2.out.1; omega, by refine Kn.name ?_; clear hL; intro hL; simp only [kfb] at hL; simp only [List.length_append, List.length_singleton]; exact (hL.perml fun p => by simp only [List.countP_cons, List.countP_nil, List.countP_append, List.append_nil, List.nil_append, List.length_nil]; omega)⟩
       ·replace HF2 := Lib.hid HF2
        go_wp2_with (first | ((with_reducible refine zS ?_); clear hL; intro W hL hF) | (go_at_call 27; refine zC (fun W hL => next_i E b j vj (d : Int) _ (kn_bw HB0.out hL HXB.out) hbb Hvj (by (exact hL.has _ List.mem_cons_self)) HX9.out pa9 pn9 pc9 HX29.out ) ?_; clear hF hL; intro W hL hF) | (go_at_call 53; refine zG ?_; clear hF hL; intro W hL hF; (with_reducible refine (pass_i E b j vj (d : Int) _ (kn_bw HB0.out hL HXB.out) hbb Hvj (by (exact hL.has _ List.mem_cons_self)) HX9.out pa9 pn9 pc9 HX29.out H49.out).mono ?_); rintro e W ⟨rfl, vj2, HVJ2, hb⟩; ((replace hL := hL.join1 0 rfl hb)); clear hb hF; simp only [List.eraseIdx_cons_zero, List.eraseIdx_cons_succ, List.cons_append, List.nil_append] at hL; have hF := hL.fx) | (go_at_call 147; refine zG ?_; clear hF hL; intro W hL hF; (with_reducible refine (HASG.out _ (kn_bw HB0.out hL HXB.out)).mono ?_); rintro e W ⟨LPa, ao7, k7, c7, rfl, HPa, hb⟩; replace hL := hL.join hb; clear hb hF; have hF := hL.fx; replace hL := hL.in3; clear hF; have hF := hL.fx) | (at_builtin; refine zL ?_; clear hF hL; intro W hL hF; replace hL := hL.rot5A; clear hF; have hF := hL.fx; go_loud (refine wpList_append_end rfl _ _ 36 36 rfl (_ :: _ :: _ :: _ :: _ :: ((LPa ++ LC) ++ (LW ++ LR))) LA hL av.length 1 (av.flatMap asc) [.string ⟨z.1.toArray⟩, .slice ao7 k7 c7] _ _ HRA.out rfl rfl (fun ho => run_append_As rfl (fun j u hu => by rw [Go.WideShapes.add_plain, Nat.zero_add, kn_cell hL List.mem_cons_self]; simpa using hu) (by intro u hu; simp only [List.mem_cons, List.not_mem_nil, or_false] at hu; rcases hu with rfl | rfl <;> rfl) (by omega) ho) ?_); intro LP3 a3 c3 W3 hL2 hr3; clear hL hF; have hL := hL2; clear hL2; simp only [List.append_eq, List.cons_append, List.nil_append] at hL; have hF := hL.fx))
        have HF4 := HF2.out
        rw [sim_a1 av wv rv (.slice ao7 k7 c7) HAS.out HKW.out] at HF4
        have HF3 := Lib.hid HF4
        clear HF4
        go_roundg (tvs.length - (j + 1))
        case measure => have := HVJ2.out.1; omega
        case rel => exact ⟨j + 1, vj2, av ++ [(z, .slice ao7 k7 c7)], wv, rv, a3, aw, ar, c3, cw, cr, LPa ++ LC, LP3, LW, LR, rfl, HVJ2, HF3, Lib.hid (by simpa [asc, bs] using hr3), HRW, HRR, Lib.hid (all_snoc (fun x hx => (HPA.out x hx).mono fun p hp => List.mem_append_right _ hp) (HPa.out.mono fun p hp => List.mem_append_left _ hp)), HPW, HPR, by have := HVJ2.out.1; simp only [List.length_append, List.length_singleton]; omega, by have := HVJ2.out.1; omega, by refine Kn.name ?_; clear hL; intro hL; simp only [kfb] at hL; simp only [List.length_append, List.length_singleton]; exact (hL.perml fun p => by simp only [List.countP_cons, List.countP_nil, List.countP_append, List.append_nil, List.nil_append, List.length_nil]; omega)⟩
    ·have HNE : (TT tvs).drop j ≠ [] := k_ne HK2.out
     have HRD := Lib.hid (fun W hB hb => redir_c E b j vj d W hB hbb Hvj hb HNE)
     clear HNE
     cases hr : redir ((TT tvs).drop j) with
     | bad er m2 =>
      rw [hr] at HRD
      have HB9 := Lib.hid (sim_bad HK2.out _ HF.out hr)
      clear hr
      go_wp2_with (first | ((with_reducible refine zS ?_); clear hL; intro W hL hF) | (go_at_call 27; refine zC (fun W hL => next_i E b j vj (d : Int) _ (kn_bw HB0.out hL HXB.out) hbb Hvj (by (exact hL.has _ List.mem_cons_self)) HX9.out pa9 pn9 pc9 HX29.out ) ?_; clear hF hL; intro W hL hF) | ((with_reducible refine at_region 7 ?_); refine kn_wp ?_; clear hF hL; intro W hL; have hF := hL.fx; refine kn_regionP [0, 1, 2, 3, 4, 5, 6, 7] [0, 1, 2, 6] [5, 7] [0, 2, 6] (by kernel_rfl) (by kernel_rfl) (List.Sublist.cons _ (List.Sublist.cons_cons _ (List.nil_sublist _))) ?_; clear hF hL; intro Qp hQp; replace hQp := Lib.hid hQp; intro ι F hne hC hFF; have hG := fun n => (hFF n).fx; clear hFF; (repeat (first | (refine cS ?_) | (refine cF hC ?_; intro K hK; go_big_quiet_op; go_big_quiet_on) | (refine cP ?_; intro K hK; go_big_quiet_op; go_big_quiet_on) | (refine cwk_callP rfl (by rfl) (by rfl) (fun _ => rfl) ?_; intro W hL; have hF := hL.fx; simp only [zA, Act.eval]; go_at_call 145; (with_reducible refine (HRD.out _ (kn_bw HB0.out hL HXB.out) (by (exact hL.has _ List.mem_cons_self))).mono ?_); rintro e W ⟨vj2, dj, rfl, hb⟩; ((replace hL := hL.join1 0 rfl hb)); clear hb hF; simp only [List.eraseIdx_cons_zero, List.eraseIdx_cons_succ, List.cons_append, List.nil_append] at hL; have hF := hL.fx; refine ⟨_, rfl, hQp.out _ _ ?_⟩; clear hQp; intro a' ha; simp only [Exit.then, Exit.inBlock]; refine ⟨ha, ?_⟩; show NOut W0 b d g o cap tvs w (simple ((TT tvs).drop i)) _ _; rw [HB9.out]; exact ⟨vj2, dj, rfl, (hL.perml fun p => by simp only [List.countP_cons, List.countP_nil, List.countP_append, List.append_nil, List.nil_append, List.length_nil]; omega)⟩) | (refine cN ?_; intro W hL; have hF := hL.facts; go_wp2; refine zB2 ?_; clear hL hC hG; intro ι F hne hC hG))); ((done))))
     | ok z r2 =>
      rw [hr] at HRD
      have HF3 := Lib.hid (sim_rd HK2.out _ HF.out hr)
      have HLN := Lib.hid (redir_len hr)
      clear hr
      go_wp2_with (first | ((with_reducible refine zS ?_); clear hL; intro W hL hF) | (go_at_call 27; refine zC (fun W hL => next_i E b j vj (d : Int) _ (kn_bw HB0.out hL HXB.out) hbb Hvj (by (exact hL.has _ List.mem_cons_self)) HX9.out pa9 pn9 pc9 HX29.out ) ?_; clear hF hL; intro W hL hF) | ((with_reducible refine at_region 7 ?_); refine kn_wp ?_; clear hF hL; intro W hL; have hF := hL.fx; refine kn_region [0, 1, 2, 3, 4, 5, 6, 7] [0, 1, 2, 6] [5, 7] [0, 2, 6] (by kernel_rfl) (by kernel_rfl) (List.Sublist.cons _ (List.Sublist.cons_cons _ (List.nil_sublist _))) ?_; clear hF hL; intro ι F hne hC hFF; have hG := fun n => (hFF n).fx; clear hFF; (repeat (first | (refine cS ?_) | (refine cF hC ?_; intro K hK; go_big_quiet_op; go_big_quiet_on) | (refine cP ?_; intro K hK; go_big_quiet_op; go_big_quiet_on) | (refine cC ?_; intro W hL; have hF := hL.fx; simp only [zA, Act.eval]; go_at_call 145; (with_reducible refine (HRD.out _ (kn_bw HB0.out hL HXB.out) (by (exact hL.has _ List.mem_cons_self))).mono ?_); rintro e W ⟨_, j2, vj2, rfl, ⟨x2, pa2, pn2, pc2, hm2, hq2, rfl, hps⟩, HV2, hb⟩; ((replace hL := hL.join1 0 rfl hb)); clear hb hF; simp only [List.eraseIdx_cons_zero, List.eraseIdx_cons_succ, List.cons_append, List.nil_append] at hL; have hF := hL.fx; refine owed_ret ?_; ((refine owed0 _ (by repeat' (first | (with_reducible exact List.nil_sublist _) | (with_reducible apply List.Sublist.cons_cons) | (with_reducible apply List.Sublist.cons))) ?_; clear hL hF)); simp only [Act.put, zT]) | (refine cN ?_; intro W hL; have hF := hL.fx; at_builtin; replace hL := hL.rot4R; clear hF; have hF := hL.fx; go_loud (refine wpList_append_end rfl _ _ 38 38 rfl (_ :: _ :: _ :: _ :: (LC ++ (LA ++ LW))) LR hL rv.length 1 (rv.flatMap rsc) [.int .i64 z.1, .int .i64 (z.2.1 : Int), .slice pa2 pn2 pc2] _ _ HRR.out rfl rfl (fun ho => run_append_Rd rfl (fun j u hu => by rw [Go.WideShapes.add_plain, Nat.zero_add, kn_cell hL List.mem_cons_self]; simpa using hu) (by intro u hu; simp only [List.mem_cons, List.not_mem_nil, or_false] at hu; rcases hu with rfl | rfl | rfl <;> rfl) (by omega) ho) ?_); intro LP3 a3 c3 W3 hL2 hr3; clear hL hF; have hL := hL2; clear hL2; simp only [List.append_eq, List.cons_append, List.nil_append] at hL; have hF := hL.fx; go_wp2; refine zB2 ?_; clear hL hF hC hG; intro ι F hne hC hG) | (refine cN ?_; intro W hL; have hF := hL.fx; go_wp2; refine anchQ_normal ?_; (first | (refine owedB _ (by rfl) ?_; clear hL hF hC hG; intro ι F hne hC hFF; have hG := fun n => (hFF n).fx; clear hFF) | (refine owed0 _ (by repeat' (first | (with_reducible exact List.nil_sublist _) | (with_reducible apply List.Sublist.cons_cons) | (with_reducible apply List.Sublist.cons))) ?_; clear hL hF))))); refine cwk_nil ?_; clear hC hG; intro W hL; simp only [kfb] at hL; have hF := hL.fx))
      go_roundg (tvs.length - j2)
      case measure => have h8 := HLN.out; rw [HV2.out.2] at h8; have := at_lt HV2.out.1 h8 hjl; have := HV2.out.1.1; omega
      case rel => exact ⟨j2, vj2, av, wv, rv ++ [(z, .slice pa2 pn2 pc2)], aa, aw, a3, ca, cw, c3, LC, LA, LW, LP3, rfl, Lib.hid HV2.out.1, Lib.hid (by have h8 := HF3.out; rw [HV2.out.2] at h8; simpa using h8), HRA, HRW, Lib.hid (by simpa [rsc] using hr3), HPA, HPW, Lib.hid (all_snoc HPR.out (by have := prm_tok E hm2 (L := []); rw [hq2, ← hps] at this; exact this)), by have h8 := HLN.out; rw [HV2.out.2] at h8; have := at_lt HV2.out.1 h8 hjl; simp only [List.length_append, List.length_singleton]; omega, HV2.out.1.1, by refine Kn.name ?_; clear hL; intro hL; simp only [List.length_append, List.length_singleton]; exact (hL.perml fun p => by simp only [List.countP_cons, List.countP_nil, List.countP_append, List.append_nil, List.nil_append, List.length_nil]; omega)⟩
end Go.Proofs.YtgboffbbpmileaaGreatDoor
