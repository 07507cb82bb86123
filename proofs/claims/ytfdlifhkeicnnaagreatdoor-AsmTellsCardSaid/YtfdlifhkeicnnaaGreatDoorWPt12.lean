/- Lemmas and walks for the law LawTells (part 12). -/
import Derived.Test.YtfdlifhkeicnnaaGreatDoorWPt11
import Derived.Test.YtfdlifhkeicnnaaGreatDoorProg
import Derived.WalkKit
import Derived.Handy
import Derived.Deep.Light
import Derived.WalkSmall
import Derived.StillTailTactics
import Derived.Lib.Hide
set_option maxRecDepth 20000
set_option maxHeartbeats 4000000
set_option linter.unusedVariables false
set_option linter.unusedSimpArgs false
namespace Go.Proofs.YtfdlifhkeicnnaaGreatDoor
open Go Go.RowKit
theorem instruction_1 (ab mb : Nat) (es : Array MapEntry) (clock : Nat) (L : Labs) (xg xo at_ op : Nat) (sop : ByteArray) (vo : Value) (ops : List Bytes) (last : Bool) (w : World) (hA : w.cell? ⟨ab, 0, none⟩ = some (.map (some mb))) (hmb : w.heap[mb]? = some (.map es clock)) (hM : MapV Tryz.prog 9 es (lv L)) (hLn : ∀ p ∈ L, p.2 ≤ 100000) (hx1 : w.cell? ⟨xg, xo + 1, none⟩ = some (.string sop)) (hx2 : w.cell? ⟨xg, xo + 2, none⟩ = some vo) (hvo : Row w vo (sv ops)) (hx3 : w.cell? ⟨xg, xo + 3, none⟩ = some (.int .i64 at_)) (hat : at_ ≤ 100000) (hsz : ∀ p ∈ ops, p.length ≤ 900000) (hn : ops.length ≤ 100000) (hfi : findI sop = (op : Int)) (hT : TabA w) (hf : form op = 1) : Calls Tryz.prog 65 #[.pointer (some ⟨ab, 0, none⟩), .pointer (some ⟨xg, xo, none⟩), .bool last] w (InsP (instrR L ops at_ op last) op w) := by
 have HF := Lib.hid (show OO.form op = 1 from by show (form op).toNat = 1; rw [hf]; rfl)
 have HFI := Lib.hid (fun W hT => Find_eq sop op hfi W hT)
 have HFO := Lib.hid (fun W hT => (Form_any (op : Int) W hT))
 rw [hf] at HFO
 have l1 := cell_lt hA
 have lm := lt_of_has hmb
 have lx := cell_lt hx1
 have hcA := fun {W : World} {LL : List (Nat × Obj)} (hL : Kn [] w W LL) => (hL.facts.2.2.2.1 ab 0 l1 (by simp)).trans hA
 have hcM := fun {W : World} {LL : List (Nat × Obj)} (hL : Kn [] w W LL) => (hL.block mb lm (by simp)).trans hmb
 have hc3 := fun {W : World} {LL : List (Nat × Obj)} (hL : Kn [] w W LL) => (hL.facts.2.2.2.1 xg (xo + 3) lx (by simp)).trans hx3
 clear hf hfi
 by_cases hlen : ops.length = 1
 ·obtain ⟨p0, rfl⟩ := len1 hlen
  obtain ⟨s0, rfl⟩ : ∃ s : ByteArray, p0 = s.data.toList := ⟨⟨p0.toArray⟩, by simp⟩
  have hs0 : s0.size ≤ 900000 := by have := hsz s0.data.toList (by simp); rwa [szl] at this
  obtain ⟨ao, cap, rfl, hc⟩ := row_open hvo
  obtain ⟨g, o, rfl, hg1, hq0⟩ := hc 0 _ rfl
  rw [toList_mk, Nat.add_zero] at hq0
  clear hlen hc hvo hsz hn
  simp only [List.length_cons, List.length_nil, Nat.zero_add, Nat.reduceAdd] at hx2
  cases h0 : register s0.data.toList with
  | bad m =>
   have H0 := Lib.hid h0
   clear h0
   have hr : instrR L [s0.data.toList] at_ op last = .bad m := by rw [instr_1 HF.out]; simp only [Rs.bind]; rw [H0.out]
   rw [hr]
   clear hr
   have hL : Kn [] w w [] := Kn.refl [] w; have hF := hL.fx; go_enter Tryz.func65, Tryz.ntmps65
   go_upto_region 7 with (first | ((with_reducible refine ks ?_); clear hL; intro W hL hF) | (go_at_call 61; refine kc (fun W hL => HFI.out _ ((hT.kn hL (by simp)).i)) ?_; clear hF hL; intro W hL hF) | ((with_reducible refine at_region 2 ?_); refine kW [0, 2, 3, 4, 5, 1, 6, 7] [0, 2, 3, 4, 5, 6, 7] [] [0, 2, 3, 4, 6, 7] ?_; clear hF hL; intro ι F hne hC hG; (repeat (first | (refine cS ?_) | (refine cF hC ?_; intro K hK; go_big_quiet_op; go_big_quiet_on) | (refine cP ?_; intro K hK; go_big_quiet_op; go_big_quiet_on) | (refine cC ?_; intro W hL; have hF := hL.fx; simp only [ka, Act.eval]; go_at_call 39; (with_reducible refine (HFO.out _ ((hT.kn hL (by simp)).i)).mono ?_); rintro e W' ⟨rfl, rfl⟩; refine ko ?_; clear hL hF; simp only [Act.put, kT]) | (refine cN ?_; intro W hL; have hF := hL.facts; go_wp2; refine kb2 ?_; clear hL hC hG; intro ι F hne hC hG))); refine cwk_nil ?_; clear hC hG; intro W hL; have hF := hL.fx) | (go_at_call 100; (with_reducible refine (need_ok _ _).mono ?_); rintro e w' ⟨rfl, rfl⟩))
   refine kn_wp ?_; clear hF hL; intro W hL; have hF := hL.fx
   go_wp2_with (first | ((with_reducible refine ks ?_); clear hL; intro W hL hF) | (go_at_call 61; refine kc (fun W hL => HFI.out _ ((hT.kn hL (by simp)).i)) ?_; clear hL; intro W hL hF) | ((with_reducible refine at_region 2 ?_); refine kW [0, 2, 3, 4, 5, 1, 6, 7] [0, 2, 3, 4, 5, 6, 7] [] [0, 2, 3, 4, 6, 7] ?_; clear hL; intro ι F hne hC hG; (repeat (first | (refine cS ?_) | (refine cF hC ?_; intro K hK; go_big_quiet_op; go_big_quiet_on) | (refine cP ?_; intro K hK; go_big_quiet_op; go_big_quiet_on) | (refine cC ?_; intro W hL; have hF := hL.facts; simp only [ka, Act.eval]; go_at_call 39; (with_reducible refine (HFO.out _ ((hT.kn hL (by simp)).i)).mono ?_); rintro e W' ⟨rfl, rfl⟩; refine kb ?_; clear hL hC hG; intro ι F hne hC hG) | (refine cN ?_; intro W hL; have hF := hL.facts; go_wp2; refine kb2 ?_; clear hL hC hG; intro ι F hne hC hG))); refine cwk_nil ?_; clear hC hG; intro W hL; have hF := hL.facts) | (go_at_call 100; (with_reducible refine (need_ok _ _).mono ?_); rintro e w' ⟨rfl, rfl⟩) | (go_at_call 101; refine kc (fun W hL => register_bad s0 (by omega) _ H0 _) ?_; clear hF hL; intro W hL hF))
   exact ⟨rfl, rfl, (kn_here (X := []) (w0 := w)).below0⟩
  | ok v0 =>
   have H0 := Lib.hid h0
   clear h0
   have hr : instrR L [s0.data.toList] at_ op last = .ok (v0, 0, 0) := by rw [instr_1 HF.out]; simp only [Rs.bind]; rw [H0.out]
   rw [hr]
   clear hr
   have hL : Kn [] w w [] := Kn.refl [] w; have hF := hL.fx; go_enter Tryz.func65, Tryz.ntmps65
   go_upto_region 7 with (first | ((with_reducible refine ks ?_); clear hL; intro W hL hF) | (go_at_call 61; refine kc (fun W hL => HFI.out _ ((hT.kn hL (by simp)).i)) ?_; clear hF hL; intro W hL hF) | ((with_reducible refine at_region 2 ?_); refine kW [0, 2, 3, 4, 5, 1, 6, 7] [0, 2, 3, 4, 5, 6, 7] [] [0, 2, 3, 4, 6, 7] ?_; clear hF hL; intro ι F hne hC hG; (repeat (first | (refine cS ?_) | (refine cF hC ?_; intro K hK; go_big_quiet_op; go_big_quiet_on) | (refine cP ?_; intro K hK; go_big_quiet_op; go_big_quiet_on) | (refine cC ?_; intro W hL; have hF := hL.fx; simp only [ka, Act.eval]; go_at_call 39; (with_reducible refine (HFO.out _ ((hT.kn hL (by simp)).i)).mono ?_); rintro e W' ⟨rfl, rfl⟩; refine ko ?_; clear hL hF; simp only [Act.put, kT]) | (refine cN ?_; intro W hL; have hF := hL.facts; go_wp2; refine kb2 ?_; clear hL hC hG; intro ι F hne hC hG))); refine cwk_nil ?_; clear hC hG; intro W hL; have hF := hL.fx) | (go_at_call 100; (with_reducible refine (need_ok _ _).mono ?_); rintro e w' ⟨rfl, rfl⟩))
   refine kn_wp ?_; clear hF hL; intro W hL; have hF := hL.fx
   go_wp2_with (first | ((with_reducible refine ks ?_); clear hF hL; intro W hL hF) | (go_at_call 61; refine kc (fun W hL => HFI.out _ ((hT.kn hL (by simp)).i)) ?_; clear hL; intro W hL hF) | ((with_reducible refine at_region 2 ?_); refine kW [0, 2, 3, 4, 5, 1, 6, 7] [0, 2, 3, 4, 5, 6, 7] [] [0, 2, 3, 4, 6, 7] ?_; clear hL; intro ι F hne hC hG; (repeat (first | (refine cS ?_) | (refine cF hC ?_; intro K hK; go_big_quiet_op; go_big_quiet_on) | (refine cP ?_; intro K hK; go_big_quiet_op; go_big_quiet_on) | (refine cC ?_; intro W hL; have hF := hL.facts; simp only [ka, Act.eval]; go_at_call 39; (with_reducible refine (HFO.out _ ((hT.kn hL (by simp)).i)).mono ?_); rintro e W' ⟨rfl, rfl⟩; refine kb ?_; clear hL hC hG; intro ι F hne hC hG) | (refine cN ?_; intro W hL; have hF := hL.facts; go_wp2; refine kb2 ?_; clear hL hC hG; intro ι F hne hC hG))); refine cwk_nil ?_; clear hC hG; intro W hL; have hF := hL.facts) | (go_at_call 100; (with_reducible refine (need_ok _ _).mono ?_); rintro e w' ⟨rfl, rfl⟩) | (go_at_call 101; refine kp (fun W hL => register_ok s0 (by omega) _ H0 _) ?_; clear hF hL; intro W hL hF))
   refine bodyPost_ret (by simp [results, Tryz.results65, go_sem, *]; try rfl) rfl ?_
   exact ⟨rfl, (kn_here (X := []) (w0 := w)).below0⟩
 ·have hr : instrR L ops at_ op last = .bad 2 := instr_len (by rw [show OO.form op = 1 from HF.out]; exact hlen)
  rw [hr]
  obtain ⟨ao, cap, rfl, hc⟩ := row_open hvo
  have q1 : ((ops.length : Int) == 1) = false := beq_false_of_ne (by omega)
  clear hlen hc hvo hsz hn hr
  have hL : Kn [] w w [] := Kn.refl [] w; have hF := hL.fx; go_enter Tryz.func65, Tryz.ntmps65
  go_wp2_with (first | ((with_reducible refine ks ?_); clear hL; intro W hL hF) | (go_at_call 61; refine kc (fun W hL => HFI.out _ ((hT.kn hL (by simp)).i)) ?_; clear hF hL; intro W hL hF) | ((with_reducible refine at_region 2 ?_); refine kW [0, 2, 3, 4, 5, 1, 6, 7] [0, 2, 3, 4, 5, 6, 7] [] [0, 2, 3, 4, 6, 7] ?_; clear hF hL; intro ι F hne hC hG; (repeat (first | (refine cS ?_) | (refine cF hC ?_; intro K hK; go_big_quiet_op; go_big_quiet_on) | (refine cP ?_; intro K hK; go_big_quiet_op; go_big_quiet_on) | (refine cC ?_; intro W hL; have hF := hL.fx; simp only [ka, Act.eval]; go_at_call 39; (with_reducible refine (HFO.out _ ((hT.kn hL (by simp)).i)).mono ?_); rintro e W' ⟨rfl, rfl⟩; refine ko ?_; clear hL hF; simp only [Act.put, kT]) | (refine cN ?_; intro W hL; have hF := hL.facts; go_wp2; refine kb2 ?_; clear hL hC hG; intro ι F hne hC hG))); refine cwk_nil ?_; clear hC hG; intro W hL; have hF := hL.fx) | (go_at_call 100; (with_reducible refine (need_bad _ _).mono ?_); rintro e w' ⟨rfl, rfl⟩))
  exact ⟨rfl, rfl, (kn_here (X := []) (w0 := w)).below0⟩
theorem instruction_2 (ab mb : Nat) (es : Array MapEntry) (clock : Nat) (L : Labs) (xg xo at_ op : Nat) (sop : ByteArray) (vo : Value) (ops : List Bytes) (last : Bool) (w : World) (hA : w.cell? ⟨ab, 0, none⟩ = some (.map (some mb))) (hmb : w.heap[mb]? = some (.map es clock)) (hM : MapV Tryz.prog 9 es (lv L)) (hLn : ∀ p ∈ L, p.2 ≤ 100000) (hx1 : w.cell? ⟨xg, xo + 1, none⟩ = some (.string sop)) (hx2 : w.cell? ⟨xg, xo + 2, none⟩ = some vo) (hvo : Row w vo (sv ops)) (hx3 : w.cell? ⟨xg, xo + 3, none⟩ = some (.int .i64 at_)) (hat : at_ ≤ 100000) (hsz : ∀ p ∈ ops, p.length ≤ 900000) (hn : ops.length ≤ 100000) (hfi : findI sop = (op : Int)) (hT : TabA w) (hf : form op = 2) : Calls Tryz.prog 65 #[.pointer (some ⟨ab, 0, none⟩), .pointer (some ⟨xg, xo, none⟩), .bool last] w (InsP (instrR L ops at_ op last) op w) := by
 have HF := Lib.hid (show OO.form op = 2 from by show (form op).toNat = 2; rw [hf]; rfl)
 have HFI := Lib.hid (fun W hT => Find_eq sop op hfi W hT)
 have HFO := Lib.hid (fun W hT => (Form_any (op : Int) W hT))
 rw [hf] at HFO
 have l1 := cell_lt hA
 have lm := lt_of_has hmb
 have lx := cell_lt hx1
 have hcA := fun {W : World} {LL : List (Nat × Obj)} (hL : Kn [] w W LL) => (hL.facts.2.2.2.1 ab 0 l1 (by simp)).trans hA
 have hcM := fun {W : World} {LL : List (Nat × Obj)} (hL : Kn [] w W LL) => (hL.block mb lm (by simp)).trans hmb
 have hc3 := fun {W : World} {LL : List (Nat × Obj)} (hL : Kn [] w W LL) => (hL.facts.2.2.2.1 xg (xo + 3) lx (by simp)).trans hx3
 clear hf hfi
 by_cases hlen : ops.length = 2
 ·obtain ⟨p0, p1, rfl⟩ := len2 hlen
  obtain ⟨s0, rfl⟩ : ∃ s : ByteArray, p0 = s.data.toList := ⟨⟨p0.toArray⟩, by simp⟩
  obtain ⟨s1, rfl⟩ : ∃ s : ByteArray, p1 = s.data.toList := ⟨⟨p1.toArray⟩, by simp⟩
  have hs0 : s0.size ≤ 900000 := by have := hsz s0.data.toList (by simp); rwa [szl] at this
  have hs1 : s1.size ≤ 900000 := by have := hsz s1.data.toList (by simp); rwa [szl] at this
  obtain ⟨ao, cap, rfl, hc⟩ := row_open hvo
  obtain ⟨g, o, rfl, hg1, hq0⟩ := hc 0 _ rfl
  rw [toList_mk, Nat.add_zero] at hq0
  have hq1 : w.cell? ⟨g, o + 1, none⟩ = some (.string s1) := by
   obtain ⟨g', o', e, _, h2⟩ := hc 1 _ rfl
   cases e
   rw [toList_mk] at h2; exact h2
  clear hlen hc hvo hsz hn
  simp only [List.length_cons, List.length_nil, Nat.zero_add, Nat.reduceAdd] at hx2
  cases h0 : register s0.data.toList with
  | bad m =>
   have H0 := Lib.hid h0
   clear h0
   have hr : instrR L [s0.data.toList, s1.data.toList] at_ op last = .bad m := by rw [instr_2 HF.out]; simp only [Rs.bind]; rw [H0.out]
   rw [hr]
   clear hr
   have hL : Kn [] w w [] := Kn.refl [] w; have hF := hL.fx; go_enter Tryz.func65, Tryz.ntmps65
   go_wp2_with (first | ((with_reducible refine ks ?_); clear hL; intro W hL hF) | (go_at_call 61; refine kc (fun W hL => HFI.out _ ((hT.kn hL (by simp)).i)) ?_; clear hF hL; intro W hL hF) | ((with_reducible refine at_region 2 ?_); refine kW [0, 2, 3, 4, 5, 1, 6, 7] [0, 2, 3, 4, 5, 6, 7] [] [0, 2, 3, 4, 6, 7] ?_; clear hF hL; intro ι F hne hC hG; (repeat (first | (refine cS ?_) | (refine cF hC ?_; intro K hK; go_big_quiet_op; go_big_quiet_on) | (refine cP ?_; intro K hK; go_big_quiet_op; go_big_quiet_on) | (refine cC ?_; intro W hL; have hF := hL.fx; simp only [ka, Act.eval]; go_at_call 39; (with_reducible refine (HFO.out _ ((hT.kn hL (by simp)).i)).mono ?_); rintro e W' ⟨rfl, rfl⟩; refine ko ?_; clear hL hF; simp only [Act.put, kT]) | (refine cN ?_; intro W hL; have hF := hL.facts; go_wp2; refine kb2 ?_; clear hL hC hG; intro ι F hne hC hG))); refine cwk_nil ?_; clear hC hG; intro W hL; have hF := hL.fx) | (go_at_call 100; (with_reducible refine (need_ok _ _).mono ?_); rintro e w' ⟨rfl, rfl⟩) | ((with_reducible refine at_region 9 ?_); refine kn_wp ?_; clear hF hL; intro W hL; have hF := hL.fx; refine kn_regionP [0, 1, 2, 4, 5, 6, 3, 8, 7, 9, 10, 11] [0, 1, 2, 4, 5, 6, 8, 10] [7, 9, 11] [0, 1, 4, 5, 8, 10] (by kernel_rfl) (by kernel_rfl) (List.Sublist.refl _) ?_; clear hF hL; intro Qp hQp; replace hQp := Lib.hid hQp; intro ι F hne hC hFF; have hG := fun n => (hFF n).fx; clear hFF; (repeat (first | (refine cF hC ?_; intro K hK; go_big_quiet_op; go_big_quiet_on) | (refine cP ?_; intro K hK; go_big_quiet_op; go_big_quiet_on) | (refine cwk_callP rfl (by rfl) (by rfl) (fun _ => rfl) ?_; intro W hL; have hF := hL.fx; simp only [ka, Act.eval]; go_at_call 101; (with_reducible refine (register_bad s0 (by omega) _ H0 _).mono ?_); rintro e W ⟨rfl, hb⟩; replace hL := hL.below hb; clear hb hF; have hF := hL.fx; refine ⟨_, rfl, hQp.out _ _ ?_⟩; clear hQp; intro a' ha; exact ⟨ha, rfl, hL.below0⟩))); ((done))))
  | ok v0 =>
   have H0 := Lib.hid h0
   clear h0
   cases h1 : register s1.data.toList with
   | bad m =>
    have H1 := Lib.hid h1
    clear h1
    have hr : instrR L [s0.data.toList, s1.data.toList] at_ op last = .bad m := by rw [instr_2 HF.out]; simp only [Rs.bind]; rw [H0.out]; simp only [Rs.bind]; rw [H1.out]
    rw [hr]
    clear hr
    have hL : Kn [] w w [] := Kn.refl [] w; have hF := hL.fx; go_enter Tryz.func65, Tryz.ntmps65
    go_wp2_with (first | ((with_reducible refine ks ?_); clear hL; intro W hL hF) | (go_at_call 61; refine kc (fun W hL => HFI.out _ ((hT.kn hL (by simp)).i)) ?_; clear hF hL; intro W hL hF) | ((with_reducible refine at_region 2 ?_); refine kW [0, 2, 3, 4, 5, 1, 6, 7] [0, 2, 3, 4, 5, 6, 7] [] [0, 2, 3, 4, 6, 7] ?_; clear hF hL; intro ι F hne hC hG; (repeat (first | (refine cS ?_) | (refine cF hC ?_; intro K hK; go_big_quiet_op; go_big_quiet_on) | (refine cP ?_; intro K hK; go_big_quiet_op; go_big_quiet_on) | (refine cC ?_; intro W hL; have hF := hL.fx; simp only [ka, Act.eval]; go_at_call 39; (with_reducible refine (HFO.out _ ((hT.kn hL (by simp)).i)).mono ?_); rintro e W' ⟨rfl, rfl⟩; refine ko ?_; clear hL hF; simp only [Act.put, kT]) | (refine cN ?_; intro W hL; have hF := hL.facts; go_wp2; refine kb2 ?_; clear hL hC hG; intro ι F hne hC hG))); refine cwk_nil ?_; clear hC hG; intro W hL; have hF := hL.fx) | (go_at_call 100; (with_reducible refine (need_ok _ _).mono ?_); rintro e w' ⟨rfl, rfl⟩) | ((with_reducible refine at_region 9 ?_); refine kn_wp ?_; clear hF hL; intro W hL; have hF := hL.fx; refine kn_regionP [0, 1, 2, 4, 5, 6, 3, 8, 7, 9, 10, 11] [0, 1, 2, 4, 5, 6, 8, 10] [7, 9, 11] [0, 1, 4, 5, 8, 10] (by kernel_rfl) (by kernel_rfl) (List.Sublist.refl _) ?_; clear hF hL; intro Qp hQp; replace hQp := Lib.hid hQp; intro ι F hne hC hFF; have hG := fun n => (hFF n).fx; clear hFF; (repeat (first | (refine cS ?_) | (refine cF hC ?_; intro K hK; go_big_quiet_op; go_big_quiet_on) | (refine cP ?_; intro K hK; go_big_quiet_op; go_big_quiet_on) | (refine cC ?_; intro W hL; have hF := hL.fx; simp only [ka, Act.eval]; go_at_call 101; (with_reducible refine (register_ok s0 (by omega) _ H0 _).mono ?_); rintro e W' ⟨rfl, rfl⟩; refine ko ?_; clear hL hF; simp only [Act.put, kT]) | (refine cwk_callP rfl (by rfl) (by rfl) (fun _ => rfl) ?_; intro W hL; have hF := hL.fx; simp only [ka, Act.eval]; go_at_call 101; (with_reducible refine (register_bad s1 (by omega) _ H1 _).mono ?_); rintro e W ⟨rfl, hb⟩; replace hL := hL.below hb; clear hb hF; have hF := hL.fx; refine ⟨_, rfl, hQp.out _ _ ?_⟩; clear hQp; intro a' ha; exact ⟨ha, rfl, hL.below0⟩) | (refine cN ?_; intro W hL; have hF := hL.facts; go_wp2; refine kb2 ?_; clear hL hC hG; intro ι F hne hC hG))); ((done))))
   | ok v1 =>
    have H1 := Lib.hid h1
    clear h1
    have hr : instrR L [s0.data.toList, s1.data.toList] at_ op last = .ok (v0, v1, 0) := by rw [instr_2 HF.out]; simp only [Rs.bind]; rw [H0.out]; simp only [Rs.bind]; rw [H1.out]
    rw [hr]
    clear hr
    have hL : Kn [] w w [] := Kn.refl [] w; have hF := hL.fx; go_enter Tryz.func65, Tryz.ntmps65
    go_wp2_with (first | ((with_reducible refine ks ?_); clear hL; intro W hL hF) | (go_at_call 61; refine kc (fun W hL => HFI.out _ ((hT.kn hL (by simp)).i)) ?_; clear hF hL; intro W hL hF) | ((with_reducible refine at_region 2 ?_); refine kW [0, 2, 3, 4, 5, 1, 6, 7] [0, 2, 3, 4, 5, 6, 7] [] [0, 2, 3, 4, 6, 7] ?_; clear hF hL; intro ι F hne hC hG; (repeat (first | (refine cS ?_) | (refine cF hC ?_; intro K hK; go_big_quiet_op; go_big_quiet_on) | (refine cP ?_; intro K hK; go_big_quiet_op; go_big_quiet_on) | (refine cC ?_; intro W hL; have hF := hL.fx; simp only [ka, Act.eval]; go_at_call 39; (with_reducible refine (HFO.out _ ((hT.kn hL (by simp)).i)).mono ?_); rintro e W' ⟨rfl, rfl⟩; refine ko ?_; clear hL hF; simp only [Act.put, kT]) | (refine cN ?_; intro W hL; have hF := hL.facts; go_wp2; refine kb2 ?_; clear hL hC hG; intro ι F hne hC hG))); refine cwk_nil ?_; clear hC hG; intro W hL; have hF := hL.fx) | (go_at_call 100; (with_reducible refine (need_ok _ _).mono ?_); rintro e w' ⟨rfl, rfl⟩) | ((with_reducible refine at_region 9 ?_); refine kW [0, 1, 2, 4, 5, 6, 3, 8, 7, 9, 10, 11] [0, 1, 2, 4, 5, 6, 8, 10] [7, 9, 11] [0, 1, 4, 5, 8, 10] ?_; clear hF hL; intro ι F hne hC hG; (repeat (first | (refine cS ?_) | (refine cF hC ?_; intro K hK; go_big_quiet_op; go_big_quiet_on) | (refine cP ?_; intro K hK; go_big_quiet_op; go_big_quiet_on) | (refine cC ?_; intro W hL; have hF := hL.fx; simp only [ka, Act.eval]; go_at_call 101; (with_reducible refine (register_ok s0 (by omega) _ H0 _).mono ?_); rintro e W' ⟨rfl, rfl⟩; refine ko ?_; clear hL hF; simp only [Act.put, kT]) | (refine cC ?_; intro W hL; have hF := hL.fx; simp only [ka, Act.eval]; go_at_call 101; (with_reducible refine (register_ok s1 (by omega) _ H1 _).mono ?_); rintro e W' ⟨rfl, rfl⟩; refine kb ?_; clear hL hF hC hG; intro ι F hne hC hG; simp only [Act.put, kT]) | (refine cN ?_; intro W hL; (try simp only [kfb] at hL); have hF := hL.fx; go_wp2; refine kb2 ?_; clear hL hF hC hG; intro ι F hne hC hG))); refine cwk_nil ?_; clear hC hG; intro W hL; simp only [kfb] at hL; have hF := hL.fx))
    refine bodyPost_ret (by simp [results, Tryz.results65, go_sem, *]; try rfl) rfl ?_
    exact ⟨rfl, (kn_here (X := []) (w0 := w)).below0⟩
 ·have hr : instrR L ops at_ op last = .bad 2 := instr_len (by rw [show OO.form op = 2 from HF.out]; exact hlen)
  rw [hr]
  obtain ⟨ao, cap, rfl, hc⟩ := row_open hvo
  have q1 : ((ops.length : Int) == 2) = false := beq_false_of_ne (by omega)
  clear hlen hc hvo hsz hn hr
  have hL : Kn [] w w [] := Kn.refl [] w; have hF := hL.fx; go_enter Tryz.func65, Tryz.ntmps65
  go_wp2_with (first | ((with_reducible refine ks ?_); clear hL; intro W hL hF) | (go_at_call 61; refine kc (fun W hL => HFI.out _ ((hT.kn hL (by simp)).i)) ?_; clear hF hL; intro W hL hF) | ((with_reducible refine at_region 2 ?_); refine kW [0, 2, 3, 4, 5, 1, 6, 7] [0, 2, 3, 4, 5, 6, 7] [] [0, 2, 3, 4, 6, 7] ?_; clear hF hL; intro ι F hne hC hG; (repeat (first | (refine cS ?_) | (refine cF hC ?_; intro K hK; go_big_quiet_op; go_big_quiet_on) | (refine cP ?_; intro K hK; go_big_quiet_op; go_big_quiet_on) | (refine cC ?_; intro W hL; have hF := hL.fx; simp only [ka, Act.eval]; go_at_call 39; (with_reducible refine (HFO.out _ ((hT.kn hL (by simp)).i)).mono ?_); rintro e W' ⟨rfl, rfl⟩; refine ko ?_; clear hL hF; simp only [Act.put, kT]) | (refine cN ?_; intro W hL; have hF := hL.facts; go_wp2; refine kb2 ?_; clear hL hC hG; intro ι F hne hC hG))); refine cwk_nil ?_; clear hC hG; intro W hL; have hF := hL.fx) | (go_at_call 100; (with_reducible refine (need_bad _ _).mono ?_); rintro e w' ⟨rfl, rfl⟩))
  exact ⟨rfl, rfl, (kn_here (X := []) (w0 := w)).below0⟩
end Go.Proofs.YtfdlifhkeicnnaaGreatDoor
