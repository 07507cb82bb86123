/- Lemmas and walks for the law of this seat (part 19). -/
import Derived.Test.YtgboffbbpmileaaGreatDoorPj18
import Derived.Test.YtgboffbbpmileaaGreatDoorProg
import Derived.WalkKit
import Derived.Handy
import Derived.Deep.Light
import Derived.WalkSmall
import Derived.StillTailTactics
import Derived.Lib.Hide
import Derived.Maps.OwnSet
import Derived.Maps.OwnOps
import Derived.Laws.EntriesVeiled
set_option maxRecDepth 20000
set_option maxHeartbeats 4000000
set_option linter.unusedVariables false
set_option linter.unusedSimpArgs false
namespace Go.Proofs.YtgboffbbpmileaaGreatDoor
open Go Go.RowKit
section
variable {ar : Pa Nd} {ts : List Tok} {ns : List Nd} {p : PR Nd} {F : List Nd → List Tok → PR Nd}
theorem armsL_end (hf : ∃ (f : Nat) (us : List Tok), ts.length < f ∧ lines us = ts ∧ p = (armsL ar f ns us).bind F) (he : isKw [kEsac] ts = true) : p = F ns ts := by
 obtain ⟨f, us, h1, h2, h3⟩ := hf
 cases f with
 | zero => omega
 | succ f => rw [h3, armsL, h2, if_pos he]; rfl
theorem armsL_ok {x : Nd} {r : List Tok} (hf : ∃ (f : Nat) (us : List Tok), ts.length < f ∧ lines us = ts ∧ p = (armsL ar f ns us).bind F) (he : isKw [kEsac] ts = false) (hx : ar ts = .ok x r) :
  ∃ f : Nat, ts.length ≤ f ∧ p = (armsL ar f (ns ++ [x]) r).bind F := by
 obtain ⟨f, us, h1, h2, h3⟩ := hf
 cases f with
 | zero => omega
 | succ f =>
  refine ⟨f, by omega, ?_⟩
  rw [h3, armsL, h2, if_neg (by rw [he]; decide), hx]
  rfl
theorem armsL_bad {e m : Nat} (hf : ∃ (f : Nat) (us : List Tok), ts.length < f ∧ lines us = ts ∧ p = (armsL ar f ns us).bind F) (he : isKw [kEsac] ts = false) (hx : ar ts = .bad e m) : p = .bad e m := by
 obtain ⟨f, us, h1, h2, h3⟩ := hf
 cases f with
 | zero => omega
 | succ f => rw [h3, armsL, h2, if_neg (by rw [he]; decide), hx]; rfl
end
theorem ch_out {W0 : World} {b d j g o cap gw : Nat} {tvs : List (Tok × Value)} {w W : World} {vj vp : Value} {ps : List Prt} {ks : List (Nd × List Value)} {ak : Option Addr} {ck : Nat} {LC LK : List (Nat × Obj)} (HP : PRm W0 [] vp ps) (HM : (gw, Obj.cells #[vp] 29 (0, 0)) ∈ LC) (HRK : RowL 7 41 LK (.slice ak ks.length ck) ks.length (ks.flatMap (·.2))) (HK : ∀ x ∈ ks, NodeL W0 LC x.1 x.2) (Hvj : AtV g o cap tvs j vj)
  (hL : Kn [b] w W ((b, .cells #[vj, .int .i64 (d : Int)] 73 (0, 0)) :: (LC ++ LK))) :
  BOut W0 b d g o cap tvs w (.ok (.mk 12 [] false [] [ps] [] (ks.map (·.1))) ((TT tvs).drop j)) (.returned (.agg #[.int .i64 12, .string ⟨#[]⟩, .bool false, .slice none 0 0, .slice (some ⟨gw, 0, none⟩) 1 1, .slice none 0 0, .slice ak ks.length ck])) W :=
 ⟨12, ⟨#[]⟩, some ⟨gw, 0, none⟩, 1, 1, ak, ks.length, ck, LC, LK, j, vj, rfl, Lib.hid ⟨12, [(ps, vp)], ks, rfl, rfl, RowM.one (cs := [vp]) HM (Nat.le_refl _), (fun x hx => by rw [List.mem_singleton.1 hx]; exact HP.mono fun p hp => by cases hp), rfl, HRK, HK⟩, Lib.hid ⟨Hvj, rfl⟩, hL⟩
theorem choice_c {W0 : World} {g o cap : Nat} {tvs : List (Tok × Value)} (E : PEnv W0 g o cap tvs) {d : Nat} {ar : Pa Nd} (hw : Wp ar 1) (HC : NodeC W0 g o cap tvs 165 d ar) : BodyC W0 g o cap tvs 142 d (fun ts => (wordP ts).bind fun ps r => (want kIn (lines r)).bind fun _ r => (armsL ar (r.length + 1) [] r).bind fun l r => (want kEsac r).bind fun _ r => .ok (.mk 12 [] false [] [ps] [] l) r) := by
 intro b i v w hB hbb hv hb
 obtain ⟨PL, hpl⟩ : ∃ p : PR Nd, ((wordP ((TT tvs).drop i)).bind fun ps r => (want kIn (lines r)).bind fun _ r => (armsL ar (r.length + 1) [] r).bind fun l r => (want kEsac r).bind fun _ r => .ok (.mk 12 [] false [] [ps] [] l) r) = p := ⟨_, rfl⟩
 show Calls _ _ _ _ (BOut W0 b d g o cap tvs w ((wordP ((TT tvs).drop i)).bind fun ps r => (want kIn (lines r)).bind fun _ r => (armsL ar (r.length + 1) [] r).bind fun l r => (want kEsac r).bind fun _ r => .ok (.mk 12 [] false [] [ps] [] l) r))
 rw [hpl]
 have HW := Lib.hid hw
 have HCC := Lib.hid HC
 clear hw HC
 have hi := hv.out.1
 have hmx := E.max
 have HWD := Lib.hid (fun W hB hb => word_c E b i v d W hB hbb hv hb)
 have HB0 := Lib.hid hB
 have HXB := Lib.hid (show ∀ y ∈ [b], W0.heap.size ≤ y from by simpa using hbb)
 have hL : Kn [b] w w [(b, .cells #[v, .int .i64 (d : Int)] 73 (0, 0))] := Kn.one hb
 have HBS := Lib.hid hb
 clear hB hb
 have hF := hL.fx
 cases hw : wordP ((TT tvs).drop i) with
 | bad er m2 =>
  rw [hw] at HWD
  have HB9 := Lib.hid (pr_bad hpl.symm hw)
  clear hw hpl
  go_enter Tryz.func142, Tryz.ntmps142
  go_wp2_with (first | ((with_reducible refine zS ?_); clear hL; intro W hL hF) | (go_at_call 164; refine zG ?_; clear hF hL; intro W hL hF; (with_reducible refine (HWD.out _ (kn_bw HB0.out hL HXB.out) (by (exact hL.has _ (List.mem_cons_of_mem _ List.mem_cons_self)))).mono ?_); rintro e W ⟨vj2, dj, rfl, hb⟩; ((replace hL := hL.join1 1 rfl hb)); clear hb hF; simp only [List.eraseIdx_cons_zero, List.eraseIdx_cons_succ, List.cons_append, List.nil_append] at hL; have hF := hL.fx))
  refine ⟨rfl, ?_⟩; rw [HB9.out]; exact ⟨vj2, dj, rfl, (hL.perml fun p => by simp only [List.countP_cons, List.countP_nil, List.countP_append, List.append_nil, List.nil_append, List.length_nil]; omega)⟩
 | ok ps r =>
  rw [hw] at HWD
  have HB9 := Lib.hid (pr_ok hpl.symm hw)
  clear hw hpl
  go_enter Tryz.func142, Tryz.ntmps142
  go_upto_region 2 with ((go_at_call 164; refine zG ?_; clear hF hL; intro W hL hF; (with_reducible refine (HWD.out _ (kn_bw HB0.out hL HXB.out) (by (exact hL.has _ (List.mem_cons_of_mem _ List.mem_cons_self)))).mono ?_); rintro e W ⟨_, j2, vj2, rfl, ⟨x2, pa2, pn2, pc2, hm2, hq2, rfl, hps⟩, HJ2, hb⟩; ((replace hL := hL.join1 1 rfl hb)); clear hb hF; simp only [List.eraseIdx_cons_zero, List.eraseIdx_cons_succ, List.cons_append, List.nil_append] at hL; have hF := hL.fx; have g3 := tkf3 x2.1.kind x2.1.fd x2.1.line ⟨x2.1.text.toArray⟩ ⟨x2.1.plain.toArray⟩ pa2 pn2 pc2; obtain ⟨W1, rfl⟩ : ∃ W1 : World, W1 = W := ⟨_, rfl⟩))
  refine kn_wp ?_; clear hF hL; intro W hL; have hF := hL.fx
  have HPS : Hid (PRm W0 [] (.slice pa2 pn2 pc2) ps) := Lib.hid (by have := prm_tok E hm2 (L := []); rw [hq2, ← hps] at this; exact this)
  have Hvj2 := Lib.hid HJ2.out.1
  go_upto_region 3 with ((go_at_call 49; refine zG ?_; clear hF hL; intro W hL hF; (with_reducible refine (lines_c E b j2 vj2 d _ (kn_bw HB0.out hL HXB.out) hbb Hvj2 (by (exact hL.has _ (List.mem_cons_of_mem _ (List.mem_cons_of_mem _ List.mem_cons_self))))).mono ?_); rintro e W ⟨j3, vj3, rfl, HJ3, hb⟩; ((replace hL := hL.join1 2 rfl hb)); clear hb hF; simp only [List.eraseIdx_cons_zero, List.eraseIdx_cons_succ, List.cons_append, List.nil_append] at hL; have hF := hL.fx))
  have Hvj3 := Lib.hid HJ3.out.2.1
  have HB8 := HB9.out
  rw [HJ2.out.2, HJ3.out.2.2] at HB8
  have HWI := Lib.hid (fun W hB hb => want_c E b j3 vj3 d W hB hbb Hvj3 hb ⟨#[105, 110]⟩)
  cases hw : want kIn ((TT tvs).drop j3) with
  | bad er m2 =>
   rw [show want (⟨#[105, 110]⟩ : ByteArray).data.toList ((TT tvs).drop j3) = _ from hw] at HWI
   replace HB8 := Lib.hid (pr_bad HB8 hw)
   clear hw
   go_wp2_with (first | ((with_reducible refine zS ?_); clear hL; intro W hL hF) | (go_at_call 144; refine zG ?_; clear hF hL; intro W hL hF; (with_reducible refine (HWI.out _ (kn_bw HB0.out hL HXB.out) (by (exact hL.has _ List.mem_cons_self))).mono ?_); rintro e W ⟨vj2, dj, rfl, hb⟩; ((replace hL := hL.join1 0 rfl hb)); clear hb hF; simp only [List.eraseIdx_cons_zero, List.eraseIdx_cons_succ, List.cons_append, List.nil_append] at hL; have hF := hL.fx))
   refine ⟨rfl, ?_⟩; rw [HB8.out]; exact ⟨vj2, dj, rfl, (hL.perml fun p => by simp only [List.countP_cons, List.countP_nil, List.countP_append, List.append_nil, List.nil_append, List.length_nil]; omega)⟩
  | ok u r3 =>
   rw [show want (⟨#[105, 110]⟩ : ByteArray).data.toList ((TT tvs).drop j3) = _ from hw] at HWI
   replace HB8 := Lib.hid (pr_ok HB8 hw)
   clear hw
   go_upto_region 4 with ((go_at_call 144; refine zG ?_; clear hF hL; intro W hL hF; (with_reducible refine (HWI.out _ (kn_bw HB0.out hL HXB.out) (by (exact hL.has _ List.mem_cons_self))).mono ?_); rintro e W ⟨_, j5, vj5, rfl, rfl, HJ5, hb⟩; ((replace hL := hL.join1 0 rfl hb)); clear hb hF; simp only [List.eraseIdx_cons_zero, List.eraseIdx_cons_succ, List.cons_append, List.nil_append] at hL; have hF := hL.fx))
   have Hvj5 := Lib.hid HJ5.out.1
   have HB7 := HB8.out
   rw [HJ5.out.2] at HB7
   replace HB7 := Lib.hid HB7
   go_wp2_with (first | ((with_reducible refine zS ?_); clear hL; intro W hL hF) | (go_at_call 49; refine zG ?_; clear hF hL; intro W hL hF; (with_reducible refine (lines_c E b j5 vj5 d _ (kn_bw HB0.out hL HXB.out) hbb Hvj5 (by (exact hL.has _ List.mem_cons_self))).mono ?_); rintro e W ⟨j6, vj6, rfl, HJ6, hb⟩; ((replace hL := hL.join1 0 rfl hb)); clear hb hF; simp only [List.eraseIdx_cons_zero, List.eraseIdx_cons_succ, List.cons_append, List.nil_append] at hL; have hF := hL.fx))
   have hj6 := HJ6.out.2.1.1
   go_loopg [] (tvs.length - j6) (fun n wr => ∃ (j : Nat) (vj : Value) (ks : List (Nd × List Value)) (ak : Option Addr) (ck : Nat) (LC LK : List (Nat × Obj)), n = tvs.length - j ∧ Hid (AtV g o cap tvs j vj) ∧ Hid (∃ (f : Nat) (ts : List Tok), ((TT tvs).drop j).length < f ∧ lines ts = (TT tvs).drop j ∧ PL = (armsL ar f (ks.map (·.1)) ts).bind fun l r => (want kEsac r).bind fun _ r => .ok (.mk 12 [] false [] [ps] [] l) r) ∧ Hid (RowL 7 41 LK (.slice ak ks.length ck) ks.length (ks.flatMap (·.2))) ∧ Hid (∀ x ∈ ks, NodeL W0 LC x.1 x.2) ∧ Hid ((W1.heap.size, Obj.cells #[.slice pa2 pn2 pc2] 29 (0, 0)) ∈ LC) ∧ ks.length ≤ j ∧ j < tvs.length ∧ Kn [b] w wr ((b, .cells #[vj, .int .i64 (d : Int)] 73 (0, 0)) :: (W1.heap.size + 1, .cells #[.int .i64 12, .string ⟨#[]⟩, .bool false, .slice none 0 0, .slice (some ⟨W1.heap.size, 0, none⟩) 1 1, .slice none 0 0, .slice ak ks.length ck] 41 (0, 0)) :: (w.heap.size, .cells #[.int .i64 0, .string ⟨#[]⟩, .bool false, .slice none 0 0, .slice none 0 0, .slice none 0 0, .slice none 0 0] 41 (0, 0)) :: (LC ++ LK)))
   case atStart => exact ⟨j6, vj6, [], none, 0, [(W1.heap.size, Obj.cells #[.slice pa2 pn2 pc2] 29 (0, 0))], [], rfl, Lib.hid HJ6.out.2.1, Lib.hid ⟨_, (TT tvs).drop j5, by have := HJ6.out.1; rw [List.length_drop, List.length_drop]; omega, HJ6.out.2.2, HB7.out⟩, Lib.hid RowL.nil, Lib.hid (by simp), Lib.hid List.mem_cons_self, Nat.zero_le _, hj6, by refine Kn.name ?_; clear hL; intro hL; exact (hL.perml fun p => by simp only [List.countP_cons, List.countP_nil, List.countP_append, List.append_nil, List.nil_append, List.length_nil]; omega)⟩
   case round => (
    clear hL
    obtain ⟨j, vj, ks, ak, ck, LC, LK, rfl, Hvj, HF, HRK, HKS, HCM, hsz, hjl, hL⟩ := hrel
    have hF := hL.fx
    obtain ⟨k3, hk3⟩ : ∃ z : Bool, isKw [kEsac] ((TT tvs).drop j) = z := ⟨_, rfl⟩
    have HK3 : Hid (isKw ([(⟨#[101, 115, 97, 99]⟩ : ByteArray)].map fun z => z.data.toList) ((TT tvs).drop j) = k3) := Lib.hid hk3
    have HK4 : Hid (isKw [kEsac] ((TT tvs).drop j) = k3) := Lib.hid hk3
    clear hk3
    cases k3
    ·have HCJ := Lib.hid (fun W hB hb => HCC.out b j vj W hB hbb Hvj hb)
     cases hc : ar ((TT tvs).drop j) with
     | bad er m2 =>
      rw [hc] at HCJ
      have HB8 := Lib.hid (armsL_bad HF.out HK4.out hc)
      clear hc
      go_wp2_with (first | ((with_reducible refine zS ?_); clear hL; intro W hL hF) | (go_at_call 86; refine zC (fun W hL => key_c E b j vj (d : Int) _ (kn_bw HB0.out hL HXB.out) hbb Hvj (by (exact hL.has _ (List.mem_cons_of_mem _ List.mem_cons_self))) _ 0 1 _ [⟨#[101, 115, 97, 99]⟩] _ HK3 (Lib.hid rfl) (by omega) (one_word (kn_c0 hL List.mem_cons_self)) (by (exact kn_ne hL List.mem_cons_self))) ?_; clear hF hL; intro W hL hF; replace hL := hL.drop1; clear hF; have hF := hL.fx) | ((with_reducible refine at_region 7 ?_); refine kn_wp ?_; clear hF hL; intro W hL; have hF := hL.fx; refine kn_regionP [0, 1, 2, 3, 4, 5, 6, 7] [0, 1, 2, 6] [5, 7] [0, 2, 6] (by kernel_rfl) (by kernel_rfl) (List.Sublist.cons _ (List.Sublist.cons_cons _ (List.nil_sublist _))) ?_; clear hF hL; intro Qp hQp; replace hQp := Lib.hid hQp; intro ι F hne hC hFF; have hG := fun n => (hFF n).fx; clear hFF; (repeat (first | (refine cS ?_) | (refine cF hC ?_; intro K hK; go_big_quiet_op; go_big_quiet_on) | (refine cP ?_; intro K hK; go_big_quiet_op; go_big_quiet_on) | (refine cwk_callP rfl (by rfl) (by rfl) (fun _ => rfl) ?_; intro W hL; have hF := hL.fx; simp only [zA, Act.eval]; go_at_call 165; (with_reducible refine (HCJ.out _ (kn_bw HB0.out hL HXB.out) (by (exact hL.has _ List.mem_cons_self))).mono ?_); rintro e W ⟨vj2, dj, rfl, hb⟩; ((replace hL := hL.join1 0 rfl hb)); clear hb hF; simp only [List.eraseIdx_cons_zero, List.eraseIdx_cons_succ, List.cons_append, List.nil_append] at hL; have hF := hL.fx; refine ⟨_, rfl, hQp.out _ _ ?_⟩; clear hQp; intro a' ha; simp only [Exit.then, Exit.inBlock]; refine ⟨ha, ?_⟩; show BOut W0 b d g o cap tvs w (PL) _ _; rw [HB8.out]; exact ⟨vj2, dj, rfl, (hL.perml fun p => by simp only [List.countP_cons, List.countP_nil, List.countP_append, List.append_nil, List.nil_append, List.length_nil]; omega)⟩) | (refine cN ?_; intro W hL; have hF := hL.facts; go_wp2; refine zB2 ?_; clear hL hC hG; intro ι F hne hC hG))); ((done))))
     | ok x r =>
      rw [hc] at HCJ
      have HF2 := Lib.hid (armsL_ok HF.out HK4.out hc)
      have HLE2 := Lib.hid (fun j2 vj2 (h : AtV g o cap tvs j2 vj2) (hr : r = (TT tvs).drop j2) => at_le h hjl (HW.out _) hc hr)
      clear hc
      go_upto_region 6 with (first | (go_at_call 86; refine zC (fun W hL => key_c E b j vj (d : Int) _ (kn_bw HB0.out hL HXB.out) hbb Hvj (by (exact hL.has _ (List.mem_cons_of_mem _ List.mem_cons_self))) _ 0 1 _ [⟨#[101, 115, 97, 99]⟩] _ HK3 (Lib.hid rfl) (by omega) (one_word (kn_c0 hL List.mem_cons_self)) (by (exact kn_ne hL List.mem_cons_self))) ?_; clear hF hL; intro W hL hF; replace hL := hL.drop1; clear hF; have hF := hL.fx) | ((with_reducible refine at_region 7 ?_); refine kn_wp ?_; clear hF hL; intro W hL; have hF := hL.fx; refine kn_region [0, 1, 2, 3, 4, 5, 6, 7] [0, 1, 2, 6] [5, 7] [0, 2, 6] (by kernel_rfl) (by kernel_rfl) (List.Sublist.cons _ (List.Sublist.cons_cons _ (List.nil_sublist _))) ?_; clear hF hL; intro ι F hne hC hFF; have hG := fun n => (hFF n).fx; clear hFF; (repeat (first | (refine cS ?_) | (refine cF hC ?_; intro K hK; go_big_quiet_op; go_big_quiet_on) | (refine cP ?_; intro K hK; go_big_quiet_op; go_big_quiet_on) | (refine cC ?_; intro W hL; have hF := hL.fx; simp only [zA, Act.eval]; go_at_call 165; (with_reducible refine (HCJ.out _ (kn_bw HB0.out hL HXB.out) (by (exact hL.has _ List.mem_cons_self))).mono ?_); rintro e W ⟨nm, aa, na, ca, aw, nw, cw, ar, nr, cr, ak, nk, ck, LN, j2, vj2, rfl, HN, HJ2, hb⟩; ((replace hL := hL.join1 0 rfl hb)); clear hb hF; simp only [List.eraseIdx_cons_zero, List.eraseIdx_cons_succ, List.cons_append, List.nil_append] at hL; have hF := hL.fx; replace hL := hL.in1; clear hF; have hF := hL.fx; refine owed_ret ?_; ((refine owed0 _ (by repeat' (first | (with_reducible exact List.nil_sublist _) | (with_reducible apply List.Sublist.cons_cons) | (with_reducible apply List.Sublist.cons))) ?_; clear hL hF)); simp only [Act.put, zT]) | (refine cN ?_; intro W hL; have hF := hL.fx; at_builtin; go_loud (refine wpList_append_end rfl _ _ 39 39 rfl (_ :: _ :: _ :: _ :: (LN ++ LC)) LK hL ks.length 1 (ks.flatMap (·.2)) [.int .i64 (x.kind : Int), .string nm, .bool x.neg, .slice aa na ca, .slice aw nw cw, .slice ar nr cr, .slice ak nk ck] _ _ HRK.out rfl rfl (fun ho => run_append_Nd rfl (fun j u hu => by rw [Go.WideShapes.add_plain, Nat.zero_add, kn_cell hL List.mem_cons_self]; simpa using hu) (by intro u hu; simp only [List.mem_cons, List.not_mem_nil, or_false] at hu; rcases hu with rfl | rfl | rfl | rfl | rfl | rfl | rfl <;> rfl) (by omega) ho) ?_); intro LP3 a3 c3 W3 hL2 hr3; clear hL hF; have hL := hL2; clear hL2; simp only [List.append_eq, List.cons_append, List.nil_append] at hL; have hF := hL.fx; go_wp2; refine zB2 ?_; clear hL hF hC hG; intro ι F hne hC hG) | (refine cN ?_; intro W hL; have hF := hL.fx; go_wp2; refine anchQ_normal ?_; (first | (refine owedB _ (by rfl) ?_; clear hL hF hC hG; intro ι F hne hC hFF; have hG := fun n => (hFF n).fx; clear hFF) | (refine owed0 _ (by repeat' (first | (with_reducible exact List.nil_sublist _) | (with_reducible apply List.Sublist.cons_cons) | (with_reducible apply List.Sublist.cons))) ?_; clear hL hF))))); refine cwk_nil ?_; clear hC hG; intro W hL; simp only [kfb] at hL; have hF := hL.fx))
      have hle2 := HLE2.out _ _ HJ2.out.1 HJ2.out.2
      have hj4 := HJ2.out.1.1
      have Hvj2 := Lib.hid HJ2.out.1
      go_wp2_with (first | ((with_reducible refine zS ?_); clear hL; intro W hL hF) | (go_at_call 49; refine zG ?_; clear hF hL; intro W hL hF; (with_reducible refine (lines_c E b j2 vj2 d _ (kn_bw HB0.out hL HXB.out) hbb Hvj2 (by (exact hL.has _ (List.mem_cons_of_mem _ List.mem_cons_self)))).mono ?_); rintro e W ⟨j4, vj4, rfl, HJ4, hb⟩; ((replace hL := hL.join1 1 rfl hb)); clear hb hF; simp only [List.eraseIdx_cons_zero, List.eraseIdx_cons_succ, List.cons_append, List.nil_append] at hL; have hF := hL.fx))
      have hj5 := HJ4.out.1
      have hj6 := HJ4.out.2.1.1
      go_roundg (tvs.length - j4)
      case measure => omega
      case rel => exact ⟨j4, vj4, ks ++ [(x, [.int .i64 (x.kind : Int), .string nm, .bool x.neg, .slice aa na ca, .slice aw nw cw, .slice ar nr cr, .slice ak nk ck])], a3, c3, LN ++ LC, LP3, rfl, Lib.hid HJ4.out.2.1, Lib.hid (by obtain ⟨f, hf1, hf⟩ := HF2.out; rw [HJ2.out.2] at hf; exact ⟨f, _, by rw [List.length_drop, TT_len] at hf1 ⊢; omega, HJ4.out.2.2, by simpa using hf⟩), Lib.hid (by simpa using hr3), Lib.hid (all_snoc (fun y hy => (HKS.out y hy).r) HN.out.l), Lib.hid (List.mem_append_right _ HCM.out), by simp only [List.length_append, List.length_singleton]; omega, hj6, by refine Kn.name ?_; clear hL; intro hL; simp only [List.length_append, List.length_singleton]; exact (hL.perml fun p => by simp only [List.countP_cons, List.countP_nil, List.countP_append, List.append_nil, List.nil_append, List.length_nil]; omega)⟩
    ·have HB1 := Lib.hid (armsL_end HF.out HK4.out)
     go_upto_region 8 with ((go_at_call 86; refine zC (fun W hL => key_c E b j vj (d : Int) _ (kn_bw HB0.out hL HXB.out) hbb Hvj (by (exact hL.has _ (List.mem_cons_of_mem _ List.mem_cons_self))) _ 0 1 _ [⟨#[101, 115, 97, 99]⟩] _ HK3 (Lib.hid rfl) (by omega) (one_word (kn_c0 hL List.mem_cons_self)) (by (exact kn_ne hL List.mem_cons_self))) ?_; clear hF hL; intro W hL hF; replace hL := hL.drop1; clear hF; have hF := hL.fx))
     have HB2 := HB1.out
     have HW1 := Lib.hid (fun W hB hb => want_c E b j vj d W hB hbb Hvj hb ⟨#[101, 115, 97, 99]⟩)
     cases hw : want kEsac ((TT tvs).drop j) with
     | bad er m2 =>
      rw [show want (⟨#[101, 115, 97, 99]⟩ : ByteArray).data.toList ((TT tvs).drop j) = _ from hw] at HW1
      replace HB2 := Lib.hid (pr_bad HB2 hw)
      clear hw
      go_wp2_with (first | ((with_reducible refine zS ?_); clear hL; intro W hL hF) | (go_at_call 144; refine zG ?_; clear hF hL; intro W hL hF; (with_reducible refine (HW1.out _ (kn_bw HB0.out hL HXB.out) (by (exact hL.has _ List.mem_cons_self))).mono ?_); rintro e W ⟨vj2, dj, rfl, hb⟩; ((replace hL := hL.join1 0 rfl hb)); clear hb hF; simp only [List.eraseIdx_cons_zero, List.eraseIdx_cons_succ, List.cons_append, List.nil_append] at hL; have hF := hL.fx))
      refine ⟨rfl, ?_⟩; rw [HB2.out]; exact ⟨vj2, dj, rfl, (hL.perml fun p => by simp only [List.countP_cons, List.countP_nil, List.countP_append, List.append_nil, List.nil_append, List.length_nil]; omega)⟩
     | ok u r3 =>
      rw [show want (⟨#[101, 115, 97, 99]⟩ : ByteArray).data.toList ((TT tvs).drop j) = _ from hw] at HW1
      replace HB2 := Lib.hid (pr_ok HB2 hw)
      clear hw
      go_wp2_with (first | ((with_reducible refine zS ?_); clear hL; intro W hL hF) | (go_at_call 144; refine zG ?_; clear hF hL; intro W hL hF; (with_reducible refine (HW1.out _ (kn_bw HB0.out hL HXB.out) (by (exact hL.has _ List.mem_cons_self))).mono ?_); rintro e W ⟨_, j3, vj3, rfl, rfl, HJ3, hb⟩; ((replace hL := hL.join1 0 rfl hb)); clear hb hF; simp only [List.eraseIdx_cons_zero, List.eraseIdx_cons_succ, List.cons_append, List.nil_append] at hL; have hF := hL.fx))
      refine kn_body ?_; clear hF hL; intro W hL; simp only [kfb] at hL; have hF := hL.fx
      refine bodyPost_ret (by simp [results, Tryz.results142, go_sem, *]; try rfl) rfl ?_
      rw [HB2.out, HJ3.out.2]
      exact ch_out HPS.out HCM.out HRK.out HKS.out HJ3.out.1 (hL.perml fun p => by simp only [List.countP_cons, List.countP_nil, List.countP_append, List.append_nil, List.nil_append, List.length_nil]; omega))
end Go.Proofs.YtgboffbbpmileaaGreatDoor
/- A map that is a known block: its entries as a list of keys and elements; look-up, store at a new key. -/
set_option linter.unusedVariables false
set_option linter.unusedSimpArgs false
namespace Go.Proofs.YtgboffbbpmileaaGreatDoor
open Go Go.RowKit
structure MapV (P : Program) (k : TypeId) (es : Array MapEntry) (M : List (Value × Value)) : Prop where
 ents : es.toList.map (fun e => (e.key, e.val)) = M
 keys : ∀ p ∈ M, ∃ l, keyOf P k p.1 = some l
 nd : (M.map (·.1)).Nodup
theorem MapV.nil {P : Program} {k : TypeId} : MapV P k #[] [] := ⟨rfl, fun _ h => (by cases h), List.nodup_nil⟩
section
variable {P : Program} {k : TypeId} {es : Array MapEntry} {M : List (Value × Value)} {w : World} {t e : TypeId} {b : Nat} {clock : Nat}
theorem MapV.key_of (h : MapV P k es M) : ∀ x ∈ es.toList, ∃ l, keyOf P k x.key = some l := fun x hx =>
 h.keys (x.key, x.val) (by rw [← h.ents]; exact List.mem_map.2 ⟨x, hx, rfl⟩)
theorem MapV.size (h : MapV P k es M) : es.size = M.length := by rw [← h.ents]; simp
theorem pair_inj {M : List (Value × Value)} (nd : (M.map (·.1)).Nodup) {a u v : Value} (h1 : (a, u) ∈ M) (h2 : (a, v) ∈ M) : u = v := by
 obtain ⟨i, hi, e1⟩ := List.mem_iff_getElem.1 h1
 obtain ⟨j, hj, e2⟩ := List.mem_iff_getElem.1 h2
 have e3 : (M.map (·.1))[i]'(by simpa using hi) = (M.map (·.1))[j]'(by simpa using hj) := by simp [e1, e2]
 have := (List.getElem_inj nd).1 e3
 subst this
 rw [e1] at e2
 exact congrArg Prod.snd e2
theorem MapV.run_hit (c : Bool) (h : MapV P k es M) (K : Maps.Keyed P k) (ht : P.underlying t = some (.map k e)) (hb : w.heap[b]? = some (.map es clock)) {key v : Value} (hm : (key, v) ∈ M) :
  (Instr.lookup t (.map (some b)) key c).run P w = .ok (if c then .tuple #[v, .bool true] else v) w := by
 obtain ⟨kl, hkey⟩ := h.keys _ hm
 replace hkey : keyOf P k key = some kl := hkey
 rcases K.find w hkey es.toList h.key_of with ⟨h1, h2⟩ | ⟨j, e0, h1, h2, h3⟩
 ·exfalso
  rw [← h.ents] at hm
  obtain ⟨x, hx, ex⟩ := List.mem_map.1 hm
  exact h2 x hx (congrArg Prod.fst ex)
 ·have e4 : e0.val = v := by
   refine pair_inj h.nd (a := key) ?_ hm
   rw [← h.ents, ← h3]; exact List.mem_map.2 ⟨e0, List.mem_of_getElem? h2, rfl⟩
  subst e4
  cases c <;> simp [Instr.lookup, run_underlying ht, MapKept.run_getObj_map hb, K.check w _ hkey, h1, Result.andThen]
theorem MapV.run_miss (c : Bool) (h : MapV P k es M) (K : Maps.Keyed P k) (ht : P.underlying t = some (.map k e)) {z : Value} (hz : (zeroValue e).run P w = .ok z w) (hb : w.heap[b]? = some (.map es clock)) {key : Value} {kl : Lit} (hkey : keyOf P k key = some kl) (hm : ∀ p ∈ M, p.1 ≠ key) :
  (Instr.lookup t (.map (some b)) key c).run P w = .ok (if c then .tuple #[z, .bool false] else z) w := by
 rcases K.find w hkey es.toList h.key_of with ⟨h1, h2⟩ | ⟨j, e0, h1, h2, h3⟩
 ·cases c <;> simp [Instr.lookup, run_underlying ht, MapKept.run_getObj_map hb, K.check w _ hkey, h1, hz, Result.andThen]
 ·exfalso
  refine hm (e0.key, e0.val) ?_ h3
  rw [← h.ents]; exact List.mem_map.2 ⟨e0, List.mem_of_getElem? h2, rfl⟩
theorem MapV.run_new (h : MapV P k es M) (K : Maps.Keyed P k) (ht : P.underlying t = some (.map k e)) (hb : w.heap[b]? = some (.map es clock)) (hroom : M.length < maxLen) {key : Value} (val : Value) {kl : Lit} (hkey : keyOf P k key = some kl) (hm : ∀ p ∈ M, p.1 ≠ key) :
  ∃ es' clock', (Instr.mapUpdate t (.map (some b)) key val).run P w = .ok () { w with heap := w.heap.setIfInBounds b (.map es' clock') } ∧ MapV P k es' (M ++ [(key, val)]) := by
 rcases K.find w hkey es.toList h.key_of with ⟨h1, h2⟩ | ⟨j, e0, h1, h2, h3⟩
 ·have := h.size
  refine ⟨es.push ⟨key, val, clock⟩, clock + 1, ?_, ?_, ?_, ?_⟩
  ·simp [Instr.mapUpdate, run_underlying ht, MapKept.run_getObj_map hb, K.check w false hkey, h1, MapKept.run_setObj_map _ hb, Result.andThen]
  ·simp [h.ents]
  ·intro p hp
   rcases List.mem_append.1 hp with hp | hp
   ·exact h.keys p hp
   ·simp at hp; subst hp; exact ⟨kl, hkey⟩
  ·rw [List.map_append, List.nodup_append]
   refine ⟨h.nd, by simp, fun a ha b hb => ?_⟩
   simp at hb; subst hb
   obtain ⟨q, hq, rfl⟩ := List.mem_map.1 ha
   exact hm q hq
 ·exfalso
  refine hm (e0.key, e0.val) ?_ h3
  rw [← h.ents]; exact List.mem_map.2 ⟨e0, List.mem_of_getElem? h2, rfl⟩
end
theorem Kn.setBlk {X : List Nat} {w0 w : World} {L : List (Nat × Obj)} (h : Kn X w0 w L) {j b : Nat} {o : Obj} (hj : L[j]? = some (b, o)) (o' : Obj) : Kn X w0 { w with heap := w.heap.setIfInBounds b o' } (L.set j (b, o')) := by
 have hm : (b, o) ∈ L := List.mem_of_getElem? hj
 have hlt := h.lt hm
 have hkeys : (L.set j (b, o')).map (·.1) = L.map (·.1) := by
  rw [List.map_set]
  apply List.ext_getElem?
  intro i
  rw [List.getElem?_set]
  split
  ·rename_i e; subst e
   split
   ·simp [hj]
   ·rename_i hn; simp at hn; simp [List.getElem?_eq_none hn]
  ·rfl
 have hmem : ∀ p ∈ L.set j (b, o'), p = (b, o') ∨ (p ∈ L ∧ p.1 ≠ b) := by
  intro p hp
  obtain ⟨i, hi⟩ := List.mem_iff_getElem?.1 hp
  rw [List.getElem?_set] at hi
  split at hi
  ·split at hi
   ·left; exact (Option.some.inj hi).symm
   ·cases hi
  ·rename_i hij
   right
   refine ⟨List.mem_of_getElem? hi, fun e => hij ?_⟩
   obtain ⟨hil, hie⟩ := List.getElem?_eq_some_iff.1 hi
   obtain ⟨hjl, hje⟩ := List.getElem?_eq_some_iff.1 hj
   have h1 : (L.map (·.1))[j]'(by simpa using hjl) = (L.map (·.1))[i]'(by simpa using hil) := by simp [hie, hje, e]
   exact (List.getElem_inj h.nd).1 h1
 refine ⟨h.os, h.tape, h.output, by simpa using h.size, fun d hd hx => ?_, fun p hp => ?_, fun p hp => ?_, by rw [hkeys]; exact h.nd⟩
 ·have hdb : b ≠ d := by
   rintro rfl
   rcases h.own _ hm with e | e
   ·exact absurd hd (by simpa using e)
   ·exact hx e
  show (w.heap.setIfInBounds b o')[d]? = _
  rw [Array.getElem?_setIfInBounds, if_neg hdb]; exact h.block d hd hx
 ·rcases hmem p hp with rfl | ⟨hp, _⟩
  ·exact h.own (b, o) hm
  ·exact h.own p hp
 ·rcases hmem p hp with rfl | ⟨hp, hne⟩
  ·show (w.heap.setIfInBounds b o')[b]? = some o'
   rw [Array.getElem?_setIfInBounds, if_pos rfl, if_pos hlt]
  ·show (w.heap.setIfInBounds b o')[p.1]? = _
   rw [Array.getElem?_setIfInBounds, if_neg (fun e => hne e.symm)]; exact h.has p hp
section
variable {P : Program} {k : TypeId} {es : Array MapEntry} {M : List (Value × Value)} {w : World} {t e : TypeId} {b clock : Nat} {X : List Nat} {w0 : World} {L : List (Nat × Obj)} {ops : Array Oper} {rest : List Oper} {o : Oper} {a : Act} {Q : Exit → Act → World → Prop}
theorem wpList_hit (hg : o.guard = none) (m x : Operand) (c : Bool) (hop : o.op = Op.lookup t m x c) (K : Maps.Keyed P k) (ht : P.underlying t = some (.map k e)) (hb : w.heap[b]? = some (.map es clock)) (hM : MapV P k es M)
  (hm : a.eval m = .map (some b)) (key v : Value) (hx : a.eval x = key) (hv : (key, v) ∈ M) (h : wpList P ops Q rest (a.put o.dst (if c then .tuple #[v, .bool true] else v)) w) : wpList P ops Q (o :: rest) a w := by
 refine wpList_plain hg fun K' hK' => ?_
 have hrun := hM.run_hit c K ht hb hv
 unfold Oper.wp
 simp only [execOp, hop, hm, hx, hrun, Sem.run_bind, Sem.run_pure, Result.andThen_ok]
 exact hK' _ _ h
theorem wpList_miss (hg : o.guard = none) (m x : Operand) (c : Bool) (hop : o.op = Op.lookup t m x c) (K : Maps.Keyed P k) (ht : P.underlying t = some (.map k e)) (z : Value) (hz : ∀ w, (zeroValue e).run P w = .ok z w) (hb : w.heap[b]? = some (.map es clock)) (hM : MapV P k es M)
  (hm : a.eval m = .map (some b)) (key : Value) (kl : Lit) (hx : a.eval x = key) (hkey : keyOf P k key = some kl) (hn : ∀ p ∈ M, p.1 ≠ key) (h : wpList P ops Q rest (a.put o.dst (if c then .tuple #[z, .bool false] else z)) w) : wpList P ops Q (o :: rest) a w := by
 refine wpList_plain hg fun K' hK' => ?_
 have hrun := hM.run_miss c K ht (hz w) hb hkey hn
 unfold Oper.wp
 simp only [execOp, hop, hm, hx, hrun, Sem.run_bind, Sem.run_pure, Result.andThen_ok]
 exact hK' _ _ h
theorem at_ins {dst : Option Tmp} {ty : TypeId} {pos : String} {after : Array Edge} {g : Option (Nat × Bool)} {m x u : Operand} (h : wpList P ops Q (⟨dst, .insert t m x u, ty, pos, after, g⟩ :: rest) a w) : wpList P ops Q (⟨dst, .insert t m x u, ty, pos, after, g⟩ :: rest) a w := h
/-- As in a literal. -/
theorem wpList_ins {dst : Option Tmp} {ty : TypeId} {pos : String} {after : Array Edge} {m x u : Operand} (K : Maps.Keyed P k) (ht : P.underlying t = some (.map k e)) (hk : Kn X w0 w L) (j : Nat) (hj : L[j]? = some (b, .map es clock)) (hM : MapV P k es M) (hroom : M.length < maxLen)
  (hm : a.eval m = .map (some b)) (key val : Value) (kl : Lit) (hx : a.eval x = key) (hu : a.eval u = val) (hkey : keyOf P k key = some kl) (hn : ∀ p ∈ M, p.1 ≠ key)
  (h : ∀ W es' clock', Kn X w0 W (L.set j (b, .map es' clock')) → MapV P k es' (M ++ [(key, val)]) → wpList P ops Q rest (a.put dst undef) W) : wpList P ops Q (⟨dst, .insert t m x u, ty, pos, after, none⟩ :: rest) a w := by
 refine wpList_plain rfl fun K' hK' => ?_
 obtain ⟨es', clock', hrun, h2⟩ := hM.run_new K ht (hk.has _ (List.mem_of_getElem? hj)) hroom val hkey hn
 unfold Oper.wp
 simp only [execOp, hm, hx, hu, hrun, Sem.run_bind, Sem.run_pure, Result.andThen_ok]
 exact hK' _ _ (h _ es' clock' (hk.setBlk hj _) h2)
end
end Go.Proofs.YtgboffbbpmileaaGreatDoor
set_option maxRecDepth 20000
set_option maxHeartbeats 4000000
set_option linter.unusedVariables false
set_option linter.unusedSimpArgs false
namespace Go.Proofs.YtgboffbbpmileaaGreatDoor
open Go Go.RowKit
theorem under_blks : Tryz.prog.underlying 160 = some (.map 9 149) := Tryz.underlying160
theorem strlaw : Maps.Keyed Tryz.prog 9 := Maps.string_keyed Tryz.underlying9
theorem strkey (s : ByteArray) (hs : s.size ≤ 1000000) : keyOf Tryz.prog 9 (.string s) = some (.string s.data.toList) := WideMaps.keyOf_string_mk Tryz.underlying9 (by unfold maxLen; omega)
theorem str_ne {a b : ByteArray} (h : (a.data.toList == b.data.toList) = false) : Value.string a ≠ Value.string b := by
 intro e
 injection e with e
 subst e
 simp at h
theorem zeroF (w : World) : (zeroValue 149).run Tryz.prog w = .ok .nilFunc w := by kernel_rfl
/-- The function value of a compound command. -/
def blkV : Option Blk → Value
 | none => .nilFunc
 | some .sub => Value.func (.func 136) #[] #[]
 | some .grp => Value.func (.func 137) #[] #[]
 | some .iff => Value.func (.func 138) #[] #[]
 | some .whl => Value.func (.func 139) #[] #[]
 | some .unt => Value.func (.func 140) #[] #[]
 | some .for_ => Value.func (.func 141) #[] #[]
 | some .case_ => Value.func (.func 142) #[] #[]
theorem block_at {W0 : World} {g o cap : Nat} {tvs : List (Tok × Value)} (E : PEnv W0 g o cap tvs) {i : Nat} {x : Tok × Value} (hx : tvs[i]? = some x) : blockOf ((TT tvs).drop i) = if isOp [40] ((TT tvs).drop i) then some .sub else if ((x.1.kind : Int) != 0) = true then none else blkWord x.1.plain := by
 rcases drop_at E hx with ⟨h1, h2, h3, h4⟩ | ⟨h1, h2, h3⟩
 ·rw [h1, h2]; rfl
 ·rw [h1]
  unfold blockOf
  congr 1
  show (if x.1.kind = 0 then _ else _) = _
  by_cases h : x.1.kind = 0
  ·rw [if_pos h, if_neg (by rw [h]; decide)]
  ·rw [if_neg h, if_pos (by rw [bne_iff_ne]; omega)]
theorem blkWord_no {s : Bytes} (h : blkWord s = none) : s ≠ [123] ∧ s ≠ [105, 102] ∧ s ≠ [119, 104, 105, 108, 101] ∧ s ≠ [117, 110, 116, 105, 108] ∧ s ≠ [102, 111, 114] ∧ s ≠ [99, 97, 115, 101] := by
 unfold blkWord kIf kWhile kUntil kFor kCase at h
 (repeat' split at h) <;> first | (cases h; done) | (refine ⟨?_, ?_, ?_, ?_, ?_, ?_⟩ <;> assumption)
theorem blkWord_yes {s : Bytes} {b : Blk} (h : blkWord s = some b) : (b = .grp ∧ s = [123]) ∨ (b = .iff ∧ s = [105, 102]) ∨ (b = .whl ∧ s = [119, 104, 105, 108, 101]) ∨ (b = .unt ∧ s = [117, 110, 116, 105, 108]) ∨ (b = .for_ ∧ s = [102, 111, 114]) ∨ (b = .case_ ∧ s = [99, 97, 115, 101]) := by
 unfold blkWord kIf kWhile kUntil kFor kCase at h
 (repeat' split at h) <;> first | (cases h; done) | (cases h; simp [*])
theorem block_c {W0 : World} {g o cap : Nat} {tvs : List (Tok × Value)} (E : PEnv W0 g o cap tvs) (b i : Nat) (v : Value) (d : Nat) (w : World) (hB : Below W0.heap.size W0 w) (hbb : W0.heap.size ≤ b) (hv : Hid (AtV g o cap tvs i v)) (hb : w.heap[b]? = some (.cells #[v, .int .i64 (d : Int)] 73 (0, 0))) : Calls Tryz.prog 119 #[.pointer (some ⟨b, 0, none⟩)] w fun e w' => e = .returned (blkV (blockOf ((TT tvs).drop i))) ∧ Below w.heap.size w w' := by
 obtain ⟨x, pa, pn, pc, hx, hx2⟩ := E.tok hv.out
 have HX := Lib.hid hx
 have HX2 := Lib.hid hx2
 have f0 := tkf0 x.1.kind x.1.fd x.1.line ⟨x.1.text.toArray⟩ ⟨x.1.plain.toArray⟩ pa pn pc
 have f1 := tkf1 x.1.kind x.1.fd x.1.line ⟨x.1.text.toArray⟩ ⟨x.1.plain.toArray⟩ pa pn pc
 have f2 := tkf2 x.1.kind x.1.fd x.1.line ⟨x.1.text.toArray⟩ ⟨x.1.plain.toArray⟩ pa pn pc
 have f3 := tkf3 x.1.kind x.1.fd x.1.line ⟨x.1.text.toArray⟩ ⟨x.1.plain.toArray⟩ pa pn pc
 have f4 := tkf4 x.1.kind x.1.fd x.1.line ⟨x.1.text.toArray⟩ ⟨x.1.plain.toArray⟩ pa pn pc
 have f5 := tkf5 x.1.kind x.1.fd x.1.line ⟨x.1.text.toArray⟩ ⟨x.1.plain.toArray⟩ pa pn pc
 clear hx hx2
 rw [block_at E HX.out]
 obtain ⟨k0, hk0⟩ : ∃ z : Bool, isOp [40] ((TT tvs).drop i) = z := ⟨_, rfl⟩
 obtain ⟨kz, hkz⟩ : ∃ z : Bool, ((x.1.kind : Int) != 0) = z := ⟨_, rfl⟩
 have HK0 : Hid (isOp (⟨#[40]⟩ : ByteArray).data.toList ((TT tvs).drop i) = k0) := Lib.hid hk0
 rw [hk0, hkz]
 clear hk0
 have hmm := @run_makeMap Tryz.prog
 have hM := MapV.nil (P := Tryz.prog) (k := 9)
 have HSZ : Hid ((⟨x.1.plain.toArray⟩ : ByteArray).size ≤ 1000000) := Lib.hid (by have := (E.word x (List.mem_of_getElem? HX.out)).2.1; rw [← szl]; simp only [List.toList_toArray]; omega)
 cases k0
 ·cases kz
  ·rw [if_neg (by decide), if_neg (by decide)]
   cases hbw : blkWord x.1.plain with
   | none =>
    have HNO : Hid (∀ p ∈ ([(Value.string ⟨#[123]⟩, Value.func (.func 137) #[] #[]), (Value.string ⟨#[105, 102]⟩, Value.func (.func 138) #[] #[]), (Value.string ⟨#[119, 104, 105, 108, 101]⟩, Value.func (.func 139) #[] #[]), (Value.string ⟨#[117, 110, 116, 105, 108]⟩, Value.func (.func 140) #[] #[]), (Value.string ⟨#[102, 111, 114]⟩, Value.func (.func 141) #[] #[]), (Value.string ⟨#[99, 97, 115, 101]⟩, Value.func (.func 142) #[] #[])] : List (Value × Value)), p.1 ≠ Value.string ⟨x.1.plain.toArray⟩) := Lib.hid (by
     intro p hp e
     obtain ⟨h1, h2, h3, h4, h5, h6⟩ := blkWord_no hbw
     (repeat' (first | exact absurd hp List.not_mem_nil | (rcases List.mem_cons.1 hp with rfl | hp)))
     all_goals (injection e with e; injection e with e; have e := (congrArg Array.toList e).symm; simp only [List.toList_toArray] at e; first | exact h1 e | exact h2 e | exact h3 e | exact h4 e | exact h5 e | exact h6 e))
    clear hbw
    have HB0 := Lib.hid hB
    have HXB := Lib.hid (show ∀ y ∈ [b], W0.heap.size ≤ y from by simpa using hbb)
    have hL : Kn [b] w w [(b, .cells #[v, .int .i64 (d : Int)] 73 (0, 0))] := Kn.one hb
    have HBS := Lib.hid hb
    clear hB hb
    have hF := hL.fx
    go_enter Tryz.func119, Tryz.ntmps119
    go_wp2_with (first | ((with_reducible refine zS ?_); clear hL; intro W hL hF) | (go_at_call 52; refine zG ?_; clear hF hL; intro W hL hF; (((first | (with_reducible refine (op_c E b i v (d : Int) _ (kn_bw HB0.out hL HXB.out) hbb hv (by (exact hL.has _ List.mem_cons_self)) ⟨#[40]⟩ _ HK0).mono ?_)))); rintro e W ⟨rfl, hb⟩; replace hL := hL.below hb; clear hb hF; have hF := hL.fx) | (go_at_call 27; refine zC (fun W hL => next_i E b i v (d : Int) _ (kn_bw HB0.out hL HXB.out) hbb hv (by first | exact hL.has _ List.mem_cons_self | exact hL.has _ (List.mem_cons_of_mem _ List.mem_cons_self)) HX.out pa pn pc HX2.out ) ?_; clear hF hL; intro W hL hF) | ((with_reducible refine at_ins ?_); refine zL ?_; clear hF hL; intro W hL hF; go_loud (refine wpList_ins strlaw under_blks hL 0 rfl hM (by simp [maxLen]) rfl _ _ _ rfl rfl (strkey _ (by decide)) (by intro p hp; (repeat' (first | exact absurd hp List.not_mem_nil | (rcases List.mem_cons.1 hp with rfl | hp))); all_goals exact str_ne (by decide)) ?_); intro W2 es2 ck2 hL2 hM2; clear hL hF hM; have hL := hL2; have hM := hM2; clear hL2 hM2; simp only [List.nil_append, List.cons_append] at hM; (simp only [zA, Act.eval] at hM); simp only [kfb] at hL; have hF := hL.fx) | (at_lookup; go_loud (refine wpList_miss rfl _ _ _ rfl strlaw under_blks _ zeroF (hL.has _ List.mem_cons_self) hM rfl _ _ rfl (strkey _ HSZ.out) HNO.out ?_); simp only [Bool.false_eq_true, if_false]))
    refine kn_body ?_; clear hF hL; intro W hL; have hF := hL.fx
    refine bodyPost_ret (by simp [results, Tryz.results119, go_sem, *]; try rfl) rfl ?_
    exact ⟨rfl, kn_back (hL.sub (by repeat' (first | exact List.Sublist.refl _ | apply List.Sublist.cons))) HBS.out⟩
   | some bk =>
    have HB0 := Lib.hid hB
    have HXB := Lib.hid (show ∀ y ∈ [b], W0.heap.size ≤ y from by simpa using hbb)
    have hL : Kn [b] w w [(b, .cells #[v, .int .i64 (d : Int)] 73 (0, 0))] := Kn.one hb
    have HBS := Lib.hid hb
    clear hB hb
    have hF := hL.fx
    rcases blkWord_yes hbw with ⟨rfl, hpw⟩ | ⟨rfl, hpw⟩ | ⟨rfl, hpw⟩ | ⟨rfl, hpw⟩ | ⟨rfl, hpw⟩ | ⟨rfl, hpw⟩
    ·have HPW := Lib.hid hpw
     clear hpw hbw
     go_enter Tryz.func119, Tryz.ntmps119
     go_wp2_with (first | ((with_reducible refine zS ?_); clear hL; intro W hL hF) | (go_at_call 52; refine zG ?_; clear hF hL; intro W hL hF; (((first | (with_reducible refine (op_c E b i v (d : Int) _ (kn_bw HB0.out hL HXB.out) hbb hv (by (exact hL.has _ List.mem_cons_self)) ⟨#[40]⟩ _ HK0).mono ?_)))); rintro e W ⟨rfl, hb⟩; replace hL := hL.below hb; clear hb hF; have hF := hL.fx) | (go_at_call 27; refine zC (fun W hL => next_i E b i v (d : Int) _ (kn_bw HB0.out hL HXB.out) hbb hv (by first | exact hL.has _ List.mem_cons_self | exact hL.has _ (List.mem_cons_of_mem _ List.mem_cons_self)) HX.out pa pn pc HX2.out ) ?_; clear hF hL; intro W hL hF) | ((with_reducible refine at_ins ?_); refine zL ?_; clear hF hL; intro W hL hF; go_loud (refine wpList_ins strlaw under_blks hL 0 rfl hM (by simp [maxLen]) rfl _ _ _ rfl rfl (strkey _ (by decide)) (by intro p hp; (repeat' (first | exact absurd hp List.not_mem_nil | (rcases List.mem_cons.1 hp with rfl | hp))); all_goals exact str_ne (by decide)) ?_); intro W2 es2 ck2 hL2 hM2; clear hL hF hM; have hL := hL2; have hM := hM2; clear hL2 hM2; simp only [List.nil_append, List.cons_append] at hM; (simp only [zA, Act.eval] at hM); simp only [kfb] at hL; have hF := hL.fx) | (at_lookup; go_loud (refine wpList_hit rfl _ _ _ rfl strlaw under_blks (hL.has _ List.mem_cons_self) hM rfl _ (Value.func (.func 137) #[] #[]) rfl (by rw [HPW.out]; exact List.mem_cons_self) ?_); simp only [Bool.false_eq_true, if_false]))
     refine kn_body ?_; clear hF hL; intro W hL; have hF := hL.fx
     refine bodyPost_ret (by simp [results, Tryz.results119, go_sem, *]; try rfl) rfl ?_
     exact ⟨rfl, kn_back (hL.sub (by repeat' (first | exact List.Sublist.refl _ | apply List.Sublist.cons))) HBS.out⟩
    ·have HPW := Lib.hid hpw
     clear hpw hbw
     go_enter Tryz.func119, Tryz.ntmps119
     go_wp2_with (first | ((with_reducible refine zS ?_); clear hL; intro W hL hF) | (go_at_call 52; refine zG ?_; clear hF hL; intro W hL hF; (((first | (with_reducible refine (op_c E b i v (d : Int) _ (kn_bw HB0.out hL HXB.out) hbb hv (by (exact hL.has _ List.mem_cons_self)) ⟨#[40]⟩ _ HK0).mono ?_)))); rintro e W ⟨rfl, hb⟩; replace hL := hL.below hb; clear hb hF; have hF := hL.fx) | (go_at_call 27; refine zC (fun W hL => next_i E b i v (d : Int) _ (kn_bw HB0.out hL HXB.out) hbb hv (by first | exact hL.has _ List.mem_cons_self | exact hL.has _ (List.mem_cons_of_mem _ List.mem_cons_self)) HX.out pa pn pc HX2.out ) ?_; clear hF hL; intro W hL hF) | ((with_reducible refine at_ins ?_); refine zL ?_; clear hF hL; intro W hL hF; go_loud (refine wpList_ins strlaw under_blks hL 0 rfl hM (by simp [maxLen]) rfl _ _ _ rfl rfl (strkey _ (by decide)) (by intro p hp; (repeat' (first | exact absurd hp List.not_mem_nil | (rcases List.mem_cons.1 hp with rfl | hp))); all_goals exact str_ne (by decide)) ?_); intro W2 es2 ck2 hL2 hM2; clear hL hF hM; have hL := hL2; have hM := hM2; clear hL2 hM2; simp only [List.nil_append, List.cons_append] at hM; (simp only [zA, Act.eval] at hM); simp only [kfb] at hL; have hF := hL.fx) | (at_lookup; go_loud (refine wpList_hit rfl _ _ _ rfl strlaw under_blks (hL.has _ List.mem_cons_self) hM rfl _ (Value.func (.func 138) #[] #[]) rfl (by rw [HPW.out]; exact (List.mem_cons_of_mem _ List.mem_cons_self)) ?_); simp only [Bool.false_eq_true, if_false]))
     refine kn_body ?_; clear hF hL; intro W hL; have hF := hL.fx
     refine bodyPost_ret (by simp [results, Tryz.results119, go_sem, *]; try rfl) rfl ?_
     exact ⟨rfl, kn_back (hL.sub (by repeat' (first | exact List.Sublist.refl _ | apply List.Sublist.cons))) HBS.out⟩
    ·have HPW := Lib.hid hpw
     clear hpw hbw
     go_enter Tryz.func119, Tryz.ntmps119
     go_wp2_with (first | ((with_reducible refine zS ?_); clear hL; intro W hL hF) | (go_at_call 52; refine zG ?_; clear hF hL; intro W hL hF; (((first | (with_reducible refine (op_c E b i v (d : Int) _ (kn_bw HB0.out hL HXB.out) hbb hv (by (exact hL.has _ List.mem_cons_self)) ⟨#[40]⟩ _ HK0).mono ?_)))); rintro e W ⟨rfl, hb⟩; replace hL := hL.below hb; clear hb hF; have hF := hL.fx) | (go_at_call 27; refine zC (fun W hL => next_i E b i v (d : Int) _ (kn_bw HB0.out hL HXB.out) hbb hv (by first | exact hL.has _ List.mem_cons_self | exact hL.has _ (List.mem_cons_of_mem _ List.mem_cons_self)) HX.out pa pn pc HX2.out ) ?_; clear hF hL; intro W hL hF) | ((with_reducible refine at_ins ?_); refine zL ?_; clear hF hL; intro W hL hF; go_loud (refine wpList_ins strlaw under_blks hL 0 rfl hM (by simp [maxLen]) rfl _ _ _ rfl rfl (strkey _ (by decide)) (by intro p hp; (repeat' (first | exact absurd hp List.not_mem_nil | (rcases List.mem_cons.1 hp with rfl | hp))); all_goals exact str_ne (by decide)) ?_); intro W2 es2 ck2 hL2 hM2; clear hL hF hM; have hL := hL2; have hM := hM2; clear hL2 hM2; simp only [List.nil_append, List.cons_append] at hM; (simp only [zA, Act.eval] at hM); simp only [kfb] at hL; have hF := hL.fx) | (at_lookup; go_loud (refine wpList_hit rfl _ _ _ rfl strlaw under_blks (hL.has _ List.mem_cons_self) hM rfl _ (Value.func (.func 139) #[] #[]) rfl (by rw [HPW.out]; exact (List.mem_cons_of_mem _ (List.mem_cons_of_mem _ List.mem_cons_self))) ?_); simp only [Bool.false_eq_true, if_false]))
     refine kn_body ?_; clear hF hL; intro W hL; have hF := hL.fx
     refine bodyPost_ret (by simp [results, Tryz.results119, go_sem, *]; try rfl) rfl ?_
     exact ⟨rfl, kn_back (hL.sub (by repeat' (first | exact List.Sublist.refl _ | apply List.Sublist.cons))) HBS.out⟩
    ·have HPW := Lib.hid hpw
     clear hpw hbw
     go_enter Tryz.func119, Tryz.ntmps119
     go_wp2_with (first | ((with_reducible refine zS ?_); clear hL; intro W hL hF) | (go_at_call 52; refine zG ?_; clear hF hL; intro W hL hF; (((first | (with_reducible refine (op_c E b i v (d : Int) _ (kn_bw HB0.out hL HXB.out) hbb hv (by (exact hL.has _ List.mem_cons_self)) ⟨#[40]⟩ _ HK0).mono ?_)))); rintro e W ⟨rfl, hb⟩; replace hL := hL.below hb; clear hb hF; have hF := hL.fx) | (go_at_call 27; refine zC (fun W hL => next_i E b i v (d : Int) _ (kn_bw HB0.out hL HXB.out) hbb hv (by first | exact hL.has _ List.mem_cons_self | exact hL.has _ (List.mem_cons_of_mem _ List.mem_cons_self)) HX.out pa pn pc HX2.out ) ?_; clear hF hL; intro W hL hF) | ((with_reducible refine at_ins ?_); refine zL ?_; clear hF hL; intro W hL hF; go_loud (refine wpList_ins strlaw under_blks hL 0 rfl hM (by simp [maxLen]) rfl _ _ _ rfl rfl (strkey _ (by decide)) (by intro p hp; (repeat' (first | exact absurd hp List.not_mem_nil | (rcases List.mem_cons.1 hp with rfl | hp))); all_goals exact str_ne (by decide)) ?_); intro W2 es2 ck2 hL2 hM2; clear hL hF hM; have hL := hL2; have hM := hM2; clear hL2 hM2; simp only [List.nil_append, List.cons_append] at hM; (simp only [zA, Act.eval] at hM); simp only [kfb] at hL; have hF := hL.fx) | (at_lookup; go_loud (refine wpList_hit rfl _ _ _ rfl strlaw under_blks (hL.has _ List.mem_cons_self) hM rfl _ (Value.func (.func 140) #[] #[]) rfl (by rw [HPW.out]; exact (List.mem_cons_of_mem _ (List.mem_cons_of_mem _ (List.mem_cons_of_mem _ List.mem_cons_self)))) ?_); simp only [Bool.false_eq_true, if_false]))
     refine kn_body ?_; clear hF hL; intro W hL; have hF := hL.fx
     refine bodyPost_ret (by simp [results, Tryz.results119, go_sem, *]; try rfl) rfl ?_
     exact ⟨rfl, kn_back (hL.sub (by repeat' (first | exact List.Sublist.refl _ | apply List.Sublist.cons))) HBS.out⟩
    ·have HPW := Lib.hid hpw
     clear hpw hbw
     go_enter Tryz.func119, Tryz.ntmps119
     go_wp2_with (first | ((with_reducible refine zS ?_); clear hL; intro W hL hF) | (go_at_call 52; refine zG ?_; clear hF hL; intro W hL hF; (((first | (with_reducible refine (op_c E b i v (d : Int) _ (kn_bw HB0.out hL HXB.out) hbb hv (by (exact hL.has _ List.mem_cons_self)) ⟨#[40]⟩ _ HK0).mono ?_)))); rintro e W ⟨rfl, hb⟩; replace hL := hL.below hb; clear hb hF; have hF := hL.fx) | (go_at_call 27; refine zC (fun W hL => next_i E b i v (d : Int) _ (kn_bw HB0.out hL HXB.out) hbb hv (by first | exact hL.has _ List.mem_cons_self | exact hL.has _ (List.mem_cons_of_mem _ List.mem_cons_self)) HX.out pa pn pc HX2.out ) ?_; clear hF hL; intro W hL hF) | ((with_reducible refine at_ins ?_); refine zL ?_; clear hF hL; intro W hL hF; go_loud (refine wpList_ins strlaw under_blks hL 0 rfl hM (by simp [maxLen]) rfl _ _ _ rfl rfl (strkey _ (by decide)) (by intro p hp; (repeat' (first | exact absurd hp List.not_mem_nil | (rcases List.mem_cons.1 hp with rfl | hp))); all_goals exact str_ne (by decide)) ?_); intro W2 es2 ck2 hL2 hM2; clear hL hF hM; have hL := hL2; have hM := hM2; clear hL2 hM2; simp only [List.nil_append, List.cons_append] at hM; (simp only [zA, Act.eval] at hM); simp only [kfb] at hL; have hF := hL.fx) | (at_lookup; go_loud (refine wpList_hit rfl _ _ _ rfl strlaw under_blks (hL.has _ List.mem_cons_self) hM rfl _ (Value.func (.func 141) #[] #[]) rfl (by rw [HPW.out]; exact (List.mem_cons_of_mem _ (List.mem_cons_of_mem _ (List.mem_cons_of_mem _ (List.mem_cons_of_mem _ List.mem_cons_self))))) ?_); simp only [Bool.false_eq_true, if_false]))
     refine kn_body ?_; clear hF hL; intro W hL; have hF := hL.fx
     refine bodyPost_ret (by simp [results, Tryz.results119, go_sem, *]; try rfl) rfl ?_
     exact ⟨rfl, kn_back (hL.sub (by repeat' (first | exact List.Sublist.refl _ | apply List.Sublist.cons))) HBS.out⟩
    ·have HPW := Lib.hid hpw
     clear hpw hbw
     go_enter Tryz.func119, Tryz.ntmps119
     go_wp2_with (first | ((with_reducible refine zS ?_); clear hL; intro W hL hF) | (go_at_call 52; refine zG ?_; clear hF hL; intro W hL hF; (((first | (with_reducible refine (op_c E b i v (d : Int) _ (kn_bw HB0.out hL HXB.out) hbb hv (by (exact hL.has _ List.mem_cons_self)) ⟨#[40]⟩ _ HK0).mono ?_)))); rintro e W ⟨rfl, hb⟩; replace hL := hL.below hb; clear hb hF; have hF := hL.fx) | (go_at_call 27; refine zC (fun W hL => next_i E b i v (d : Int) _ (kn_bw HB0.out hL HXB.out) hbb hv (by first | exact hL.has _ List.mem_cons_self | exact hL.has _ (List.mem_cons_of_mem _ List.mem_cons_self)) HX.out pa pn pc HX2.out ) ?_; clear hF hL; intro W hL hF) | ((with_reducible refine at_ins ?_); refine zL ?_; clear hF hL; intro W hL hF; go_loud (refine wpList_ins strlaw under_blks hL 0 rfl hM (by simp [maxLen]) rfl _ _ _ rfl rfl (strkey _ (by decide)) (by intro p hp; (repeat' (first | exact absurd hp List.not_mem_nil | (rcases List.mem_cons.1 hp with rfl | hp))); all_goals exact str_ne (by decide)) ?_); intro W2 es2 ck2 hL2 hM2; clear hL hF hM; have hL := hL2; have hM := hM2; clear hL2 hM2; simp only [List.nil_append, List.cons_append] at hM; (simp only [zA, Act.eval] at hM); simp only [kfb] at hL; have hF := hL.fx) | (at_lookup; go_loud (refine wpList_hit rfl _ _ _ rfl strlaw under_blks (hL.has _ List.mem_cons_self) hM rfl _ (Value.func (.func 142) #[] #[]) rfl (by rw [HPW.out]; exact (List.mem_cons_of_mem _ (List.mem_cons_of_mem _ (List.mem_cons_of_mem _ (List.mem_cons_of_mem _ (List.mem_cons_of_mem _ List.mem_cons_self)))))) ?_); simp only [Bool.false_eq_true, if_false]))
     refine kn_body ?_; clear hF hL; intro W hL; have hF := hL.fx
     refine bodyPost_ret (by simp [results, Tryz.results119, go_sem, *]; try rfl) rfl ?_
     exact ⟨rfl, kn_back (hL.sub (by repeat' (first | exact List.Sublist.refl _ | apply List.Sublist.cons))) HBS.out⟩
  ·rw [if_neg (by decide), if_pos rfl]
   clear hM hmm
   have HB0 := Lib.hid hB
   have HXB := Lib.hid (show ∀ y ∈ [b], W0.heap.size ≤ y from by simpa using hbb)
   have hL : Kn [b] w w [(b, .cells #[v, .int .i64 (d : Int)] 73 (0, 0))] := Kn.one hb
   have HBS := Lib.hid hb
   clear hB hb
   have hF := hL.fx
   go_enter Tryz.func119, Tryz.ntmps119
   go_wp2_with (first | ((with_reducible refine zS ?_); clear hL; intro W hL hF) | (go_at_call 52; refine zG ?_; clear hF hL; intro W hL hF; (((first | (with_reducible refine (op_c E b i v (d : Int) _ (kn_bw HB0.out hL HXB.out) hbb hv (by (exact hL.has _ List.mem_cons_self)) ⟨#[40]⟩ _ HK0).mono ?_)))); rintro e W ⟨rfl, hb⟩; replace hL := hL.below hb; clear hb hF; have hF := hL.fx) | (go_at_call 27; refine zC (fun W hL => next_i E b i v (d : Int) _ (kn_bw HB0.out hL HXB.out) hbb hv (by (exact hL.has _ List.mem_cons_self)) HX.out pa pn pc HX2.out ) ?_; clear hF hL; intro W hL hF))
   refine kn_body ?_; clear hF hL; intro W hL; have hF := hL.fx
   refine bodyPost_ret (by simp [results, Tryz.results119, go_sem, *]; try rfl) rfl ?_
   exact ⟨rfl, kn_back (hL.sub (by repeat' ((exact List.Sublist.refl _)))) HBS.out⟩
 ·rw [if_pos rfl]
  clear hM hmm
  have HB0 := Lib.hid hB
  have HXB := Lib.hid (show ∀ y ∈ [b], W0.heap.size ≤ y from by simpa using hbb)
  have hL : Kn [b] w w [(b, .cells #[v, .int .i64 (d : Int)] 73 (0, 0))] := Kn.one hb
  have HBS := Lib.hid hb
  clear hB hb
  have hF := hL.fx
  go_enter Tryz.func119, Tryz.ntmps119
  go_wp2_with (first | ((with_reducible refine zS ?_); clear hL; intro W hL hF) | (go_at_call 52; refine zG ?_; clear hF hL; intro W hL hF; (((first | (with_reducible refine (op_c E b i v (d : Int) _ (kn_bw HB0.out hL HXB.out) hbb hv (by (exact hL.has _ List.mem_cons_self)) ⟨#[40]⟩ _ HK0).mono ?_)))); rintro e W ⟨rfl, hb⟩; replace hL := hL.below hb; clear hb hF; have hF := hL.fx) | (go_at_call 27; refine zC (fun W hL => next_i E b i v (d : Int) _ (kn_bw HB0.out hL HXB.out) hbb hv (by (exact hL.has _ List.mem_cons_self)) HX.out pa pn pc HX2.out ) ?_; clear hL; intro W hL hF))
  refine kn_body ?_; clear hF hL; intro W hL; have hF := hL.fx
  refine bodyPost_ret (by simp [results, Tryz.results119, go_sem, *]; try rfl) rfl ?_
  exact ⟨rfl, kn_back (hL.sub (by repeat' ((exact List.Sublist.refl _)))) HBS.out⟩
end Go.Proofs.YtgboffbbpmileaaGreatDoor
