/- Lemmas and walks for the law of this seat (part 16). -/
import Derived.Test.YtgboffbbpmileaaGreatDoorPj15
import Derived.Test.YtgboffbbpmileaaGreatDoorProg
import Derived.WalkKit
import Derived.Handy
import Derived.Deep.Light
import Derived.WalkSmall
import Derived.StillTailTactics
import Derived.Lib.Hide
import Derived.Deep.LoopGhost
import Derived.Deep.DeepCutAuto
set_option maxRecDepth 20000
set_option maxHeartbeats 4000000
set_option linter.unusedVariables false
set_option linter.unusedSimpArgs false
namespace Go.Proofs.YtgboffbbpmileaaGreatDoor
open Go Go.RowKit
theorem kids_out {W0 : World} {b d j g o cap : Nat} {tvs : List (Tok × Value)} {w W : World} {vj : Value} (kind : Nat) (neg : Bool) (ks : List (Nd × List Value)) {ak : Option Addr} {ck : Nat} {LC LK : List (Nat × Obj)} (HRK : RowL 7 41 LK (.slice ak ks.length ck) ks.length (ks.flatMap (·.2))) (HK : ∀ x ∈ ks, NodeL W0 LC x.1 x.2) (Hvj : AtV g o cap tvs j vj) {q1 q2 : Nat × Obj} (hL : Kn [b] w W ((b, .cells #[vj, .int .i64 (d : Int)] 73 (0, 0)) :: q1 :: q2 :: (LC ++ LK))) :
  NOut W0 b d g o cap tvs w (.ok (.mk kind [] neg [] [] [] (ks.map (·.1))) ((TT tvs).drop j)) (.returned (.agg #[.int .i64 (kind : Int), .string ⟨#[]⟩, .bool neg, .slice none 0 0, .slice none 0 0, .slice none 0 0, .slice ak ks.length ck])) W :=
 ⟨⟨#[]⟩, none, 0, 0, none, 0, 0, none, 0, 0, ak, ks.length, ck, LC ++ LK, j, vj, rfl, Lib.hid (NodeL.of (ws := []) RowM.nil (fun x hx => by cases hx) (kids_flat HK HRK fun p hp => List.mem_append_right _ hp) fun x hx => (HK x hx).l), Lib.hid ⟨Hvj, rfl⟩, hL.sub (List.Sublist.cons_cons _ (List.Sublist.cons _ (List.Sublist.cons _ (List.Sublist.refl _))))⟩
theorem pipeL_no {cmd : Pa Nd} {f : Nat} {l : List Nd} {ts : List Tok} (h : isOp [124] ts = false) : pipeL cmd f l ts = .ok l ts := by
 cases f with
 | zero => rfl
 | succ f => unfold pipeL; rw [h]; rfl
theorem pipeL_yes {cmd : Pa Nd} {f : Nat} {l : List Nd} {ts : List Tok} (h : isOp [124] ts = true) (hf : ts.length ≤ f) : ∃ f', ts.tail.length ≤ f' ∧ pipeL cmd f l ts = (cmd (lines ts.tail)).bind fun x r => pipeL cmd f' (l ++ [x]) r := by
 have := tail_lt (op_ne h)
 cases f with
 | zero => omega
 | succ f => exact ⟨f, by omega, by rw [pipeL, if_pos h]⟩
theorem at_le {g o cap : Nat} {tvs : List (Tok × Value)} {j j2 : Nat} {vj : Value} (h : AtV g o cap tvs j2 vj) (hj : j < tvs.length) {p : PR Nd} {x : Nd} {r : List Tok} {d : Nat} (hw : Wi p ((TT tvs).drop j) d) (hp : p = .ok x r) (hr : r = (TT tvs).drop j2) : j + d ≤ j2 := by
 subst hp hr
 have h1 := hw.2
 have h2 := h.1
 rw [List.length_drop, List.length_drop, TT_len] at h1
 omega
theorem bind_bind {α β γ : Type} (p : PR α) (f : α → List Tok → PR β) (h : β → List Tok → PR γ) : (p.bind f).bind h = p.bind fun a r => (f a r).bind h := by cases p <;> rfl
theorem pr_ok {α β : Type} {p : PR α} {f : α → List Tok → PR β} {q : PR β} {a : α} {r : List Tok} (h : q = p.bind f) (hp : p = .ok a r) : q = f a r := by rw [h, hp]; rfl
theorem pr_bad {α β : Type} {p : PR α} {f : α → List Tok → PR β} {q : PR β} {e m : Nat} (h : q = p.bind f) (hp : p = .bad e m) : q = .bad e m := by rw [h, hp]; rfl
theorem pipe_c {W0 : World} {g o cap : Nat} {tvs : List (Tok × Value)} (E : PEnv W0 g o cap tvs) {d : Nat} {cmd : Pa Nd} (hw : Wp cmd 1) (HC : NodeC W0 g o cap tvs 105 d cmd) : NodeC W0 g o cap tvs 87 d (pipe cmd) := by
 intro b i v w hB hbb hv hb
 obtain ⟨k1, hk1⟩ : ∃ z : Bool, isKw [[33]] ((TT tvs).drop i) = z := ⟨_, rfl⟩
 have HK1 : Hid (isKw ([(⟨#[33]⟩ : ByteArray)].map fun z => z.data.toList) ((TT tvs).drop i) = k1) := Lib.hid hk1
 obtain ⟨i1, hi1⟩ : ∃ z : Nat, (if k1 = true then i + 1 else i) = z := ⟨_, rfl⟩
 have HP : pipe cmd ((TT tvs).drop i) = (cmd ((TT tvs).drop i1)).bind fun x r => (pipeL cmd r.length [x] r).bind fun l r => .ok (.mk 1 [] k1 [] [] [] l) r := by
  show (cmd (if isKw [[33]] ((TT tvs).drop i) then ((TT tvs).drop i).tail else (TT tvs).drop i)).bind _ = _
  rw [hk1, ← hi1]
  cases k1 <;> simp only [Bool.false_eq_true, if_false, if_true, List.tail_drop]
 have HPL := Lib.hid HP
 have HI1 := Lib.hid hi1
 have HW := Lib.hid hw
 have HCC := Lib.hid HC
 clear hk1 hi1 HP hw HC
 have hi := hv.out.1
 have hmx := E.max
 have HB0 := Lib.hid hB
 have HXB := Lib.hid (show ∀ y ∈ [b], W0.heap.size ≤ y from by simpa using hbb)
 have hL : Kn [b] w w [(b, .cells #[v, .int .i64 (d : Int)] 73 (0, 0))] := Kn.one hb
 have HBS := Lib.hid hb
 clear hB hb
 have hF := hL.fx
 go_enter Tryz.func87, Tryz.ntmps87
 go_upto_if 10 with ((go_at_call 86; refine zC (fun W hL => key_c E b i v (d : Int) _ (kn_bw HB0.out hL HXB.out) hbb hv (by (exact hL.has _ (List.mem_cons_of_mem _ (List.mem_cons_of_mem _ (List.mem_cons_of_mem _ List.mem_cons_self))))) _ 0 1 _ [⟨#[33]⟩] _ HK1 (Lib.hid rfl) (by omega) (one_word (kn_c0 hL List.mem_cons_self)) (by (exact kn_ne hL (List.mem_cons_of_mem _ (List.mem_cons_of_mem _ List.mem_cons_self))))) ?_; clear hF hL; intro W hL hF))
 go_cut [] (fun wc => ∃ (vj : Value) (ks : List (Nd × List Value)) (ak : Option Addr) (ck : Nat) (LC LK : List (Nat × Obj)), Hid (AtV g o cap tvs i1 vj) ∧ Hid (ks = []) ∧ Hid (RowL 7 41 LK (.slice ak ks.length ck) ks.length (ks.flatMap (·.2))) ∧ Hid (∀ x ∈ ks, NodeL W0 LC x.1 x.2) ∧ Kn [b] w wc ((b, .cells #[vj, .int .i64 (d : Int)] 73 (0, 0)) :: (w.heap.size + 1, .cells #[.int .i64 1, .string ⟨#[]⟩, .bool k1, .slice none 0 0, .slice none 0 0, .slice none 0 0, .slice ak ks.length ck] 41 (0, 0)) :: (w.heap.size, .cells #[.int .i64 0, .string ⟨#[]⟩, .bool false, .slice none 0 0, .slice none 0 0, .slice none 0 0, .slice none 0 0] 41 (0, 0)) :: (LC ++ LK)))
 case first =>
  cases k1
  ·obtain rfl : i = i1 := HI1.out
   go_wp2
   go_meet
   case rel => exact ⟨v, [], none, 0, [], [], hv, Lib.hid rfl, Lib.hid RowL.nil, Lib.hid (by simp), by refine Kn.name ?_; clear hL; intro hL; simp only [kfb] at hL; exact (hL.perml fun p => by simp only [List.countP_cons, List.countP_nil, List.countP_append, List.append_nil, List.nil_append, List.length_nil]; omega)⟩
  ·have HNE := Lib.hid (kw_ne HK1.out)
   obtain rfl : i + 1 = i1 := HI1.out
   go_wp2_with (first | ((with_reducible refine zS ?_); clear hF hL; intro W hL hF) | (go_at_call 53; refine zG ?_; clear hF hL; intro W hL hF; (with_reducible refine (pass_c E b i v (d : Int) _ (kn_bw HB0.out hL HXB.out) hbb hv (by (exact hL.has _ (List.mem_cons_of_mem _ (List.mem_cons_of_mem _ (List.mem_cons_of_mem _ List.mem_cons_self))))) HNE.out).mono ?_); rintro e W ⟨x1, pa1, pn1, pc1, vj, rfl, HTX, HVJ, hb⟩; ((replace hL := hL.join1 3 rfl hb)); clear hb hF; simp only [List.eraseIdx_cons_zero, List.eraseIdx_cons_succ, List.cons_append, List.nil_append] at hL; have hF := hL.fx))
   go_meet
   case rel => exact ⟨vj, [], none, 0, [], [], HVJ, Lib.hid rfl, Lib.hid RowL.nil, Lib.hid (by simp), by refine Kn.name ?_; clear hL; intro hL; exact (hL.perml fun p => by simp only [List.countP_cons, List.countP_nil, List.countP_append, List.append_nil, List.nil_append, List.length_nil]; omega)⟩
 case rest =>
  clear hL
  obtain ⟨vj, ks, ak, ck, LC, LK, Hvj, HKS0, HRK, HKS, hL⟩ := hcut
  have hF := hL.fx
  have HCJ := Lib.hid (fun W hB hb => HCC.out b i1 vj W hB hbb Hvj hb)
  have hks0 : ks.length ≤ i1 := by rw [HKS0.out]; exact Nat.zero_le _
  have hi1 := Hvj.out.1
  have hi2 : i1 ≤ i + 1 := by rw [← HI1.out]; split <;> omega
  cases hc : cmd ((TT tvs).drop i1) with
  | bad er m2 =>
   rw [hc] at HCJ
   have HB9 := Lib.hid (pr_bad HPL.out hc)
   clear hc
   go_wp2_with (first | ((with_reducible refine zS ?_); clear hL; intro W hL hF) | ((with_reducible refine at_region 5 ?_); refine kn_wp ?_; clear hF hL; intro W hL; have hF := hL.fx; refine kn_regionP [0, 1, 2, 3, 4, 5, 6, 7] [0, 1, 2, 6] [5, 7] [0, 2, 6] (by kernel_rfl) (by kernel_rfl) (List.Sublist.cons _ (List.Sublist.cons_cons _ (List.nil_sublist _))) ?_; clear hF hL; intro Qp hQp; replace hQp := Lib.hid hQp; intro ι F hne hC hFF; have hG := fun n => (hFF n).fx; clear hFF; (repeat (first | (refine cS ?_) | (refine cF hC ?_; intro K hK; go_big_quiet_op; go_big_quiet_on) | (refine cP ?_; intro K hK; go_big_quiet_op; go_big_quiet_on) | (refine cwk_callP rfl (by rfl) (by rfl) (fun _ => rfl) ?_; intro W hL; have hF := hL.fx; simp only [zA, Act.eval]; go_at_call 105; (with_reducible refine (HCJ.out _ (kn_bw HB0.out hL HXB.out) (by (exact hL.has _ List.mem_cons_self))).mono ?_); rintro e W ⟨vj2, dj, rfl, hb⟩; ((replace hL := hL.join1 0 rfl hb)); clear hb hF; simp only [List.eraseIdx_cons_zero, List.eraseIdx_cons_succ, List.cons_append, List.nil_append] at hL; have hF := hL.fx; refine ⟨_, rfl, hQp.out _ _ ?_⟩; clear hQp; intro a' ha; simp only [Exit.then, Exit.inBlock]; refine ⟨ha, ?_⟩; show NOut W0 b d g o cap tvs w (pipe cmd ((TT tvs).drop i)) _ _; rw [HB9.out]; exact ⟨vj2, dj, rfl, (hL.perml fun p => by simp only [List.countP_cons, List.countP_nil, List.countP_append, List.append_nil, List.nil_append, List.length_nil]; omega)⟩) | (refine cN ?_; intro W hL; have hF := hL.facts; go_wp2; refine zB2 ?_; clear hL hC hG; intro ι F hne hC hG))); ((done))))
  | ok x r =>
   rw [hc] at HCJ
   have HB9 := Lib.hid (pr_ok HPL.out hc)
   have HLE := Lib.hid (fun j2 vj2 (h : AtV g o cap tvs j2 vj2) (hr : r = (TT tvs).drop j2) => at_le h Hvj.out.1 (HW.out _) hc hr)
   clear hc
   go_wp2_with (first | ((with_reducible refine zS ?_); clear hL; intro W hL hF) | ((with_reducible refine at_region 5 ?_); refine kn_wp ?_; clear hF hL; intro W hL; have hF := hL.fx; refine kn_region [0, 1, 2, 3, 4, 5, 6, 7] [0, 1, 2, 6] [5, 7] [0, 2, 6] (by kernel_rfl) (by kernel_rfl) (List.Sublist.cons _ (List.Sublist.cons_cons _ (List.nil_sublist _))) ?_; clear hF hL; intro ι F hne hC hFF; have hG := fun n => (hFF n).fx; clear hFF; (repeat (first | (refine cS ?_) | (refine cF hC ?_; intro K hK; go_big_quiet_op; go_big_quiet_on) | (refine cP ?_; intro K hK; go_big_quiet_op; go_big_quiet_on) | (refine cC ?_; intro W hL; have hF := hL.fx; simp only [zA, Act.eval]; go_at_call 105; (with_reducible refine (HCJ.out _ (kn_bw HB0.out hL HXB.out) (by (exact hL.has _ List.mem_cons_self))).mono ?_); rintro e W ⟨nm, aa, na, ca, aw, nw, cw, ar, nr, cr, ak, nk, ck, LN, j2, vj2, rfl, HN, HJ2, hb⟩; ((replace hL := hL.join1 0 rfl hb)); clear hb hF; simp only [List.eraseIdx_cons_zero, List.eraseIdx_cons_succ, List.cons_append, List.nil_append] at hL; have hF := hL.fx; replace hL := hL.in1; clear hF; have hF := hL.fx; refine owed_ret ?_; ((refine owed0 _ (by repeat' (first | (with_reducible exact List.nil_sublist _) | (with_reducible apply List.Sublist.cons_cons) | (with_reducible apply List.Sublist.cons))) ?_; clear hL hF)); simp only [Act.put, zT]) | (refine cN ?_; intro W hL; have hF := hL.fx; at_builtin; go_loud (refine wpList_append_end rfl _ _ 39 39 rfl (_ :: _ :: _ :: _ :: (LN ++ LC)) LK hL ks.length 1 (ks.flatMap (·.2)) [.int .i64 (x.kind : Int), .string nm, .bool x.neg, .slice aa na ca, .slice aw nw cw, .slice ar nr cr, .slice ak nk ck] _ _ HRK.out rfl rfl (fun ho => run_append_Nd rfl (fun j u hu => by rw [Go.WideShapes.add_plain, Nat.zero_add, kn_cell hL List.mem_cons_self]; simpa using hu) (by intro u hu; simp only [List.mem_cons, List.not_mem_nil, or_false] at hu; rcases hu with rfl | rfl | rfl | rfl | rfl | rfl | rfl <;> rfl) (by omega) ho) ?_); intro LP3 a3 c3 W3 hL2 hr3; clear hL hF; have hL := hL2; clear hL2; simp only [List.append_eq, List.cons_append, List.nil_append] at hL; have hF := hL.fx; go_wp2; refine zB2 ?_; clear hL hF hC hG; intro ι F hne hC hG) | (refine cN ?_; intro W hL; have hF := hL.fx; go_wp2; refine anchQ_normal ?_; (first | (refine owedB _ (by rfl) ?_; clear hL hF hC hG; intro ι F hne hC hFF; have hG := fun n => (hFF n).fx; clear hFF) | (refine owed0 _ (by repeat' (first | (with_reducible exact List.nil_sublist _) | (with_reducible apply List.Sublist.cons_cons) | (with_reducible apply List.Sublist.cons))) ?_; clear hL hF))))); refine cwk_nil ?_; clear hC hG; intro W hL; simp only [kfb] at hL; have hF := hL.fx))
   have hle := HLE.out _ _ HJ2.out.1 HJ2.out.2
   have hj2 := HJ2.out.1.1
   go_loopg [] (tvs.length - j2) (fun n wr => ∃ (j : Nat) (vj : Value) (ks : List (Nd × List Value)) (ak : Option Addr) (ck : Nat) (LC LK : List (Nat × Obj)), n = tvs.length - j ∧ Hid (AtV g o cap tvs j vj) ∧ Hid (∃ f, ((TT tvs).drop j).length ≤ f ∧ pipe cmd ((TT tvs).drop i) = (pipeL cmd f (ks.map (·.1)) ((TT tvs).drop j)).bind fun l r => .ok (.mk 1 [] k1 [] [] [] l) r) ∧ Hid (RowL 7 41 LK (.slice ak ks.length ck) ks.length (ks.flatMap (·.2))) ∧ Hid (∀ x ∈ ks, NodeL W0 LC x.1 x.2) ∧ ks.length ≤ j ∧ j < tvs.length ∧ Kn [b] w wr ((b, .cells #[vj, .int .i64 (d : Int)] 73 (0, 0)) :: (w.heap.size + 1, .cells #[.int .i64 1, .string ⟨#[]⟩, .bool k1, .slice none 0 0, .slice none 0 0, .slice none 0 0, .slice ak ks.length ck] 41 (0, 0)) :: (w.heap.size, .cells #[.int .i64 0, .string ⟨#[]⟩, .bool false, .slice none 0 0, .slice none 0 0, .slice none 0 0, .slice none 0 0] 41 (0, 0)) :: (LC ++ LK)))
   case atStart => exact ⟨j2, vj2, ks ++ [(x, [.int .i64 (x.kind : Int), .string nm, .bool x.neg, .slice aa na ca, .slice aw nw cw, .slice ar nr cr, .slice ak nk ck])], a3, c3, LN ++ LC, LP3, rfl, Lib.hid HJ2.out.1, Lib.hid (by have h9 := HB9.out; rw [HJ2.out.2] at h9; rw [HKS0.out]; exact ⟨_, Nat.le_refl _, h9⟩), Lib.hid (by simpa using hr3), Lib.hid (all_snoc (fun y hy => (HKS.out y hy).r) HN.out.l), by simp only [List.length_append, List.length_singleton]; omega, by omega, by refine Kn.name ?_; clear hL; intro hL; simp only [List.length_append, List.length_singleton]; exact (hL.perml fun p => by simp only [List.countP_cons, List.countP_nil, List.countP_append, List.append_nil, List.nil_append, List.length_nil]; omega)⟩
   case round => (
    clear hL
    obtain ⟨j, vj, ks, ak, ck, LC, LK, rfl, Hvj, HF, HRK, HKS, hsz, hjl, hL⟩ := hrel
    have hF := hL.fx
    obtain ⟨k3, hk3⟩ : ∃ z : Bool, isOp [124] ((TT tvs).drop j) = z := ⟨_, rfl⟩
    have HK3 : Hid (isOp (⟨#[124]⟩ : ByteArray).data.toList ((TT tvs).drop j) = k3) := Lib.hid hk3
    clear hk3
    cases k3
    ·have HS9 := Lib.hid (by obtain ⟨f, _, hf⟩ := HF.out; rw [hf, pipeL_no HK3.out]; rfl : pipe cmd ((TT tvs).drop i) = .ok (.mk 1 [] k1 [] [] [] (ks.map (·.1))) ((TT tvs).drop j))
     go_wp2_with (first | ((with_reducible refine zS ?_); clear hL; intro W hL hF) | (go_at_call 52; refine zG ?_; clear hF hL; intro W hL hF; (((first | (with_reducible refine (op_c E b j vj (d : Int) _ (kn_bw HB0.out hL HXB.out) hbb Hvj (by (exact hL.has _ List.mem_cons_self)) ⟨#[124]⟩ _ HK3).mono ?_)))); rintro e W ⟨rfl, hb⟩; replace hL := hL.below hb; clear hb hF; have hF := hL.fx))
     refine kn_body ?_; clear hF hL; intro W hL; simp only [kfb] at hL; have hF := hL.fx
     refine bodyPost_ret (by simp [results, Tryz.results87, go_sem, *]; try rfl) rfl ?_
     rw [HS9.out]
     exact kids_out 1 k1 ks HRK.out HKS.out Hvj.out hL
    ·have HNE2 := Lib.hid (op_ne HK3.out)
     go_upto_region 9 with (first | (go_at_call 52; refine zG ?_; clear hF hL; intro W hL hF; (((first | (with_reducible refine (op_c E b j vj (d : Int) _ (kn_bw HB0.out hL HXB.out) hbb Hvj (by (exact hL.has _ List.mem_cons_self)) ⟨#[124]⟩ _ HK3).mono ?_)))); rintro e W ⟨rfl, hb⟩; replace hL := hL.below hb; clear hb hF; have hF := hL.fx) | (go_at_call 53; refine zG ?_; clear hF hL; intro W hL hF; (with_reducible refine (pass_c E b j vj (d : Int) _ (kn_bw HB0.out hL HXB.out) hbb Hvj (by (exact hL.has _ List.mem_cons_self)) HNE2.out).mono ?_); rintro e W ⟨x1, pa1, pn1, pc1, vj2, rfl, HTX2, HVJ2, hb⟩; ((replace hL := hL.join1 0 rfl hb)); clear hb hF; simp only [List.eraseIdx_cons_zero, List.eraseIdx_cons_succ, List.cons_append, List.nil_append] at hL; have hF := hL.fx) | (go_at_call 49; refine zG ?_; clear hF hL; intro W hL hF; (with_reducible refine (lines_c E b (j + 1) vj2 d _ (kn_bw HB0.out hL HXB.out) hbb HVJ2 (by (exact hL.has _ List.mem_cons_self))).mono ?_); rintro e W ⟨j3, vj3, rfl, HJ3, hb⟩; ((replace hL := hL.join1 0 rfl hb)); clear hb hF; simp only [List.eraseIdx_cons_zero, List.eraseIdx_cons_succ, List.cons_append, List.nil_append] at hL; have hF := hL.fx))
     have HF2 : ∃ f, ((TT tvs).drop (j + 1)).length ≤ f ∧ pipe cmd ((TT tvs).drop i) = (cmd ((TT tvs).drop j3)).bind fun x r => (pipeL cmd f (ks.map (·.1) ++ [x]) r).bind fun l r => .ok (.mk 1 [] k1 [] [] [] l) r := by
      obtain ⟨f, hf1, hf⟩ := HF.out
      obtain ⟨f2, h1, h2⟩ := pipeL_yes (cmd := cmd) (l := ks.map (·.1)) HK3.out hf1
      rw [drop_tail] at h1 h2
      rw [HJ3.out.2.2] at h2
      rw [h2, bind_bind] at hf
      exact ⟨f2, h1, hf⟩
     have HCJ2 := Lib.hid (fun W hB hb => HCC.out b j3 vj3 W hB hbb (Lib.hid HJ3.out.2.1) hb)
     have HF2 := Lib.hid HF2
     have hj3 := HJ3.out.1
     cases hc2 : cmd ((TT tvs).drop j3) with
     | bad er m2 =>
      rw [hc2] at HCJ2
      have HB8 := Lib.hid (by obtain ⟨f, _, hf⟩ := HF2.out; exact pr_bad hf hc2 : pipe cmd ((TT tvs).drop i) = .bad er m2)
      clear hc2
      go_wp2_with (first | ((with_reducible refine zS ?_); clear hL; intro W hL hF) | ((with_reducible refine at_region 9 ?_); refine kn_wp ?_; clear hF hL; intro W hL; have hF := hL.fx; refine kn_regionP [0, 1, 2, 3, 4, 5, 6, 7] [0, 1, 2, 6] [5, 7] [0, 2, 6] (by kernel_rfl) (by kernel_rfl) (List.Sublist.cons _ (List.Sublist.cons_cons _ (List.nil_sublist _))) ?_; clear hF hL; intro Qp hQp; replace hQp := Lib.hid hQp; intro ι F hne hC hFF; have hG := fun n => (hFF n).fx; clear hFF; (repeat (first | (refine cS ?_) | (refine cF hC ?_; intro K hK; go_big_quiet_op; go_big_quiet_on) | (refine cP ?_; intro K hK; go_big_quiet_op; go_big_quiet_on) | (refine cwk_callP rfl (by rfl) (by rfl) (fun _ => rfl) ?_; intro W hL; have hF := hL.fx; simp only [zA, Act.eval]; go_at_call 105; (with_reducible refine (HCJ2.out _ (kn_bw HB0.out hL HXB.out) (by (exact hL.has _ List.mem_cons_self))).mono ?_); rintro e W ⟨vj2, dj, rfl, hb⟩; ((replace hL := hL.join1 0 rfl hb)); clear hb hF; simp only [List.eraseIdx_cons_zero, List.eraseIdx_cons_succ, List.cons_append, List.nil_append] at hL; have hF := hL.fx; refine ⟨_, rfl, hQp.out _ _ ?_⟩; clear hQp; intro a' ha; simp only [Exit.then, Exit.inBlock]; refine ⟨ha, ?_⟩; show NOut W0 b d g o cap tvs w (pipe cmd ((TT tvs).drop i)) _ _; rw [HB8.out]; exact ⟨vj2, dj, rfl, (hL.perml fun p => by simp only [List.countP_cons, List.countP_nil, List.countP_append, List.append_nil, List.nil_append, List.length_nil]; omega)⟩) | (refine cN ?_; intro W hL; have hF := hL.facts; go_wp2; refine zB2 ?_; clear hL hC hG; intro ι F hne hC hG))); ((done))))
     | ok x r =>
      rw [hc2] at HCJ2
      have HF3 := Lib.hid (by obtain ⟨f, hf1, hf⟩ := HF2.out; exact ⟨f, hf1, pr_ok hf hc2⟩ : ∃ f, ((TT tvs).drop (j + 1)).length ≤ f ∧ pipe cmd ((TT tvs).drop i) = (pipeL cmd f (ks.map (·.1) ++ [x]) r).bind fun l r => .ok (.mk 1 [] k1 [] [] [] l) r)
      have HLE2 := Lib.hid (fun j2 vj2 (h : AtV g o cap tvs j2 vj2) (hr : r = (TT tvs).drop j2) => at_le h HJ3.out.2.1.1 (HW.out _) hc2 hr)
      clear hc2
      go_wp2_with (first | ((with_reducible refine zS ?_); clear hL; intro W hL hF) | ((with_reducible refine at_region 9 ?_); refine kn_wp ?_; clear hF hL; intro W hL; have hF := hL.fx; refine kn_region [0, 1, 2, 3, 4, 5, 6, 7] [0, 1, 2, 6] [5, 7] [0, 2, 6] (by kernel_rfl) (by kernel_rfl) (List.Sublist.cons _ (List.Sublist.cons_cons _ (List.nil_sublist _))) ?_; clear hF hL; intro ι F hne hC hFF; have hG := fun n => (hFF n).fx; clear hFF; (repeat (first | (refine cS ?_) | (refine cF hC ?_; intro K hK; go_big_quiet_op; go_big_quiet_on) | (refine cP ?_; intro K hK; go_big_quiet_op; go_big_quiet_on) | (refine cC ?_; intro W hL; have hF := hL.fx; simp only [zA, Act.eval]; go_at_call 105; (with_reducible refine (HCJ2.out _ (kn_bw HB0.out hL HXB.out) (by (exact hL.has _ List.mem_cons_self))).mono ?_); rintro e W ⟨nm, aa, na, ca, aw, nw, cw, ar, nr, cr, ak, nk, ck, LN, j2, vj2, rfl, HN, HJ2, hb⟩; ((replace hL := hL.join1 0 rfl hb)); clear hb hF; simp only [List.eraseIdx_cons_zero, List.eraseIdx_cons_succ, List.cons_append, List.nil_append] at hL; have hF := hL.fx; replace hL := hL.in1; clear hF; have hF := hL.fx; refine owed_ret ?_; ((refine owed0 _ (by repeat' (first | (with_reducible exact List.nil_sublist _) | (with_reducible apply List.Sublist.cons_cons) | (with_reducible apply List.Sublist.cons))) ?_; clear hL hF)); simp only [Act.put, zT]) | (refine cN ?_; intro W hL; have hF := hL.fx; at_builtin; go_loud (refine wpList_append_end rfl _ _ 39 39 rfl (_ :: _ :: _ :: _ :: (LN ++ LC)) LK hL ks.length 1 (ks.flatMap (·.2)) [.int .i64 (x.kind : Int), .string nm, .bool x.neg, .slice aa na ca, .slice aw nw cw, .slice ar nr cr, .slice ak nk ck] _ _ HRK.out rfl rfl (fun ho => run_append_Nd rfl (fun j u hu => by rw [Go.WideShapes.add_plain, Nat.zero_add, kn_cell hL List.mem_cons_self]; simpa using hu) (by intro u hu; simp only [List.mem_cons, List.not_mem_nil, or_false] at hu; rcases hu with rfl | rfl | rfl | rfl | rfl | rfl | rfl <;> rfl) (by omega) ho) ?_); intro LP3 a3 c3 W3 hL2 hr3; clear hL hF; have hL := hL2; clear hL2; simp only [List.append_eq, List.cons_append, List.nil_append] at hL; have hF := hL.fx; go_wp2; refine zB2 ?_; clear hL hF hC hG; intro ι F hne hC hG) | (refine cN ?_; intro W hL; have hF := hL.fx; go_wp2; refine anchQ_normal ?_; (first | (refine owedB _ (by rfl) ?_; clear hL hF hC hG; intro ι F hne hC hFF; have hG := fun n => (hFF n).fx; clear hFF) | (refine owed0 _ (by repeat' (first | (with_reducible exact List.nil_sublist _) | (with_reducible apply List.Sublist.cons_cons) | (with_reducible apply List.Sublist.cons))) ?_; clear hL hF))))); refine cwk_nil ?_; clear hC hG; intro W hL; simp only [kfb] at hL; have hF := hL.fx))
      have hle2 := HLE2.out _ _ HJ2.out.1 HJ2.out.2
      have hj4 := HJ2.out.1.1
      go_roundg (tvs.length - j2)
      case measure => omega
      case rel => exact ⟨j2, vj2, ks ++ [(x, [.int .i64 (x.kind : Int), .string nm, .bool x.neg, .slice aa na ca, .slice aw nw cw, .slice ar nr cr, .slice ak nk ck])], a3, c3, LN ++ LC, LP3, rfl, Lib.hid HJ2.out.1, Lib.hid (by obtain ⟨f, hf1, hf⟩ := HF3.out; rw [HJ2.out.2] at hf; exact ⟨f, by rw [List.length_drop] at hf1 ⊢; omega, by simpa using hf⟩), Lib.hid (by simpa using hr3), Lib.hid (all_snoc (fun y hy => (HKS.out y hy).r) HN.out.l), by simp only [List.length_append, List.length_singleton]; omega, by omega, by refine Kn.name ?_; clear hL; intro hL; simp only [List.length_append, List.length_singleton]; exact (hL.perml fun p => by simp only [List.countP_cons, List.countP_nil, List.countP_append, List.append_nil, List.nil_append, List.length_nil]; omega)⟩)
end Go.Proofs.YtgboffbbpmileaaGreatDoor
set_option maxRecDepth 20000
set_option maxHeartbeats 4000000
set_option linter.unusedVariables false
set_option linter.unusedSimpArgs false
namespace Go.Proofs.YtgboffbbpmileaaGreatDoor
open Go Go.RowKit
theorem node_out {W0 : World} {b d j g o cap : Nat} {tvs : List (Tok × Value)} {w W : World} {vj : Value} {n : Nd} {nm : ByteArray} {aa : Option Addr} {na : Nat} {ca : Nat} {aw : Option Addr} {nw : Nat} {cw : Nat} {ar : Option Addr} {nr : Nat} {cr : Nat} {ak : Option Addr} {nk : Nat} {ck : Nat} {LN : List (Nat × Obj)} (HN : NodeL W0 LN n [.int .i64 (n.kind : Int), .string nm, .bool n.neg, .slice aa na ca, .slice aw nw cw, .slice ar nr cr, .slice ak nk ck]) (Hvj : AtV g o cap tvs j vj) {q1 q2 : Nat × Obj} (hL : Kn [b] w W ((b, .cells #[vj, .int .i64 (d : Int)] 73 (0, 0)) :: q1 :: q2 :: LN)) :
  NOut W0 b d g o cap tvs w (.ok n ((TT tvs).drop j)) (.returned (.agg #[.int .i64 (n.kind : Int), .string nm, .bool n.neg, .slice aa na ca, .slice aw nw cw, .slice ar nr cr, .slice ak nk ck])) W :=
 ⟨nm, aa, na, ca, aw, nw, cw, ar, nr, cr, ak, nk, ck, LN, j, vj, rfl, Lib.hid HN, Lib.hid ⟨Hvj, rfl⟩, hL.sub (List.Sublist.cons_cons _ (List.Sublist.cons _ (List.Sublist.cons _ (List.Sublist.refl _))))⟩
theorem Kn.in1a {X : List Nat} {w0 W : World} {p0 p1 p2 : Nat × Obj} {LP R : List (Nat × Obj)} (h : Kn X w0 W (p0 :: (LP ++ (p1 :: p2 :: R)))) : Kn X w0 W (p0 :: p1 :: p2 :: (LP ++ R)) := h.perm fun p => by simp only [List.countP_cons, List.countP_append]; omega
theorem item_text {W0 : World} {g o cap : Nat} {tvs : List (Tok × Value)} (E : PEnv W0 g o cap tvs) {j : Nat} {y : Tok × Value} (hy : tvs[j]? = some y) {e1 e2 : Bool} (h1 : isOp [38, 38] ((TT tvs).drop j) = e1) (h2 : isOp [124, 124] ((TT tvs).drop j) = e2) (h : (e1 || e2) = true) : (y.1.text == [124, 124]) = e2 := by
 rw [op_at E hy] at h1 h2
 have hk : ((y.1.kind : Int) == 1) = true := by
  cases hk : ((y.1.kind : Int) == 1) with
  | true => rfl
  | false => rw [hk] at h1 h2; rw [← h1, ← h2] at h; cases h
 rw [hk, Bool.true_and] at h2
 exact h2
theorem itemL_no {pi : Pa Nd} {f : Nat} {n : Nd} {ts : List Tok} (h1 : isOp [38, 38] ts = false) (h2 : isOp [124, 124] ts = false) : itemL pi f n ts = .ok n ts := by
 cases f with
 | zero => rfl
 | succ f => unfold itemL; rw [h1, h2]; rfl
theorem or_ne {ts : List Tok} {e1 e2 : Bool} (h1 : isOp [38, 38] ts = e1) (h2 : isOp [124, 124] ts = e2) (h : (e1 || e2) = true) : ts ≠ [] := by
 rintro rfl
 rw [← h1, ← h2] at h
 cases h
theorem itemL_yes {pi : Pa Nd} {n : Nd} {l : List Tok} {j j3 : Nat} {p : PR Nd} {e1 e2 : Bool} (h1 : isOp [38, 38] (l.drop j) = e1) (h2 : isOp [124, 124] (l.drop j) = e2) (h : (e1 || e2) = true) (hf : ∃ f, (l.drop j).length ≤ f ∧ p = itemL pi f n (l.drop j)) (h3 : lines (l.drop (j + 1)) = l.drop j3) :
  ∃ f, (l.drop (j + 1)).length ≤ f ∧ p = (pi (l.drop j3)).bind fun x r => itemL pi f (.mk (if e2 then 3 else 2) [] false [] [] [] [n, x]) r := by
 obtain ⟨f, hf1, hf⟩ := hf
 have hne := tail_lt (or_ne h1 h2 h)
 rw [drop_tail] at hne
 cases f with
 | zero => omega
 | succ f =>
  refine ⟨f, by omega, ?_⟩
  rw [hf, itemL, h1, h2, if_pos h, drop_tail, h3]
theorem itemL_ok {pi : Pa Nd} {p : PR Nd} {n x : Nd} {k m : Nat} {ts r : List Tok} (hf : ∃ f, m ≤ f ∧ p = (pi ts).bind fun x r => itemL pi f (.mk k [] false [] [] [] [n, x]) r) (h : pi ts = .ok x r) : ∃ f, m ≤ f ∧ p = itemL pi f (.mk k [] false [] [] [] [n, x]) r := by
 obtain ⟨f, h1, h2⟩ := hf
 exact ⟨f, h1, by rw [h2, h]; rfl⟩
theorem item_next {W0 : World} {b nb gq cc : Nat} {w W : World} {po : Obj} {p2 : Nat × Obj} {n x : Nd} {kz : Int} {kind : Nat} {nm : ByteArray} {aa : Option Addr} {na : Nat} {ca : Nat} {aw : Option Addr} {nw : Nat} {cw : Nat} {ar : Option Addr} {nr : Nat} {cr : Nat} {ak : Option Addr} {nk : Nat} {ck : Nat} {nm2 : ByteArray} {aa2 : Option Addr} {na2 : Nat} {ca2 : Nat} {aw2 : Option Addr} {nw2 : Nat} {cw2 : Nat} {ar2 : Option Addr} {nr2 : Nat} {cr2 : Nat} {ak2 : Option Addr} {nk2 : Nat} {ck2 : Nat} {LN LN2 : List (Nat × Obj)}
  (hL : Kn [b] w W ((gq, .cells #[.int .i64 (n.kind : Int), .string nm, .bool n.neg, .slice aa na ca, .slice aw nw cw, .slice ar nr cr, .slice ak nk ck, .int .i64 (x.kind : Int), .string nm2, .bool x.neg, .slice aa2 na2 ca2, .slice aw2 nw2 cw2, .slice ar2 nr2 cr2, .slice ak2 nk2 ck2] 41 (0, 0)) :: (b, po) :: (nb, .cells #[.int .i64 kz, .string ⟨#[]⟩, .bool false, .slice none 0 0, .slice none 0 0, .slice none 0 0, .slice (some ⟨gq, 0, none⟩) 2 cc] 41 (0, 0)) :: p2 :: (LN2 ++ LN))) (hk : kz = (kind : Int)) (hc : 2 ≤ cc) (h1 : NodeL W0 LN n [.int .i64 (n.kind : Int), .string nm, .bool n.neg, .slice aa na ca, .slice aw nw cw, .slice ar nr cr, .slice ak nk ck]) (h2 : NodeL W0 LN2 x [.int .i64 (x.kind : Int), .string nm2, .bool x.neg, .slice aa2 na2 ca2, .slice aw2 nw2 cw2, .slice ar2 nr2 cr2, .slice ak2 nk2 ck2]) :
  ∃ (nm3 : ByteArray) (aa3 : Option Addr) (na3 : Nat) (ca3 : Nat) (aw3 : Option Addr) (nw3 : Nat) (cw3 : Nat) (ar3 : Option Addr) (nr3 : Nat) (cr3 : Nat) (ak3 : Option Addr) (nk3 : Nat) (ck3 : Nat) (LN3 : List (Nat × Obj)), NodeL W0 LN3 (.mk kind [] false [] [] [] [n, x]) [.int .i64 ((Nd.mk kind [] false [] [] [] [n, x]).kind : Int), .string nm3, .bool (Nd.mk kind [] false [] [] [] [n, x]).neg, .slice aa3 na3 ca3, .slice aw3 nw3 cw3, .slice ar3 nr3 cr3, .slice ak3 nk3 ck3] ∧ Kn [b] w W ((b, po) :: (nb, .cells #[.int .i64 ((Nd.mk kind [] false [] [] [] [n, x]).kind : Int), .string nm3, .bool (Nd.mk kind [] false [] [] [] [n, x]).neg, .slice aa3 na3 ca3, .slice aw3 nw3 cw3, .slice ar3 nr3 cr3, .slice ak3 nk3 ck3] 41 (0, 0)) :: p2 :: LN3) := by
 subst hk
 refine ⟨⟨#[]⟩, none, 0, 0, none, 0, 0, none, 0, 0, some ⟨gq, 0, none⟩, 2, cc, (gq, .cells #[.int .i64 (n.kind : Int), .string nm, .bool n.neg, .slice aa na ca, .slice aw nw cw, .slice ar nr cr, .slice ak nk ck, .int .i64 (x.kind : Int), .string nm2, .bool x.neg, .slice aa2 na2 ca2, .slice aw2 nw2 cw2, .slice ar2 nr2 cr2, .slice ak2 nk2 ck2] 41 (0, 0)) :: (LN2 ++ LN), ?_, ?_⟩
 ·exact NodeL.two (name := []) (h1.mono fun p hp => List.mem_cons_of_mem _ (List.mem_append_right _ hp)) (h2.mono fun p hp => List.mem_cons_of_mem _ (List.mem_append_left _ hp)) List.mem_cons_self hc
 ·show Kn [b] w W ((b, po) :: (nb, .cells #[.int .i64 (kind : Int), .string ⟨#[]⟩, .bool false, .slice none 0 0, .slice none 0 0, .slice none 0 0, .slice (some ⟨gq, 0, none⟩) 2 cc] 41 (0, 0)) :: p2 :: (gq, .cells #[.int .i64 (n.kind : Int), .string nm, .bool n.neg, .slice aa na ca, .slice aw nw cw, .slice ar nr cr, .slice ak nk ck, .int .i64 (x.kind : Int), .string nm2, .bool x.neg, .slice aa2 na2 ca2, .slice aw2 nw2 cw2, .slice ar2 nr2 cr2, .slice ak2 nk2 ck2] 41 (0, 0)) :: (LN2 ++ LN))
  exact (hL.perml fun p => by simp only [List.countP_cons, List.countP_nil, List.countP_append, List.append_nil, List.nil_append, List.length_nil]; omega)
theorem item_c {W0 : World} {g o cap : Nat} {tvs : List (Tok × Value)} (E : PEnv W0 g o cap tvs) {d : Nat} {pi : Pa Nd} (hw : Wp pi 1) (HC : NodeC W0 g o cap tvs 87 d pi) : NodeC W0 g o cap tvs 51 d (item pi) := by
 intro b i v w hB hbb hv hb
 have HPL : Hid (item pi ((TT tvs).drop i) = (pi ((TT tvs).drop i)).bind fun n r => itemL pi r.length n r) := Lib.hid rfl
 have HW := Lib.hid hw
 have HCC := Lib.hid HC
 have HCJ := Lib.hid (fun W hB hb => HC b i v W hB hbb hv hb)
 clear hw HC
 have hi := hv.out.1
 have hmx := E.max
 have HB0 := Lib.hid hB
 have HXB := Lib.hid (show ∀ y ∈ [b], W0.heap.size ≤ y from by simpa using hbb)
 have hL : Kn [b] w w [(b, .cells #[v, .int .i64 (d : Int)] 73 (0, 0))] := Kn.one hb
 have HBS := Lib.hid hb
 clear hB hb
 have hF := hL.fx
 cases hc : pi ((TT tvs).drop i) with
 | bad er m2 =>
  rw [hc] at HCJ
  have HB9 := Lib.hid (pr_bad HPL.out hc)
  clear hc
  go_enter Tryz.func51, Tryz.ntmps51
  go_wp2_with (first | ((with_reducible refine zS ?_); clear hL; intro W hL hF) | (go_at_call 87; refine zG ?_; clear hF hL; intro W hL hF; (with_reducible refine (HCJ.out _ (kn_bw HB0.out hL HXB.out) (by (exact hL.has _ (List.mem_cons_of_mem _ List.mem_cons_self)))).mono ?_); rintro e W ⟨vj2, dj, rfl, hb⟩; ((replace hL := hL.join1 1 rfl hb)); clear hb hF; simp only [List.eraseIdx_cons_zero, List.eraseIdx_cons_succ, List.cons_append, List.nil_append] at hL; have hF := hL.fx))
  refine ⟨rfl, ?_⟩; rw [HB9.out]; exact ⟨vj2, dj, rfl, (hL.perml fun p => by simp only [List.countP_cons, List.countP_nil, List.countP_append, List.append_nil, List.nil_append, List.length_nil]; omega)⟩
 | ok x r =>
  rw [hc] at HCJ
  have HB9 := Lib.hid (pr_ok HPL.out hc)
  have HLE := Lib.hid (fun j2 vj2 (h : AtV g o cap tvs j2 vj2) (hr : r = (TT tvs).drop j2) => at_le h hi (HW.out _) hc hr)
  clear hc
  go_enter Tryz.func51, Tryz.ntmps51
  go_wp2_with (first | ((with_reducible refine zS ?_); clear hL; intro W hL hF) | (go_at_call 87; refine zG ?_; clear hF hL; intro W hL hF; (with_reducible refine (HCJ.out _ (kn_bw HB0.out hL HXB.out) (by (exact hL.has _ (List.mem_cons_of_mem _ List.mem_cons_self)))).mono ?_); rintro e W ⟨nm, aa, na, ca, aw, nw, cw, ar, nr, cr, ak, nk, ck, LN, j2, vj2, rfl, HN, HJ2, hb⟩; ((replace hL := hL.join1 1 rfl hb)); clear hb hF; simp only [List.eraseIdx_cons_zero, List.eraseIdx_cons_succ, List.cons_append, List.nil_append] at hL; have hF := hL.fx; obtain ⟨W1, rfl⟩ : ∃ W1 : World, W1 = W := ⟨_, rfl⟩))
  have hle := HLE.out _ _ HJ2.out.1 HJ2.out.2
  have hj2 := HJ2.out.1.1
  go_loopg [] (tvs.length - j2) (fun n wr => ∃ (j : Nat) (vj : Value) (nd : Nd) (nm : ByteArray) (aa : Option Addr) (na : Nat) (ca : Nat) (aw : Option Addr) (nw : Nat) (cw : Nat) (ar : Option Addr) (nr : Nat) (cr : Nat) (ak : Option Addr) (nk : Nat) (ck : Nat) (LN : List (Nat × Obj)), n = tvs.length - j ∧ Hid (AtV g o cap tvs j vj) ∧ Hid (∃ f, ((TT tvs).drop j).length ≤ f ∧ item pi ((TT tvs).drop i) = itemL pi f nd ((TT tvs).drop j)) ∧ Hid (NodeL W0 LN nd [.int .i64 (nd.kind : Int), .string nm, .bool nd.neg, .slice aa na ca, .slice aw nw cw, .slice ar nr cr, .slice ak nk ck]) ∧ j < tvs.length ∧ Kn [b] w wr ((b, .cells #[vj, .int .i64 (d : Int)] 73 (0, 0)) :: (W1.heap.size, .cells #[.int .i64 (nd.kind : Int), .string nm, .bool nd.neg, .slice aa na ca, .slice aw nw cw, .slice ar nr cr, .slice ak nk ck] 41 (0, 0)) :: (w.heap.size, .cells #[.int .i64 0, .string ⟨#[]⟩, .bool false, .slice none 0 0, .slice none 0 0, .slice none 0 0, .slice none 0 0] 41 (0, 0)) :: LN))
  case atStart => exact ⟨j2, vj2, x, nm, aa, na, ca, aw, nw, cw, ar, nr, cr, ak, nk, ck, LN, rfl, Lib.hid HJ2.out.1, Lib.hid (by have h9 := HB9.out; rw [HJ2.out.2] at h9; exact ⟨_, Nat.le_refl _, h9⟩), HN, hj2, by refine Kn.name ?_; clear hL; intro hL; exact (hL.perml fun p => by simp only [List.countP_cons, List.countP_nil, List.countP_append, List.append_nil, List.nil_append, List.length_nil]; omega)⟩
  case round => (
    clear hL
    obtain ⟨j, vj, nd, nm, aa, na, ca, aw, nw, cw, ar, nr, cr, ak, nk, ck, LN, rfl, Hvj, HF, HN, hjl, hL⟩ := hrel
    have hF := hL.fx
    obtain ⟨y, pa9, pn9, pc9, hx9, hx29⟩ := E.tok Hvj.out
    have HX9 := Lib.hid hx9
    have HX29 := Lib.hid hx29
    have f09 := tkf0 y.1.kind y.1.fd y.1.line ⟨y.1.text.toArray⟩ ⟨y.1.plain.toArray⟩ pa9 pn9 pc9
    have f19 := tkf1 y.1.kind y.1.fd y.1.line ⟨y.1.text.toArray⟩ ⟨y.1.plain.toArray⟩ pa9 pn9 pc9
    have f29 := tkf2 y.1.kind y.1.fd y.1.line ⟨y.1.text.toArray⟩ ⟨y.1.plain.toArray⟩ pa9 pn9 pc9
    have f39 := tkf3 y.1.kind y.1.fd y.1.line ⟨y.1.text.toArray⟩ ⟨y.1.plain.toArray⟩ pa9 pn9 pc9
    have f49 := tkf4 y.1.kind y.1.fd y.1.line ⟨y.1.text.toArray⟩ ⟨y.1.plain.toArray⟩ pa9 pn9 pc9
    have f59 := tkf5 y.1.kind y.1.fd y.1.line ⟨y.1.text.toArray⟩ ⟨y.1.plain.toArray⟩ pa9 pn9 pc9
    clear hx9 hx29
    obtain ⟨e1, he1⟩ : ∃ z : Bool, isOp [38, 38] ((TT tvs).drop j) = z := ⟨_, rfl⟩
    obtain ⟨e2, he2⟩ : ∃ z : Bool, isOp [124, 124] ((TT tvs).drop j) = z := ⟨_, rfl⟩
    have HE1 : Hid (isOp (⟨#[38, 38]⟩ : ByteArray).data.toList ((TT tvs).drop j) = e1) := Lib.hid he1
    have HE2 : Hid (isOp (⟨#[124, 124]⟩ : ByteArray).data.toList ((TT tvs).drop j) = e2) := Lib.hid he2
    have HTE := Lib.hid (item_text E HX9.out he1 he2)
    clear he1 he2
    cases hee : (e1 || e2) with
    | false =>
     obtain ⟨rfl, rfl⟩ := (Bool.or_eq_false_iff.1 hee)
     have HS9 := Lib.hid (by obtain ⟨f, _, hf⟩ := HF.out; rw [hf, itemL_no HE1.out HE2.out] : item pi ((TT tvs).drop i) = .ok nd ((TT tvs).drop j))
     clear hee
     go_wp2_with (first | ((with_reducible refine zS ?_); clear hL; intro W hL hF) | (go_at_call 52; refine zG ?_; clear hF hL; intro W hL hF; (((first | (with_reducible refine (op_c E b j vj (d : Int) _ (kn_bw HB0.out hL HXB.out) hbb Hvj (by (exact hL.has _ List.mem_cons_self)) ⟨#[38, 38]⟩ _ HE1).mono ?_) | (with_reducible refine (op_c E b j vj (d : Int) _ (kn_bw HB0.out hL HXB.out) hbb Hvj (by (exact hL.has _ List.mem_cons_self)) ⟨#[124, 124]⟩ _ HE2).mono ?_)))); rintro e W ⟨rfl, hb⟩; replace hL := hL.below hb; clear hb hF; have hF := hL.fx))
     refine kn_body ?_; clear hF hL; intro W hL; simp only [kfb] at hL; have hF := hL.fx
     refine bodyPost_ret (by simp [results, Tryz.results51, go_sem, *]; try rfl) rfl ?_
     rw [HS9.out]
     exact node_out HN.out Hvj.out hL
    | true =>
     have HNE2 := Lib.hid (or_ne HE1.out HE2.out hee)
     have HEE := Lib.hid hee
     have hte := HTE.out hee
     clear HTE
     have H49 : Hid (y.1.kind ≠ 4) := Lib.hid (by rcases drop_at E HX9.out with h | h; exact absurd h.1 HNE2.out; exact h.2.1)
     cases e1 <;> cases e2 <;> first | exact absurd hee (by decide) | (
      clear hee
      go_upto_region 7 with (first | (go_at_call 52; refine zG ?_; clear hF hL; intro W hL hF; (((first | (with_reducible refine (op_c E b j vj (d : Int) _ (kn_bw HB0.out hL HXB.out) hbb Hvj (by (exact hL.has _ List.mem_cons_self)) ⟨#[38, 38]⟩ _ HE1).mono ?_) | (with_reducible refine (op_c E b j vj (d : Int) _ (kn_bw HB0.out hL HXB.out) hbb Hvj (by (exact hL.has _ List.mem_cons_self)) ⟨#[124, 124]⟩ _ HE2).mono ?_)))); rintro e W ⟨rfl, hb⟩; replace hL := hL.below hb; clear hb hF; have hF := hL.fx) | (go_at_call 53; refine zG ?_; clear hF hL; intro W hL hF; (with_reducible refine (pass_i E b j vj (d : Int) _ (kn_bw HB0.out hL HXB.out) hbb Hvj (by (exact hL.has _ List.mem_cons_self)) HX9.out pa9 pn9 pc9 HX29.out H49.out).mono ?_); rintro e W ⟨rfl, vj2, HVJ2, hb⟩; ((replace hL := hL.join1 0 rfl hb)); clear hb hF; simp only [List.eraseIdx_cons_zero, List.eraseIdx_cons_succ, List.cons_append, List.nil_append] at hL; have hF := hL.fx) | (go_at_call 49; refine zG ?_; clear hF hL; intro W hL hF; (with_reducible refine (lines_c E b (j + 1) vj2 d _ (kn_bw HB0.out hL HXB.out) hbb HVJ2 (by (exact hL.has _ List.mem_cons_self))).mono ?_); rintro e W ⟨j3, vj3, rfl, HJ3, hb⟩; ((replace hL := hL.join1 0 rfl hb)); clear hb hF; simp only [List.eraseIdx_cons_zero, List.eraseIdx_cons_succ, List.cons_append, List.nil_append] at hL; have hF := hL.fx))
      have HF2 := Lib.hid (itemL_yes HE1.out HE2.out HEE.out HF.out HJ3.out.2.2)
      have HCJ2 := Lib.hid (fun W hB hb => HCC.out b j3 vj3 W hB hbb (Lib.hid HJ3.out.2.1) hb)
      have hj3 := HJ3.out.1
      cases hc2 : pi ((TT tvs).drop j3) with
      | bad er m2 =>
       rw [hc2] at HCJ2
       have HB8 := Lib.hid (by obtain ⟨f, _, hf⟩ := HF2.out; exact pr_bad hf hc2 : item pi ((TT tvs).drop i) = .bad er m2)
       clear hc2
       go_wp2_with (first | ((with_reducible refine zS ?_); clear hL; intro W hL hF) | ((with_reducible refine at_region 7 ?_); refine kn_wp ?_; clear hF hL; intro W hL; have hF := hL.fx; refine kn_regionP [0, 1, 2, 3, 4, 5, 6] [0, 1, 2, 5] [4, 6] [0, 2, 5] (by kernel_rfl) (by kernel_rfl) (List.Sublist.cons _ (List.Sublist.cons_cons _ (List.nil_sublist _))) ?_; clear hF hL; intro Qp hQp; replace hQp := Lib.hid hQp; intro ι F hne hC hFF; have hG := fun n => (hFF n).fx; clear hFF; (repeat (first | (refine cS ?_) | (refine cF hC ?_; intro K hK; go_big_quiet_op; go_big_quiet_on) | (refine cP ?_; intro K hK; go_big_quiet_op; go_big_quiet_on) | (refine cwk_callP rfl (by rfl) (by rfl) (fun _ => rfl) ?_; intro W hL; have hF := hL.fx; simp only [zA, Act.eval]; go_at_call 87; (with_reducible refine (HCJ2.out _ (kn_bw HB0.out hL HXB.out) (by (exact hL.has _ List.mem_cons_self))).mono ?_); rintro e W ⟨vj2, dj, rfl, hb⟩; ((replace hL := hL.join1 0 rfl hb)); clear hb hF; simp only [List.eraseIdx_cons_zero, List.eraseIdx_cons_succ, List.cons_append, List.nil_append] at hL; have hF := hL.fx; refine ⟨_, rfl, hQp.out _ _ ?_⟩; clear hQp; intro a' ha; simp only [Exit.then, Exit.inBlock]; refine ⟨ha, ?_⟩; show NOut W0 b d g o cap tvs w (item pi ((TT tvs).drop i)) _ _; rw [HB8.out]; exact ⟨vj2, dj, rfl, (hL.perml fun p => by simp only [List.countP_cons, List.countP_nil, List.countP_append, List.append_nil, List.nil_append, List.length_nil]; omega)⟩) | (refine cN ?_; intro W hL; have hF := hL.facts; go_wp2; refine zB2 ?_; clear hL hC hG; intro ι F hne hC hG))); ((done))))
      | ok x r =>
       rw [hc2] at HCJ2
       have HF3 := Lib.hid (itemL_ok HF2.out hc2)
       have HLE2 := Lib.hid (fun j2 vj2 (h : AtV g o cap tvs j2 vj2) (hr : r = (TT tvs).drop j2) => at_le h HJ3.out.2.1.1 (HW.out _) hc2 hr)
       clear hc2
       go_wp2_with (first | ((with_reducible refine zS ?_); clear hL; intro W hL hF) | ((with_reducible refine at_region 7 ?_); refine kn_wp ?_; clear hF hL; intro W hL; have hF := hL.fx; refine kn_region [0, 1, 2, 3, 4, 5, 6] [0, 1, 2, 5] [4, 6] [0, 2, 5] (by kernel_rfl) (by kernel_rfl) (List.Sublist.cons _ (List.Sublist.cons_cons _ (List.nil_sublist _))) ?_; clear hF hL; intro ι F hne hC hFF; have hG := fun n => (hFF n).fx; clear hFF; (repeat (first | (refine cS ?_) | (refine cF hC ?_; intro K hK; go_big_quiet_op; go_big_quiet_on) | (refine cP ?_; intro K hK; go_big_quiet_op; go_big_quiet_on) | (refine cC ?_; intro W hL; have hF := hL.fx; simp only [zA, Act.eval]; go_at_call 87; (with_reducible refine (HCJ2.out _ (kn_bw HB0.out hL HXB.out) (by (exact hL.has _ List.mem_cons_self))).mono ?_); rintro e W ⟨nm2, aa2, na2, ca2, aw2, nw2, cw2, ar2, nr2, cr2, ak2, nk2, ck2, LN2, j2, vj2, rfl, HN2, HJ2, hb⟩; ((replace hL := hL.join1 0 rfl hb)); clear hb hF; simp only [List.eraseIdx_cons_zero, List.eraseIdx_cons_succ, List.cons_append, List.nil_append] at hL; have hF := hL.fx; replace hL := hL.in1a; clear hF; have hF := hL.fx; refine owed_ret ?_; ((refine owed0 _ (by repeat' (first | (with_reducible exact List.nil_sublist _) | (with_reducible apply List.Sublist.cons_cons) | (with_reducible apply List.Sublist.cons))) ?_; clear hL hF)); simp only [Act.put, zT]) | (refine cN ?_; intro W hL; have hF := hL.fx; go_wp2; refine zB2 ?_; clear hL hF hC hG; intro ι F hne hC hG))); refine cwk_nil ?_; clear hC hG; intro W hL; simp only [kfb] at hL; have hF := hL.fx))
       have hle2 := HLE2.out _ _ HJ2.out.1 HJ2.out.2
       have hj4 := HJ2.out.1.1
       obtain ⟨nm3, aa3, na3, ca3, aw3, nw3, cw3, ar3, nr3, cr3, ak3, nk3, ck3, LN3, hn3, hL3⟩ := item_next hL (by rfl) (by omega) HN.out HN2.out
       go_roundg (tvs.length - j2)
       case measure => omega
       case rel => exact ⟨j2, vj2, _, nm3, aa3, na3, ca3, aw3, nw3, cw3, ar3, nr3, cr3, ak3, nk3, ck3, LN3, rfl, Lib.hid HJ2.out.1, Lib.hid (by obtain ⟨f, hf1, hf⟩ := HF3.out; rw [HJ2.out.2] at hf; exact ⟨f, by rw [List.length_drop] at hf1 ⊢; omega, hf⟩), Lib.hid hn3, hj4, hL3⟩))
end Go.Proofs.YtgboffbbpmileaaGreatDoor
set_option maxRecDepth 20000
set_option maxHeartbeats 4000000
set_option linter.unusedVariables false
set_option linter.unusedSimpArgs false
namespace Go.Proofs.YtgboffbbpmileaaGreatDoor
open Go Go.RowKit
theorem ends_at {W0 : World} {g o cap : Nat} {tvs : List (Tok × Value)} (E : PEnv W0 g o cap tvs) {i : Nat} {x : Tok × Value} (hx : tvs[i]? = some x) : isEnds ((TT tvs).drop i) = (((x.1.kind : Int) == 4) || (isOp [41] ((TT tvs).drop i) || (isOp [59, 59] ((TT tvs).drop i) || isKw enders ((TT tvs).drop i)))) := by
 rcases drop_at E hx with ⟨h1, h2, h3, h4⟩ | ⟨h1, h2, h3⟩
 ·rw [h1, h2]; rfl
 ·rw [h1, show ((x.1.kind : Int) == 4) = false from beq_false_of_ne (by omega), Bool.false_or]
  show (_ || _ || _) = _
  rw [Bool.or_assoc]
def closB : List ByteArray := closers.map fun s => ⟨s.toArray⟩
theorem closB_map : closB.map (fun z => z.data.toList) = closers := by
 unfold closB; rw [List.map_map]; exact List.map_id _
theorem closB_take : (closB.take 8).map (fun z => z.data.toList) = enders := by decide
theorem clo_row {W0 W : World} (hB : Below W0.heap.size W0 W) {cg co : Nat} (h : ∀ (j : Nat) s, closers[j]? = some s → W0.cell? ⟨cg, co + j, none⟩ = some (bs s)) (m : Nat) : ∀ j, j < (closB.take m).length → W.cell? ⟨cg, co + j, none⟩ = some (.string ((closB.take m).getD j ByteArray.empty)) := fun j hj => by
 have hj2 : j < closB.length := by rw [List.length_take] at hj; omega
 have hj3 : j < closers.length := by unfold closB at hj2; rwa [List.length_map] at hj2
 have h1 := h j _ (List.getElem?_eq_getElem hj3)
 rw [cell_ext h1 hB]
 congr 1
 rw [List.getD_eq_getElem?_getD, List.getElem?_eq_getElem hj, List.getElem_take, Option.getD_some]
 unfold closB
 rw [List.getElem_map]
 rfl
theorem clo_lt {W0 : World} {cg co : Nat} (h : ∀ (j : Nat) s, closers[j]? = some s → W0.cell? ⟨cg, co + j, none⟩ = some (bs s)) : cg < W0.heap.size := cell_lt (h 0 _ rfl)
theorem ends_c {W0 : World} {g o cap : Nat} {tvs : List (Tok × Value)} (E : PEnv W0 g o cap tvs) (b i : Nat) (v : Value) (d : Nat) (w : World) (hB : Below W0.heap.size W0 w) (hbb : W0.heap.size ≤ b) (hv : Hid (AtV g o cap tvs i v)) (hb : w.heap[b]? = some (.cells #[v, .int .i64 (d : Int)] 73 (0, 0))) : Calls Tryz.prog 50 #[.pointer (some ⟨b, 0, none⟩)] w fun e w' => e = .returned (.bool (isEnds ((TT tvs).drop i))) ∧ Below w.heap.size w w' := by
 obtain ⟨x, pa, pn, pc, hx, hx2⟩ := E.tok hv.out
 have HX := Lib.hid hx
 have HX2 := Lib.hid hx2
 have f0 := tkf0 x.1.kind x.1.fd x.1.line ⟨x.1.text.toArray⟩ ⟨x.1.plain.toArray⟩ pa pn pc
 have f1 := tkf1 x.1.kind x.1.fd x.1.line ⟨x.1.text.toArray⟩ ⟨x.1.plain.toArray⟩ pa pn pc
 have f2 := tkf2 x.1.kind x.1.fd x.1.line ⟨x.1.text.toArray⟩ ⟨x.1.plain.toArray⟩ pa pn pc
 have f3 := tkf3 x.1.kind x.1.fd x.1.line ⟨x.1.text.toArray⟩ ⟨x.1.plain.toArray⟩ pa pn pc
 have f4 := tkf4 x.1.kind x.1.fd x.1.line ⟨x.1.text.toArray⟩ ⟨x.1.plain.toArray⟩ pa pn pc
 have f5 := tkf5 x.1.kind x.1.fd x.1.line ⟨x.1.text.toArray⟩ ⟨x.1.plain.toArray⟩ pa pn pc
 clear hx hx2
 rw [ends_at E HX.out]
 obtain ⟨k1, hk1⟩ : ∃ k : Bool, ((x.1.kind : Int) == 4) = k := ⟨_, rfl⟩
 obtain ⟨k2, hk2⟩ : ∃ k : Bool, (isOp [41] ((TT tvs).drop i)) = k := ⟨_, rfl⟩
 obtain ⟨k3, hk3⟩ : ∃ k : Bool, (isOp [59, 59] ((TT tvs).drop i)) = k := ⟨_, rfl⟩
 obtain ⟨k4, hk4⟩ : ∃ k : Bool, isKw enders ((TT tvs).drop i) = k := ⟨_, rfl⟩
 rw [hk1, hk2, hk3, hk4]
 have HK2 : Hid (isOp (⟨#[41]⟩ : ByteArray).data.toList ((TT tvs).drop i) = k2) := Lib.hid hk2
 have HK3 : Hid (isOp (⟨#[59, 59]⟩ : ByteArray).data.toList ((TT tvs).drop i) = k3) := Lib.hid hk3
 have HK4 : Hid (isKw ((closB.take 8).map fun z => z.data.toList) ((TT tvs).drop i) = k4) := Lib.hid (by rw [closB_take]; exact hk4)
 clear hk2 hk3 hk4
 obtain ⟨cg, co, cc, hc1, hc2, hc3⟩ := E.clo
 have HC3 := Lib.hid hc3
 have hg0 := cell_lt hc1
 have hc4 := cell_ext hc1 hB
 have hcb : Hid (cg ≠ b) := Lib.hid (by have := clo_lt hc3; omega)
 have hg1 : 0 < b := by omega
 have hg2 : 0 < w.heap.size := cell_lt hc4
 have hg3 : ¬ 0 = b := by omega
 clear hc3 hc1
 have HB0 := Lib.hid hB
 have HXB := Lib.hid (show ∀ y ∈ [b], W0.heap.size ≤ y from by simpa using hbb)
 have hL : Kn [b] w w [(b, .cells #[v, .int .i64 (d : Int)] 73 (0, 0))] := Kn.one hb
 have HBS := Lib.hid hb
 clear hB hb
 have hF := hL.fx
 cases k1 <;> cases k2 <;> cases k3 <;> (
  go_enter Tryz.func50, Tryz.ntmps50
  go_wp2_with (first | ((with_reducible refine zS ?_); clear hL; intro W hL hF) | (go_at_call 27; refine zC (fun W hL => next_i E b i v (d : Int) _ (kn_bw HB0.out hL HXB.out) hbb hv (by (exact hL.has _ List.mem_cons_self)) HX.out pa pn pc HX2.out ) ?_; clear hF hL; intro W hL hF) | (go_at_call 52; refine zG ?_; clear hF hL; intro W hL hF; (((first | (with_reducible refine (op_c E b i v (d : Int) _ (kn_bw HB0.out hL HXB.out) hbb hv (by (exact hL.has _ List.mem_cons_self)) ⟨#[41]⟩ _ HK2).mono ?_) | (with_reducible refine (op_c E b i v (d : Int) _ (kn_bw HB0.out hL HXB.out) hbb hv (by (exact hL.has _ List.mem_cons_self)) ⟨#[59, 59]⟩ _ HK3).mono ?_)))); rintro e W ⟨rfl, hb⟩; replace hL := hL.below hb; clear hb hF; have hF := hL.fx) | (go_at_call 86; refine zC (fun W hL => key_c E b i v (d : Int) _ (kn_bw HB0.out hL HXB.out) hbb hv (by (exact hL.has _ List.mem_cons_self)) cg co 8 _ (closB.take 8) _ HK4 (Lib.hid rfl) (by omega) (clo_row (kn_bw HB0.out hL HXB.out) HC3.out 8) hcb.out) ?_; clear hF hL; intro W hL hF))
  refine kn_body ?_; clear hF hL; intro W hL; have hF := hL.fx
  refine bodyPost_ret (by simp [results, Tryz.results50, go_sem, *]; try rfl) rfl ?_
  exact ⟨rfl, kn_back (hL.sub (by repeat' ((exact List.Sublist.refl _)))) HBS.out⟩)
end Go.Proofs.YtgboffbbpmileaaGreatDoor
