/- Lemmas and walks for the law of this seat (part 17). -/
import Derived.Test.YtgboffbbpmileaaGreatDoorPj16
import Derived.Test.YtgboffbbpmileaaGreatDoorProg
import Derived.WalkKit
import Derived.Handy
import Derived.Deep.Light
import Derived.WalkSmall
import Derived.StillTailTactics
import Derived.Lib.Hide
set_option maxRecDepth 20000
set_option maxHeartbeats 4000000
set_option linter.unusedVariables false
set_option linter.unusedSimpArgs false
namespace Go.Proofs.YtgboffbbpmileaaGreatDoor
open Go Go.RowKit
theorem kids_outn {W0 : World} {b d j g o cap n : Nat} {tvs : List (Tok × Value)} {w W : World} {vj : Value} (kind : Nat) (neg : Bool) (ks : List (Nd × List Value)) {ak : Option Addr} {ck : Nat} {LC LK : List (Nat × Obj)} (hn : n = ks.length) (HRK : RowL 7 41 LK (.slice ak n ck) n (ks.flatMap (·.2))) (HK : ∀ x ∈ ks, NodeL W0 LC x.1 x.2) (Hvj : AtV g o cap tvs j vj) {l : List Nd} (hl : l = ks.map (·.1)) {q1 q2 : Nat × Obj} (hL : Kn [b] w W ((b, .cells #[vj, .int .i64 (d : Int)] 73 (0, 0)) :: q1 :: q2 :: (LC ++ LK))) :
  NOut W0 b d g o cap tvs w (.ok (.mk kind [] neg [] [] [] l) ((TT tvs).drop j)) (.returned (.agg #[.int .i64 (kind : Int), .string ⟨#[]⟩, .bool neg, .slice none 0 0, .slice none 0 0, .slice none 0 0, .slice ak n ck])) W := by
 subst hn hl
 exact kids_out kind neg ks HRK HK Hvj hL
section
variable {it : Pa Nd} {ts l : List Tok} {ns : List Nd} {p : PR Nd} {F : List Nd → List Tok → PR Nd}
theorem listL_end (hf : ∃ (f : Nat) (us : List Tok), ts.length < f ∧ lines us = ts ∧ p = (listL it f ns us).bind F) (he : isEnds ts = true) : p = F ns ts := by
 obtain ⟨f, us, h1, h2, h3⟩ := hf
 cases f with
 | zero => omega
 | succ f => rw [h3, listL, h2, if_pos he]; rfl
theorem listL_ok {x : Nd} {r : List Tok} (hf : ∃ (f : Nat) (us : List Tok), ts.length < f ∧ lines us = ts ∧ p = (listL it f ns us).bind F) (he : isEnds ts = false) (hx : it ts = .ok x r) :
  ∃ f : Nat, ts.length ≤ f ∧ p = (if sep r then listL it f (ns ++ [back r x]) r.tail else .ok (ns ++ [back r x]) r).bind F := by
 obtain ⟨f, us, h1, h2, h3⟩ := hf
 cases f with
 | zero => omega
 | succ f =>
  refine ⟨f, by omega, ?_⟩
  rw [h3, listL, h2, if_neg (by rw [he]; decide), hx]
  rfl
theorem listL_bad {e m : Nat} (hf : ∃ (f : Nat) (us : List Tok), ts.length < f ∧ lines us = ts ∧ p = (listL it f ns us).bind F) (he : isEnds ts = false) (hx : it ts = .bad e m) : p = .bad e m := by
 obtain ⟨f, us, h1, h2, h3⟩ := hf
 cases f with
 | zero => omega
 | succ f => rw [h3, listL, h2, if_neg (by rw [he]; decide), hx]; rfl
variable {T : List Tok} {j2 : Nat} {x : Nd} {k2 k3 : Bool}
theorem listL_back (hf : ∃ f : Nat, ts.length ≤ f ∧ p = (if sep (T.drop j2) then listL it f (ns ++ [back (T.drop j2) x]) (T.drop j2).tail else .ok (ns ++ [back (T.drop j2) x]) (T.drop j2)).bind F) (h1 : isOp [38] (T.drop j2) = true) :
  ∃ (f : Nat) (us : List Tok), ts.length ≤ f ∧ us = T.drop (j2 + 1) ∧ p = (listL it f (ns ++ [.mk 5 [] false [] [] [] [x]]) us).bind F := by
 obtain ⟨f, hf1, hf⟩ := hf
 refine ⟨f, _, hf1, rfl, ?_⟩
 rw [hf, if_pos (by unfold sep; rw [h1]; rfl), drop_tail]
 unfold back
 rw [if_pos h1]
theorem listL_sep (hf : ∃ f : Nat, ts.length ≤ f ∧ p = (if sep (T.drop j2) then listL it f (ns ++ [back (T.drop j2) x]) (T.drop j2).tail else .ok (ns ++ [back (T.drop j2) x]) (T.drop j2)).bind F) (h1 : isOp [38] (T.drop j2) = false) (h2 : isOp [59] (T.drop j2) = k2) (h3 : isK 3 (T.drop j2) = !k3) (h : (k2 || !k3) = true) :
  ∃ (f : Nat) (us : List Tok), ts.length ≤ f ∧ us = T.drop (j2 + 1) ∧ p = (listL it f (ns ++ [x]) us).bind F := by
 obtain ⟨f, hf1, hf⟩ := hf
 refine ⟨f, _, hf1, rfl, ?_⟩
 rw [hf, if_pos (by unfold sep; rw [h1, h2, h3]; simpa using h), drop_tail]
 unfold back
 rw [if_neg (by rw [h1]; decide)]
theorem listL_stop (hf : ∃ f : Nat, ts.length ≤ f ∧ p = (if sep (T.drop j2) then listL it f (ns ++ [back (T.drop j2) x]) (T.drop j2).tail else .ok (ns ++ [back (T.drop j2) x]) (T.drop j2)).bind F) (h1 : isOp [38] (T.drop j2) = false) (h2 : isOp [59] (T.drop j2) = false) (h3 : isK 3 (T.drop j2) = !true) : p = F (ns ++ [x]) (T.drop j2) := by
 obtain ⟨f, _, hf⟩ := hf
 rw [hf, if_neg (by unfold sep; rw [h1, h2, h3]; decide)]
 unfold back
 rw [if_neg (by rw [h1]; decide)]
 rfl
end
theorem list_c {W0 : World} {g o cap : Nat} {tvs : List (Tok × Value)} (E : PEnv W0 g o cap tvs) {d : Nat} {it : Pa Nd} (hw : Wp it 1) (HC : NodeC W0 g o cap tvs 51 d it) : NodeC W0 g o cap tvs 26 d (fun ts => (listL it (ts.length + 1) [] ts).bind fun l r => .ok (.mk 4 [] false [] [] [] l) r) := by
 intro b i v w hB hbb hv hb
 show Calls _ _ _ _ (NOut W0 b d g o cap tvs w ((listL it (((TT tvs).drop i).length + 1) [] ((TT tvs).drop i)).bind fun l r => .ok (.mk 4 [] false [] [] [] l) r))
 obtain ⟨PL, hpl⟩ : ∃ p : PR Nd, ((listL it (((TT tvs).drop i).length + 1) [] ((TT tvs).drop i)).bind fun l r => .ok (.mk 4 [] false [] [] [] l) r) = p := ⟨_, rfl⟩
 rw [hpl]
 have HPL := Lib.hid hpl
 clear hpl
 have HW := Lib.hid hw
 have HCC := Lib.hid HC
 clear hw HC
 have hi := hv.out.1
 have hmx := E.max
 have HB0 := Lib.hid hB
 have HXB := Lib.hid (show ∀ y ∈ [b], W0.heap.size ≤ y from by simpa using hbb)
 have hL : Kn [b] w w [(b, .cells #[v, .int .i64 (d : Int)] 73 (0, 0))] := Kn.one hb
 have HBS := Lib.hid hb
 clear hB hb
 have hF := hL.fx
 go_enter Tryz.func26, Tryz.ntmps26
 go_wp2_with (first | ((with_reducible refine zS ?_); clear hL; intro W hL hF) | (go_at_call 49; refine zG ?_; clear hF hL; intro W hL hF; (with_reducible refine (lines_c E b i v d _ (kn_bw HB0.out hL HXB.out) hbb hv (by (exact hL.has _ (List.mem_cons_of_mem _ (List.mem_cons_of_mem _ List.mem_cons_self))))).mono ?_); rintro e W ⟨j0, vj0, rfl, HJ0, hb⟩; ((replace hL := hL.join1 2 rfl hb)); clear hb hF; simp only [List.eraseIdx_cons_zero, List.eraseIdx_cons_succ, List.cons_append, List.nil_append] at hL; have hF := hL.fx))
 have hj0 := HJ0.out.2.1.1
 go_loopg [] (tvs.length - j0) (fun n wr => ∃ (j : Nat) (vj : Value) (ks : List (Nd × List Value)) (ak : Option Addr) (ck : Nat) (LC LK : List (Nat × Obj)), n = tvs.length - j ∧ Hid (AtV g o cap tvs j vj) ∧ Hid (∃ (f : Nat) (ts : List Tok), ((TT tvs).drop j).length < f ∧ lines ts = (TT tvs).drop j ∧ PL = (listL it f (ks.map (·.1)) ts).bind fun l r => .ok (.mk 4 [] false [] [] [] l) r) ∧ Hid (RowL 7 41 LK (.slice ak ks.length ck) ks.length (ks.flatMap (·.2))) ∧ Hid (∀ x ∈ ks, NodeL W0 LC x.1 x.2) ∧ ks.length ≤ j ∧ j < tvs.length ∧ Kn [b] w wr ((b, .cells #[vj, .int .i64 (d : Int)] 73 (0, 0)) :: (w.heap.size + 1, .cells #[.int .i64 4, .string ⟨#[]⟩, .bool false, .slice none 0 0, .slice none 0 0, .slice none 0 0, .slice ak ks.length ck] 41 (0, 0)) :: (w.heap.size, .cells #[.int .i64 0, .string ⟨#[]⟩, .bool false, .slice none 0 0, .slice none 0 0, .slice none 0 0, .slice none 0 0] 41 (0, 0)) :: (LC ++ LK)))
 case atStart => exact ⟨j0, vj0, [], none, 0, [], [], rfl, Lib.hid HJ0.out.2.1, Lib.hid ⟨_, (TT tvs).drop i, by have := HJ0.out.1; rw [List.length_drop, List.length_drop]; omega, HJ0.out.2.2, HPL.out.symm⟩, Lib.hid RowL.nil, Lib.hid (by simp), Nat.zero_le _, hj0, by refine Kn.name ?_; clear hL; intro hL; exact (hL.perml fun p => by simp only [List.countP_cons, List.countP_nil, List.countP_append, List.append_nil, List.nil_append, List.length_nil]; omega)⟩
 case round =>
  clear hL
  obtain ⟨j, vj, ks, ak, ck, LC, LK, rfl, Hvj, HF, HRK, HKS, hsz, hjl, hL⟩ := hrel
  have hF := hL.fx
  obtain ⟨e1, he1⟩ : ∃ z : Bool, isEnds ((TT tvs).drop j) = z := ⟨_, rfl⟩
  have HE1 := Lib.hid he1
  have HEN := Lib.hid (fun W hB hb => ends_c E b j vj d W hB hbb Hvj hb)
  rw [he1] at HEN
  have HCJ := Lib.hid (fun W hB hb => HCC.out b j vj W hB hbb Hvj hb)
  cases e1
  ·cases hc : it ((TT tvs).drop j) with
   | bad er m2 =>
    rw [hc] at HCJ
    have HB9 := Lib.hid (listL_bad HF.out HE1.out hc)
    clear hc
    go_wp2_with (first | ((with_reducible refine zS ?_); clear hL; intro W hL hF) | (go_at_call 50; refine zC (fun W hL => HEN.out _ (kn_bw HB0.out hL HXB.out) (by (exact hL.has _ List.mem_cons_self))) ?_; clear hF hL; intro W hL hF) | (go_at_call 51; refine zG ?_; clear hF hL; intro W hL hF; (with_reducible refine (HCJ.out _ (kn_bw HB0.out hL HXB.out) (by (exact hL.has _ List.mem_cons_self))).mono ?_); rintro e W ⟨vj2, dj, rfl, hb⟩; ((replace hL := hL.join1 0 rfl hb)); clear hb hF; simp only [List.eraseIdx_cons_zero, List.eraseIdx_cons_succ, List.cons_append, List.nil_append] at hL; have hF := hL.fx))
    refine ⟨rfl, ?_⟩; rw [HB9.out]; exact ⟨vj2, dj, rfl, (hL.perml fun p => by simp only [List.countP_cons, List.countP_nil, List.countP_append, List.append_nil, List.nil_append, List.length_nil]; omega)⟩
   | ok x r => (
     have HLE2 := Lib.hid (fun j2 vj2 (h : AtV g o cap tvs j2 vj2) (hr : r = (TT tvs).drop j2) => at_le h hjl (HW.out _) hc hr)
     rw [hc] at HCJ
     have HF2 := Lib.hid (listL_ok HF.out HE1.out hc)
     clear hc
     go_upto_region 6 with (first | (go_at_call 50; refine zC (fun W hL => HEN.out _ (kn_bw HB0.out hL HXB.out) (by (exact hL.has _ List.mem_cons_self))) ?_; clear hF hL; intro W hL hF) | (go_at_call 51; refine zG ?_; clear hF hL; intro W hL hF; (with_reducible refine (HCJ.out _ (kn_bw HB0.out hL HXB.out) (by (exact hL.has _ List.mem_cons_self))).mono ?_); rintro e W ⟨nm, aa, na, ca, aw, nw, cw, ar, nr, cr, ak, nk, ck, LN, j2, vj2, rfl, HN, HJ2, hb⟩; ((replace hL := hL.join1 0 rfl hb)); clear hb hF; simp only [List.eraseIdx_cons_zero, List.eraseIdx_cons_succ, List.cons_append, List.nil_append] at hL; have hF := hL.fx; replace hL := hL.in1; clear hF; have hF := hL.fx; obtain ⟨W1, rfl⟩ : ∃ W1 : World, W1 = W := ⟨_, rfl⟩))
     have hle := HLE2.out _ _ HJ2.out.1 HJ2.out.2
     have hj2 := HJ2.out.1.1
     have Hvj2 := Lib.hid HJ2.out.1
     have hrd := HJ2.out.2
     rw [hrd] at HF2
     clear hrd
     obtain ⟨y, pa8, pn8, pc8, hx8, hx28⟩ := E.tok Hvj2.out
     have HX8 := Lib.hid hx8
     have HX28 := Lib.hid hx28
     have f08 := tkf0 y.1.kind y.1.fd y.1.line ⟨y.1.text.toArray⟩ ⟨y.1.plain.toArray⟩ pa8 pn8 pc8
     have f18 := tkf1 y.1.kind y.1.fd y.1.line ⟨y.1.text.toArray⟩ ⟨y.1.plain.toArray⟩ pa8 pn8 pc8
     have f28 := tkf2 y.1.kind y.1.fd y.1.line ⟨y.1.text.toArray⟩ ⟨y.1.plain.toArray⟩ pa8 pn8 pc8
     have f38 := tkf3 y.1.kind y.1.fd y.1.line ⟨y.1.text.toArray⟩ ⟨y.1.plain.toArray⟩ pa8 pn8 pc8
     have f48 := tkf4 y.1.kind y.1.fd y.1.line ⟨y.1.text.toArray⟩ ⟨y.1.plain.toArray⟩ pa8 pn8 pc8
     have f58 := tkf5 y.1.kind y.1.fd y.1.line ⟨y.1.text.toArray⟩ ⟨y.1.plain.toArray⟩ pa8 pn8 pc8
     clear hx8 hx28
     obtain ⟨k1, hk1⟩ : ∃ z : Bool, isOp [38] ((TT tvs).drop j2) = z := ⟨_, rfl⟩
     obtain ⟨k2, hk2⟩ : ∃ z : Bool, isOp [59] ((TT tvs).drop j2) = z := ⟨_, rfl⟩
     obtain ⟨k3, hk3⟩ : ∃ z : Bool, ((y.1.kind : Int) != 3) = z := ⟨_, rfl⟩
     have HK1 : Hid (isOp (⟨#[38]⟩ : ByteArray).data.toList ((TT tvs).drop j2) = k1) := Lib.hid hk1
     have HK2 : Hid (isOp (⟨#[59]⟩ : ByteArray).data.toList ((TT tvs).drop j2) = k2) := Lib.hid hk2
     have HK3 : Hid (isK 3 ((TT tvs).drop j2) = !k3) := Lib.hid (by rw [k_at E HX8.out 3 (by omega), ← hk3]; exact (Bool.not_not _).symm)
     clear hk1 hk2
     cases k1
     ·cases hsp : (k2 || !k3) with
      | true =>
       have HNE2 := Lib.hid (sep_ne (show sep ((TT tvs).drop j2) = true by unfold sep; rw [show isOp [38] _ = _ from HK1.out, show isOp [59] _ = _ from HK2.out, HK3.out]; simpa using hsp))
       have HF3 := Lib.hid (listL_sep HF2.out HK1.out HK2.out HK3.out (by simpa using hsp))
       cases k2 <;> cases k3 <;> first | exact absurd hsp (by decide) | (
       clear hsp
       go_wp2_with (first | ((with_reducible refine zS ?_); clear hF hL; intro W hL hF) | (go_at_call 52; refine zG ?_; clear hF hL; intro W hL hF; (((first | (with_reducible refine (op_c E b j2 vj2 (d : Int) _ (kn_bw HB0.out hL HXB.out) hbb Hvj2 (by first | exact hL.has _ (List.mem_cons_of_mem _ List.mem_cons_self) | exact hL.has _ (List.mem_cons_of_mem _ (List.mem_cons_of_mem _ List.mem_cons_self))) ⟨#[38]⟩ _ HK1).mono ?_) | (with_reducible refine (op_c E b j2 vj2 (d : Int) _ (kn_bw HB0.out hL HXB.out) hbb Hvj2 (by (exact hL.has _ (List.mem_cons_of_mem _ (List.mem_cons_of_mem _ List.mem_cons_self)))) ⟨#[59]⟩ _ HK2).mono ?_)))); rintro e W ⟨rfl, hb⟩; replace hL := hL.below hb; clear hb hF; have hF := hL.fx) | (go_at_call 27; refine zC (fun W hL => next_i E b j2 vj2 (d : Int) _ (kn_bw HB0.out hL HXB.out) hbb Hvj2 (by (exact hL.has _ (List.mem_cons_of_mem _ (List.mem_cons_of_mem _ List.mem_cons_self)))) HX8.out pa8 pn8 pc8 HX28.out ) ?_; clear hF hL; intro W hL hF) | (at_builtin; refine zL ?_; clear hF hL; intro W hL hF; go_loud (refine wpList_append_end rfl _ _ 39 39 rfl (_ :: _ :: _ :: _ :: _ :: (LN ++ LC)) LK hL ks.length 1 (ks.flatMap (·.2)) [.int .i64 (x.kind : Int), .string nm, .bool x.neg, .slice aa na ca, .slice aw nw cw, .slice ar nr cr, .slice ak nk ck] _ _ HRK.out rfl rfl (fun ho => run_append_Nd rfl (fun j u hu => by rw [Go.WideShapes.add_plain, Nat.zero_add, kn_cell hL List.mem_cons_self]; simpa using hu) (by intro u hu; simp only [List.mem_cons, List.not_mem_nil, or_false] at hu; rcases hu with rfl | rfl | rfl | rfl | rfl | rfl | rfl <;> rfl) (by omega) ho) ?_); intro LP3 a3 c3 W3 hL2 hr3; clear hL hF; have hL := hL2; clear hL2; simp only [List.append_eq, List.cons_append, List.nil_append] at hL; have hF := hL.fx) | (go_at_call 53; refine zG ?_; clear hF hL; intro W hL hF; (with_reducible refine (pass_c E b j2 vj2 (d : Int) _ (kn_bw HB0.out hL HXB.out) hbb Hvj2 (by (exact hL.has _ (List.mem_cons_of_mem _ (List.mem_cons_of_mem _ List.mem_cons_self)))) HNE2.out).mono ?_); rintro e W ⟨x1, pa1, pn1, pc1, vj3, rfl, HTX2, HVJ3, hb⟩; ((replace hL := hL.join1 2 rfl hb)); clear hb hF; simp only [List.eraseIdx_cons_zero, List.eraseIdx_cons_succ, List.cons_append, List.nil_append] at hL; have hF := hL.fx) | (go_at_call 49; refine zG ?_; clear hF hL; intro W hL hF; (with_reducible refine (lines_c E b (j2 + 1) vj3 d _ (kn_bw HB0.out hL HXB.out) hbb HVJ3 (by (exact hL.has _ List.mem_cons_self))).mono ?_); rintro e W ⟨j4, vj4, rfl, HJ4, hb⟩; ((replace hL := hL.join1 0 rfl hb)); clear hb hF; simp only [List.eraseIdx_cons_zero, List.eraseIdx_cons_succ, List.cons_append, List.nil_append] at hL; have hF := hL.fx))
       go_roundg (tvs.length - j4)
       case measure => have := HJ4.out.1; have := HJ4.out.2.1.1; omega
       case rel => exact ⟨j4, vj4, ks ++ [(x, [.int .i64 (x.kind : Int), .string nm, .bool x.neg, .slice aa na ca, .slice aw nw cw, .slice ar nr cr, .slice ak nk ck])], a3, c3, LN ++ LC, LP3, rfl, Lib.hid HJ4.out.2.1, Lib.hid (by obtain ⟨f, ts, h1, rfl, h3⟩ := HF3.out; exact ⟨f, _, by have h7 := HJ4.out.1; have h8 := HJ4.out.2.1.1; rw [List.length_drop, TT_len] at h1 ⊢; omega, HJ4.out.2.2, by simpa using h3⟩), Lib.hid (by simpa using hr3), Lib.hid (all_snoc (fun y hy => (HKS.out y hy).r) HN.out.l), by have := HJ4.out.1; simp only [List.length_append, List.length_singleton]; omega, by have := HJ4.out.2.1.1; omega, by refine Kn.name ?_; clear hL; intro hL; simp only [List.length_append, List.length_singleton]; exact (hL.perml fun p => by simp only [List.countP_cons, List.countP_nil, List.countP_append, List.append_nil, List.nil_append, List.length_nil]; omega)⟩)
      | false =>
       obtain ⟨rfl, rfl⟩ : k2 = false ∧ k3 = true := by cases k2 <;> cases k3 <;> first | exact ⟨rfl, rfl⟩ | cases hsp
       have HS9 := Lib.hid (listL_stop HF2.out HK1.out HK2.out HK3.out)
       clear hsp
       go_wp2_with (first | ((with_reducible refine zS ?_); clear hF hL; intro W hL hF) | (go_at_call 52; refine zG ?_; clear hF hL; intro W hL hF; (((first | (with_reducible refine (op_c E b j2 vj2 (d : Int) _ (kn_bw HB0.out hL HXB.out) hbb Hvj2 (by first | exact hL.has _ (List.mem_cons_of_mem _ List.mem_cons_self) | exact hL.has _ (List.mem_cons_of_mem _ (List.mem_cons_of_mem _ List.mem_cons_self))) ⟨#[38]⟩ _ HK1).mono ?_) | (with_reducible refine (op_c E b j2 vj2 (d : Int) _ (kn_bw HB0.out hL HXB.out) hbb Hvj2 (by (exact hL.has _ (List.mem_cons_of_mem _ (List.mem_cons_of_mem _ List.mem_cons_self)))) ⟨#[59]⟩ _ HK2).mono ?_)))); rintro e W ⟨rfl, hb⟩; replace hL := hL.below hb; clear hb hF; have hF := hL.fx) | (go_at_call 27; refine zC (fun W hL => next_i E b j2 vj2 (d : Int) _ (kn_bw HB0.out hL HXB.out) hbb Hvj2 (by (exact hL.has _ (List.mem_cons_of_mem _ (List.mem_cons_of_mem _ List.mem_cons_self)))) HX8.out pa8 pn8 pc8 HX28.out ) ?_; clear hF hL; intro W hL hF) | (at_builtin; refine zL ?_; clear hF hL; intro W hL hF; go_loud (refine wpList_append_end rfl _ _ 39 39 rfl (_ :: _ :: _ :: _ :: _ :: (LN ++ LC)) LK hL ks.length 1 (ks.flatMap (·.2)) [.int .i64 (x.kind : Int), .string nm, .bool x.neg, .slice aa na ca, .slice aw nw cw, .slice ar nr cr, .slice ak nk ck] _ _ HRK.out rfl rfl (fun ho => run_append_Nd rfl (fun j u hu => by rw [Go.WideShapes.add_plain, Nat.zero_add, kn_cell hL List.mem_cons_self]; simpa using hu) (by intro u hu; simp only [List.mem_cons, List.not_mem_nil, or_false] at hu; rcases hu with rfl | rfl | rfl | rfl | rfl | rfl | rfl <;> rfl) (by omega) ho) ?_); intro LP3 a3 c3 W3 hL2 hr3; clear hL hF; have hL := hL2; clear hL2; simp only [List.append_eq, List.cons_append, List.nil_append] at hL; have hF := hL.fx))
       refine kn_body ?_; clear hF hL; intro W hL; simp only [kfb] at hL; have hF := hL.fx
       refine bodyPost_ret (by simp [results, Tryz.results26, go_sem, *]; try rfl) rfl ?_
       rw [HS9.out]
       exact kids_outn 4 false (ks ++ [(x, [.int .i64 (x.kind : Int), .string nm, .bool x.neg, .slice aa na ca, .slice aw nw cw, .slice ar nr cr, .slice ak nk ck])]) (by simp) (by simpa using hr3) (all_snoc (fun y hy => (HKS.out y hy).r) HN.out.l) Hvj2.out (by simp) (LC := LN ++ LC) (hL.sub (List.Sublist.cons _ (List.Sublist.cons _ (List.Sublist.refl _))))
     ·have HNE2 := Lib.hid (op_ne HK1.out)
      have HF3 := Lib.hid (listL_back HF2.out HK1.out)
      go_upto_region 7 with ((go_at_call 52; refine zC (fun W hL => op_c E b j2 vj2 (d : Int) _ (kn_bw HB0.out hL HXB.out) hbb Hvj2 (by (exact hL.has _ (List.mem_cons_of_mem _ List.mem_cons_self))) ⟨#[38]⟩ _ HK1) ?_; clear hF hL; intro W hL hF; obtain ⟨W2, rfl⟩ : ∃ W2 : World, W2 = W := ⟨_, rfl⟩))
      go_wp2_with (first | ((with_reducible refine zS ?_); clear hF hL; intro W hL hF) | (go_at_call 52; refine zC (fun W hL => op_c E b j2 vj2 (d : Int) _ (kn_bw HB0.out hL HXB.out) hbb Hvj2 (by (exact hL.has _ (List.mem_cons_of_mem _ (List.mem_cons_of_mem _ (List.mem_cons_of_mem _ List.mem_cons_self))))) ⟨#[38]⟩ _ HK1) ?_; clear hF hL; intro W hL hF) | (go_at_call 27; refine zC (fun W hL => next_i E b j2 vj2 (d : Int) _ (kn_bw HB0.out hL HXB.out) hbb Hvj2 (by (exact hL.has _ List.mem_cons_self)) HX8.out pa8 pn8 pc8 HX28.out ) ?_; clear hL; intro W hL hF) | (at_builtin; refine kn_list ?_; clear hF hL; intro W hL; simp only [kfb] at hL; have hF := hL.fx; go_loud (refine wpList_append_end rfl _ _ 39 39 rfl (_ :: _ :: _ :: _ :: _ :: _ :: (LN ++ LC)) LK hL ks.length 1 (ks.flatMap (·.2)) [.int .i64 5, .string ⟨#[]⟩, .bool false, .slice none 0 0, .slice none 0 0, .slice none 0 0, .slice (some ⟨W2.heap.size, 0, none⟩) 1 1] _ _ HRK.out rfl rfl (fun ho => run_append_Nd rfl (fun j u hu => by rw [Go.WideShapes.add_plain, Nat.zero_add, kn_cell hL List.mem_cons_self]; simpa using hu) (by intro u hu; simp only [List.mem_cons, List.not_mem_nil, or_false] at hu; rcases hu with rfl | rfl | rfl | rfl | rfl | rfl | rfl <;> rfl) (by omega) ho) ?_); intro LP3 a3 c3 W3 hL2 hr3; clear hL hF; have hL := hL2; clear hL2; simp only [List.append_eq, List.cons_append, List.nil_append] at hL; have hF := hL.fx) | (go_at_call 53; refine zG ?_; clear hF hL; intro W hL hF; (with_reducible refine (pass_c E b j2 vj2 (d : Int) _ (kn_bw HB0.out hL HXB.out) hbb Hvj2 (by (exact hL.has _ (List.mem_cons_of_mem _ (List.mem_cons_of_mem _ (List.mem_cons_of_mem _ List.mem_cons_self))))) HNE2.out).mono ?_); rintro e W ⟨x1, pa1, pn1, pc1, vj3, rfl, HTX2, HVJ3, hb⟩; ((replace hL := hL.join1 3 rfl hb)); clear hb hF; simp only [List.eraseIdx_cons_zero, List.eraseIdx_cons_succ, List.cons_append, List.nil_append] at hL; have hF := hL.fx) | (go_at_call 49; refine zG ?_; clear hF hL; intro W hL hF; (with_reducible refine (lines_c E b (j2 + 1) vj3 d _ (kn_bw HB0.out hL HXB.out) hbb HVJ3 (by (exact hL.has _ List.mem_cons_self))).mono ?_); rintro e W ⟨j4, vj4, rfl, HJ4, hb⟩; ((replace hL := hL.join1 0 rfl hb)); clear hb hF; simp only [List.eraseIdx_cons_zero, List.eraseIdx_cons_succ, List.cons_append, List.nil_append] at hL; have hF := hL.fx))
      go_roundg (tvs.length - j4)
      case measure => have := HJ4.out.1; have := HJ4.out.2.1.1; omega
      case rel => exact ⟨j4, vj4, ks ++ [(.mk 5 [] false [] [] [] [x], [.int .i64 5, .string ⟨#[]⟩, .bool false, .slice none 0 0, .slice none 0 0, .slice none 0 0, .slice (some ⟨W2.heap.size, 0, none⟩) 1 1])], a3, c3, (W2.heap.size, Obj.cells #[.int .i64 (x.kind : Int), .string nm, .bool x.neg, .slice aa na ca, .slice aw nw cw, .slice ar nr cr, .slice ak nk ck] 41 (0, 0)) :: (LN ++ LC), LP3, rfl, Lib.hid HJ4.out.2.1, Lib.hid (by obtain ⟨f, ts, h1, rfl, h3⟩ := HF3.out; exact ⟨f, _, by have h7 := HJ4.out.1; have h8 := HJ4.out.2.1.1; rw [List.length_drop, TT_len] at h1 ⊢; omega, HJ4.out.2.2, by simpa using h3⟩), Lib.hid (by simpa using hr3), Lib.hid (all_snoc (fun y hy => (HKS.out y hy).mono fun p hp => List.mem_cons_of_mem _ (List.mem_append_right _ hp)) (NodeL.one (name := []) (HN.out.mono fun p hp => List.mem_cons_of_mem _ (List.mem_append_left _ hp)) List.mem_cons_self (by omega))), by have := HJ4.out.1; simp only [List.length_append, List.length_singleton]; omega, by have := HJ4.out.2.1.1; omega, by refine Kn.name ?_; clear hL; intro hL; simp only [List.length_append, List.length_singleton]; exact (hL.perml fun p => by simp only [List.countP_cons, List.countP_nil, List.countP_append, List.append_nil, List.nil_append, List.length_nil]; omega)⟩)
  ·have HS9 := Lib.hid (listL_end HF.out HE1.out)
   go_wp2_with (first | ((with_reducible refine zS ?_); clear hL; intro W hL hF) | (go_at_call 50; refine zC (fun W hL => HEN.out _ (kn_bw HB0.out hL HXB.out) (by (exact hL.has _ List.mem_cons_self))) ?_; clear hF hL; intro W hL hF))
   refine kn_body ?_; clear hF hL; intro W hL; simp only [kfb] at hL; have hF := hL.fx
   refine bodyPost_ret (by simp [results, Tryz.results26, go_sem, *]; try rfl) rfl ?_
   rw [HS9.out]
   exact kids_out 4 false ks HRK.out HKS.out Hvj.out hL
end Go.Proofs.YtgboffbbpmileaaGreatDoor
set_option maxRecDepth 20000
set_option maxHeartbeats 4000000
set_option linter.unusedVariables false
set_option linter.unusedSimpArgs false
namespace Go.Proofs.YtgboffbbpmileaaGreatDoor
open Go Go.RowKit
/-- The parts of a body's node. -/
def BodyIs (W0 : World) (LC LK : List (Nat × Obj)) (a : Nd) (kz : Int) (nm : ByteArray) (vw : Value) (ak : Option Addr) (nk ck : Nat) : Prop :=
 ∃ (kind : Nat) (ws : List (List Prt × Value)) (ks : List (Nd × List Value)), a = .mk kind nm.data.toList false [] (ws.map (·.1)) [] (ks.map (·.1)) ∧ kz = (kind : Int) ∧ RowM 1 W0 LC vw (ws.map fun x => [x.2]) ∧ (∀ x ∈ ws, PRm W0 LC x.2 x.1) ∧ nk = ks.length ∧ RowL 7 41 LK (.slice ak nk ck) nk (ks.flatMap (·.2)) ∧ ∀ x ∈ ks, NodeL W0 LC x.1 x.2
def BOut (W0 : World) (b d : Nat) (g o cap : Nat) (tvs : List (Tok × Value)) (w : World) (p : PR Nd) (e : Ending) (w' : World) : Prop := match p with
 | .ok a r => ∃ (kz : Int) (nm : ByteArray) (aw : Option Addr) (nw cw : Nat) (ak : Option Addr) (nk ck : Nat) (LC LK : List (Nat × Obj)) (j : Nat) (vj : Value), e = .returned (.agg #[.int .i64 kz, .string nm, .bool false, .slice none 0 0, .slice aw nw cw, .slice none 0 0, .slice ak nk ck]) ∧ Hid (BodyIs W0 LC LK a kz nm (.slice aw nw cw) ak nk ck) ∧ Hid (AtV g o cap tvs j vj ∧ r = (TT tvs).drop j) ∧ Kn [b] w w' ((b, .cells #[vj, .int .i64 (d : Int)] 73 (0, 0)) :: (LC ++ LK))
 | .bad er m => ∃ vj dj, e = .panicked [{ v := .iface 70 (.agg #[.int .i64 (ecode er), .int .i64 (lineAt tvs m)]), recovered := false }] ∧ Kn [b] w w' [(b, .cells #[vj, .int .i64 dj] 73 (0, 0))]
def BodyC (W0 : World) (g o cap : Nat) (tvs : List (Tok × Value)) (f : FuncId) (d : Nat) (p : Pa Nd) : Prop :=
 ∀ (b i : Nat) (v : Value) (w : World), Below W0.heap.size W0 w → W0.heap.size ≤ b → Hid (AtV g o cap tvs i v) → w.heap[b]? = some (.cells #[v, .int .i64 (d : Nat)] 73 (0, 0)) →
  Calls Tryz.prog f #[.pointer (some ⟨b, 0, none⟩)] w (BOut W0 b d g o cap tvs w (p ((TT tvs).drop i)))
theorem BodyIs.node {W0 : World} {LC LK : List (Nat × Obj)} {a : Nd} {kz : Int} {nm : ByteArray} {vw : Value} {ak : Option Addr} {nk ck : Nat} (h : BodyIs W0 LC LK a kz nm vw ak nk ck) : NodeL W0 (LC ++ LK) a [.int .i64 kz, .string nm, .bool false, .slice none 0 0, vw, .slice none 0 0, .slice ak nk ck] := by
 obtain ⟨kind, ws, ks, rfl, rfl, h1, h2, rfl, h3, h4⟩ := h
 have := NodeL.of (W0 := W0) (L := LC ++ LK) (kind := kind) (name := nm.data.toList) (neg := false) (h1.mono fun p hp => List.mem_append_left _ hp) (fun x hx => (h2 x hx).mono fun p hp => List.mem_append_left _ hp) (kids_flat h4 h3 fun p hp => List.mem_append_right _ hp) (fun x hx => (h4 x hx).l)
 rwa [bs_list] at this
theorem krow_one {t : TypeId} {g c : Nat} {cs : List Value} (hl : cs.length = 7) (hc : c = 1) : RowL 7 t [(g, .cells cs.toArray t (0, 0))] (.slice (some ⟨g, 0, none⟩) 1 c) 1 cs :=
 .inr ⟨g, c, _, rfl, rfl, by subst hc; simp [hl], by omega, by subst hc; decide, by simpa using List.take_of_length_le (by omega), by omega⟩
theorem krow_two {t : TypeId} {g c : Nat} {cs ds : List Value} (hl : cs.length = 7) (hl2 : ds.length = 7) (hc : c = 2) : RowL 7 t [(g, .cells (cs ++ ds).toArray t (0, 0))] (.slice (some ⟨g, 0, none⟩) 2 c) 2 (cs ++ ds) :=
 .inr ⟨g, c, _, rfl, rfl, by subst hc; simp [hl, hl2], by omega, by subst hc; decide, by simpa using List.take_of_length_le (by simp; omega), by simp; omega⟩
theorem Kn.in0 {X : List Nat} {w0 W : World} {p0 p1 : Nat × Obj} {LP : List (Nat × Obj)} (h : Kn X w0 W (p0 :: (LP ++ [p1]))) : Kn X w0 W (p0 :: p1 :: LP) := h.perm fun p => by simp only [List.countP_cons, List.countP_append, List.countP_nil]; omega
theorem Kn.swap01 {X : List Nat} {w0 W : World} {p0 p1 : Nat × Obj} {R : List (Nat × Obj)} (h : Kn X w0 W (p0 :: p1 :: R)) : Kn X w0 W (p1 :: p0 :: R) := h.perm fun p => by simp only [List.countP_cons]; omega
theorem NodeL.nk {W0 : World} {L : List (Nat × Obj)} {n : Nd} {v0 v1 v2 va vw vr : Value} {ak : Option Addr} {nk ck : Nat} (h : NodeL W0 L n [v0, v1, v2, va, vw, vr, .slice ak nk ck]) : ((nk : Int) == 0) = n.kids.isEmpty := by
 cases h with
 | mk kind name neg al ws rs ks va vw vr vk h1 h2 h3 h4 h5 h6 h7 h8 =>
  obtain ⟨ao, c, e, _⟩ := h7
  injection e with e1 e2 e3
  rw [e2, List.length_map]
  show _ = (ks.map (·.1)).isEmpty
  cases ks with
  | nil => rfl
  | cons x r => exact beq_false_of_ne (by simp; omega)
theorem some_c {W0 : World} {g o cap : Nat} {tvs : List (Tok × Value)} (E : PEnv W0 g o cap tvs) {d : Nat} {li : Pa Nd} (HC : NodeC W0 g o cap tvs 26 d li) : NodeC W0 g o cap tvs 162 d (fun ts => (li ts).bind fun n r => if n.kids.isEmpty then syn r else .ok n r) := by
 intro b i v w hB hbb hv hb
 have HCJ := Lib.hid (fun W hB hb => HC b i v W hB hbb hv hb)
 obtain ⟨PL, hpl⟩ : ∃ p : PR Nd, ((li ((TT tvs).drop i)).bind fun n r => if n.kids.isEmpty then syn r else .ok n r) = p := ⟨_, rfl⟩
 show Calls _ _ _ _ (NOut W0 b d g o cap tvs w ((li ((TT tvs).drop i)).bind fun n r => if n.kids.isEmpty then syn r else .ok n r))
 rw [hpl]
 clear HC
 have HB0 := Lib.hid hB
 have HXB := Lib.hid (show ∀ y ∈ [b], W0.heap.size ≤ y from by simpa using hbb)
 have hL : Kn [b] w w [(b, .cells #[v, .int .i64 (d : Int)] 73 (0, 0))] := Kn.one hb
 have HBS := Lib.hid hb
 clear hB hb
 have hF := hL.fx
 cases hc : li ((TT tvs).drop i) with
 | bad er m2 =>
  rw [hc] at HCJ
  have HB9 := Lib.hid (pr_bad hpl.symm hc)
  clear hc hpl
  go_enter Tryz.func162, Tryz.ntmps162
  go_wp2_with (first | ((with_reducible refine zS ?_); clear hL; intro W hL hF) | (go_at_call 26; refine zG ?_; clear hF hL; intro W hL hF; (with_reducible refine (HCJ.out _ (kn_bw HB0.out hL HXB.out) (by (exact hL.has _ (List.mem_cons_of_mem _ List.mem_cons_self)))).mono ?_); rintro e W ⟨vj2, dj, rfl, hb⟩; ((replace hL := hL.join1 1 rfl hb)); clear hb hF; simp only [List.eraseIdx_cons_zero, List.eraseIdx_cons_succ, List.cons_append, List.nil_append] at hL; have hF := hL.fx))
  refine ⟨rfl, ?_⟩; rw [HB9.out]; exact ⟨vj2, dj, rfl, (hL.perml fun p => by simp only [List.countP_cons, List.countP_nil, List.countP_append, List.append_nil, List.nil_append, List.length_nil]; omega)⟩
 | ok x r =>
  rw [hc] at HCJ
  have HB9 := Lib.hid (pr_ok hpl.symm hc)
  clear hc hpl
  obtain ⟨e1, he1⟩ : ∃ z : Bool, x.kids.isEmpty = z := ⟨_, rfl⟩
  rw [he1] at HB9
  have HE1 := Lib.hid he1
  clear he1
  go_enter Tryz.func162, Tryz.ntmps162
  go_upto_region 2 with ((go_at_call 26; refine zG ?_; clear hF hL; intro W hL hF; (with_reducible refine (HCJ.out _ (kn_bw HB0.out hL HXB.out) (by (exact hL.has _ (List.mem_cons_of_mem _ List.mem_cons_self)))).mono ?_); rintro e W ⟨nm, aa, na, ca, aw, nw, cw, ar, nr, cr, ak, nk, ck, LN, j2, vj2, rfl, HN, HJ2, hb⟩; ((replace hL := hL.join1 1 rfl hb)); clear hb hF; simp only [List.eraseIdx_cons_zero, List.eraseIdx_cons_succ, List.cons_append, List.nil_append] at hL; have hF := hL.fx; replace hL := hL.in0; clear hF; have hF := hL.fx; obtain ⟨W1, rfl⟩ : ∃ W1 : World, W1 = W := ⟨_, rfl⟩))
  have hnk := HN.out.nk
  rw [HE1.out] at hnk
  have Hvj2 := Lib.hid HJ2.out.1
  obtain ⟨m, hm⟩ : ∃ m, m = ((TT tvs).drop j2).length := ⟨_, rfl⟩
  have Hm := Lib.hid hm
  clear hm
  cases e1
  ·go_upto_region 4 with fail
   refine kn_wp ?_; clear hF hL; intro W hL; have hF := hL.fx
   go_wp2_with ((with_reducible refine zS ?_); clear hL; intro W hL hF)
   refine kn_body ?_; clear hF hL; intro W hL; simp only [kfb] at hL; have hF := hL.fx
   refine bodyPost_ret (by simp [results, Tryz.results162, go_sem, *]; try rfl) rfl ?_
   rw [show PL = .ok x ((TT tvs).drop j2) from by rw [HB9.out, HJ2.out.2]; rfl]
   exact node_out HN.out Hvj2.out hL.swap01
  ·go_wp2_with (first | ((with_reducible refine zS ?_); clear hL; intro W hL hF) | (go_at_call 28; refine zG ?_; clear hF hL; intro W hL hF; (with_reducible refine (fail_c E b j2 vj2 d _ (kn_bw HB0.out hL HXB.out) hbb Hvj2 (by (exact hL.has _ (List.mem_cons_of_mem _ List.mem_cons_self))) 27 d 1 (Lib.hid rfl) m Hm).mono ?_); rintro e W ⟨vj, dj, rfl, hb⟩; ((replace hL := hL.join1 1 rfl hb)); clear hb hF; simp only [List.eraseIdx_cons_zero, List.eraseIdx_cons_succ, List.cons_append, List.nil_append] at hL; have hF := hL.fx))
   refine ⟨rfl, ?_⟩; rw [show PL = .bad 1 m from by rw [HB9.out, HJ2.out.2, Hm.out]; rfl]; exact ⟨vj, dj, rfl, (hL.perml fun p => by simp only [List.countP_cons, List.countP_nil, List.countP_append, List.append_nil, List.nil_append, List.length_nil]; omega)⟩
end Go.Proofs.YtgboffbbpmileaaGreatDoor
set_option maxRecDepth 20000
set_option maxHeartbeats 4000000
set_option linter.unusedVariables false
set_option linter.unusedSimpArgs false
namespace Go.Proofs.YtgboffbbpmileaaGreatDoor
open Go Go.RowKit
theorem btw_o0 {X : List Nat} {w0 W : World} {gq g7 : Nat} {a0 a1 a2 a3 a4 a5 a6 a7 a8 a9 a10 a11 a12 a13 c0 c1 c2 c3 c4 c5 c6 : Value} {t1 t2 : TypeId} {f1 f2 : Nat × Nat} {pb p1 p2 : Nat × Obj} {LA LB : List (Nat × Obj)} (h : Kn X w0 W ((g7, Obj.cells #[c0, c1, c2, c3, c4, c5, c6] t2 f2) :: (gq, Obj.cells #[a0, a1, a2, a3, a4, a5, a6, a7, a8, a9, a10, a11, a12, a13] t1 f1) :: pb :: p1 :: p2 :: (LA ++ LB))) : Kn X w0 W (pb :: ((LA ++ LB) ++ [(gq, Obj.cells #[a0, a1, a2, a3, a4, a5, a6, a7, a8, a9, a10, a11, a12, a13] t1 f1)])) := h.perml fun p => by simp only [List.countP_cons, List.countP_nil, List.countP_append]; omega
theorem btw_o1 {X : List Nat} {w0 W : World} {gq g7 : Nat} {a0 a1 a2 a3 a4 a5 a6 a7 a8 a9 a10 a11 a12 a13 c0 c1 c2 c3 c4 c5 c6 : Value} {t1 t2 : TypeId} {f1 f2 : Nat × Nat} {pb p1 p2 : Nat × Obj} {LA LB : List (Nat × Obj)} (h : Kn X w0 W ((gq, Obj.cells #[a0, a1, a2, a3, a4, a5, a6, a7, a8, a9, a10, a11, a12, a13] t1 f1) :: (g7, Obj.cells #[c0, c1, c2, c3, c4, c5, c6] t2 f2) :: pb :: p1 :: p2 :: (LA ++ LB))) : Kn X w0 W (pb :: ((LA ++ LB) ++ [(gq, Obj.cells #[a0, a1, a2, a3, a4, a5, a6, a7, a8, a9, a10, a11, a12, a13] t1 f1)])) := h.perml fun p => by simp only [List.countP_cons, List.countP_nil, List.countP_append]; omega
theorem btw_o2 {X : List Nat} {w0 W : World} {gq g7 : Nat} {a0 a1 a2 a3 a4 a5 a6 a7 a8 a9 a10 a11 a12 a13 c0 c1 c2 c3 c4 c5 c6 : Value} {t1 t2 : TypeId} {f1 f2 : Nat × Nat} {pb p1 p2 : Nat × Obj} {LA LB : List (Nat × Obj)} (h : Kn X w0 W ((gq, Obj.cells #[a0, a1, a2, a3, a4, a5, a6, a7, a8, a9, a10, a11, a12, a13] t1 f1) :: pb :: (g7, Obj.cells #[c0, c1, c2, c3, c4, c5, c6] t2 f2) :: p1 :: p2 :: (LA ++ LB))) : Kn X w0 W (pb :: ((LA ++ LB) ++ [(gq, Obj.cells #[a0, a1, a2, a3, a4, a5, a6, a7, a8, a9, a10, a11, a12, a13] t1 f1)])) := h.perml fun p => by simp only [List.countP_cons, List.countP_nil, List.countP_append]; omega
theorem btw_o3 {X : List Nat} {w0 W : World} {gq g7 : Nat} {a0 a1 a2 a3 a4 a5 a6 a7 a8 a9 a10 a11 a12 a13 c0 c1 c2 c3 c4 c5 c6 : Value} {t1 t2 : TypeId} {f1 f2 : Nat × Nat} {pb p1 p2 : Nat × Obj} {LA LB : List (Nat × Obj)} (h : Kn X w0 W (pb :: (g7, Obj.cells #[c0, c1, c2, c3, c4, c5, c6] t2 f2) :: (gq, Obj.cells #[a0, a1, a2, a3, a4, a5, a6, a7, a8, a9, a10, a11, a12, a13] t1 f1) :: p1 :: p2 :: (LA ++ LB))) : Kn X w0 W (pb :: ((LA ++ LB) ++ [(gq, Obj.cells #[a0, a1, a2, a3, a4, a5, a6, a7, a8, a9, a10, a11, a12, a13] t1 f1)])) := h.perml fun p => by simp only [List.countP_cons, List.countP_nil, List.countP_append]; omega
theorem btw_o4 {X : List Nat} {w0 W : World} {gq g7 : Nat} {a0 a1 a2 a3 a4 a5 a6 a7 a8 a9 a10 a11 a12 a13 c0 c1 c2 c3 c4 c5 c6 : Value} {t1 t2 : TypeId} {f1 f2 : Nat × Nat} {pb p1 p2 : Nat × Obj} {LA LB : List (Nat × Obj)} (h : Kn X w0 W (pb :: (gq, Obj.cells #[a0, a1, a2, a3, a4, a5, a6, a7, a8, a9, a10, a11, a12, a13] t1 f1) :: (g7, Obj.cells #[c0, c1, c2, c3, c4, c5, c6] t2 f2) :: p1 :: p2 :: (LA ++ LB))) : Kn X w0 W (pb :: ((LA ++ LB) ++ [(gq, Obj.cells #[a0, a1, a2, a3, a4, a5, a6, a7, a8, a9, a10, a11, a12, a13] t1 f1)])) := h.perml fun p => by simp only [List.countP_cons, List.countP_nil, List.countP_append]; omega
theorem Kn.inP {X : List Nat} {w0 W : World} {p0 p1 p2 : Nat × Obj} {LP R : List (Nat × Obj)} (h : Kn X w0 W (p0 :: (LP ++ (p1 :: p2 :: R)))) : Kn X w0 W (p0 :: p1 :: p2 :: (LP ++ R)) := h.perm fun p => by simp only [List.countP_cons, List.countP_append]; omega
theorem Kn.inQ {X : List Nat} {w0 W : World} {p0 p1 p2 p3 : Nat × Obj} {LP R : List (Nat × Obj)} (h : Kn X w0 W (p0 :: (LP ++ (p1 :: p2 :: p3 :: R)))) : Kn X w0 W (p0 :: p1 :: p2 :: p3 :: (LP ++ R)) := h.perm fun p => by simp only [List.countP_cons, List.countP_append]; omega
theorem btw_out {W0 : World} {b d j g o cap gq : Nat} {tvs : List (Tok × Value)} {w W : World} {vj : Value} {kind : Nat} {x y : Nd} {nm : ByteArray} {aa : Option Addr} {na : Nat} {ca : Nat} {aw : Option Addr} {nw : Nat} {cw : Nat} {ar : Option Addr} {nr : Nat} {cr : Nat} {ak : Option Addr} {nk : Nat} {ck : Nat} {nm2 : ByteArray} {aa2 : Option Addr} {na2 : Nat} {ca2 : Nat} {aw2 : Option Addr} {nw2 : Nat} {cw2 : Nat} {ar2 : Option Addr} {nr2 : Nat} {cr2 : Nat} {ak2 : Option Addr} {nk2 : Nat} {ck2 : Nat} {LN LN2 : List (Nat × Obj)} (HN : NodeL W0 LN x [.int .i64 (x.kind : Int), .string nm, .bool x.neg, .slice aa na ca, .slice aw nw cw, .slice ar nr cr, .slice ak nk ck]) (HN2 : NodeL W0 LN2 y [.int .i64 (y.kind : Int), .string nm2, .bool y.neg, .slice aa2 na2 ca2, .slice aw2 nw2 cw2, .slice ar2 nr2 cr2, .slice ak2 nk2 ck2]) (Hvj : AtV g o cap tvs j vj)
  (hL : Kn [b] w W ((b, .cells #[vj, .int .i64 (d : Int)] 73 (0, 0)) :: ((LN2 ++ LN) ++ [(gq, .cells #[.int .i64 (x.kind : Int), .string nm, .bool x.neg, .slice aa na ca, .slice aw nw cw, .slice ar nr cr, .slice ak nk ck, .int .i64 (y.kind : Int), .string nm2, .bool y.neg, .slice aa2 na2 ca2, .slice aw2 nw2 cw2, .slice ar2 nr2 cr2, .slice ak2 nk2 ck2] 41 (0, 0))]))) :
  BOut W0 b d g o cap tvs w (.ok (.mk kind [] false [] [] [] [x, y]) ((TT tvs).drop j)) (.returned (.agg #[.int .i64 (kind : Int), .string ⟨#[]⟩, .bool false, .slice none 0 0, .slice none 0 0, .slice none 0 0, .slice (some ⟨gq, 0, none⟩) 2 2])) W :=
 ⟨(kind : Int), ⟨#[]⟩, none, 0, 0, some ⟨gq, 0, none⟩, 2, 2, LN2 ++ LN, _, j, vj, rfl, Lib.hid ⟨kind, [], [(x, [.int .i64 (x.kind : Int), .string nm, .bool x.neg, .slice aa na ca, .slice aw nw cw, .slice ar nr cr, .slice ak nk ck]), (y, [.int .i64 (y.kind : Int), .string nm2, .bool y.neg, .slice aa2 na2 ca2, .slice aw2 nw2 cw2, .slice ar2 nr2 cr2, .slice ak2 nk2 ck2])], rfl, rfl, RowM.nil, (fun x hx => by cases hx), rfl, krow_two rfl rfl rfl, fun z hz => by
  rcases List.mem_cons.1 hz with rfl | hz
  ·exact HN.r
  ·rw [List.mem_singleton.1 hz]; exact HN2.l⟩, Lib.hid ⟨Hvj, rfl⟩, hL⟩
def optS (s : ByteArray) : Option Bytes := if s.data.toList = [] then none else some s.data.toList
theorem between_c {W0 : World} {g o cap : Nat} {tvs : List (Tok × Value)} (E : PEnv W0 g o cap tvs) {d : Nat} {so : Pa Nd} (HC : NodeC W0 g o cap tvs 162 d so) (b i : Nat) (v : Value) (w : World) (hB : Below W0.heap.size W0 w) (hbb : W0.heap.size ≤ b) (hv : Hid (AtV g o cap tvs i v)) (hb : w.heap[b]? = some (.cells #[v, .int .i64 (d : Nat)] 73 (0, 0))) (kind : Nat) (s1 s2 : ByteArray) :
  Calls Tryz.prog 163 #[.pointer (some ⟨b, 0, none⟩), .int .i64 (kind : Int), .string s1, .string s2] w (BOut W0 b d g o cap tvs w (between so kind s1.data.toList (optS s2) ((TT tvs).drop i))) := by
 obtain ⟨PL, hpl⟩ : ∃ p : PR Nd, between so kind s1.data.toList (optS s2) ((TT tvs).drop i) = p := ⟨_, rfl⟩
 rw [hpl]
 unfold between at hpl
 have HCJ := Lib.hid (fun W hB hb => HC b i v W hB hbb hv hb)
 have HCC := Lib.hid HC
 obtain ⟨e2, he2⟩ : ∃ z : Bool, (s2.toList == []) = z := ⟨_, rfl⟩
 have HE2 : Hid (optS s2 = if e2 then none else some s2.data.toList) := Lib.hid (by unfold optS; rw [← he2, Lib.toList_data]; cases s2.data.toList <;> rfl)
 clear HC
 have HB0 := Lib.hid hB
 have HXB := Lib.hid (show ∀ y ∈ [b], W0.heap.size ≤ y from by simpa using hbb)
 have hL : Kn [b] w w [(b, .cells #[v, .int .i64 (d : Int)] 73 (0, 0))] := Kn.one hb
 have HBS := Lib.hid hb
 clear hB hb
 have hF := hL.fx
 cases hc : so ((TT tvs).drop i) with
 | bad er m2 =>
  rw [hc] at HCJ
  have HB9 := Lib.hid (pr_bad hpl.symm hc)
  clear hc hpl
  go_enter Tryz.func163, Tryz.ntmps163
  go_wp2_with (first | ((with_reducible refine zS ?_); clear hL; intro W hL hF) | (go_at_call 162; refine zG ?_; clear hF hL; intro W hL hF; (with_reducible refine (HCJ.out _ (kn_bw HB0.out hL HXB.out) (by (exact hL.has _ (List.mem_cons_of_mem _ List.mem_cons_self)))).mono ?_); rintro e W ⟨vj2, dj, rfl, hb⟩; ((replace hL := hL.join1 1 rfl hb)); clear hb hF; simp only [List.eraseIdx_cons_zero, List.eraseIdx_cons_succ, List.cons_append, List.nil_append] at hL; have hF := hL.fx))
  refine ⟨rfl, ?_⟩; rw [HB9.out]; exact ⟨vj2, dj, rfl, (hL.perml fun p => by simp only [List.countP_cons, List.countP_nil, List.countP_append, List.append_nil, List.nil_append, List.length_nil]; omega)⟩
 | ok x r =>
  rw [hc] at HCJ
  have HB9 := Lib.hid (pr_ok hpl.symm hc)
  clear hc hpl
  go_enter Tryz.func163, Tryz.ntmps163
  go_upto_region 2 with ((go_at_call 162; refine zG ?_; clear hF hL; intro W hL hF; (with_reducible refine (HCJ.out _ (kn_bw HB0.out hL HXB.out) (by (exact hL.has _ (List.mem_cons_of_mem _ List.mem_cons_self)))).mono ?_); rintro e W ⟨nm, aa, na, ca, aw, nw, cw, ar, nr, cr, ak, nk, ck, LN, j2, vj2, rfl, HN, HJ2, hb⟩; ((replace hL := hL.join1 1 rfl hb)); clear hb hF; simp only [List.eraseIdx_cons_zero, List.eraseIdx_cons_succ, List.cons_append, List.nil_append] at hL; have hF := hL.fx; replace hL := hL.in0; clear hF; have hF := hL.fx; obtain ⟨W1, rfl⟩ : ∃ W1 : World, W1 = W := ⟨_, rfl⟩))
  refine kn_wp ?_; clear hF hL; intro W hL; have hF := hL.fx
  have Hvj2 := Lib.hid HJ2.out.1
  have HB8 := HB9.out
  rw [HJ2.out.2] at HB8
  have HW1 := Lib.hid (fun W hB hb => want_c E b j2 vj2 d W hB hbb Hvj2 hb s1)
  cases hw : want s1.data.toList ((TT tvs).drop j2) with
  | bad er m2 =>
   rw [hw] at HW1
   replace HB8 := Lib.hid (pr_bad HB8 hw)
   clear hw
   go_wp2_with (first | ((with_reducible refine zS ?_); clear hL; intro W hL hF) | (go_at_call 144; refine zG ?_; clear hF hL; intro W hL hF; (with_reducible refine (HW1.out _ (kn_bw HB0.out hL HXB.out) (by (exact hL.has _ (List.mem_cons_of_mem _ List.mem_cons_self)))).mono ?_); rintro e W ⟨vj2, dj, rfl, hb⟩; ((replace hL := hL.join1 1 rfl hb)); clear hb hF; simp only [List.eraseIdx_cons_zero, List.eraseIdx_cons_succ, List.cons_append, List.nil_append] at hL; have hF := hL.fx))
   refine ⟨rfl, ?_⟩; rw [HB8.out]; exact ⟨vj2, dj, rfl, (hL.perml fun p => by simp only [List.countP_cons, List.countP_nil, List.countP_append, List.append_nil, List.nil_append, List.length_nil]; omega)⟩
  | ok u r3 =>
   rw [hw] at HW1
   replace HB8 := Lib.hid (pr_ok HB8 hw)
   clear hw
   go_upto_region 3 with ((go_at_call 144; refine zG ?_; clear hF hL; intro W hL hF; (with_reducible refine (HW1.out _ (kn_bw HB0.out hL HXB.out) (by (exact hL.has _ (List.mem_cons_of_mem _ List.mem_cons_self)))).mono ?_); rintro e W ⟨_, j3, vj3, rfl, rfl, HJ3, hb⟩; ((replace hL := hL.join1 1 rfl hb)); clear hb hF; simp only [List.eraseIdx_cons_zero, List.eraseIdx_cons_succ, List.cons_append, List.nil_append] at hL; have hF := hL.fx))
   have Hvj3 := Lib.hid HJ3.out.1
   have HB7 := HB8.out
   rw [HJ3.out.2] at HB7
   have HCJ2 := Lib.hid (fun W hB hb => HCC.out b j3 vj3 W hB hbb Hvj3 hb)
   cases hc2 : so ((TT tvs).drop j3) with
   | bad er m2 =>
    rw [hc2] at HCJ2
    replace HB7 := Lib.hid (pr_bad HB7 hc2)
    clear hc2
    go_wp2_with (first | ((with_reducible refine zS ?_); clear hL; intro W hL hF) | ((with_reducible refine at_region 3 ?_); refine kn_wp ?_; clear hF hL; intro W hL; have hF := hL.fx; refine reg_of (by kernel_rfl) ?_; refine reg_split 6 3 (by decide) (by decide) (by decide) ?_ ?_; (focus (dsimp only [addE]; refine kn_regAnyP [0, 1, 2, 6, 3, 4, 5, 7] [0, 1, 2, 5] [4, 7] [0, 2, 5] (by kernel_rfl) (List.Sublist.cons _ (List.Sublist.cons_cons _ (List.nil_sublist _))) ?_; clear hF hL; intro Qp hQp; replace hQp := Lib.hid hQp; intro ι F hne hC hFF; have hG := fun n => (hFF n).fx; clear hFF; (repeat (first | (refine cS ?_) | (refine cF hC ?_; intro K hK; go_big_quiet_op; go_big_quiet_on) | (refine cP ?_; intro K hK; go_big_quiet_op; go_big_quiet_on) | (refine cwk_callP rfl (by rfl) (by rfl) (fun _ => rfl) ?_; intro W hL; have hF := hL.fx; simp only [zA, Act.eval]; go_at_call 162; (with_reducible refine (HCJ2.out _ (kn_bw HB0.out hL HXB.out) (by (exact hL.has _ (List.mem_cons_of_mem _ List.mem_cons_self)))).mono ?_); rintro e W ⟨vj2, dj, rfl, hb⟩; ((replace hL := hL.join1 1 rfl hb)); clear hb hF; simp only [List.eraseIdx_cons_zero, List.eraseIdx_cons_succ, List.cons_append, List.nil_append] at hL; have hF := hL.fx; refine ⟨_, rfl, hQp.out _ _ ?_⟩; clear hQp; intro a' ha; simp only [Exit.then, Exit.inBlock]; refine ⟨ha, ?_⟩; show BOut W0 b d g o cap tvs w (PL) _ _; rw [HB7.out]; exact ⟨vj2, dj, rfl, (hL.perml fun p => by simp only [List.countP_cons, List.countP_nil, List.countP_append, List.append_nil, List.nil_append, List.length_nil]; omega)⟩) | (refine cN ?_; intro W hL; have hF := hL.fx; go_wp2; refine anchQ_normal ?_; ((refine owed0 _ (by repeat' (first | (with_reducible exact List.nil_sublist _) | (with_reducible apply List.Sublist.cons_cons) | (with_reducible apply List.Sublist.cons))) ?_; clear hL hF))))); ((done)))); rotate_left; (focus (refine reg_split 6 4 (by decide) (by decide) (by decide) ?_ ?_; (focus (dsimp only [addE]; refine kn_regAnyP [0, 1, 2, 3, 6, 4, 5, 7] [0, 1, 2, 5] [4, 7] [0, 2, 5] (by kernel_rfl) (List.Sublist.cons _ (List.Sublist.cons_cons _ (List.nil_sublist _))) ?_; clear hF hL; intro Qp hQp; replace hQp := Lib.hid hQp; intro ι F hne hC hFF; have hG := fun n => (hFF n).fx; clear hFF; (repeat (first | (refine cS ?_) | (refine cF hC ?_; intro K hK; go_big_quiet_op; go_big_quiet_on) | (refine cP ?_; intro K hK; go_big_quiet_op; go_big_quiet_on) | (refine cwk_callP rfl (by rfl) (by rfl) (fun _ => rfl) ?_; intro W hL; have hF := hL.fx; simp only [zA, Act.eval]; go_at_call 162; (with_reducible refine (HCJ2.out _ (kn_bw HB0.out hL HXB.out) (by (exact hL.has _ List.mem_cons_self))).mono ?_); rintro e W ⟨vj2, dj, rfl, hb⟩; ((replace hL := hL.join1 0 rfl hb)); clear hb hF; simp only [List.eraseIdx_cons_zero, List.eraseIdx_cons_succ, List.cons_append, List.nil_append] at hL; have hF := hL.fx; refine ⟨_, rfl, hQp.out _ _ ?_⟩; clear hQp; intro a' ha; simp only [Exit.then, Exit.inBlock]; refine ⟨ha, ?_⟩; show BOut W0 b d g o cap tvs w (PL) _ _; rw [HB7.out]; exact ⟨vj2, dj, rfl, (hL.perml fun p => by simp only [List.countP_cons, List.countP_nil, List.countP_append, List.append_nil, List.nil_append, List.length_nil]; omega)⟩) | (refine cN ?_; intro W hL; have hF := hL.facts; go_wp2; refine zB2 ?_; clear hL hC hG; intro ι F hne hC hG))); ((done)))); rotate_left; (focus ((dsimp only [addE]; refine kn_regAnyP [0, 1, 2, 3, 4, 5, 6, 7] [0, 1, 2, 5] [4, 6, 7] [0, 2, 5] (by kernel_rfl) (List.Sublist.cons _ (List.Sublist.cons_cons _ (List.nil_sublist _))) ?_; clear hF hL; intro Qp hQp; replace hQp := Lib.hid hQp; intro ι F hne hC hFF; have hG := fun n => (hFF n).fx; clear hFF; (repeat (first | (refine cS ?_) | (refine cF hC ?_; intro K hK; go_big_quiet_op; go_big_quiet_on) | (refine cP ?_; intro K hK; go_big_quiet_op; go_big_quiet_on) | (refine cwk_callP rfl (by rfl) (by rfl) (fun _ => rfl) ?_; intro W hL; have hF := hL.fx; simp only [zA, Act.eval]; go_at_call 162; (with_reducible refine (HCJ2.out _ (kn_bw HB0.out hL HXB.out) (by (exact hL.has _ List.mem_cons_self))).mono ?_); rintro e W ⟨vj2, dj, rfl, hb⟩; ((replace hL := hL.join1 0 rfl hb)); clear hb hF; simp only [List.eraseIdx_cons_zero, List.eraseIdx_cons_succ, List.cons_append, List.nil_append] at hL; have hF := hL.fx; refine ⟨_, rfl, hQp.out _ _ ?_⟩; clear hQp; intro a' ha; simp only [Exit.then, Exit.inBlock]; refine ⟨ha, ?_⟩; show BOut W0 b d g o cap tvs w (PL) _ _; rw [HB7.out]; exact ⟨vj2, dj, rfl, (hL.perml fun p => by simp only [List.countP_cons, List.countP_nil, List.countP_append, List.append_nil, List.nil_append, List.length_nil]; omega)⟩) | (refine cN ?_; intro W hL; have hF := hL.facts; go_wp2; refine zB2 ?_; clear hL hC hG; intro ι F hne hC hG))); ((done)))))))))
   | ok y r4 =>
    rw [hc2] at HCJ2
    replace HB7 := Lib.hid (pr_ok HB7 hc2)
    clear hc2
    go_upto_region 4 with ((with_reducible refine at_region 3 ?_); refine kn_wp ?_; clear hF hL; intro W hL; have hF := hL.fx; refine reg_of (by kernel_rfl) ?_; refine reg_split 6 3 (by decide) (by decide) (by decide) ?_ ?_; (focus (dsimp only [addE]; refine kn_regAny0 [0, 1, 2, 6, 3, 4, 5, 7] [0, 1, 2, 5] [4, 7] [0, 2, 5] (by kernel_rfl) (List.Sublist.cons _ (List.Sublist.cons_cons _ (List.nil_sublist _))) ?_; clear hF hL; intro ι F hne hC hFF; have hG := fun n => (hFF n).fx; clear hFF; (repeat (first | (refine cS ?_) | (refine cF hC ?_; intro K hK; go_big_quiet_op; go_big_quiet_on) | (refine cP ?_; intro K hK; go_big_quiet_op; go_big_quiet_on) | (refine cC ?_; intro W hL; have hF := hL.fx; simp only [zA, Act.eval]; go_at_call 162; (with_reducible refine (HCJ2.out _ (kn_bw HB0.out hL HXB.out) (by (exact hL.has _ (List.mem_cons_of_mem _ List.mem_cons_self)))).mono ?_); rintro e W ⟨nm2, aa2, na2, ca2, aw2, nw2, cw2, ar2, nr2, cr2, ak2, nk2, ck2, LN2, j4, vj4, rfl, HN2, HJ4, hb⟩; ((replace hL := hL.join1 1 rfl hb)); clear hb hF; simp only [List.eraseIdx_cons_zero, List.eraseIdx_cons_succ, List.cons_append, List.nil_append] at hL; have hF := hL.fx; ((replace hL := hL.inQ)); clear hF; have hF := hL.fx; refine owed_ret ?_; ((refine owed0 _ (by repeat' (first | (with_reducible exact List.nil_sublist _) | (with_reducible apply List.Sublist.cons_cons) | (with_reducible apply List.Sublist.cons))) ?_; clear hL hF)); simp only [Act.put, zT]) | (refine cN ?_; intro W hL; have hF := hL.fx; go_wp2; refine anchQ_normal ?_; (first | (refine owedB _ (by rfl) ?_; clear hL hF hC hG; intro ι F hne hC hFF; have hG := fun n => (hFF n).fx; clear hFF) | (refine owed0 _ (by repeat' (first | (with_reducible exact List.nil_sublist _) | (with_reducible apply List.Sublist.cons_cons) | (with_reducible apply List.Sublist.cons))) ?_; clear hL hF))))); refine cwk_nil ?_; clear hC hG; intro W hL; simp only [kfb] at hL; have hF := hL.fx)); rotate_left; (focus (refine reg_split 6 4 (by decide) (by decide) (by decide) ?_ ?_; (focus (dsimp only [addE]; refine kn_regAny0 [0, 1, 2, 3, 6, 4, 5, 7] [0, 1, 2, 5] [4, 7] [0, 2, 5] (by kernel_rfl) (List.Sublist.cons _ (List.Sublist.cons_cons _ (List.nil_sublist _))) ?_; clear hF hL; intro ι F hne hC hFF; have hG := fun n => (hFF n).fx; clear hFF; (repeat (first | (refine cS ?_) | (refine cF hC ?_; intro K hK; go_big_quiet_op; go_big_quiet_on) | (refine cP ?_; intro K hK; go_big_quiet_op; go_big_quiet_on) | (refine cC ?_; intro W hL; have hF := hL.fx; simp only [zA, Act.eval]; go_at_call 162; (with_reducible refine (HCJ2.out _ (kn_bw HB0.out hL HXB.out) (by (exact hL.has _ List.mem_cons_self))).mono ?_); rintro e W ⟨nm2, aa2, na2, ca2, aw2, nw2, cw2, ar2, nr2, cr2, ak2, nk2, ck2, LN2, j4, vj4, rfl, HN2, HJ4, hb⟩; ((replace hL := hL.join1 0 rfl hb)); clear hb hF; simp only [List.eraseIdx_cons_zero, List.eraseIdx_cons_succ, List.cons_append, List.nil_append] at hL; have hF := hL.fx; ((replace hL := hL.inP)); clear hF; have hF := hL.fx; refine owed_ret ?_; ((refine owed0 _ (by repeat' (first | (with_reducible exact List.nil_sublist _) | (with_reducible apply List.Sublist.cons_cons) | (with_reducible apply List.Sublist.cons))) ?_; clear hL hF)); simp only [Act.put, zT]) | (refine cN ?_; intro W hL; have hF := hL.fx; go_wp2; refine anchQ_normal ?_; (first | (refine owedB _ (by rfl) ?_; clear hL hF hC hG; intro ι F hne hC hFF; have hG := fun n => (hFF n).fx; clear hFF) | (refine owed0 _ (by repeat' (first | (with_reducible exact List.nil_sublist _) | (with_reducible apply List.Sublist.cons_cons) | (with_reducible apply List.Sublist.cons))) ?_; clear hL hF))))); refine cwk_nil ?_; clear hC hG; intro W hL; simp only [kfb] at hL; have hF := hL.fx)); rotate_left; (focus ((dsimp only [addE]; refine kn_regAny0 [0, 1, 2, 3, 4, 5, 6, 7] [0, 1, 2, 5] [4, 6, 7] [0, 2, 5] (by kernel_rfl) (List.Sublist.cons _ (List.Sublist.cons_cons _ (List.nil_sublist _))) ?_; clear hF hL; intro ι F hne hC hFF; have hG := fun n => (hFF n).fx; clear hFF; (repeat (first | (refine cS ?_) | (refine cF hC ?_; intro K hK; go_big_quiet_op; go_big_quiet_on) | (refine cP ?_; intro K hK; go_big_quiet_op; go_big_quiet_on) | (refine cC ?_; intro W hL; have hF := hL.fx; simp only [zA, Act.eval]; go_at_call 162; (with_reducible refine (HCJ2.out _ (kn_bw HB0.out hL HXB.out) (by (exact hL.has _ List.mem_cons_self))).mono ?_); rintro e W ⟨nm2, aa2, na2, ca2, aw2, nw2, cw2, ar2, nr2, cr2, ak2, nk2, ck2, LN2, j4, vj4, rfl, HN2, HJ4, hb⟩; ((replace hL := hL.join1 0 rfl hb)); clear hb hF; simp only [List.eraseIdx_cons_zero, List.eraseIdx_cons_succ, List.cons_append, List.nil_append] at hL; have hF := hL.fx; ((replace hL := hL.inP)); clear hF; have hF := hL.fx; refine owed_ret ?_; ((refine owed0 _ (by repeat' (first | (with_reducible exact List.nil_sublist _) | (with_reducible apply List.Sublist.cons_cons) | (with_reducible apply List.Sublist.cons))) ?_; clear hL hF)); simp only [Act.put, zT]) | (refine cN ?_; intro W hL; have hF := hL.fx; go_wp2; refine zB2 ?_; clear hL hF hC hG; intro ι F hne hC hG))); refine cwk_nil ?_; clear hC hG; intro W hL; simp only [kfb] at hL; have hF := hL.fx))))))
    all_goals (
     have Hvj4 := Lib.hid HJ4.out.1
     have HB6 := HB7.out
     rw [HJ4.out.2, HE2.out] at HB6
     cases e2
     ·have HW2 := Lib.hid (fun W hB hb => want_c E b j4 vj4 d W hB hbb Hvj4 hb s2)
      cases hw : want s2.data.toList ((TT tvs).drop j4) with
      | bad er m2 =>
       rw [hw] at HW2
       replace HB6 := Lib.hid (show PL = .bad er m2 by rw [HB6]; simp only [Bool.false_eq_true, if_false, hw]; rfl)
       clear hw
       go_wp2_with (first | ((with_reducible refine zS ?_); clear hL; intro W hL hF) | (go_at_call 144; refine zG ?_; clear hF hL; intro W hL hF; (with_reducible refine (HW2.out _ (kn_bw HB0.out hL HXB.out) (by first | exact hL.has _ (List.mem_cons_of_mem _ List.mem_cons_self) | exact hL.has _ (List.mem_cons_of_mem _ (List.mem_cons_of_mem _ List.mem_cons_self)))).mono ?_); rintro e W ⟨vj2, dj, rfl, hb⟩; (first | (replace hL := hL.join1 1 rfl hb) | (replace hL := hL.join1 2 rfl hb)); clear hb hF; simp only [List.eraseIdx_cons_zero, List.eraseIdx_cons_succ, List.cons_append, List.nil_append] at hL; have hF := hL.fx))
       refine ⟨rfl, ?_⟩; rw [HB6.out]; exact ⟨vj2, dj, rfl, (hL.perml fun p => by simp only [List.countP_cons, List.countP_nil, List.countP_append, List.append_nil, List.nil_append, List.length_nil]; omega)⟩
      | ok u r5 =>
       rw [hw] at HW2
       replace HB6 := Lib.hid (show PL = .ok (.mk kind [] false [] [] [] [x, y]) r5 by rw [HB6]; simp only [Bool.false_eq_true, if_false, hw]; rfl)
       clear hw
       go_wp2_with (first | ((with_reducible refine zS ?_); clear hL; intro W hL hF) | (go_at_call 144; refine zG ?_; clear hF hL; intro W hL hF; (with_reducible refine (HW2.out _ (kn_bw HB0.out hL HXB.out) (by first | exact hL.has _ (List.mem_cons_of_mem _ List.mem_cons_self) | exact hL.has _ (List.mem_cons_of_mem _ (List.mem_cons_of_mem _ List.mem_cons_self)))).mono ?_); rintro e W ⟨_, j5, vj5, rfl, rfl, HJ5, hb⟩; (first | (replace hL := hL.join1 1 rfl hb) | (replace hL := hL.join1 2 rfl hb)); clear hb hF; simp only [List.eraseIdx_cons_zero, List.eraseIdx_cons_succ, List.cons_append, List.nil_append] at hL; have hF := hL.fx))
       refine kn_body ?_; clear hF hL; intro W hL; simp only [kfb] at hL; have hF := hL.fx
       refine bodyPost_ret (by simp [results, Tryz.results163, go_sem, *]; try rfl) rfl ?_
       rw [HB6.out, HJ5.out.2]
       exact btw_out HN.out HN2.out HJ5.out.1 (by first | exact btw_o3 hL | exact btw_o4 hL)
     ·replace HB6 := Lib.hid (show PL = .ok (.mk kind [] false [] [] [] [x, y]) ((TT tvs).drop j4) from HB6)
      refine kn_wp ?_; clear hF hL; intro W hL; have hF := hL.fx
      go_wp2_with ((with_reducible refine zS ?_); clear hL; intro W hL hF)
      refine kn_body ?_; clear hF hL; intro W hL; simp only [kfb] at hL; have hF := hL.fx
      refine bodyPost_ret (by simp [results, Tryz.results163, go_sem, *]; try rfl) rfl ?_
      rw [HB6.out]
      exact btw_out HN.out HN2.out Hvj4.out (by first | exact btw_o0 hL | exact btw_o1 hL | exact btw_o2 hL))
end Go.Proofs.YtgboffbbpmileaaGreatDoor
