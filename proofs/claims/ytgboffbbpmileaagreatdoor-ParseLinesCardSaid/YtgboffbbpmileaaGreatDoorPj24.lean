/- Lemmas and walks for the law of this seat (part 24). -/
import Derived.Test.YtgboffbbpmileaaGreatDoorPj23
import Derived.Test.YtgboffbbpmileaaGreatDoorProg
import Derived.WalkKit
import Derived.Handy
import Derived.Deep.Light
import Derived.WalkSmall
import Derived.StillTailTactics
import Derived.Lib.Hide
import Derived.Deep.LoopGhost
import Derived.Defers
import Derived.Deep.CutBlock
set_option maxRecDepth 20000
set_option maxHeartbeats 4000000
set_option linter.unusedVariables false
set_option linter.unusedSimpArgs false
namespace Go.Proofs.YtgboffbbpmileaaGreatDoor
open Go Go.RowKit
section
variable {rs : List (Int × Nat × List Prt)} {ts : List Tok} {p : PR Nd} {F : List (Int × Nat × List Prt) → List Tok → PR Nd}
theorem rds_no (hf : ∃ f, ts.length ≤ f ∧ p = (redirsL f rs ts).bind F) (h : isK 2 ts = false) : p = F rs ts := by
 obtain ⟨f, _, hf⟩ := hf
 cases f with
 | zero => exact hf
 | succ f => rw [hf, redirsL, if_neg (by rw [h]; decide)]; rfl
theorem rds_bad {er m : Nat} (h : isK 2 ts = true) (hf : ∃ f, ts.length ≤ f ∧ p = (redirsL f rs ts).bind F) (hr : redir ts = .bad er m) : p = .bad er m := by
 obtain ⟨f, h1, hf⟩ := hf
 cases f with
 | zero => exact absurd (List.eq_nil_of_length_eq_zero (Nat.le_zero.1 h1)) (k_ne h)
 | succ f => rw [hf, redirsL, if_pos h, hr]; rfl
theorem rds_ok {z : Int × Nat × List Prt} {r : List Tok} (h : isK 2 ts = true) (hf : ∃ f, ts.length ≤ f ∧ p = (redirsL f rs ts).bind F) (hr : redir ts = .ok z r) : ∃ f, r.length ≤ f ∧ p = (redirsL f (rs ++ [z]) r).bind F := by
 obtain ⟨f, h1, hf⟩ := hf
 cases f with
 | zero => exact absurd (List.eq_nil_of_length_eq_zero (Nat.le_zero.1 h1)) (k_ne h)
 | succ f => exact ⟨f, by have := redir_len hr; omega, by rw [hf, redirsL, if_pos h, hr]; rfl⟩
end
theorem comp_out {W0 : World} {b d j g o cap : Nat} {tvs : List (Tok × Value)} {w W : World} {vj : Value} {kind : Nat} {nm : ByteArray} {aw ak ar : Option Addr} {nw cw nk ck cr : Nat} {ws : List (List Prt × Value)} {ks : List (Nd × List Value)} {rv : List ((Int × Nat × List Prt) × Value)} {x : Nd} {LC LK LR : List (Nat × Obj)}
  (hx : x = .mk kind nm.data.toList false [] (ws.map (·.1)) [] (ks.map (·.1)) ∧ nk = ks.length) (h1 : RowM 1 W0 LC (.slice aw nw cw) (ws.map fun x => [x.2])) (h2 : ∀ x ∈ ws, PRm W0 LC x.2 x.1) (h3 : RowL 7 41 LK (.slice ak nk ck) nk (ks.flatMap (·.2))) (h4 : ∀ x ∈ ks, NodeL W0 LC x.1 x.2)
  (h5 : RowL 3 94 LR (.slice ar rv.length cr) rv.length (rv.flatMap rsc)) (h6 : ∀ x ∈ rv, PRm W0 [] x.2 x.1.2.2) (Hvj : AtV g o cap tvs j vj) (hL : Kn [b] w W ((b, .cells #[vj, .int .i64 (d : Int)] 73 (0, 0)) :: ((LC ++ LK) ++ LR))) :
  NOut W0 b d g o cap tvs w (.ok (x.setRs (rv.map (·.1))) ((TT tvs).drop j)) (.returned (.agg #[.int .i64 (kind : Int), .string nm, .bool false, .slice none 0 0, .slice aw nw cw, .slice ar rv.length cr, .slice ak nk ck])) W := by
 obtain ⟨rfl, rfl⟩ := hx
 refine ⟨nm, none, 0, 0, aw, nw, cw, ar, rv.length, cr, ak, ks.length, ck, (LC ++ LK) ++ LR, j, vj, rfl, Lib.hid ?_, Lib.hid ⟨Hvj, rfl⟩, hL⟩
 have hl : ∀ p ∈ LC, p ∈ (LC ++ LK) ++ LR := fun p hp => List.mem_append_left _ (List.mem_append_left _ hp)
 have := NodeL.mk (W0 := W0) (L := (LC ++ LK) ++ LR) kind nm.data.toList false [] ws rv ks (.slice none 0 0) (.slice aw nw cw) (.slice ar rv.length cr) (.slice ak ks.length ck) RowM.nil (fun x hx => by cases hx) (h1.mono hl) (fun x hx => (h2 x hx).mono hl) (RowL.rowM (fun _ => rfl) h5 fun p hp => List.mem_append_right _ hp) (fun x hx => (h6 x hx).mono fun p hp => by cases hp) (kids_flat (L := (LC ++ LK) ++ LR) (fun x hx => (h4 x hx).mono hl) h3 fun p hp => List.mem_append_left _ (List.mem_append_right _ hp)) (fun x hx => (h4 x hx).mono hl)
 rw [bs_list] at this
 exact this
/-- The function of a compound command. -/
def blkF : Blk → FuncId
 | .sub => 136
 | .grp => 137
 | .iff => 138
 | .whl => 139
 | .unt => 140
 | .for_ => 141
 | .case_ => 142
theorem blkV_is (bk : Blk) : blkV (some bk) = .func (.func (blkF bk)) #[] #[] := by cases bk <;> rfl
theorem blk_call (bk : Blk) : ∀ (a : Array Value) (W : World), (callFunc (blkF bk) a).run Tryz.prog W = .ok (.enter (blkF bk) a) W := fun a W => by cases bk <;> kernel_rfl
theorem compound_c {W0 : World} {g o cap : Nat} {tvs : List (Tok × Value)} (E : PEnv W0 g o cap tvs) {d : Nat} (hd : d < 20) {bo : Blk → Pa Nd} (HB : ∀ bk, BodyC W0 g o cap tvs (blkF bk) (d + 1) (bo bk)) : CompC W0 g o cap tvs d (compF bo) := by
 intro bk b i v w hB hbb hv hb hne
 obtain ⟨PL, hpl⟩ : ∃ p : PR Nd, compF bo bk ((TT tvs).drop i) = p := ⟨_, rfl⟩
 rw [hpl]
 unfold compF at hpl
 rw [drop_tail] at hpl
 have HBJ := Lib.hid (HB bk)
 rw [blkV_is]
 have hcf := blk_call bk
 obtain ⟨fb, hfb⟩ : ∃ f, blkF bk = f := ⟨_, rfl⟩
 rw [hfb] at HBJ hcf ⊢
 have HNE := Lib.hid hne
 have HPL := Lib.hid hpl.symm
 clear HB hfb hne hpl
 have hi := hv.out.1
 have hmx := E.max
 have HB0 := Lib.hid hB
 have HXB := Lib.hid (show ∀ y ∈ [b], W0.heap.size ≤ y from by simpa using hbb)
 have hL : Kn [b] w w [(b, .cells #[v, .int .i64 (d : Int)] 73 (0, 0))] := Kn.one hb
 have HBS := Lib.hid hb
 clear hB hb
 have hF := hL.fx
 go_enter_defers Tryz.func120, Tryz.ntmps120
 go_upto_region 3 with (first | (go_at_call 143; refine zG ?_; clear hF hL; intro W hL hF; (with_reducible refine (enter_ok E b i v d _ (kn_bw HB0.out hL HXB.out) hbb hv (by (exact hL.has _ (List.mem_cons_of_mem _ List.mem_cons_self))) hd).mono ?_); rintro e W ⟨c, rfl, hb⟩; ((replace hL := hL.join1 1 rfl hb)); clear hb hF; simp only [List.eraseIdx_cons_zero, List.eraseIdx_cons_succ, List.cons_append, List.nil_append] at hL; have hF := hL.fx) | (go_at_call 53; refine zG ?_; clear hF hL; intro W hL hF; (with_reducible refine (pass_c E b i v ((d + 1 : Nat) : Int) _ (kn_bw HB0.out hL HXB.out) hbb hv (by (exact hL.has _ List.mem_cons_self)) HNE.out).mono ?_); rintro e W ⟨x1, pa1, pn1, pc1, vj1, rfl, HTX1, HVJ1, hb⟩; ((replace hL := hL.join1 0 rfl hb)); clear hb hF; simp only [List.eraseIdx_cons_zero, List.eraseIdx_cons_succ, List.cons_append, List.nil_append] at hL; have hF := hL.fx))
 have hi1 := HVJ1.out.1
 have HCJ := Lib.hid (fun W hB hb => HBJ.out b (i + 1) vj1 W hB hbb HVJ1 hb)
 cases hc : bo bk ((TT tvs).drop (i + 1)) with
 | bad er m2 =>
  rw [hc] at HCJ
  have HB9 := Lib.hid (pr_bad HPL.out hc)
  clear hc
  go_wp2_with (first | ((with_reducible refine zS ?_); clear hL; intro W hL hF) | (refine zG ?_; clear hF hL; intro W hL hF; (with_reducible refine (HCJ.out _ (kn_bw HB0.out hL HXB.out) (by (exact hL.has _ List.mem_cons_self))).mono ?_); rintro e W ⟨vj5, dj, rfl, hb⟩; ((replace hL := hL.join1 0 rfl hb)); clear hb hF; simp only [List.eraseIdx_cons_zero, List.eraseIdx_cons_succ, List.cons_append, List.nil_append] at hL; have hF := hL.fx))
  refine leave_p (v := vj5) (dj := dj) (show Kn [b] w _ [(b, .cells #[vj5, .int .i64 dj] 73 (0, 0)), (c, .cells #[.pointer (some ⟨b, 0, none⟩)] 71 (0, 0))] from (hL.perml fun p => by simp only [List.countP_cons, List.countP_nil, List.countP_append, List.append_nil, List.nil_append, List.length_nil]; omega)) rfl ?_; intro W' dj' hL'; show NOut W0 b d g o cap tvs w PL _ _; rw [HB9.out]; exact ⟨vj5, dj', rfl, hL'⟩
 | ok x r =>
  rw [hc] at HCJ
  have HB9 := pr_ok HPL.out hc
  clear hc
  go_upto_region 4 with ((refine zG ?_; clear hF hL; intro W hL hF; (with_reducible refine (HCJ.out _ (kn_bw HB0.out hL HXB.out) (by (exact hL.has _ List.mem_cons_self))).mono ?_); rintro e W ⟨kz, nm, aw, nw, cw, ak, nk, ck, LC, LK, j2, vj2, rfl, HBI, HJ2, hb⟩; ((replace hL := hL.join1 0 rfl hb)); clear hb hF; simp only [List.eraseIdx_cons_zero, List.eraseIdx_cons_succ, List.cons_append, List.nil_append] at hL; have hF := hL.fx; obtain ⟨W1, rfl⟩ : ∃ W1 : World, W1 = W := ⟨_, rfl⟩))
  refine kn_wp ?_; clear hF hL; intro W hL; have hF := hL.fx
  have Hvj2 := Lib.hid HJ2.out.1
  have hj2 := HJ2.out.1.1
  rw [HJ2.out.2] at HB9
  obtain ⟨kind, ws, ks, hx, rfl, hr1, hr2, hnk, hr4, hr5⟩ := HBI.out
  have HX5 := Lib.hid (And.intro hx hnk)
  have HR1 := Lib.hid hr1
  have HR2 := Lib.hid hr2
  have HRK := Lib.hid hr4
  have HKS := Lib.hid hr5
  have hxk : x.kind = kind := by rw [hx]; rfl
  have hxr : x.rs = [] := by rw [hx]; rfl
  clear hx hr1 hr2 hr4 hr5 hnk
  obtain ⟨k8, hk8⟩ : ∃ z : Bool, ((kind : Int) == 8) = z := ⟨_, rfl⟩
  rw [hxk, hxr] at HB9
  have hL2 : Kn [b] w W ((b, .cells #[vj2, .int .i64 ((d + 1 : Nat) : Int)] 73 (0, 0)) :: (W1.heap.size, .cells #[.int .i64 (kind : Int), .string nm, .bool false, .slice none 0 0, .slice aw nw cw, .slice none 0 0, .slice ak nk ck] 41 (0, 0)) :: (c, .cells #[.pointer (some ⟨b, 0, none⟩)] 71 (0, 0)) :: (w.heap.size, .cells #[.int .i64 0, .string ⟨#[]⟩, .bool false, .slice none 0 0, .slice none 0 0, .slice none 0 0, .slice none 0 0] 41 (0, 0)) :: (LC ++ LK)) := (hL.perml fun p => by simp only [List.countP_cons, List.countP_nil, List.countP_append, List.append_nil, List.nil_append, List.length_nil]; omega); clear hL hF; have hL := hL2; clear hL2; have hF := hL.fx
  cases k8
  ·rw [if_neg (by rintro rfl; cases hk8)] at HB9
   have HB5 : Hid (∃ f, ((TT tvs).drop j2).length ≤ f ∧ PL = (redirsL f (([] : List ((Int × Nat × List Prt) × Value)).map (·.1)) ((TT tvs).drop j2)).bind fun l r => .ok (x.setRs l) r) := Lib.hid ⟨_, Nat.le_refl _, HB9⟩
   clear HB9 hxk hxr
   go_wp2
   have hjl9 := Hvj2.out.1
   go_loopg [] (tvs.length - j2) (fun n wr => ∃ (j : Nat) (vj : Value) (rv : List ((Int × Nat × List Prt) × Value)) (ar : Option Addr) (cr : Nat) (LR : List (Nat × Obj)), n = tvs.length - j ∧ Hid (AtV g o cap tvs j vj) ∧ Hid (∃ f, ((TT tvs).drop j).length ≤ f ∧ PL = (redirsL f (rv.map (·.1)) ((TT tvs).drop j)).bind fun l r => .ok (x.setRs l) r) ∧ Hid (RowL 3 94 LR (.slice ar rv.length cr) rv.length (rv.flatMap rsc)) ∧ Hid (∀ x ∈ rv, PRm W0 [] x.2 x.1.2.2) ∧ rv.length ≤ j ∧ j < tvs.length ∧ Kn [b] w wr ((b, .cells #[vj, .int .i64 ((d + 1 : Nat) : Int)] 73 (0, 0)) :: (W1.heap.size, .cells #[.int .i64 (kind : Int), .string nm, .bool false, .slice none 0 0, .slice aw nw cw, .slice ar rv.length cr, .slice ak nk ck] 41 (0, 0)) :: (c, .cells #[.pointer (some ⟨b, 0, none⟩)] 71 (0, 0)) :: (w.heap.size, .cells #[.int .i64 0, .string ⟨#[]⟩, .bool false, .slice none 0 0, .slice none 0 0, .slice none 0 0, .slice none 0 0] 41 (0, 0)) :: ((LC ++ LK) ++ LR)))
   case atStart => exact ⟨j2, vj2, [], none, 0, [], rfl, Hvj2, HB5, Lib.hid RowL.nil, Lib.hid (by simp), Nat.zero_le _, hjl9, by refine Kn.name ?_; clear hL; intro hL; exact (hL.perml fun p => by simp only [List.countP_cons, List.countP_nil, List.countP_append, List.append_nil, List.nil_append, List.length_nil]; omega)⟩
   case round =>
    clear hL
    obtain ⟨j, vj, rv, ar, cr, LR, rfl, Hvj, HF, HRR, HPR, hsz, hjl, hL⟩ := hrel
    have hF := hL.fx
    obtain ⟨y, pa9, pn9, pc9, hx9, hx29⟩ := E.tok Hvj.out
    have HX9 := Lib.hid hx9
    have HX29 := Lib.hid hx29
    have f09 := tkf0 y.1.kind y.1.fd y.1.line ⟨y.1.text.toArray⟩ ⟨y.1.plain.toArray⟩ pa9 pn9 pc9
    have f19 := tkf1 y.1.kind y.1.fd y.1.line ⟨y.1.text.toArray⟩ ⟨y.1.plain.toArray⟩ pa9 pn9 pc9
    have f29 := tkf2 y.1.kind y.1.fd y.1.line ⟨y.1.text.toArray⟩ ⟨y.1.plain.toArray⟩ pa9 pn9 pc9
    have f39 := tkf3 y.1.kind y.1.fd y.1.line ⟨y.1.text.toArray⟩ ⟨y.1.plain.toArray⟩ pa9 pn9 pc9
    have f49 := tkf4 y.1.kind y.1.fd y.1.line ⟨y.1.text.toArray⟩ ⟨y.1.plain.toArray⟩ pa9 pn9 pc9
    have f59 := tkf5 y.1.kind y.1.fd y.1.line ⟨y.1.text.toArray⟩ ⟨y.1.plain.toArray⟩ pa9 pn9 pc9
    clear hx9 hx29
    obtain ⟨k2, hk2⟩ : ∃ z : Bool, ((y.1.kind : Int) == 2) = z := ⟨_, rfl⟩
    have HK2 : Hid (isK 2 ((TT tvs).drop j) = k2) := Lib.hid (by rw [k_at E HX9.out 2 (by omega)]; exact hk2)
    cases k2
    ·have HS9 := Lib.hid (rds_no HF.out HK2.out)
     go_wp2_with (first | ((with_reducible refine zS ?_); clear hL; intro W hL hF) | (go_at_call 27; refine zC (fun W hL => next_i E b j vj ((d + 1 : Nat) : Int) _ (kn_bw HB0.out hL HXB.out) hbb Hvj (by (exact hL.has _ List.mem_cons_self)) HX9.out pa9 pn9 pc9 HX29.out ) ?_; clear hF hL; intro W hL hF))
     refine kn_bodyD ?_; clear hF hL; intro W hL; simp only [kfb] at hL; have hF := hL.fx; simp only [bodyPostD]
     refine leave_x (by omega) (show Kn [b] w W ((b, .cells #[vj, .int .i64 ((d + 1 : Nat) : Int)] 73 (0, 0)) :: (c, .cells #[.pointer (some ⟨b, 0, none⟩)] 71 (0, 0)) :: (w.heap.size, .cells #[.int .i64 (kind : Int), .string nm, .bool false, .slice none 0 0, .slice aw nw cw, .slice ar rv.length cr, .slice ak nk ck] 41 (0, 0)) :: ((LC ++ LK) ++ LR)) from (hL.perml fun p => by simp only [List.countP_cons, List.countP_nil, List.countP_append, List.append_nil, List.nil_append, List.length_nil]; omega)) (by simp) ?_
     clear hL hF; intro W hL; have hF := hL.fx
     simp [Leaves, settle, results, Tryz.results120, go_sem, hF]
     rw [HS9.out]
     exact comp_out HX5.out HR1.out HR2.out HRK.out HKS.out HRR.out HPR.out Hvj.out (hL.perml fun p => by simp only [List.countP_cons, List.countP_nil, List.countP_append, List.append_nil, List.nil_append, List.length_nil]; omega)
    ·have HNE9 : (TT tvs).drop j ≠ [] := k_ne HK2.out
     have HRD := Lib.hid (fun W hB hb => redir_c E b j vj (d + 1) W hB hbb Hvj hb HNE9)
     clear HNE9
     cases hr : redir ((TT tvs).drop j) with
     | bad er m2 =>
      rw [hr] at HRD
      have HB9 := Lib.hid (rds_bad HK2.out HF.out hr)
      clear hr
      go_wp2_with (first | ((with_reducible refine zS ?_); clear hL; intro W hL hF) | (go_at_call 27; refine zC (fun W hL => next_i E b j vj ((d + 1 : Nat) : Int) _ (kn_bw HB0.out hL HXB.out) hbb Hvj (by (exact hL.has _ List.mem_cons_self)) HX9.out pa9 pn9 pc9 HX29.out ) ?_; clear hF hL; intro W hL hF) | ((with_reducible refine at_region 7 ?_); refine kn_wp ?_; clear hF hL; intro W hL; have hF := hL.fx; refine kn_regionP [0, 1, 2, 3, 4, 5, 6, 7] [0, 1, 2, 6] [5, 7] [0, 2, 6] (by kernel_rfl) (by kernel_rfl) (List.Sublist.cons _ (List.Sublist.cons_cons _ (List.nil_sublist _))) ?_; clear hF hL; intro Qp hQp; replace hQp := Lib.hid hQp; intro ι F hne hC hFF; have hG := fun n => (hFF n).fx; clear hFF; (repeat (first | (refine cS ?_) | (refine cF hC ?_; intro K hK; go_big_quiet_op; go_big_quiet_on) | (refine cP ?_; intro K hK; go_big_quiet_op; go_big_quiet_on) | (refine cwk_callP rfl (by rfl) (by rfl) (fun _ => rfl) ?_; intro W hL; have hF := hL.fx; simp only [zA, Act.eval]; go_at_call 145; (with_reducible refine (HRD.out _ (kn_bw HB0.out hL HXB.out) (by (exact hL.has _ List.mem_cons_self))).mono ?_); rintro e W ⟨vj5, dj, rfl, hb⟩; ((replace hL := hL.join1 0 rfl hb)); clear hb hF; simp only [List.eraseIdx_cons_zero, List.eraseIdx_cons_succ, List.cons_append, List.nil_append] at hL; have hF := hL.fx; refine ⟨_, rfl, hQp.out _ _ ?_⟩; clear hQp; intro a' ha; simp only [Exit.then, Exit.inBlock]; show Leaves _ _ _ _ a'.defers _ _; rw [ha]; refine leave_p (v := vj5) (dj := dj) (show Kn [b] w _ [(b, .cells #[vj5, .int .i64 dj] 73 (0, 0)), (c, .cells #[.pointer (some ⟨b, 0, none⟩)] 71 (0, 0))] from (hL.perml fun p => by simp only [List.countP_cons, List.countP_nil, List.countP_append, List.append_nil, List.nil_append, List.length_nil]; omega)) rfl ?_; intro W' dj' hL'; show NOut W0 b d g o cap tvs w PL _ _; rw [HB9.out]; exact ⟨vj5, dj', rfl, hL'⟩) | (refine cN ?_; intro W hL; have hF := hL.facts; go_wp2; refine zB2 ?_; clear hL hC hG; intro ι F hne hC hG))); ((done))))
     | ok z r2 =>
      rw [hr] at HRD
      have HF3 := Lib.hid (rds_ok HK2.out HF.out hr)
      have HLN := Lib.hid (redir_len hr)
      clear hr
      go_wp2_with (first | ((with_reducible refine zS ?_); clear hL; intro W hL hF) | (go_at_call 27; refine zC (fun W hL => next_i E b j vj ((d + 1 : Nat) : Int) _ (kn_bw HB0.out hL HXB.out) hbb Hvj (by (exact hL.has _ List.mem_cons_self)) HX9.out pa9 pn9 pc9 HX29.out ) ?_; clear hF hL; intro W hL hF) | ((with_reducible refine at_region 7 ?_); refine kn_wp ?_; clear hF hL; intro W hL; have hF := hL.fx; refine kn_region [0, 1, 2, 3, 4, 5, 6, 7] [0, 1, 2, 6] [5, 7] [0, 2, 6] (by kernel_rfl) (by kernel_rfl) (List.Sublist.cons _ (List.Sublist.cons_cons _ (List.nil_sublist _))) ?_; clear hF hL; intro ι F hne hC hFF; have hG := fun n => (hFF n).fx; clear hFF; (repeat (first | (refine cS ?_) | (refine cF hC ?_; intro K hK; go_big_quiet_op; go_big_quiet_on) | (refine cP ?_; intro K hK; go_big_quiet_op; go_big_quiet_on) | (refine cC ?_; intro W hL; have hF := hL.fx; simp only [zA, Act.eval]; go_at_call 145; (with_reducible refine (HRD.out _ (kn_bw HB0.out hL HXB.out) (by (exact hL.has _ List.mem_cons_self))).mono ?_); rintro e W ⟨_, j2, vj2, rfl, ⟨x2, pa2, pn2, pc2, hm2, hq2, rfl, hps⟩, HV2, hb⟩; ((replace hL := hL.join1 0 rfl hb)); clear hb hF; simp only [List.eraseIdx_cons_zero, List.eraseIdx_cons_succ, List.cons_append, List.nil_append] at hL; have hF := hL.fx; refine owed_ret ?_; ((refine owed0 _ (by repeat' (first | (with_reducible exact List.nil_sublist _) | (with_reducible apply List.Sublist.cons_cons) | (with_reducible apply List.Sublist.cons))) ?_; clear hL hF)); simp only [Act.put, zT]) | (refine cN ?_; intro W hL; have hF := hL.fx; at_builtin; go_loud (refine wpList_append_end rfl _ _ 38 38 rfl (_ :: _ :: _ :: _ :: _ :: (LC ++ LK)) LR hL rv.length 1 (rv.flatMap rsc) [.int .i64 z.1, .int .i64 (z.2.1 : Int), .slice pa2 pn2 pc2] _ _ HRR.out rfl rfl (fun ho => run_append_Rd rfl (fun j u hu => by rw [Go.WideShapes.add_plain, Nat.zero_add, kn_cell hL List.mem_cons_self]; simpa using hu) (by intro u hu; simp only [List.mem_cons, List.not_mem_nil, or_false] at hu; rcases hu with rfl | rfl | rfl <;> rfl) (by omega) ho) ?_); intro LP3 a3 c3 W3 hL2 hr3; clear hL hF; have hL := hL2; clear hL2; simp only [List.append_eq, List.cons_append, List.nil_append] at hL; have hF := hL.fx; go_wp2; refine zB2 ?_; clear hL hF hC hG; intro ι F hne hC hG) | (refine cN ?_; intro W hL; have hF := hL.fx; go_wp2; refine anchQ_normal ?_; (first | (refine owedB _ (by rfl) ?_; clear hL hF hC hG; intro ι F hne hC hFF; have hG := fun n => (hFF n).fx; clear hFF) | (refine owed0 _ (by repeat' (first | (with_reducible exact List.nil_sublist _) | (with_reducible apply List.Sublist.cons_cons) | (with_reducible apply List.Sublist.cons))) ?_; clear hL hF))))); refine cwk_nil ?_; clear hC hG; intro W hL; simp only [kfb] at hL; have hF := hL.fx))
      have hlt9 : j < j2 := by have h8 := HLN.out; rw [HV2.out.2] at h8; have := at_lt HV2.out.1 h8 hjl; omega
      have hj29 := HV2.out.1.1
      go_roundg (tvs.length - j2)
      case measure => omega
      case rel => exact ⟨j2, vj2, rv ++ [(z, .slice pa2 pn2 pc2)], a3, c3, LP3, rfl, Lib.hid HV2.out.1, Lib.hid (by have h8 := HF3.out; rw [HV2.out.2] at h8; simpa using h8), Lib.hid (by simpa [rsc] using hr3), Lib.hid (all_snoc HPR.out (by have := prm_tok E hm2 (L := []); rw [hq2, ← hps] at this; exact this)), by simp only [List.length_append, List.length_singleton]; omega, hj29, by refine Kn.name ?_; clear hL; intro hL; simp only [List.length_append, List.length_singleton]; exact (hL.perml fun p => by simp only [List.countP_cons, List.countP_nil, List.countP_append, List.append_nil, List.nil_append, List.length_nil]; omega)⟩
  ·rw [if_pos (by have := beq_iff_eq.1 hk8; omega)] at HB9
   have HB8 := Lib.hid HB9
   clear HB9 hxk hxr
   have HW1 := Lib.hid (fun W hB hb => want_c E b j2 vj2 (d + 1) W hB hbb Hvj2 hb ⟨#[102, 105]⟩)
   cases hw : want kFi ((TT tvs).drop j2) with
   | bad er m2 =>
    rw [show want (⟨#[102, 105]⟩ : ByteArray).data.toList ((TT tvs).drop j2) = _ from hw] at HW1
    have HB9 := Lib.hid (pr_bad HB8.out hw)
    clear hw
    go_wp2_with (first | ((with_reducible refine zS ?_); clear hL; intro W hL hF) | (go_at_call 144; refine zG ?_; clear hF hL; intro W hL hF; (with_reducible refine (HW1.out _ (kn_bw HB0.out hL HXB.out) (by (exact hL.has _ List.mem_cons_self))).mono ?_); rintro e W ⟨vj5, dj, rfl, hb⟩; ((replace hL := hL.join1 0 rfl hb)); clear hb hF; simp only [List.eraseIdx_cons_zero, List.eraseIdx_cons_succ, List.cons_append, List.nil_append] at hL; have hF := hL.fx))
    refine leave_p (v := vj5) (dj := dj) (show Kn [b] w _ [(b, .cells #[vj5, .int .i64 dj] 73 (0, 0)), (c, .cells #[.pointer (some ⟨b, 0, none⟩)] 71 (0, 0))] from (hL.perml fun p => by simp only [List.countP_cons, List.countP_nil, List.countP_append, List.append_nil, List.nil_append, List.length_nil]; omega)) rfl ?_; intro W' dj' hL'; show NOut W0 b d g o cap tvs w PL _ _; rw [HB9.out]; exact ⟨vj5, dj', rfl, hL'⟩
   | ok u r3 =>
    rw [show want (⟨#[102, 105]⟩ : ByteArray).data.toList ((TT tvs).drop j2) = _ from hw] at HW1
    have HB9 := pr_ok HB8.out hw
    clear hw
    go_wp2_with (first | ((with_reducible refine zS ?_); clear hL; intro W hL hF) | (go_at_call 144; refine zG ?_; clear hF hL; intro W hL hF; (with_reducible refine (HW1.out _ (kn_bw HB0.out hL HXB.out) (by (exact hL.has _ List.mem_cons_self))).mono ?_); rintro e W ⟨_, j3, vj3, rfl, rfl, HJ3, hb⟩; ((replace hL := hL.join1 0 rfl hb)); clear hb hF; simp only [List.eraseIdx_cons_zero, List.eraseIdx_cons_succ, List.cons_append, List.nil_append] at hL; have hF := hL.fx))
    have Hvj3 := Lib.hid HJ3.out.1
    rw [HJ3.out.2] at HB9
    have HB5 : Hid (∃ f, ((TT tvs).drop j3).length ≤ f ∧ PL = (redirsL f (([] : List ((Int × Nat × List Prt) × Value)).map (·.1)) ((TT tvs).drop j3)).bind fun l r => .ok (x.setRs l) r) := Lib.hid ⟨_, Nat.le_refl _, HB9⟩
    clear HB9
    have hjl9 := Hvj3.out.1
    go_loopg [] (tvs.length - j3) (fun n wr => ∃ (j : Nat) (vj : Value) (rv : List ((Int × Nat × List Prt) × Value)) (ar : Option Addr) (cr : Nat) (LR : List (Nat × Obj)), n = tvs.length - j ∧ Hid (AtV g o cap tvs j vj) ∧ Hid (∃ f, ((TT tvs).drop j).length ≤ f ∧ PL = (redirsL f (rv.map (·.1)) ((TT tvs).drop j)).bind fun l r => .ok (x.setRs l) r) ∧ Hid (RowL 3 94 LR (.slice ar rv.length cr) rv.length (rv.flatMap rsc)) ∧ Hid (∀ x ∈ rv, PRm W0 [] x.2 x.1.2.2) ∧ rv.length ≤ j ∧ j < tvs.length ∧ Kn [b] w wr ((b, .cells #[vj, .int .i64 ((d + 1 : Nat) : Int)] 73 (0, 0)) :: (W1.heap.size, .cells #[.int .i64 (kind : Int), .string nm, .bool false, .slice none 0 0, .slice aw nw cw, .slice ar rv.length cr, .slice ak nk ck] 41 (0, 0)) :: (c, .cells #[.pointer (some ⟨b, 0, none⟩)] 71 (0, 0)) :: (w.heap.size, .cells #[.int .i64 0, .string ⟨#[]⟩, .bool false, .slice none 0 0, .slice none 0 0, .slice none 0 0, .slice none 0 0] 41 (0, 0)) :: ((LC ++ LK) ++ LR)))
    case atStart => exact ⟨j3, vj3, [], none, 0, [], rfl, Hvj3, HB5, Lib.hid RowL.nil, Lib.hid (by simp), Nat.zero_le _, hjl9, by refine Kn.name ?_; clear hL; intro hL; exact (hL.perml fun p => by simp only [List.countP_cons, List.countP_nil, List.countP_append, List.append_nil, List.nil_append, List.length_nil]; omega)⟩
    case round =>
     clear hL
     obtain ⟨j, vj, rv, ar, cr, LR, rfl, Hvj, HF, HRR, HPR, hsz, hjl, hL⟩ := hrel
     have hF := hL.fx
     obtain ⟨y, pa9, pn9, pc9, hx9, hx29⟩ := E.tok Hvj.out
     have HX9 := Lib.hid hx9
     have HX29 := Lib.hid hx29
     have f09 := tkf0 y.1.kind y.1.fd y.1.line ⟨y.1.text.toArray⟩ ⟨y.1.plain.toArray⟩ pa9 pn9 pc9
     have f19 := tkf1 y.1.kind y.1.fd y.1.line ⟨y.1.text.toArray⟩ ⟨y.1.plain.toArray⟩ pa9 pn9 pc9
     have f29 := tkf2 y.1.kind y.1.fd y.1.line ⟨y.1.text.toArray⟩ ⟨y.1.plain.toArray⟩ pa9 pn9 pc9
     have f39 := tkf3 y.1.kind y.1.fd y.1.line ⟨y.1.text.toArray⟩ ⟨y.1.plain.toArray⟩ pa9 pn9 pc9
     have f49 := tkf4 y.1.kind y.1.fd y.1.line ⟨y.1.text.toArray⟩ ⟨y.1.plain.toArray⟩ pa9 pn9 pc9
     have f59 := tkf5 y.1.kind y.1.fd y.1.line ⟨y.1.text.toArray⟩ ⟨y.1.plain.toArray⟩ pa9 pn9 pc9
     clear hx9 hx29
     obtain ⟨k2, hk2⟩ : ∃ z : Bool, ((y.1.kind : Int) == 2) = z := ⟨_, rfl⟩
     have HK2 : Hid (isK 2 ((TT tvs).drop j) = k2) := Lib.hid (by rw [k_at E HX9.out 2 (by omega)]; exact hk2)
     cases k2
     ·have HS9 := Lib.hid (rds_no HF.out HK2.out)
      go_wp2_with (first | ((with_reducible refine zS ?_); clear hL; intro W hL hF) | (go_at_call 27; refine zC (fun W hL => next_i E b j vj ((d + 1 : Nat) : Int) _ (kn_bw HB0.out hL HXB.out) hbb Hvj (by (exact hL.has _ List.mem_cons_self)) HX9.out pa9 pn9 pc9 HX29.out ) ?_; clear hF hL; intro W hL hF))
      refine kn_bodyD ?_; clear hF hL; intro W hL; simp only [kfb] at hL; have hF := hL.fx; simp only [bodyPostD]
      refine leave_x (by omega) (show Kn [b] w W ((b, .cells #[vj, .int .i64 ((d + 1 : Nat) : Int)] 73 (0, 0)) :: (c, .cells #[.pointer (some ⟨b, 0, none⟩)] 71 (0, 0)) :: (w.heap.size, .cells #[.int .i64 (kind : Int), .string nm, .bool false, .slice none 0 0, .slice aw nw cw, .slice ar rv.length cr, .slice ak nk ck] 41 (0, 0)) :: ((LC ++ LK) ++ LR)) from (hL.perml fun p => by simp only [List.countP_cons, List.countP_nil, List.countP_append, List.append_nil, List.nil_append, List.length_nil]; omega)) (by simp) ?_
      clear hL hF; intro W hL; have hF := hL.fx
      simp [Leaves, settle, results, Tryz.results120, go_sem, hF]
      rw [HS9.out]
      exact comp_out HX5.out HR1.out HR2.out HRK.out HKS.out HRR.out HPR.out Hvj.out (hL.perml fun p => by simp only [List.countP_cons, List.countP_nil, List.countP_append, List.append_nil, List.nil_append, List.length_nil]; omega)
     ·have HNE9 : (TT tvs).drop j ≠ [] := k_ne HK2.out
      have HRD := Lib.hid (fun W hB hb => redir_c E b j vj (d + 1) W hB hbb Hvj hb HNE9)
      clear HNE9
      cases hr : redir ((TT tvs).drop j) with
      | bad er m2 =>
       rw [hr] at HRD
       have HB9 := Lib.hid (rds_bad HK2.out HF.out hr)
       clear hr
       go_wp2_with (first | ((with_reducible refine zS ?_); clear hL; intro W hL hF) | (go_at_call 27; refine zC (fun W hL => next_i E b j vj ((d + 1 : Nat) : Int) _ (kn_bw HB0.out hL HXB.out) hbb Hvj (by (exact hL.has _ List.mem_cons_self)) HX9.out pa9 pn9 pc9 HX29.out ) ?_; clear hF hL; intro W hL hF) | ((with_reducible refine at_region 7 ?_); refine kn_wp ?_; clear hF hL; intro W hL; have hF := hL.fx; refine kn_regionP [0, 1, 2, 3, 4, 5, 6, 7] [0, 1, 2, 6] [5, 7] [0, 2, 6] (by kernel_rfl) (by kernel_rfl) (List.Sublist.cons _ (List.Sublist.cons_cons _ (List.nil_sublist _))) ?_; clear hF hL; intro Qp hQp; replace hQp := Lib.hid hQp; intro ι F hne hC hFF; have hG := fun n => (hFF n).fx; clear hFF; (repeat (first | (refine cS ?_) | (refine cF hC ?_; intro K hK; go_big_quiet_op; go_big_quiet_on) | (refine cP ?_; intro K hK; go_big_quiet_op; go_big_quiet_on) | (refine cwk_callP rfl (by rfl) (by rfl) (fun _ => rfl) ?_; intro W hL; have hF := hL.fx; simp only [zA, Act.eval]; go_at_call 145; (with_reducible refine (HRD.out _ (kn_bw HB0.out hL HXB.out) (by (exact hL.has _ List.mem_cons_self))).mono ?_); rintro e W ⟨vj5, dj, rfl, hb⟩; ((replace hL := hL.join1 0 rfl hb)); clear hb hF; simp only [List.eraseIdx_cons_zero, List.eraseIdx_cons_succ, List.cons_append, List.nil_append] at hL; have hF := hL.fx; refine ⟨_, rfl, hQp.out _ _ ?_⟩; clear hQp; intro a' ha; simp only [Exit.then, Exit.inBlock]; show Leaves _ _ _ _ a'.defers _ _; rw [ha]; refine leave_p (v := vj5) (dj := dj) (show Kn [b] w _ [(b, .cells #[vj5, .int .i64 dj] 73 (0, 0)), (c, .cells #[.pointer (some ⟨b, 0, none⟩)] 71 (0, 0))] from (hL.perml fun p => by simp only [List.countP_cons, List.countP_nil, List.countP_append, List.append_nil, List.nil_append, List.length_nil]; omega)) rfl ?_; intro W' dj' hL'; show NOut W0 b d g o cap tvs w PL _ _; rw [HB9.out]; exact ⟨vj5, dj', rfl, hL'⟩) | (refine cN ?_; intro W hL; have hF := hL.facts; go_wp2; refine zB2 ?_; clear hL hC hG; intro ι F hne hC hG))); ((done))))
      | ok z r2 =>
       rw [hr] at HRD
       have HF3 := Lib.hid (rds_ok HK2.out HF.out hr)
       have HLN := Lib.hid (redir_len hr)
       clear hr
       go_wp2_with (first | ((with_reducible refine zS ?_); clear hL; intro W hL hF) | (go_at_call 27; refine zC (fun W hL => next_i E b j vj ((d + 1 : Nat) : Int) _ (kn_bw HB0.out hL HXB.out) hbb Hvj (by (exact hL.has _ List.mem_cons_self)) HX9.out pa9 pn9 pc9 HX29.out ) ?_; clear hF hL; intro W hL hF) | ((with_reducible refine at_region 7 ?_); refine kn_wp ?_; clear hF hL; intro W hL; have hF := hL.fx; refine kn_region [0, 1, 2, 3, 4, 5, 6, 7] [0, 1, 2, 6] [5, 7] [0, 2, 6] (by kernel_rfl) (by kernel_rfl) (List.Sublist.cons _ (List.Sublist.cons_cons _ (List.nil_sublist _))) ?_; clear hF hL; intro ι F hne hC hFF; have hG := fun n => (hFF n).fx; clear hFF; (repeat (first | (refine cS ?_) | (refine cF hC ?_; intro K hK; go_big_quiet_op; go_big_quiet_on) | (refine cP ?_; intro K hK; go_big_quiet_op; go_big_quiet_on) | (refine cC ?_; intro W hL; have hF := hL.fx; simp only [zA, Act.eval]; go_at_call 145; (with_reducible refine (HRD.out _ (kn_bw HB0.out hL HXB.out) (by (exact hL.has _ List.mem_cons_self))).mono ?_); rintro e W ⟨_, j2, vj2, rfl, ⟨x2, pa2, pn2, pc2, hm2, hq2, rfl, hps⟩, HV2, hb⟩; ((replace hL := hL.join1 0 rfl hb)); clear hb hF; simp only [List.eraseIdx_cons_zero, List.eraseIdx_cons_succ, List.cons_append, List.nil_append] at hL; have hF := hL.fx; refine owed_ret ?_; ((refine owed0 _ (by repeat' (first | (with_reducible exact List.nil_sublist _) | (with_reducible apply List.Sublist.cons_cons) | (with_reducible apply List.Sublist.cons))) ?_; clear hL hF)); simp only [Act.put, zT]) | (refine cN ?_; intro W hL; have hF := hL.fx; at_builtin; go_loud (refine wpList_append_end rfl _ _ 38 38 rfl (_ :: _ :: _ :: _ :: _ :: (LC ++ LK)) LR hL rv.length 1 (rv.flatMap rsc) [.int .i64 z.1, .int .i64 (z.2.1 : Int), .slice pa2 pn2 pc2] _ _ HRR.out rfl rfl (fun ho => run_append_Rd rfl (fun j u hu => by rw [Go.WideShapes.add_plain, Nat.zero_add, kn_cell hL List.mem_cons_self]; simpa using hu) (by intro u hu; simp only [List.mem_cons, List.not_mem_nil, or_false] at hu; rcases hu with rfl | rfl | rfl <;> rfl) (by omega) ho) ?_); intro LP3 a3 c3 W3 hL2 hr3; clear hL hF; have hL := hL2; clear hL2; simp only [List.append_eq, List.cons_append, List.nil_append] at hL; have hF := hL.fx; go_wp2; refine zB2 ?_; clear hL hF hC hG; intro ι F hne hC hG) | (refine cN ?_; intro W hL; have hF := hL.fx; go_wp2; refine anchQ_normal ?_; (first | (refine owedB _ (by rfl) ?_; clear hL hF hC hG; intro ι F hne hC hFF; have hG := fun n => (hFF n).fx; clear hFF) | (refine owed0 _ (by repeat' (first | (with_reducible exact List.nil_sublist _) | (with_reducible apply List.Sublist.cons_cons) | (with_reducible apply List.Sublist.cons))) ?_; clear hL hF))))); refine cwk_nil ?_; clear hC hG; intro W hL; simp only [kfb] at hL; have hF := hL.fx))
       have hlt9 : j < j2 := by have h8 := HLN.out; rw [HV2.out.2] at h8; have := at_lt HV2.out.1 h8 hjl; omega
       have hj29 := HV2.out.1.1
       go_roundg (tvs.length - j2)
       case measure => omega
       case rel => exact ⟨j2, vj2, rv ++ [(z, .slice pa2 pn2 pc2)], a3, c3, LP3, rfl, Lib.hid HV2.out.1, Lib.hid (by have h8 := HF3.out; rw [HV2.out.2] at h8; simpa using h8), Lib.hid (by simpa [rsc] using hr3), Lib.hid (all_snoc HPR.out (by have := prm_tok E hm2 (L := []); rw [hq2, ← hps] at this; exact this)), by simp only [List.length_append, List.length_singleton]; omega, hj29, by refine Kn.name ?_; clear hL; intro hL; simp only [List.length_append, List.length_singleton]; exact (hL.perml fun p => by simp only [List.countP_cons, List.countP_nil, List.countP_append, List.append_nil, List.nil_append, List.length_nil]; omega)⟩
theorem compound_full {W0 : World} {g o cap : Nat} {tvs : List (Tok × Value)} (E : PEnv W0 g o cap tvs) {d : Nat} (hd : d = 20) : CompC W0 g o cap tvs d (fun _ ts => full ts) := by
 intro bk b i v w hB hbb hv hb hne
 obtain ⟨m, hm⟩ : ∃ m, m = ((TT tvs).drop i).length := ⟨_, rfl⟩
 have Hm := Lib.hid hm
 clear hm
 have HEF := Lib.hid (fun W (hB : Below W0.heap.size W0 W) hb => (enter_full E b i v d W hB hbb hv hb hd).mono (R' := fun e w' => POut b d g o cap tvs W (α := Unit) (fun _ _ _ => False) (.bad 2 m) e w') fun e w' h => by rw [Hm.out]; exact h)
 have HB6 : Hid ((full ((TT tvs).drop i) : PR Nd) = .bad 2 m) := Lib.hid (by rw [Hm.out]; rfl)
 clear hne hd
 have HB0 := Lib.hid hB
 have HXB := Lib.hid (show ∀ y ∈ [b], W0.heap.size ≤ y from by simpa using hbb)
 have hL : Kn [b] w w [(b, .cells #[v, .int .i64 (d : Int)] 73 (0, 0))] := Kn.one hb
 have HBS := Lib.hid hb
 clear hB hb
 have hF := hL.fx
 go_enter_defers Tryz.func120, Tryz.ntmps120
 go_wp2_with (first | ((with_reducible refine zS ?_); clear hL; intro W hL hF) | (go_at_call 143; refine zG ?_; clear hF hL; intro W hL hF; (with_reducible refine (HEF.out _ (kn_bw HB0.out hL HXB.out) (by (exact hL.has _ (List.mem_cons_of_mem _ List.mem_cons_self)))).mono ?_); rintro e W ⟨vj3, dj, rfl, hb⟩; ((replace hL := hL.join1 1 rfl hb)); clear hb hF; simp only [List.eraseIdx_cons_zero, List.eraseIdx_cons_succ, List.cons_append, List.nil_append] at hL; have hF := hL.fx))
 show NOut W0 b d g o cap tvs w (full ((TT tvs).drop i)) _ _
 rw [HB6.out]
 exact ⟨vj3, dj, rfl, (hL.perml fun p => by simp only [List.countP_cons, List.countP_nil, List.countP_append, List.append_nil, List.nil_append, List.length_nil]; omega)⟩
end Go.Proofs.YtgboffbbpmileaaGreatDoor
set_option maxRecDepth 20000
set_option maxHeartbeats 4000000
set_option linter.unusedVariables false
set_option linter.unusedSimpArgs false
namespace Go.Proofs.YtgboffbbpmileaaGreatDoor
open Go Go.RowKit
def elifP (inner : Option (Pa Nd)) (x : Nd) (r : List Tok) : PR Nd := match inner with
 | none => full r
 | some c => (c r.tail).bind fun x2 r => .ok (x.addKid x2) r
theorem btw_kids {so : Pa Nd} {k : Nat} {c : Bytes} {e : Option Bytes} {ts : List Tok} {n : Nd} {r : List Tok} (hh : between so k c e ts = .ok n r) : n.kids.length ≤ 100 := by
 obtain ⟨a, s, h1, h2⟩ := bind_ok hh
 obtain ⟨u, s2, h5, h6⟩ := bind_ok h2
 obtain ⟨b, s3, h7, h8⟩ := bind_ok h6
 cases e with
 | none => injection h8 with h8 h11; subst h8; exact (by decide : 2 ≤ 100)
 | some c2 =>
  obtain ⟨u, s4, h11, h12⟩ := bind_ok h8
  injection h12 with h12 h13; subst h12; exact (by decide : 2 ≤ 100)
def CondI (W0 : World) (g o cap : Nat) (tvs : List (Tok × Value)) (d : Nat) (inner : Option (Pa Nd)) : Prop := match inner with
 | none => d = 20
 | some c => d < 20 ∧ BodyC W0 g o cap tvs 138 (d + 1) c
theorem conditions_c {W0 : World} {g o cap : Nat} {tvs : List (Tok × Value)} (E : PEnv W0 g o cap tvs) {d : Nat} {so : Pa Nd} {inner : Option (Pa Nd)} (HI : CondI W0 g o cap tvs d inner) (HC : NodeC W0 g o cap tvs 162 d so) : BodyC W0 g o cap tvs 138 d (condF so inner) := by
 intro b i v w hB hbb hv hb
 obtain ⟨PL, hpl⟩ : ∃ p : PR Nd, condF so inner ((TT tvs).drop i) = p := ⟨_, rfl⟩
 rw [hpl]
 unfold condF at hpl
 obtain ⟨BT, hbt⟩ : ∃ p : PR Nd, between so 8 kThen none ((TT tvs).drop i) = p := ⟨_, rfl⟩
 rw [hbt] at hpl
 have HCJ : Hid (∀ W, Below W0.heap.size W0 W → W.heap[b]? = some (.cells #[v, .int .i64 (d : Nat)] 73 (0, 0)) → Calls Tryz.prog 163 #[.pointer (some ⟨b, 0, none⟩), .int .i64 8, .string ⟨#[116, 104, 101, 110]⟩, .string ⟨#[]⟩] W (BOut W0 b d g o cap tvs W BT)) := Lib.hid fun W hB hb => by
  have h := between_c E HC b i v W hB hbb hv hb 8 ⟨#[116, 104, 101, 110]⟩ ⟨#[]⟩
  rw [show between so 8 (⟨#[116, 104, 101, 110]⟩ : ByteArray).data.toList (optS ⟨#[]⟩) ((TT tvs).drop i) = BT from hbt] at h
  exact h
 have HCC := Lib.hid HC
 have HKL : Hid (∀ x r, BT = .ok x r → x.kids.length ≤ 100) := Lib.hid fun x r h => btw_kids (hbt.trans h)
 have HII := Lib.hid HI
 clear HI
 clear HC hbt
 have hi := hv.out.1
 have hmx := E.max
 have HB0 := Lib.hid hB
 have HXB := Lib.hid (show ∀ y ∈ [b], W0.heap.size ≤ y from by simpa using hbb)
 have hL : Kn [b] w w [(b, .cells #[v, .int .i64 (d : Int)] 73 (0, 0))] := Kn.one hb
 have HBS := Lib.hid hb
 clear hB hb
 have hF := hL.fx
 cases BT with
 | bad er m2 =>
  have HB9 : Hid (PL = .bad er m2) := Lib.hid hpl.symm
  clear hpl
  go_enter_defers Tryz.func138, Tryz.ntmps138
  go_wp2_with (first | ((with_reducible refine zS ?_); clear hL; intro W hL hF) | (go_at_call 163; refine zG ?_; clear hF hL; intro W hL hF; (with_reducible refine (HCJ.out _ (kn_bw HB0.out hL HXB.out) (by (exact hL.has _ (List.mem_cons_of_mem _ List.mem_cons_self)))).mono ?_); rintro e W ⟨vj2, dj, rfl, hb⟩; ((replace hL := hL.join1 1 rfl hb)); clear hb hF; simp only [List.eraseIdx_cons_zero, List.eraseIdx_cons_succ, List.cons_append, List.nil_append] at hL; have hF := hL.fx))
  show BOut W0 b d g o cap tvs w PL _ _
  rw [HB9.out]
  exact ⟨vj2, dj, rfl, (hL.perml fun p => by simp only [List.countP_cons, List.countP_nil, List.countP_append, List.append_nil, List.nil_append, List.length_nil]; omega)⟩
 | ok x r =>
  have HB9 : Hid (PL = if isKw [kElse] r then (so r.tail).bind fun c r => .ok (x.addKid c) r else if isKw [kElif] r then elifP inner x r else .ok x r) := Lib.hid hpl.symm
  clear hpl
  go_enter_defers Tryz.func138, Tryz.ntmps138
  go_upto_block 0 with ((go_at_call 163; refine zG ?_; clear hF hL; intro W hL hF; (with_reducible refine (HCJ.out _ (kn_bw HB0.out hL HXB.out) (by (exact hL.has _ (List.mem_cons_of_mem _ List.mem_cons_self)))).mono ?_); rintro e W ⟨kz, nm, aw, nw, cw, ak, nk, ck, LC, LK, j2, vj2, rfl, HBI, HJ2, hb⟩; ((replace hL := hL.join1 1 rfl hb)); clear hb hF; simp only [List.eraseIdx_cons_zero, List.eraseIdx_cons_succ, List.cons_append, List.nil_append] at hL; have hF := hL.fx; replace hL := hL.in0; clear hF; have hF := hL.fx; obtain ⟨W1, rfl⟩ : ∃ W1 : World, W1 = W := ⟨_, rfl⟩))
  refine kn_wp ?_; clear hF hL; intro W hL; have hF := hL.fx
  have Hvj2 := Lib.hid HJ2.out.1
  have hj2 := HJ2.out.1.1
  have HB8 := HB9.out
  rw [HJ2.out.2] at HB8
  obtain ⟨kind, ws, ks, hx, rfl, hr1, hr2, rfl, hr4, hr5⟩ := HBI.out
  have hks : ks.length ≤ 100 := by have h := HKL.out _ _ rfl; rw [hx] at h; simpa [Nd.kids] using h
  have HX5 := Lib.hid hx
  have HR1 := Lib.hid hr1
  have HR2 := Lib.hid hr2
  have HRK := Lib.hid hr4
  have HKS := Lib.hid hr5
  clear hx hr1 hr2 hr4 hr5 HKL
  obtain ⟨k1, hk1⟩ : ∃ z : Bool, isKw [kElse] ((TT tvs).drop j2) = z := ⟨_, rfl⟩
  obtain ⟨k2, hk2⟩ : ∃ z : Bool, isKw [kElif] ((TT tvs).drop j2) = z := ⟨_, rfl⟩
  rw [hk1, hk2] at HB8
  have HK1 : Hid (isKw ([(⟨#[101, 108, 115, 101]⟩ : ByteArray)].map fun z => z.data.toList) ((TT tvs).drop j2) = k1) := Lib.hid hk1
  have HK2 : Hid (isKw ([(⟨#[101, 108, 105, 102]⟩ : ByteArray)].map fun z => z.data.toList) ((TT tvs).drop j2) = k2) := Lib.hid hk2
  have HQ1 : Hid (k1 = true → (TT tvs).drop j2 ≠ []) := Lib.hid fun h => kw_ne (by rw [hk1]; exact h)
  have HQ2 : Hid (k2 = true → (TT tvs).drop j2 ≠ []) := Lib.hid fun h => kw_ne (by rw [hk2]; exact h)
  clear hk1 hk2
  have hL2 : Kn [b] w W ((b, .cells #[vj2, .int .i64 (d : Int)] 73 (0, 0)) :: (W1.heap.size, .cells #[.int .i64 (kind : Int), .string nm, .bool false, .slice none 0 0, .slice aw nw cw, .slice none 0 0, .slice ak ks.length ck] 41 (0, 0)) :: (w.heap.size, .cells #[.int .i64 0, .string ⟨#[]⟩, .bool false, .slice none 0 0, .slice none 0 0, .slice none 0 0, .slice none 0 0] 41 (0, 0)) :: (LC ++ LK)) := (hL.perml fun p => by simp only [List.countP_cons, List.countP_nil, List.countP_append, List.append_nil, List.nil_append, List.length_nil]; omega); clear hL hF; have hL := hL2; clear hL2; have hF := hL.fx
  cases k1
  ·rw [if_neg (by decide)] at HB8
   clear HQ1
   cases k2
   ·rw [if_neg (by decide)] at HB8
    have HB7 := Lib.hid HB8
    clear HB8
    go_wp2_with (first | ((with_reducible refine zS ?_); clear hL; intro W hL hF) | (go_at_call 86; refine zC (fun W hL => key_c E b j2 vj2 (d : Int) _ (kn_bw HB0.out hL HXB.out) hbb Hvj2 (by (exact hL.has _ (List.mem_cons_of_mem _ List.mem_cons_self))) _ 0 1 _ [⟨#[101, 108, 115, 101]⟩] _ HK1 (Lib.hid rfl) (by omega) (one_word (kn_c0 hL List.mem_cons_self)) (by (exact kn_ne hL List.mem_cons_self))) ?_; clear hF hL; intro W hL hF; replace hL := hL.drop1; clear hF; have hF := hL.fx) | (go_at_call 86; refine zC (fun W hL => key_c E b j2 vj2 (d : Int) _ (kn_bw HB0.out hL HXB.out) hbb Hvj2 (by (exact hL.has _ (List.mem_cons_of_mem _ List.mem_cons_self))) _ 0 1 _ [⟨#[101, 108, 105, 102]⟩] _ HK2 (Lib.hid rfl) (by omega) (one_word (kn_c0 hL List.mem_cons_self)) (by (exact kn_ne hL List.mem_cons_self))) ?_; clear hF hL; intro W hL hF; replace hL := hL.drop1; clear hF; have hF := hL.fx))
    refine kn_bodyD ?_; clear hF hL; intro W hL; simp only [kfb] at hL; have hF := hL.fx; simp only [bodyPostD]; simp [Leaves, settle, results, Tryz.results138, go_sem, hF]
    rw [HB7.out]
    exact ⟨(kind : Int), nm, aw, nw, cw, ak, ks.length, ck, LC, LK, j2, vj2, rfl, Lib.hid ⟨kind, ws, ks, HX5.out, rfl, HR1.out, HR2.out, rfl, HRK.out, HKS.out⟩, Lib.hid ⟨Hvj2.out, rfl⟩, (hL.perml fun p => by simp only [List.countP_cons, List.countP_nil, List.countP_append, List.append_nil, List.nil_append, List.length_nil]; omega)⟩
   ·rw [if_pos rfl] at HB8
    have HNE2 := Lib.hid (HQ2.out rfl)
    cases inner with
    | none =>
     have hd : d = 20 := HII.out
     have HB7 : Hid (PL = full ((TT tvs).drop j2)) := Lib.hid HB8
     clear HB8 HII
     obtain ⟨m, hm⟩ : ∃ m, m = ((TT tvs).drop j2).length := ⟨_, rfl⟩
     have Hm := Lib.hid hm
     clear hm
     have HB6 : Hid (PL = .bad 2 m) := Lib.hid (by rw [HB7.out, Hm.out]; rfl)
     have HEF := Lib.hid (fun W (hB : Below W0.heap.size W0 W) hb => (enter_full E b j2 vj2 d W hB hbb Hvj2 hb hd).mono (R' := fun e w' => POut b d g o cap tvs W (α := Unit) (fun _ _ _ => False) (.bad 2 m) e w') fun e w' h => by rw [Hm.out]; exact h)
     clear hd
     go_wp2_with (first | ((with_reducible refine zS ?_); clear hL; intro W hL hF) | (go_at_call 86; refine zC (fun W hL => key_c E b j2 vj2 (d : Int) _ (kn_bw HB0.out hL HXB.out) hbb Hvj2 (by (exact hL.has _ (List.mem_cons_of_mem _ List.mem_cons_self))) _ 0 1 _ [⟨#[101, 108, 115, 101]⟩] _ HK1 (Lib.hid rfl) (by omega) (one_word (kn_c0 hL List.mem_cons_self)) (by (exact kn_ne hL List.mem_cons_self))) ?_; clear hF hL; intro W hL hF; replace hL := hL.drop1; clear hF; have hF := hL.fx) | (go_at_call 86; refine zC (fun W hL => key_c E b j2 vj2 (d : Int) _ (kn_bw HB0.out hL HXB.out) hbb Hvj2 (by (exact hL.has _ (List.mem_cons_of_mem _ List.mem_cons_self))) _ 0 1 _ [⟨#[101, 108, 105, 102]⟩] _ HK2 (Lib.hid rfl) (by omega) (one_word (kn_c0 hL List.mem_cons_self)) (by (exact kn_ne hL List.mem_cons_self))) ?_; clear hF hL; intro W hL hF; replace hL := hL.drop1; clear hF; have hF := hL.fx) | (go_at_call 143; refine zG ?_; clear hF hL; intro W hL hF; (with_reducible refine (HEF.out _ (kn_bw HB0.out hL HXB.out) (by (exact hL.has _ List.mem_cons_self))).mono ?_); rintro e W ⟨vj3, dj, rfl, hb⟩; ((replace hL := hL.join1 0 rfl hb)); clear hb hF; simp only [List.eraseIdx_cons_zero, List.eraseIdx_cons_succ, List.cons_append, List.nil_append] at hL; have hF := hL.fx))
     show BOut W0 b d g o cap tvs w PL _ _
     rw [HB6.out]
     exact ⟨vj3, dj, rfl, (hL.perml fun p => by simp only [List.countP_cons, List.countP_nil, List.countP_append, List.append_nil, List.nil_append, List.length_nil]; omega)⟩
    | some cn =>
     have hd : d < 20 := HII.out.1
     have HB7 : Hid (PL = (cn ((TT tvs).drop j2).tail).bind fun x2 r => .ok (x.addKid x2) r) := Lib.hid HB8
     clear HB8
     have HB6 := HB7.out
     rw [drop_tail] at HB6
     go_upto_region 8 with (first | (go_at_call 86; refine zC (fun W hL => key_c E b j2 vj2 (d : Int) _ (kn_bw HB0.out hL HXB.out) hbb Hvj2 (by (exact hL.has _ (List.mem_cons_of_mem _ List.mem_cons_self))) _ 0 1 _ [⟨#[101, 108, 115, 101]⟩] _ HK1 (Lib.hid rfl) (by omega) (one_word (kn_c0 hL List.mem_cons_self)) (by (exact kn_ne hL List.mem_cons_self))) ?_; clear hF hL; intro W hL hF; replace hL := hL.drop1; clear hF; have hF := hL.fx) | (go_at_call 86; refine zC (fun W hL => key_c E b j2 vj2 (d : Int) _ (kn_bw HB0.out hL HXB.out) hbb Hvj2 (by (exact hL.has _ (List.mem_cons_of_mem _ List.mem_cons_self))) _ 0 1 _ [⟨#[101, 108, 105, 102]⟩] _ HK2 (Lib.hid rfl) (by omega) (one_word (kn_c0 hL List.mem_cons_self)) (by (exact kn_ne hL List.mem_cons_self))) ?_; clear hF hL; intro W hL hF; replace hL := hL.drop1; clear hF; have hF := hL.fx) | (go_at_call 143; refine zG ?_; clear hF hL; intro W hL hF; (with_reducible refine (enter_ok E b j2 vj2 d _ (kn_bw HB0.out hL HXB.out) hbb Hvj2 (by (exact hL.has _ List.mem_cons_self)) hd).mono ?_); rintro e W ⟨c, rfl, hb⟩; ((replace hL := hL.join1 0 rfl hb)); clear hb hF; simp only [List.eraseIdx_cons_zero, List.eraseIdx_cons_succ, List.cons_append, List.nil_append] at hL; have hF := hL.fx) | (go_at_call 53; refine zG ?_; clear hF hL; intro W hL hF; (with_reducible refine (pass_c E b j2 vj2 ((d + 1 : Nat) : Int) _ (kn_bw HB0.out hL HXB.out) hbb Hvj2 (by (exact hL.has _ List.mem_cons_self)) HNE2.out).mono ?_); rintro e W ⟨x1, pa1, pn1, pc1, vj3, rfl, HTX2, HVJ3, hb⟩; ((replace hL := hL.join1 0 rfl hb)); clear hb hF; simp only [List.eraseIdx_cons_zero, List.eraseIdx_cons_succ, List.cons_append, List.nil_append] at hL; have hF := hL.fx))
     have hL2 : Kn [b] w W ((b, .cells #[vj3, .int .i64 ((d + 1 : Nat) : Int)] 73 (0, 0)) :: (W1.heap.size, .cells #[.int .i64 (kind : Int), .string nm, .bool false, .slice none 0 0, .slice aw nw cw, .slice none 0 0, .slice ak ks.length ck] 41 (0, 0)) :: (c, .cells #[.pointer (some ⟨b, 0, none⟩)] 71 (0, 0)) :: (w.heap.size, .cells #[.int .i64 0, .string ⟨#[]⟩, .bool false, .slice none 0 0, .slice none 0 0, .slice none 0 0, .slice none 0 0] 41 (0, 0)) :: (LC ++ LK)) := (hL.perml fun p => by simp only [List.countP_cons, List.countP_nil, List.countP_append, List.append_nil, List.nil_append, List.length_nil]; omega); clear hL hF; have hL := hL2; clear hL2; have hF := hL.fx
     have HCJ2 := Lib.hid (fun W hB hb => HII.out.2 b (j2 + 1) vj3 W hB hbb HVJ3 hb)
     cases hc : cn ((TT tvs).drop (j2 + 1)) with
     | bad er m2 =>
      rw [hc] at HCJ2
      replace HB6 := Lib.hid (pr_bad HB6 hc)
      clear hc
      go_wp2_with (first | ((with_reducible refine zS ?_); clear hL; intro W hL hF) | ((with_reducible refine at_region 8 ?_); refine kn_wp ?_; clear hF hL; intro W hL; have hF := hL.fx; refine kn_regionP [0, 1, 2, 3, 4, 5, 6, 7] [0, 1, 2, 6] [5, 7] [0, 2, 6] (by kernel_rfl) (by kernel_rfl) (List.Sublist.cons _ (List.Sublist.cons_cons _ (List.nil_sublist _))) ?_; clear hF hL; intro Qp hQp; replace hQp := Lib.hid hQp; intro ι F hne hC hFF; have hG := fun n => (hFF n).fx; clear hFF; (repeat (first | (refine cS ?_) | (refine cF hC ?_; intro K hK; go_big_quiet_op; go_big_quiet_on) | (refine cP ?_; intro K hK; go_big_quiet_op; go_big_quiet_on) | (refine cwk_callP rfl (by rfl) (by rfl) (fun _ => rfl) ?_; intro W hL; have hF := hL.fx; simp only [zA, Act.eval]; go_at_call 138; (with_reducible refine (HCJ2.out _ (kn_bw HB0.out hL HXB.out) (by (exact hL.has _ List.mem_cons_self))).mono ?_); rintro e W ⟨vj5, dj, rfl, hb⟩; ((replace hL := hL.join1 0 rfl hb)); clear hb hF; simp only [List.eraseIdx_cons_zero, List.eraseIdx_cons_succ, List.cons_append, List.nil_append] at hL; have hF := hL.fx; refine ⟨_, rfl, hQp.out _ _ ?_⟩; clear hQp; intro a' ha; simp only [Exit.then, Exit.inBlock]; show Leaves _ _ _ _ a'.defers _ _; rw [ha]; refine leave_p (v := vj5) (dj := dj) (show Kn [b] w _ [(b, .cells #[vj5, .int .i64 dj] 73 (0, 0)), (c, .cells #[.pointer (some ⟨b, 0, none⟩)] 71 (0, 0))] from (hL.perml fun p => by simp only [List.countP_cons, List.countP_nil, List.countP_append, List.append_nil, List.nil_append, List.length_nil]; omega)) rfl ?_; intro W' dj' hL'; show BOut W0 b d g o cap tvs w PL _ _; rw [HB6.out]; exact ⟨vj5, dj', rfl, hL'⟩) | (refine cN ?_; intro W hL; have hF := hL.facts; go_wp2; refine zB2 ?_; clear hL hC hG; intro ι F hne hC hG))); ((done))))
     | ok y r2 =>
      rw [hc] at HCJ2
      replace HB6 := Lib.hid (pr_ok HB6 hc)
      clear hc
      go_wp2_with (first | ((with_reducible refine zS ?_); clear hL; intro W hL hF) | ((with_reducible refine at_region 8 ?_); refine kn_wp ?_; clear hF hL; intro W hL; have hF := hL.fx; refine kn_region [0, 1, 2, 3, 4, 5, 6, 7] [0, 1, 2, 6] [5, 7] [0, 2, 6] (by kernel_rfl) (by kernel_rfl) (List.Sublist.cons _ (List.Sublist.cons_cons _ (List.nil_sublist _))) ?_; clear hF hL; intro ι F hne hC hFF; have hG := fun n => (hFF n).fx; clear hFF; (repeat (first | (refine cS ?_) | (refine cF hC ?_; intro K hK; go_big_quiet_op; go_big_quiet_on) | (refine cP ?_; intro K hK; go_big_quiet_op; go_big_quiet_on) | (refine cC ?_; intro W hL; have hF := hL.fx; simp only [zA, Act.eval]; go_at_call 138; (with_reducible refine (HCJ2.out _ (kn_bw HB0.out hL HXB.out) (by (exact hL.has _ List.mem_cons_self))).mono ?_); rintro e W ⟨kz2, nm2, aw2, nw2, cw2, ak2, nk2, ck2, LC2, LK2, j5, vj5, rfl, HBI2, HJ5, hb⟩; ((replace hL := hL.join1 0 rfl hb)); clear hb hF; simp only [List.eraseIdx_cons_zero, List.eraseIdx_cons_succ, List.cons_append, List.nil_append] at hL; have hF := hL.fx; replace hL := hL.in1c; clear hF; have hF := hL.fx; refine owed_ret ?_; ((refine owed0 _ (by repeat' (first | (with_reducible exact List.nil_sublist _) | (with_reducible apply List.Sublist.cons_cons) | (with_reducible apply List.Sublist.cons))) ?_; clear hL hF)); simp only [Act.put, zT]) | (refine cN ?_; intro W hL; have hF := hL.fx; at_builtin; go_loud (refine wpList_append_end rfl _ _ 39 39 rfl (_ :: _ :: _ :: _ :: _ :: ((LC2 ++ LK2) ++ LC)) LK hL ks.length 1 (ks.flatMap (·.2)) [.int .i64 kz2, .string nm2, .bool false, .slice none 0 0, .slice aw2 nw2 cw2, .slice none 0 0, .slice ak2 nk2 ck2] _ _ HRK.out rfl rfl (fun ho => run_append_Nd rfl (fun j u hu => by rw [Go.WideShapes.add_plain, Nat.zero_add, kn_cell hL List.mem_cons_self]; simpa using hu) (by intro u hu; simp only [List.mem_cons, List.not_mem_nil, or_false] at hu; rcases hu with rfl | rfl | rfl | rfl | rfl | rfl | rfl <;> rfl) (by omega) ho) ?_); intro LP3 a3 c3 W3 hL2 hr3; clear hL hF; have hL := hL2; clear hL2; simp only [List.append_eq, List.cons_append, List.nil_append] at hL; have hF := hL.fx; go_wp2; refine zB2 ?_; clear hL hF hC hG; intro ι F hne hC hG) | (refine cN ?_; intro W hL; have hF := hL.fx; go_wp2; refine anchQ_normal ?_; (first | (refine owedB _ (by rfl) ?_; clear hL hF hC hG; intro ι F hne hC hFF; have hG := fun n => (hFF n).fx; clear hFF) | (refine owed0 _ (by repeat' (first | (with_reducible exact List.nil_sublist _) | (with_reducible apply List.Sublist.cons_cons) | (with_reducible apply List.Sublist.cons))) ?_; clear hL hF))))); refine cwk_nil ?_; clear hC hG; intro W hL; simp only [kfb] at hL; have hF := hL.fx))
      refine kn_bodyD ?_; clear hF hL; intro W hL; simp only [kfb] at hL; have hF := hL.fx; simp only [bodyPostD]
      refine leave_x (by omega) (show Kn [b] w W ((b, .cells #[vj5, .int .i64 ((d + 1 : Nat) : Int)] 73 (0, 0)) :: (c, .cells #[.pointer (some ⟨b, 0, none⟩)] 71 (0, 0)) :: (w.heap.size, .cells #[.int .i64 (kind : Int), .string nm, .bool false, .slice none 0 0, .slice aw nw cw, .slice none 0 0, .slice a3 (ks.length + 1) c3] 41 (0, 0)) :: (((LC2 ++ LK2) ++ LC) ++ LP3)) from (hL.perml fun p => by simp only [List.countP_cons, List.countP_nil, List.countP_append, List.append_nil, List.nil_append, List.length_nil]; omega)) (by simp) ?_
      clear hL hF; intro W hL; have hF := hL.fx
      simp [Leaves, settle, results, Tryz.results138, go_sem, hF]
      rw [HB6.out, HJ5.out.2]
      refine cond_out (d := d) HX5.out HR1.out HR2.out HKS.out HBI2.out.node hr3 HJ5.out.1 ?_
      exact (hL.perml fun p => by simp only [List.countP_cons, List.countP_nil, List.countP_append, List.append_nil, List.nil_append, List.length_nil]; omega)
  ·rw [if_pos rfl, drop_tail] at HB8
   have HNE2 := Lib.hid (HQ1.out rfl)
   have HB7 := Lib.hid HB8
   clear HB8
   go_upto_region 4 with (first | (go_at_call 86; refine zC (fun W hL => key_c E b j2 vj2 (d : Int) _ (kn_bw HB0.out hL HXB.out) hbb Hvj2 (by (exact hL.has _ (List.mem_cons_of_mem _ List.mem_cons_self))) _ 0 1 _ [⟨#[101, 108, 115, 101]⟩] _ HK1 (Lib.hid rfl) (by omega) (one_word (kn_c0 hL List.mem_cons_self)) (by (exact kn_ne hL List.mem_cons_self))) ?_; clear hF hL; intro W hL hF; replace hL := hL.drop1; clear hF; have hF := hL.fx) | (go_at_call 53; refine zG ?_; clear hF hL; intro W hL hF; (with_reducible refine (pass_c E b j2 vj2 (d : Int) _ (kn_bw HB0.out hL HXB.out) hbb Hvj2 (by (exact hL.has _ List.mem_cons_self)) HNE2.out).mono ?_); rintro e W ⟨x1, pa1, pn1, pc1, vj3, rfl, HTX2, HVJ3, hb⟩; ((replace hL := hL.join1 0 rfl hb)); clear hb hF; simp only [List.eraseIdx_cons_zero, List.eraseIdx_cons_succ, List.cons_append, List.nil_append] at hL; have hF := hL.fx))
   have HCJ2 := Lib.hid (fun W hB hb => HCC.out b (j2 + 1) vj3 W hB hbb HVJ3 hb)
   cases hc : so ((TT tvs).drop (j2 + 1)) with
   | bad er m2 =>
    rw [hc] at HCJ2
    have HB6 := Lib.hid (pr_bad HB7.out hc)
    clear hc
    go_wp2_with (first | ((with_reducible refine zS ?_); clear hL; intro W hL hF) | ((with_reducible refine at_region 4 ?_); refine kn_wp ?_; clear hF hL; intro W hL; have hF := hL.fx; refine kn_regionP [0, 1, 2, 3, 4, 5, 6, 7] [0, 1, 2, 6] [5, 7] [0, 2, 6] (by kernel_rfl) (by kernel_rfl) (List.Sublist.cons _ (List.Sublist.cons_cons _ (List.nil_sublist _))) ?_; clear hF hL; intro Qp hQp; replace hQp := Lib.hid hQp; intro ι F hne hC hFF; have hG := fun n => (hFF n).fx; clear hFF; (repeat (first | (refine cS ?_) | (refine cF hC ?_; intro K hK; go_big_quiet_op; go_big_quiet_on) | (refine cP ?_; intro K hK; go_big_quiet_op; go_big_quiet_on) | (refine cwk_callP rfl (by rfl) (by rfl) (fun _ => rfl) ?_; intro W hL; have hF := hL.fx; simp only [zA, Act.eval]; go_at_call 162; (with_reducible refine (HCJ2.out _ (kn_bw HB0.out hL HXB.out) (by (exact hL.has _ List.mem_cons_self))).mono ?_); rintro e W ⟨vj5, dj, rfl, hb⟩; ((replace hL := hL.join1 0 rfl hb)); clear hb hF; simp only [List.eraseIdx_cons_zero, List.eraseIdx_cons_succ, List.cons_append, List.nil_append] at hL; have hF := hL.fx; refine ⟨_, rfl, hQp.out _ _ ?_⟩; clear hQp; intro a' ha; simp only [Exit.then, Exit.inBlock]; show Leaves _ _ _ _ a'.defers _ _; rw [ha]; show BOut W0 b d g o cap tvs w PL _ _; rw [HB6.out]; exact ⟨vj5, dj, rfl, (hL.perml fun p => by simp only [List.countP_cons, List.countP_nil, List.countP_append, List.append_nil, List.nil_append, List.length_nil]; omega)⟩) | (refine cN ?_; intro W hL; have hF := hL.facts; go_wp2; refine zB2 ?_; clear hL hC hG; intro ι F hne hC hG))); ((done))))
   | ok y r2 =>
    rw [hc] at HCJ2
    have HB6 := Lib.hid (pr_ok HB7.out hc)
    clear hc
    go_wp2_with (first | ((with_reducible refine zS ?_); clear hL; intro W hL hF) | ((with_reducible refine at_region 4 ?_); refine kn_wp ?_; clear hF hL; intro W hL; have hF := hL.fx; refine kn_region [0, 1, 2, 3, 4, 5, 6, 7] [0, 1, 2, 6] [5, 7] [0, 2, 6] (by kernel_rfl) (by kernel_rfl) (List.Sublist.cons _ (List.Sublist.cons_cons _ (List.nil_sublist _))) ?_; clear hF hL; intro ι F hne hC hFF; have hG := fun n => (hFF n).fx; clear hFF; (repeat (first | (refine cS ?_) | (refine cF hC ?_; intro K hK; go_big_quiet_op; go_big_quiet_on) | (refine cP ?_; intro K hK; go_big_quiet_op; go_big_quiet_on) | (refine cC ?_; intro W hL; have hF := hL.fx; simp only [zA, Act.eval]; go_at_call 162; (with_reducible refine (HCJ2.out _ (kn_bw HB0.out hL HXB.out) (by (exact hL.has _ List.mem_cons_self))).mono ?_); rintro e W ⟨nm2, aa2, na2, ca2, aw2, nw2, cw2, ar2, nr2, cr2, ak2, nk2, ck2, LN, j5, vj5, rfl, HN, HJ5, hb⟩; ((replace hL := hL.join1 0 rfl hb)); clear hb hF; simp only [List.eraseIdx_cons_zero, List.eraseIdx_cons_succ, List.cons_append, List.nil_append] at hL; have hF := hL.fx; replace hL := hL.in1; clear hF; have hF := hL.fx; refine owed_ret ?_; ((refine owed0 _ (by repeat' (first | (with_reducible exact List.nil_sublist _) | (with_reducible apply List.Sublist.cons_cons) | (with_reducible apply List.Sublist.cons))) ?_; clear hL hF)); simp only [Act.put, zT]) | (refine cN ?_; intro W hL; have hF := hL.fx; at_builtin; go_loud (refine wpList_append_end rfl _ _ 39 39 rfl (_ :: _ :: _ :: _ :: (LN ++ LC)) LK hL ks.length 1 (ks.flatMap (·.2)) [.int .i64 (y.kind : Int), .string nm2, .bool y.neg, .slice aa2 na2 ca2, .slice aw2 nw2 cw2, .slice ar2 nr2 cr2, .slice ak2 nk2 ck2] _ _ HRK.out rfl rfl (fun ho => run_append_Nd rfl (fun j u hu => by rw [Go.WideShapes.add_plain, Nat.zero_add, kn_cell hL List.mem_cons_self]; simpa using hu) (by intro u hu; simp only [List.mem_cons, List.not_mem_nil, or_false] at hu; rcases hu with rfl | rfl | rfl | rfl | rfl | rfl | rfl <;> rfl) (by omega) ho) ?_); intro LP3 a3 c3 W3 hL2 hr3; clear hL hF; have hL := hL2; clear hL2; simp only [List.append_eq, List.cons_append, List.nil_append] at hL; have hF := hL.fx; go_wp2; refine zB2 ?_; clear hL hF hC hG; intro ι F hne hC hG) | (refine cN ?_; intro W hL; have hF := hL.fx; go_wp2; refine anchQ_normal ?_; (first | (refine owedB _ (by rfl) ?_; clear hL hF hC hG; intro ι F hne hC hFF; have hG := fun n => (hFF n).fx; clear hFF) | (refine owed0 _ (by repeat' (first | (with_reducible exact List.nil_sublist _) | (with_reducible apply List.Sublist.cons_cons) | (with_reducible apply List.Sublist.cons))) ?_; clear hL hF))))); refine cwk_nil ?_; clear hC hG; intro W hL; simp only [kfb] at hL; have hF := hL.fx))
    refine kn_bodyD ?_; clear hF hL; intro W hL; simp only [kfb] at hL; have hF := hL.fx; simp only [bodyPostD]; simp [Leaves, settle, results, Tryz.results138, go_sem, hF]
    rw [HB6.out, HJ5.out.2]
    exact cond_out HX5.out HR1.out HR2.out HKS.out HN.out hr3 HJ5.out.1 (hL.perml fun p => by simp only [List.countP_cons, List.countP_nil, List.countP_append, List.append_nil, List.nil_append, List.length_nil]; omega)
end Go.Proofs.YtgboffbbpmileaaGreatDoor
set_option linter.unusedVariables false
set_option linter.unusedSimpArgs false
namespace Go.Proofs.YtgboffbbpmileaaGreatDoor
open Go Go.RowKit
section
variable {W0 : World} {g o cap : Nat} {tvs : List (Tok × Value)} (E : PEnv W0 g o cap tvs)
theorem list_lev (E : PEnv W0 g o cap tvs) {d k : Nat} (hc : NodeC W0 g o cap tvs 105 d (lev k).cmd) : NodeC W0 g o cap tvs 26 d (list (lev k).cmd) :=
 list_c E (it := item (pipe (lev k).cmd)) (wi_item (wi_pipe (wi_lev k).1)) (item_c E (wi_pipe (wi_lev k).1) (pipe_c E (wi_lev k).1 hc))
theorem some_lev (E : PEnv W0 g o cap tvs) {d k : Nat} (hc : NodeC W0 g o cap tvs 105 d (lev k).cmd) : NodeC W0 g o cap tvs 162 d (some_ (lev k).cmd) := some_c E (li := list (lev k).cmd) (list_lev E hc)
theorem lev_c (E : PEnv W0 g o cap tvs) : ∀ (k d : Nat), d + k = 20 → NodeC W0 g o cap tvs 105 d (lev k).cmd ∧ BodyC W0 g o cap tvs 138 d (lev k).conds ∧ CompC W0 g o cap tvs d (lev k).comp
 | 0, d, hd => by
  obtain rfl : d = 20 := by omega
  have h1 : CompC W0 g o cap tvs 20 (lev 0).comp := compound_full E rfl
  have h2 : NodeC W0 g o cap tvs 105 20 (lev 0).cmd := command_c E (inner := none) h1 (function_full E rfl)
  exact ⟨h2, conditions_c E (inner := none) rfl (some_lev E (k := 0) h2), h1⟩
 | k + 1, d, hd => by
  obtain ⟨i1, i2, i3⟩ := lev_c E k (d + 1) (by omega)
  have hl := list_lev E i1
  have hs := some_lev E i1
  have h1 : CompC W0 g o cap tvs d (lev (k + 1)).comp := compound_c E (by omega) (bo := body (list (lev k).cmd) (some_ (lev k).cmd) (lev k).conds) (fun bk => by
   cases bk
   ·exact subshell_c E hs
   ·exact group_c E hs
   ·exact i2
   ·exact while_c E hs
   ·exact until_c E hs
   ·exact loop_c E hs
   ·exact choice_c E (wi_arm (wi_list (wi_lev k).1)) (arm_c E hl))
  have h2 : NodeC W0 g o cap tvs 105 d (lev (k + 1)).cmd := command_c E (inner := some (lev k).comp) h1 (function_c E (by omega) i3)
  exact ⟨h2, conditions_c E (inner := some (lev k).conds) ⟨by omega, i2⟩ (some_lev E (k := k + 1) h2), h1⟩
end
end Go.Proofs.YtgboffbbpmileaaGreatDoor
