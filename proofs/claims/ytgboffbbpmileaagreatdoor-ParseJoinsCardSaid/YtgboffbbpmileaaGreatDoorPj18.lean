/- Lemmas and walks for the law of this seat (part 18). -/
import Derived.Test.YtgboffbbpmileaaGreatDoorPj17
import Derived.Test.YtgboffbbpmileaaGreatDoorProg
import Derived.WalkKit
import Derived.Handy
import Derived.Deep.Light
import Derived.WalkSmall
import Derived.StillTailTactics
import Derived.Lib.Hide
set_option maxRecDepth 20000
set_option maxHeartbeats 4000000
set_option linter.unusedVariables false
set_option linter.unusedSimpArgs false
namespace Go.Proofs.YtgboffbbpmileaaGreatDoor
open Go Go.RowKit
theorem cls_out {W0 : World} {b d j g o cap gq : Nat} {tvs : List (Tok × Value)} {w W : World} {vj : Value} {kind : Nat} {x : Nd} {nm : ByteArray} {aa : Option Addr} {na : Nat} {ca : Nat} {aw : Option Addr} {nw : Nat} {cw : Nat} {ar : Option Addr} {nr : Nat} {cr : Nat} {ak : Option Addr} {nk : Nat} {ck : Nat} {LN : List (Nat × Obj)} (HN : NodeL W0 LN x [.int .i64 (x.kind : Int), .string nm, .bool x.neg, .slice aa na ca, .slice aw nw cw, .slice ar nr cr, .slice ak nk ck]) (Hvj : AtV g o cap tvs j vj)
  (hL : Kn [b] w W ((b, .cells #[vj, .int .i64 (d : Int)] 73 (0, 0)) :: (LN ++ [(gq, .cells #[.int .i64 (x.kind : Int), .string nm, .bool x.neg, .slice aa na ca, .slice aw nw cw, .slice ar nr cr, .slice ak nk ck] 41 (0, 0))]))) :
  BOut W0 b d g o cap tvs w (.ok (.mk kind [] false [] [] [] [x]) ((TT tvs).drop j)) (.returned (.agg #[.int .i64 (kind : Int), .string ⟨#[]⟩, .bool false, .slice none 0 0, .slice none 0 0, .slice none 0 0, .slice (some ⟨gq, 0, none⟩) 1 1])) W :=
 ⟨(kind : Int), ⟨#[]⟩, none, 0, 0, some ⟨gq, 0, none⟩, 1, 1, LN, _, j, vj, rfl, Lib.hid ⟨kind, [], [(x, [.int .i64 (x.kind : Int), .string nm, .bool x.neg, .slice aa na ca, .slice aw nw cw, .slice ar nr cr, .slice ak nk ck])], rfl, rfl, RowM.nil, (fun x hx => by cases hx), rfl, krow_one rfl rfl, fun z hz => by rw [List.mem_singleton.1 hz]; exact HN⟩, Lib.hid ⟨Hvj, rfl⟩, hL⟩
theorem while_c {W0 : World} {g o cap : Nat} {tvs : List (Tok × Value)} (E : PEnv W0 g o cap tvs) {d : Nat} {so : Pa Nd} (HC : NodeC W0 g o cap tvs 162 d so) : BodyC W0 g o cap tvs 139 d (between so 9 kDo (some kDone)) := by
 intro b i v w hB hbb hv hb
 obtain ⟨PL, hpl⟩ : ∃ p : PR Nd, between so 9 kDo (some kDone) ((TT tvs).drop i) = p := ⟨_, rfl⟩
 rw [hpl]
 have HCJ : Hid (∀ W, Below W0.heap.size W0 W → W.heap[b]? = some (.cells #[v, .int .i64 (d : Nat)] 73 (0, 0)) → Calls Tryz.prog 163 #[.pointer (some ⟨b, 0, none⟩), .int .i64 9, .string ⟨#[100, 111]⟩, .string ⟨#[100, 111, 110, 101]⟩] W (BOut W0 b d g o cap tvs W PL)) := Lib.hid fun W hB hb => by
  have h := between_c E HC b i v W hB hbb hv hb 9 ⟨#[100, 111]⟩ ⟨#[100, 111, 110, 101]⟩
  rw [show between so 9 (⟨#[100, 111]⟩ : ByteArray).data.toList (optS ⟨#[100, 111, 110, 101]⟩) ((TT tvs).drop i) = PL from hpl] at h
  exact h
 clear hpl
 have HB0 := Lib.hid hB
 have HXB := Lib.hid (show ∀ y ∈ [b], W0.heap.size ≤ y from by simpa using hbb)
 have hL : Kn [b] w w [(b, .cells #[v, .int .i64 (d : Int)] 73 (0, 0))] := Kn.one hb
 have HBS := Lib.hid hb
 clear hB hb
 have hF := hL.fx
 cases PL with
 | bad er m2 =>
  go_enter Tryz.func139, Tryz.ntmps139
  go_wp2_with (first | ((with_reducible refine zS ?_); clear hL; intro W hL hF) | (go_at_call 163; refine zG ?_; clear hF hL; intro W hL hF; (with_reducible refine (HCJ.out _ (kn_bw HB0.out hL HXB.out) (by (exact hL.has _ (List.mem_cons_of_mem _ List.mem_cons_self)))).mono ?_); rintro e W ⟨vj2, dj, rfl, hb⟩; ((replace hL := hL.join1 1 rfl hb)); clear hb hF; simp only [List.eraseIdx_cons_zero, List.eraseIdx_cons_succ, List.cons_append, List.nil_append] at hL; have hF := hL.fx))
  exact ⟨rfl, vj2, dj, rfl, (hL.perml fun p => by simp only [List.countP_cons, List.countP_nil, List.countP_append, List.append_nil, List.nil_append, List.length_nil]; omega)⟩
 | ok x r =>
  go_enter Tryz.func139, Tryz.ntmps139
  go_wp2_with (first | ((with_reducible refine zS ?_); clear hL; intro W hL hF) | (go_at_call 163; refine zG ?_; clear hF hL; intro W hL hF; (with_reducible refine (HCJ.out _ (kn_bw HB0.out hL HXB.out) (by (exact hL.has _ (List.mem_cons_of_mem _ List.mem_cons_self)))).mono ?_); rintro e W ⟨kz, nm, aw, nw, cw, ak, nk, ck, LC, LK, j2, vj2, rfl, HBI, HJ2, hb⟩; ((replace hL := hL.join1 1 rfl hb)); clear hb hF; simp only [List.eraseIdx_cons_zero, List.eraseIdx_cons_succ, List.cons_append, List.nil_append] at hL; have hF := hL.fx; replace hL := hL.in0; clear hF; have hF := hL.fx))
  refine kn_body ?_; clear hF hL; intro W hL; simp only [kfb] at hL; have hF := hL.fx
  refine bodyPost_ret (by simp [results, Tryz.results139, go_sem, *]; try rfl) rfl ?_
  exact ⟨kz, nm, aw, nw, cw, ak, nk, ck, LC, LK, j2, vj2, rfl, HBI, HJ2, (hL.perml fun p => by simp only [List.countP_cons, List.countP_nil, List.countP_append, List.append_nil, List.nil_append, List.length_nil]; omega)⟩
theorem until_c {W0 : World} {g o cap : Nat} {tvs : List (Tok × Value)} (E : PEnv W0 g o cap tvs) {d : Nat} {so : Pa Nd} (HC : NodeC W0 g o cap tvs 162 d so) : BodyC W0 g o cap tvs 140 d (between so 10 kDo (some kDone)) := by
 intro b i v w hB hbb hv hb
 obtain ⟨PL, hpl⟩ : ∃ p : PR Nd, between so 10 kDo (some kDone) ((TT tvs).drop i) = p := ⟨_, rfl⟩
 rw [hpl]
 have HCJ : Hid (∀ W, Below W0.heap.size W0 W → W.heap[b]? = some (.cells #[v, .int .i64 (d : Nat)] 73 (0, 0)) → Calls Tryz.prog 163 #[.pointer (some ⟨b, 0, none⟩), .int .i64 10, .string ⟨#[100, 111]⟩, .string ⟨#[100, 111, 110, 101]⟩] W (BOut W0 b d g o cap tvs W PL)) := Lib.hid fun W hB hb => by
  have h := between_c E HC b i v W hB hbb hv hb 10 ⟨#[100, 111]⟩ ⟨#[100, 111, 110, 101]⟩
  rw [show between so 10 (⟨#[100, 111]⟩ : ByteArray).data.toList (optS ⟨#[100, 111, 110, 101]⟩) ((TT tvs).drop i) = PL from hpl] at h
  exact h
 clear hpl
 have HB0 := Lib.hid hB
 have HXB := Lib.hid (show ∀ y ∈ [b], W0.heap.size ≤ y from by simpa using hbb)
 have hL : Kn [b] w w [(b, .cells #[v, .int .i64 (d : Int)] 73 (0, 0))] := Kn.one hb
 have HBS := Lib.hid hb
 clear hB hb
 have hF := hL.fx
 cases PL with
 | bad er m2 =>
  go_enter Tryz.func140, Tryz.ntmps140
  go_wp2_with (first | ((with_reducible refine zS ?_); clear hL; intro W hL hF) | (go_at_call 163; refine zG ?_; clear hF hL; intro W hL hF; (with_reducible refine (HCJ.out _ (kn_bw HB0.out hL HXB.out) (by (exact hL.has _ (List.mem_cons_of_mem _ List.mem_cons_self)))).mono ?_); rintro e W ⟨vj2, dj, rfl, hb⟩; ((replace hL := hL.join1 1 rfl hb)); clear hb hF; simp only [List.eraseIdx_cons_zero, List.eraseIdx_cons_succ, List.cons_append, List.nil_append] at hL; have hF := hL.fx))
  exact ⟨rfl, vj2, dj, rfl, (hL.perml fun p => by simp only [List.countP_cons, List.countP_nil, List.countP_append, List.append_nil, List.nil_append, List.length_nil]; omega)⟩
 | ok x r =>
  go_enter Tryz.func140, Tryz.ntmps140
  go_wp2_with (first | ((with_reducible refine zS ?_); clear hL; intro W hL hF) | (go_at_call 163; refine zG ?_; clear hF hL; intro W hL hF; (with_reducible refine (HCJ.out _ (kn_bw HB0.out hL HXB.out) (by (exact hL.has _ (List.mem_cons_of_mem _ List.mem_cons_self)))).mono ?_); rintro e W ⟨kz, nm, aw, nw, cw, ak, nk, ck, LC, LK, j2, vj2, rfl, HBI, HJ2, hb⟩; ((replace hL := hL.join1 1 rfl hb)); clear hb hF; simp only [List.eraseIdx_cons_zero, List.eraseIdx_cons_succ, List.cons_append, List.nil_append] at hL; have hF := hL.fx; replace hL := hL.in0; clear hF; have hF := hL.fx))
  refine kn_body ?_; clear hF hL; intro W hL; simp only [kfb] at hL; have hF := hL.fx
  refine bodyPost_ret (by simp [results, Tryz.results140, go_sem, *]; try rfl) rfl ?_
  exact ⟨kz, nm, aw, nw, cw, ak, nk, ck, LC, LK, j2, vj2, rfl, HBI, HJ2, (hL.perml fun p => by simp only [List.countP_cons, List.countP_nil, List.countP_append, List.append_nil, List.nil_append, List.length_nil]; omega)⟩
theorem subshell_c {W0 : World} {g o cap : Nat} {tvs : List (Tok × Value)} (E : PEnv W0 g o cap tvs) {d : Nat} {so : Pa Nd} (HC : NodeC W0 g o cap tvs 162 d so) : BodyC W0 g o cap tvs 136 d (closed so 6 [41]) := by
 intro b i v w hB hbb hv hb
 have HCJ := Lib.hid (fun W hB hb => HC b i v W hB hbb hv hb)
 obtain ⟨PL, hpl⟩ : ∃ p : PR Nd, closed so 6 [41] ((TT tvs).drop i) = p := ⟨_, rfl⟩
 rw [hpl]
 unfold closed at hpl
 clear HC
 have HB0 := Lib.hid hB
 have HXB := Lib.hid (show ∀ y ∈ [b], W0.heap.size ≤ y from by simpa using hbb)
 have hL : Kn [b] w w [(b, .cells #[v, .int .i64 (d : Int)] 73 (0, 0))] := Kn.one hb
 have HBS := Lib.hid hb
 clear hB hb
 have hF := hL.fx
 cases hc : so ((TT tvs).drop i) with
 | bad er m2 =>
  rw [hc] at HCJ
  have HB9 := Lib.hid (pr_bad hpl.symm hc)
  clear hc hpl
  go_enter Tryz.func136, Tryz.ntmps136
  go_wp2_with (first | ((with_reducible refine zS ?_); clear hL; intro W hL hF) | (go_at_call 162; refine zG ?_; clear hF hL; intro W hL hF; (with_reducible refine (HCJ.out _ (kn_bw HB0.out hL HXB.out) (by (exact hL.has _ (List.mem_cons_of_mem _ List.mem_cons_self)))).mono ?_); rintro e W ⟨vj2, dj, rfl, hb⟩; ((replace hL := hL.join1 1 rfl hb)); clear hb hF; simp only [List.eraseIdx_cons_zero, List.eraseIdx_cons_succ, List.cons_append, List.nil_append] at hL; have hF := hL.fx))
  refine ⟨rfl, ?_⟩; rw [HB9.out]; exact ⟨vj2, dj, rfl, (hL.perml fun p => by simp only [List.countP_cons, List.countP_nil, List.countP_append, List.append_nil, List.nil_append, List.length_nil]; omega)⟩
 | ok x r =>
  rw [hc] at HCJ
  have HB9 := Lib.hid (pr_ok hpl.symm hc)
  clear hc hpl
  go_enter Tryz.func136, Tryz.ntmps136
  go_upto_region 2 with ((go_at_call 162; refine zG ?_; clear hF hL; intro W hL hF; (with_reducible refine (HCJ.out _ (kn_bw HB0.out hL HXB.out) (by (exact hL.has _ (List.mem_cons_of_mem _ List.mem_cons_self)))).mono ?_); rintro e W ⟨nm, aa, na, ca, aw, nw, cw, ar, nr, cr, ak, nk, ck, LN, j2, vj2, rfl, HN, HJ2, hb⟩; ((replace hL := hL.join1 1 rfl hb)); clear hb hF; simp only [List.eraseIdx_cons_zero, List.eraseIdx_cons_succ, List.cons_append, List.nil_append] at hL; have hF := hL.fx; replace hL := hL.in0; clear hF; have hF := hL.fx; obtain ⟨W1, rfl⟩ : ∃ W1 : World, W1 = W := ⟨_, rfl⟩))
  refine kn_wp ?_; clear hF hL; intro W hL; have hF := hL.fx
  have Hvj2 := Lib.hid HJ2.out.1
  have HB8 := HB9.out
  rw [HJ2.out.2] at HB8
  have HW1 := Lib.hid (fun W hB hb => want_c E b j2 vj2 d W hB hbb Hvj2 hb ⟨#[41]⟩)
  cases hw : want [41] ((TT tvs).drop j2) with
  | bad er m2 =>
   rw [show want (⟨#[41]⟩ : ByteArray).data.toList ((TT tvs).drop j2) = _ from hw] at HW1
   replace HB8 := Lib.hid (pr_bad HB8 hw)
   clear hw
   go_wp2_with (first | ((with_reducible refine zS ?_); clear hL; intro W hL hF) | (go_at_call 144; refine zG ?_; clear hF hL; intro W hL hF; (with_reducible refine (HW1.out _ (kn_bw HB0.out hL HXB.out) (by (exact hL.has _ (List.mem_cons_of_mem _ (List.mem_cons_of_mem _ List.mem_cons_self))))).mono ?_); rintro e W ⟨vj2, dj, rfl, hb⟩; ((replace hL := hL.join1 2 rfl hb)); clear hb hF; simp only [List.eraseIdx_cons_zero, List.eraseIdx_cons_succ, List.cons_append, List.nil_append] at hL; have hF := hL.fx))
   refine ⟨rfl, ?_⟩; rw [HB8.out]; exact ⟨vj2, dj, rfl, (hL.perml fun p => by simp only [List.countP_cons, List.countP_nil, List.countP_append, List.append_nil, List.nil_append, List.length_nil]; omega)⟩
  | ok u r3 =>
   rw [show want (⟨#[41]⟩ : ByteArray).data.toList ((TT tvs).drop j2) = _ from hw] at HW1
   replace HB8 := Lib.hid (pr_ok HB8 hw)
   clear hw
   go_wp2_with (first | ((with_reducible refine zS ?_); clear hL; intro W hL hF) | (go_at_call 144; refine zG ?_; clear hF hL; intro W hL hF; (with_reducible refine (HW1.out _ (kn_bw HB0.out hL HXB.out) (by (exact hL.has _ (List.mem_cons_of_mem _ (List.mem_cons_of_mem _ List.mem_cons_self))))).mono ?_); rintro e W ⟨_, j3, vj3, rfl, rfl, HJ3, hb⟩; ((replace hL := hL.join1 2 rfl hb)); clear hb hF; simp only [List.eraseIdx_cons_zero, List.eraseIdx_cons_succ, List.cons_append, List.nil_append] at hL; have hF := hL.fx))
   refine kn_body ?_; clear hF hL; intro W hL; simp only [kfb] at hL; have hF := hL.fx
   refine bodyPost_ret (by simp [results, Tryz.results136, go_sem, *]; try rfl) rfl ?_
   rw [HB8.out, HJ3.out.2]
   exact cls_out HN.out HJ3.out.1 (hL.perml fun p => by simp only [List.countP_cons, List.countP_nil, List.countP_append, List.append_nil, List.nil_append, List.length_nil]; omega)
theorem group_c {W0 : World} {g o cap : Nat} {tvs : List (Tok × Value)} (E : PEnv W0 g o cap tvs) {d : Nat} {so : Pa Nd} (HC : NodeC W0 g o cap tvs 162 d so) : BodyC W0 g o cap tvs 137 d (closed so 7 [125]) := by
 intro b i v w hB hbb hv hb
 have HCJ := Lib.hid (fun W hB hb => HC b i v W hB hbb hv hb)
 obtain ⟨PL, hpl⟩ : ∃ p : PR Nd, closed so 7 [125] ((TT tvs).drop i) = p := ⟨_, rfl⟩
 rw [hpl]
 unfold closed at hpl
 clear HC
 have HB0 := Lib.hid hB
 have HXB := Lib.hid (show ∀ y ∈ [b], W0.heap.size ≤ y from by simpa using hbb)
 have hL : Kn [b] w w [(b, .cells #[v, .int .i64 (d : Int)] 73 (0, 0))] := Kn.one hb
 have HBS := Lib.hid hb
 clear hB hb
 have hF := hL.fx
 cases hc : so ((TT tvs).drop i) with
 | bad er m2 =>
  rw [hc] at HCJ
  have HB9 := Lib.hid (pr_bad hpl.symm hc)
  clear hc hpl
  go_enter Tryz.func137, Tryz.ntmps137
  go_wp2_with (first | ((with_reducible refine zS ?_); clear hL; intro W hL hF) | (go_at_call 162; refine zG ?_; clear hF hL; intro W hL hF; (with_reducible refine (HCJ.out _ (kn_bw HB0.out hL HXB.out) (by (exact hL.has _ (List.mem_cons_of_mem _ List.mem_cons_self)))).mono ?_); rintro e W ⟨vj2, dj, rfl, hb⟩; ((replace hL := hL.join1 1 rfl hb)); clear hb hF; simp only [List.eraseIdx_cons_zero, List.eraseIdx_cons_succ, List.cons_append, List.nil_append] at hL; have hF := hL.fx))
  refine ⟨rfl, ?_⟩; rw [HB9.out]; exact ⟨vj2, dj, rfl, (hL.perml fun p => by simp only [List.countP_cons, List.countP_nil, List.countP_append, List.append_nil, List.nil_append, List.length_nil]; omega)⟩
 | ok x r =>
  rw [hc] at HCJ
  have HB9 := Lib.hid (pr_ok hpl.symm hc)
  clear hc hpl
  go_enter Tryz.func137, Tryz.ntmps137
  go_upto_region 2 with ((go_at_call 162; refine zG ?_; clear hF hL; intro W hL hF; (with_reducible refine (HCJ.out _ (kn_bw HB0.out hL HXB.out) (by (exact hL.has _ (List.mem_cons_of_mem _ List.mem_cons_self)))).mono ?_); rintro e W ⟨nm, aa, na, ca, aw, nw, cw, ar, nr, cr, ak, nk, ck, LN, j2, vj2, rfl, HN, HJ2, hb⟩; ((replace hL := hL.join1 1 rfl hb)); clear hb hF; simp only [List.eraseIdx_cons_zero, List.eraseIdx_cons_succ, List.cons_append, List.nil_append] at hL; have hF := hL.fx; replace hL := hL.in0; clear hF; have hF := hL.fx; obtain ⟨W1, rfl⟩ : ∃ W1 : World, W1 = W := ⟨_, rfl⟩))
  refine kn_wp ?_; clear hF hL; intro W hL; have hF := hL.fx
  have Hvj2 := Lib.hid HJ2.out.1
  have HB8 := HB9.out
  rw [HJ2.out.2] at HB8
  have HW1 := Lib.hid (fun W hB hb => want_c E b j2 vj2 d W hB hbb Hvj2 hb ⟨#[125]⟩)
  cases hw : want [125] ((TT tvs).drop j2) with
  | bad er m2 =>
   rw [show want (⟨#[125]⟩ : ByteArray).data.toList ((TT tvs).drop j2) = _ from hw] at HW1
   replace HB8 := Lib.hid (pr_bad HB8 hw)
   clear hw
   go_wp2_with (first | ((with_reducible refine zS ?_); clear hL; intro W hL hF) | (go_at_call 144; refine zG ?_; clear hF hL; intro W hL hF; (with_reducible refine (HW1.out _ (kn_bw HB0.out hL HXB.out) (by (exact hL.has _ (List.mem_cons_of_mem _ (List.mem_cons_of_mem _ List.mem_cons_self))))).mono ?_); rintro e W ⟨vj2, dj, rfl, hb⟩; ((replace hL := hL.join1 2 rfl hb)); clear hb hF; simp only [List.eraseIdx_cons_zero, List.eraseIdx_cons_succ, List.cons_append, List.nil_append] at hL; have hF := hL.fx))
   refine ⟨rfl, ?_⟩; rw [HB8.out]; exact ⟨vj2, dj, rfl, (hL.perml fun p => by simp only [List.countP_cons, List.countP_nil, List.countP_append, List.append_nil, List.nil_append, List.length_nil]; omega)⟩
  | ok u r3 =>
   rw [show want (⟨#[125]⟩ : ByteArray).data.toList ((TT tvs).drop j2) = _ from hw] at HW1
   replace HB8 := Lib.hid (pr_ok HB8 hw)
   clear hw
   go_wp2_with (first | ((with_reducible refine zS ?_); clear hL; intro W hL hF) | (go_at_call 144; refine zG ?_; clear hF hL; intro W hL hF; (with_reducible refine (HW1.out _ (kn_bw HB0.out hL HXB.out) (by (exact hL.has _ (List.mem_cons_of_mem _ (List.mem_cons_of_mem _ List.mem_cons_self))))).mono ?_); rintro e W ⟨_, j3, vj3, rfl, rfl, HJ3, hb⟩; ((replace hL := hL.join1 2 rfl hb)); clear hb hF; simp only [List.eraseIdx_cons_zero, List.eraseIdx_cons_succ, List.cons_append, List.nil_append] at hL; have hF := hL.fx))
   refine kn_body ?_; clear hF hL; intro W hL; simp only [kfb] at hL; have hF := hL.fx
   refine bodyPost_ret (by simp [results, Tryz.results137, go_sem, *]; try rfl) rfl ?_
   rw [HB8.out, HJ3.out.2]
   exact cls_out HN.out HJ3.out.1 (hL.perml fun p => by simp only [List.countP_cons, List.countP_nil, List.countP_append, List.append_nil, List.nil_append, List.length_nil]; omega)
end Go.Proofs.YtgboffbbpmileaaGreatDoor
set_option maxRecDepth 20000
set_option maxHeartbeats 4000000
set_option linter.unusedVariables false
set_option linter.unusedSimpArgs false
namespace Go.Proofs.YtgboffbbpmileaaGreatDoor
open Go Go.RowKit
theorem krow1 {t : TypeId} {g : Nat} {x : Value} : RowL 1 t [(g, .cells #[x] t (0, 0))] (.slice (some ⟨g, 0, none⟩) 1 1) 1 [x] :=
 .inr ⟨g, 1, _, rfl, rfl, rfl, by omega, by decide, rfl, rfl⟩
theorem word_at_le {l : List Tok} {j j2 : Nat} {ps : List Prt} {r : List Tok} (h : wordP (l.drop j) = .ok ps r) (hr : r = l.drop j2) (h1 : j ≤ l.length) (h2 : j2 ≤ l.length) : j + 1 ≤ j2 := by
 have := wi_word (l.drop j)
 rw [h] at this
 have := this.2
 rw [hr, List.length_drop, List.length_drop] at this
 omega
theorem arm_out {W0 : World} {b d j g o cap gq : Nat} {tvs : List (Tok × Value)} {w W : World} {vj : Value} {kind : Nat} {x : Nd} {wv : List (List Prt × Value)} {nm : ByteArray} {aa : Option Addr} {na : Nat} {ca : Nat} {aw : Option Addr} {nw : Nat} {cw : Nat} {ar : Option Addr} {nr : Nat} {cr : Nat} {ak : Option Addr} {nk : Nat} {ck : Nat} {awv : Option Addr} {cwv : Nat} {LN LW : List (Nat × Obj)} (HN : NodeL W0 LN x [.int .i64 (x.kind : Int), .string nm, .bool x.neg, .slice aa na ca, .slice aw nw cw, .slice ar nr cr, .slice ak nk ck]) (HRW : RowL 1 29 LW (.slice awv wv.length cwv) wv.length (wv.flatMap fun x => [x.2])) (HPW : ∀ x ∈ wv, PRm W0 [] x.2 x.1) (Hvj : AtV g o cap tvs j vj)
  (hL : Kn [b] w W ((b, .cells #[vj, .int .i64 (d : Int)] 73 (0, 0)) :: (gq, .cells #[.int .i64 (x.kind : Int), .string nm, .bool x.neg, .slice aa na ca, .slice aw nw cw, .slice ar nr cr, .slice ak nk ck] 41 (0, 0)) :: (LN ++ LW))) :
  NOut W0 b d g o cap tvs w (.ok (.mk kind [] false [] (wv.map (·.1)) [] [x]) ((TT tvs).drop j)) (.returned (.agg #[.int .i64 (kind : Int), .string ⟨#[]⟩, .bool false, .slice none 0 0, .slice awv wv.length cwv, .slice none 0 0, .slice (some ⟨gq, 0, none⟩) 1 1])) W :=
 ⟨⟨#[]⟩, none, 0, 0, awv, wv.length, cwv, none, 0, 0, some ⟨gq, 0, none⟩, 1, 1, (gq, .cells #[.int .i64 (x.kind : Int), .string nm, .bool x.neg, .slice aa na ca, .slice aw nw cw, .slice ar nr cr, .slice ak nk ck] 41 (0, 0)) :: (LN ++ LW), j, vj, rfl, Lib.hid (NodeL.of (name := []) (ks := [(x, [.int .i64 (x.kind : Int), .string nm, .bool x.neg, .slice aa na ca, .slice aw nw cw, .slice ar nr cr, .slice ak nk ck])]) (RowL.rowM (fun _ => rfl) HRW fun p hp => List.mem_cons_of_mem _ (List.mem_append_right _ hp)) (fun x hx => (HPW x hx).mono fun p hp => by cases hp) (RowM.one List.mem_cons_self (Nat.le_refl _)) (fun y hy => by rw [List.mem_singleton.1 hy]; exact HN.mono fun p hp => List.mem_cons_of_mem _ (List.mem_append_left _ hp))), Lib.hid ⟨Hvj, rfl⟩, hL⟩
theorem armW_no {T : Type} {ws : List (List Prt)} {ts : List Tok} {p : PR T} {F : List (List Prt) → List Tok → PR T} (hf : ∃ f, ts.length ≤ f ∧ p = (armW f ws ts).bind F) (h : isOp [124] ts = false) : p = F ws ts := by
 obtain ⟨f, _, hf⟩ := hf
 cases f with
 | zero => exact hf
 | succ f => rw [hf, armW, if_neg (by rw [h]; decide)]; rfl
theorem armW_yes {T : Type} {ws : List (List Prt)} {l : List Tok} {j : Nat} {p : PR T} {F : List (List Prt) → List Tok → PR T} (hf : ∃ f, (l.drop j).length ≤ f ∧ p = (armW f ws (l.drop j)).bind F) (h : isOp [124] (l.drop j) = true) :
  ∃ f, (l.drop (j + 1)).length ≤ f ∧ p = (wordP (l.drop (j + 1))).bind fun w r => (armW f (ws ++ [w]) r).bind F := by
 obtain ⟨f, hf1, hf⟩ := hf
 have := tail_lt (op_ne h)
 rw [drop_tail] at this
 cases f with
 | zero => omega
 | succ f =>
  refine ⟨f, by omega, ?_⟩
  rw [hf, armW, if_pos h, drop_tail, bind_bind]
theorem arm_c {W0 : World} {g o cap : Nat} {tvs : List (Tok × Value)} (E : PEnv W0 g o cap tvs) {d : Nat} {li : Pa Nd} (HC : NodeC W0 g o cap tvs 26 d li) : NodeC W0 g o cap tvs 165 d (arm li) := by
 intro b i v w hB hbb hv hb
 obtain ⟨k1, hk1⟩ : ∃ z : Bool, isOp [40] ((TT tvs).drop i) = z := ⟨_, rfl⟩
 have HK1 : Hid (isOp (⟨#[40]⟩ : ByteArray).data.toList ((TT tvs).drop i) = k1) := Lib.hid hk1
 obtain ⟨i1, hi1⟩ : ∃ z : Nat, (if k1 = true then i + 1 else i) = z := ⟨_, rfl⟩
 have HP : arm li ((TT tvs).drop i) = (wordP ((TT tvs).drop i1)).bind fun w r => (armW r.length [w] r).bind fun ws r => (want [41] r).bind fun _ r => (li r).bind fun n r => (want [59, 59] r).bind fun _ r => .ok (.mk 13 [] false [] ws [] [n]) r := by
  show (wordP (if isOp [40] ((TT tvs).drop i) then ((TT tvs).drop i).tail else (TT tvs).drop i)).bind _ = _
  rw [hk1, ← hi1]
  cases k1 <;> simp only [Bool.false_eq_true, if_false, if_true, List.tail_drop]
 obtain ⟨PL, hpl⟩ : ∃ p : PR Nd, arm li ((TT tvs).drop i) = p := ⟨_, rfl⟩
 rw [hpl]
 rw [hpl] at HP
 have HPL := Lib.hid HP
 have HI1 := Lib.hid hi1
 have HCC := Lib.hid HC
 clear hk1 hi1 HP HC hpl
 have hi := hv.out.1
 have hmx := E.max
 have HB0 := Lib.hid hB
 have HXB := Lib.hid (show ∀ y ∈ [b], W0.heap.size ≤ y from by simpa using hbb)
 have hL : Kn [b] w w [(b, .cells #[v, .int .i64 (d : Int)] 73 (0, 0))] := Kn.one hb
 have HBS := Lib.hid hb
 clear hB hb
 have hF := hL.fx
 go_enter Tryz.func165, Tryz.ntmps165
 go_upto_if 5 with ((go_at_call 52; refine zG ?_; clear hF hL; intro W hL hF; (((first | (with_reducible refine (op_c E b i v (d : Int) _ (kn_bw HB0.out hL HXB.out) hbb hv (by (exact hL.has _ (List.mem_cons_of_mem _ List.mem_cons_self))) ⟨#[40]⟩ _ HK1).mono ?_)))); rintro e W ⟨rfl, hb⟩; replace hL := hL.below hb; clear hb hF; have hF := hL.fx))
 go_cut [] (fun wc => ∃ (vj : Value), Hid (AtV g o cap tvs i1 vj) ∧ Kn [b] w wc ((b, .cells #[vj, .int .i64 (d : Int)] 73 (0, 0)) :: (w.heap.size, .cells #[.int .i64 0, .string ⟨#[]⟩, .bool false, .slice none 0 0, .slice none 0 0, .slice none 0 0, .slice none 0 0] 41 (0, 0)) :: []))
 case first =>
  cases k1
  ·obtain rfl : i = i1 := HI1.out
   go_wp2
   go_meet
   case rel => exact ⟨v, hv, by refine Kn.name ?_; clear hL; intro hL; exact (hL.perml fun p => by simp only [List.countP_cons, List.countP_nil, List.countP_append, List.append_nil, List.nil_append, List.length_nil]; omega)⟩
  ·have HNE := Lib.hid (op_ne HK1.out)
   obtain rfl : i + 1 = i1 := HI1.out
   go_wp2_with (first | ((with_reducible refine zS ?_); clear hL; intro W hL hF) | (go_at_call 53; refine zG ?_; clear hF hL; intro W hL hF; (with_reducible refine (pass_c E b i v (d : Int) _ (kn_bw HB0.out hL HXB.out) hbb hv (by (exact hL.has _ (List.mem_cons_of_mem _ List.mem_cons_self))) HNE.out).mono ?_); rintro e W ⟨x1, pa1, pn1, pc1, vj, rfl, HTX, HVJ, hb⟩; ((replace hL := hL.join1 1 rfl hb)); clear hb hF; simp only [List.eraseIdx_cons_zero, List.eraseIdx_cons_succ, List.cons_append, List.nil_append] at hL; have hF := hL.fx))
   go_meet
   case rel => exact ⟨vj, HVJ, by refine Kn.name ?_; clear hL; intro hL; exact (hL.perml fun p => by simp only [List.countP_cons, List.countP_nil, List.countP_append, List.append_nil, List.nil_append, List.length_nil]; omega)⟩
 case rest =>
  clear hL
  obtain ⟨vj, Hvj, hL⟩ := hcut
  have hF := hL.fx
  have hi1 := Hvj.out.1
  have hi2 : i1 ≤ i + 1 := by rw [← HI1.out]; split <;> omega
  have HWD := Lib.hid (fun W hB hb => word_c E b i1 vj d W hB hbb Hvj hb)
  cases hw : wordP ((TT tvs).drop i1) with
  | bad er m2 =>
   rw [hw] at HWD
   have HB9 := Lib.hid (pr_bad HPL.out hw)
   clear hw
   go_wp2_with (first | ((with_reducible refine zS ?_); clear hL; intro W hL hF) | (go_at_call 164; refine zG ?_; clear hF hL; intro W hL hF; (with_reducible refine (HWD.out _ (kn_bw HB0.out hL HXB.out) (by (exact hL.has _ List.mem_cons_self))).mono ?_); rintro e W ⟨vj2, dj, rfl, hb⟩; ((replace hL := hL.join1 0 rfl hb)); clear hb hF; simp only [List.eraseIdx_cons_zero, List.eraseIdx_cons_succ, List.cons_append, List.nil_append] at hL; have hF := hL.fx))
   refine ⟨rfl, ?_⟩; rw [HB9.out]; exact ⟨vj2, dj, rfl, (hL.perml fun p => by simp only [List.countP_cons, List.countP_nil, List.countP_append, List.append_nil, List.nil_append, List.length_nil]; omega)⟩
  | ok ps r =>
   rw [hw] at HWD
   have HB9 := Lib.hid (pr_ok HPL.out hw)
   have HLE := Lib.hid (fun j2 (hr : r = (TT tvs).drop j2) (h : j2 < tvs.length) => word_at_le (l := TT tvs) hw hr (by rw [TT_len]; omega) (by rw [TT_len]; omega))
   clear hw
   go_wp2_with (first | ((with_reducible refine zS ?_); clear hL; intro W hL hF) | (go_at_call 164; refine zG ?_; clear hF hL; intro W hL hF; (with_reducible refine (HWD.out _ (kn_bw HB0.out hL HXB.out) (by (exact hL.has _ List.mem_cons_self))).mono ?_); rintro e W ⟨_, j2, vj2, rfl, ⟨x2, pa2, pn2, pc2, hm2, hq2, rfl, hps⟩, HJ2, hb⟩; ((replace hL := hL.join1 0 rfl hb)); clear hb hF; simp only [List.eraseIdx_cons_zero, List.eraseIdx_cons_succ, List.cons_append, List.nil_append] at hL; have hF := hL.fx; have g3 := tkf3 x2.1.kind x2.1.fd x2.1.line ⟨x2.1.text.toArray⟩ ⟨x2.1.plain.toArray⟩ pa2 pn2 pc2; obtain ⟨W1, rfl⟩ : ∃ W1 : World, W1 = W := ⟨_, rfl⟩))
   have hj2 := HJ2.out.1.1
   have hle := HLE.out _ HJ2.out.2 hj2
   go_loopg [] (tvs.length - j2) (fun n wr => ∃ (j : Nat) (vj : Value) (wv : List (List Prt × Value)) (aw : Option Addr) (cw : Nat) (LW : List (Nat × Obj)), n = tvs.length - j ∧ Hid (AtV g o cap tvs j vj) ∧ Hid (∃ f, ((TT tvs).drop j).length ≤ f ∧ PL = (armW f (wv.map (·.1)) ((TT tvs).drop j)).bind fun ws r => (want [41] r).bind fun _ r => (li r).bind fun n r => (want [59, 59] r).bind fun _ r => .ok (.mk 13 [] false [] ws [] [n]) r) ∧ Hid (RowL 1 29 LW (.slice aw wv.length cw) wv.length (wv.flatMap fun x => [x.2])) ∧ Hid (∀ x ∈ wv, PRm W0 [] x.2 x.1) ∧ wv.length ≤ j ∧ j < tvs.length ∧ Kn [b] w wr ((b, .cells #[vj, .int .i64 (d : Int)] 73 (0, 0)) :: (W1.heap.size + 1, .cells #[.int .i64 13, .string ⟨#[]⟩, .bool false, .slice none 0 0, .slice aw wv.length cw, .slice none 0 0, .slice none 0 0] 41 (0, 0)) :: (w.heap.size, .cells #[.int .i64 0, .string ⟨#[]⟩, .bool false, .slice none 0 0, .slice none 0 0, .slice none 0 0, .slice none 0 0] 41 (0, 0)) :: LW))
   case atStart => exact ⟨j2, vj2, [(ps, .slice pa2 pn2 pc2)], some ⟨W1.heap.size, 0, none⟩, 1, [(W1.heap.size, .cells #[.slice pa2 pn2 pc2] 29 (0, 0))], rfl, Lib.hid HJ2.out.1, Lib.hid (by have h9 := HB9.out; rw [HJ2.out.2] at h9; exact ⟨_, Nat.le_refl _, h9⟩), Lib.hid krow1, Lib.hid (fun x hx => by rw [List.mem_singleton.1 hx]; have := prm_tok E hm2 (L := []); rw [hq2, ← hps] at this; exact this), by simp only [List.length_singleton]; omega, hj2, by refine Kn.name ?_; clear hL; intro hL; simp only [List.length_append, List.length_singleton]; exact (hL.perml fun p => by simp only [List.countP_cons, List.countP_nil, List.countP_append, List.append_nil, List.nil_append, List.length_nil]; omega)⟩
   case round => (
    clear hL
    obtain ⟨j, vj, wv, aw, cw, LW, rfl, Hvj, HF, HRW, HPW, hsz, hjl, hL⟩ := hrel
    have hF := hL.fx
    obtain ⟨k3, hk3⟩ : ∃ z : Bool, isOp [124] ((TT tvs).drop j) = z := ⟨_, rfl⟩
    have HK3 : Hid (isOp (⟨#[124]⟩ : ByteArray).data.toList ((TT tvs).drop j) = k3) := Lib.hid hk3
    clear hk3
    cases k3
    ·have HB1 := Lib.hid (armW_no HF.out HK3.out)
     go_upto_region 7 with ((go_at_call 52; refine zG ?_; clear hF hL; intro W hL hF; (((first | (with_reducible refine (op_c E b j vj (d : Int) _ (kn_bw HB0.out hL HXB.out) hbb Hvj (by (exact hL.has _ List.mem_cons_self)) ⟨#[124]⟩ _ HK3).mono ?_)))); rintro e W ⟨rfl, hb⟩; replace hL := hL.below hb; clear hb hF; have hF := hL.fx))
     have HB2 := HB1.out
     have HW1 := Lib.hid (fun W hB hb => want_c E b j vj d W hB hbb Hvj hb ⟨#[41]⟩)
     cases hw : want [41] ((TT tvs).drop j) with
     | bad er m2 =>
      rw [show want (⟨#[41]⟩ : ByteArray).data.toList ((TT tvs).drop j) = _ from hw] at HW1
      replace HB2 := Lib.hid (pr_bad HB2 hw)
      clear hw
      go_wp2_with (first | ((with_reducible refine zS ?_); clear hL; intro W hL hF) | (go_at_call 144; refine zG ?_; clear hF hL; intro W hL hF; (with_reducible refine (HW1.out _ (kn_bw HB0.out hL HXB.out) (by (exact hL.has _ List.mem_cons_self))).mono ?_); rintro e W ⟨vj2, dj, rfl, hb⟩; ((replace hL := hL.join1 0 rfl hb)); clear hb hF; simp only [List.eraseIdx_cons_zero, List.eraseIdx_cons_succ, List.cons_append, List.nil_append] at hL; have hF := hL.fx))
      refine ⟨rfl, ?_⟩; rw [HB2.out]; exact ⟨vj2, dj, rfl, (hL.perml fun p => by simp only [List.countP_cons, List.countP_nil, List.countP_append, List.append_nil, List.nil_append, List.length_nil]; omega)⟩
     | ok u r3 =>
      rw [show want (⟨#[41]⟩ : ByteArray).data.toList ((TT tvs).drop j) = _ from hw] at HW1
      replace HB2 := pr_ok HB2 hw
      clear hw
      replace HB2 := Lib.hid HB2
      go_upto_region 8 with ((go_at_call 144; refine zG ?_; clear hF hL; intro W hL hF; (with_reducible refine (HW1.out _ (kn_bw HB0.out hL HXB.out) (by (exact hL.has _ List.mem_cons_self))).mono ?_); rintro e W ⟨_, j3, vj3, rfl, rfl, HJ3, hb⟩; ((replace hL := hL.join1 0 rfl hb)); clear hb hF; simp only [List.eraseIdx_cons_zero, List.eraseIdx_cons_succ, List.cons_append, List.nil_append] at hL; have hF := hL.fx))
      have Hvj3 := Lib.hid HJ3.out.1
      have HB3 := HB2.out
      rw [HJ3.out.2] at HB3
      have HCJ := Lib.hid (fun W hB hb => HCC.out b j3 vj3 W hB hbb Hvj3 hb)
      cases hc : li ((TT tvs).drop j3) with
      | bad er m2 =>
       rw [hc] at HCJ
       replace HB3 := Lib.hid (pr_bad HB3 hc)
       clear hc
       go_wp2_with (first | ((with_reducible refine zS ?_); clear hL; intro W hL hF) | (go_at_call 26; refine zG ?_; clear hF hL; intro W hL hF; (with_reducible refine (HCJ.out _ (kn_bw HB0.out hL HXB.out) (by (exact hL.has _ List.mem_cons_self))).mono ?_); rintro e W ⟨vj2, dj, rfl, hb⟩; ((replace hL := hL.join1 0 rfl hb)); clear hb hF; simp only [List.eraseIdx_cons_zero, List.eraseIdx_cons_succ, List.cons_append, List.nil_append] at hL; have hF := hL.fx))
       refine ⟨rfl, ?_⟩; rw [HB3.out]; exact ⟨vj2, dj, rfl, (hL.perml fun p => by simp only [List.countP_cons, List.countP_nil, List.countP_append, List.append_nil, List.nil_append, List.length_nil]; omega)⟩
      | ok n r4 =>
       rw [hc] at HCJ
       replace HB3 := Lib.hid (pr_ok HB3 hc)
       clear hc
       go_upto_region 9 with ((go_at_call 26; refine zG ?_; clear hF hL; intro W hL hF; (with_reducible refine (HCJ.out _ (kn_bw HB0.out hL HXB.out) (by (exact hL.has _ List.mem_cons_self))).mono ?_); rintro e W ⟨nm, aa, na, ca, aw, nw, cw, ar, nr, cr, ak, nk, ck, LN, j4, vj4, rfl, HN, HJ4, hb⟩; ((replace hL := hL.join1 0 rfl hb)); clear hb hF; simp only [List.eraseIdx_cons_zero, List.eraseIdx_cons_succ, List.cons_append, List.nil_append] at hL; have hF := hL.fx; replace hL := hL.inP; clear hF; have hF := hL.fx; obtain ⟨W2, rfl⟩ : ∃ W2 : World, W2 = W := ⟨_, rfl⟩))
       refine kn_wp ?_; clear hF hL; intro W hL; simp only [kfb] at hL; have hF := hL.fx
       have Hvj4 := Lib.hid HJ4.out.1
       have HB4 := HB3.out
       rw [HJ4.out.2] at HB4
       have HW2 := Lib.hid (fun W hB hb => want_c E b j4 vj4 d W hB hbb Hvj4 hb ⟨#[59, 59]⟩)
       cases hw : want [59, 59] ((TT tvs).drop j4) with
       | bad er m2 =>
        rw [show want (⟨#[59, 59]⟩ : ByteArray).data.toList ((TT tvs).drop j4) = _ from hw] at HW2
        replace HB4 := Lib.hid (pr_bad HB4 hw)
        clear hw
        go_wp2_with (first | ((with_reducible refine zS ?_); clear hL; intro W hL hF) | (go_at_call 144; refine zG ?_; clear hF hL; intro W hL hF; (with_reducible refine (HW2.out _ (kn_bw HB0.out hL HXB.out) (by (exact hL.has _ (List.mem_cons_of_mem _ List.mem_cons_self)))).mono ?_); rintro e W ⟨vj2, dj, rfl, hb⟩; ((replace hL := hL.join1 1 rfl hb)); clear hb hF; simp only [List.eraseIdx_cons_zero, List.eraseIdx_cons_succ, List.cons_append, List.nil_append] at hL; have hF := hL.fx))
        refine ⟨rfl, ?_⟩; rw [HB4.out]; exact ⟨vj2, dj, rfl, (hL.perml fun p => by simp only [List.countP_cons, List.countP_nil, List.countP_append, List.append_nil, List.nil_append, List.length_nil]; omega)⟩
       | ok u r5 =>
        rw [show want (⟨#[59, 59]⟩ : ByteArray).data.toList ((TT tvs).drop j4) = _ from hw] at HW2
        replace HB4 := Lib.hid (pr_ok HB4 hw)
        clear hw
        go_wp2_with (first | ((with_reducible refine zS ?_); clear hL; intro W hL hF) | (go_at_call 144; refine zG ?_; clear hF hL; intro W hL hF; (with_reducible refine (HW2.out _ (kn_bw HB0.out hL HXB.out) (by (exact hL.has _ (List.mem_cons_of_mem _ List.mem_cons_self)))).mono ?_); rintro e W ⟨_, j5, vj5, rfl, rfl, HJ5, hb⟩; ((replace hL := hL.join1 1 rfl hb)); clear hb hF; simp only [List.eraseIdx_cons_zero, List.eraseIdx_cons_succ, List.cons_append, List.nil_append] at hL; have hF := hL.fx))
        refine kn_body ?_; clear hF hL; intro W hL; simp only [kfb] at hL; have hF := hL.fx
        refine bodyPost_ret (by simp [results, Tryz.results165, go_sem, *]; try rfl) rfl ?_
        rw [HB4.out, HJ5.out.2]
        exact arm_out HN.out HRW.out HPW.out HJ5.out.1 (hL.perml fun p => by simp only [List.countP_cons, List.countP_nil, List.countP_append, List.append_nil, List.nil_append, List.length_nil]; omega)
    ·have HNE2 := Lib.hid (op_ne HK3.out)
     go_upto_region 6 with (first | (go_at_call 52; refine zG ?_; clear hF hL; intro W hL hF; (((first | (with_reducible refine (op_c E b j vj (d : Int) _ (kn_bw HB0.out hL HXB.out) hbb Hvj (by (exact hL.has _ List.mem_cons_self)) ⟨#[124]⟩ _ HK3).mono ?_)))); rintro e W ⟨rfl, hb⟩; replace hL := hL.below hb; clear hb hF; have hF := hL.fx) | (go_at_call 53; refine zG ?_; clear hF hL; intro W hL hF; (with_reducible refine (pass_c E b j vj (d : Int) _ (kn_bw HB0.out hL HXB.out) hbb Hvj (by (exact hL.has _ List.mem_cons_self)) HNE2.out).mono ?_); rintro e W ⟨x1, pa1, pn1, pc1, vj1, rfl, HTX2, HVJ1, hb⟩; ((replace hL := hL.join1 0 rfl hb)); clear hb hF; simp only [List.eraseIdx_cons_zero, List.eraseIdx_cons_succ, List.cons_append, List.nil_append] at hL; have hF := hL.fx))
     have HF2 := armW_yes HF.out HK3.out
     have HWD2 := Lib.hid (fun W hB hb => word_c E b (j + 1) vj1 d W hB hbb HVJ1 hb)
     have hj1 := HVJ1.out.1
     cases hw2 : wordP ((TT tvs).drop (j + 1)) with
     | bad er m2 =>
      rw [hw2] at HWD2
      have HB8 := Lib.hid (by obtain ⟨f, _, hf⟩ := HF2; exact pr_bad hf hw2 : PL = .bad er m2)
      clear hw2 HF2
      go_wp2_with (first | ((with_reducible refine zS ?_); clear hL; intro W hL hF) | ((with_reducible refine at_region 6 ?_); refine kn_wp ?_; clear hF hL; intro W hL; have hF := hL.fx; refine kn_regionP [0, 1, 2, 3, 4, 5, 6, 7, 8] [0, 1, 2, 4, 7] [6, 8] [0, 2, 4, 7] (by kernel_rfl) (by kernel_rfl) (List.Sublist.cons _ (List.Sublist.cons_cons _ (List.nil_sublist _))) ?_; clear hF hL; intro Qp hQp; replace hQp := Lib.hid hQp; intro ι F hne hC hFF; have hG := fun n => (hFF n).fx; clear hFF; (repeat (first | (refine cS ?_) | (refine cF hC ?_; intro K hK; go_big_quiet_op; go_big_quiet_on) | (refine cP ?_; intro K hK; go_big_quiet_op; go_big_quiet_on) | (refine cwk_callP rfl (by rfl) (by rfl) (fun _ => rfl) ?_; intro W hL; have hF := hL.fx; simp only [zA, Act.eval]; go_at_call 164; (with_reducible refine (HWD2.out _ (kn_bw HB0.out hL HXB.out) (by (exact hL.has _ List.mem_cons_self))).mono ?_); rintro e W ⟨vj2, dj, rfl, hb⟩; ((replace hL := hL.join1 0 rfl hb)); clear hb hF; simp only [List.eraseIdx_cons_zero, List.eraseIdx_cons_succ, List.cons_append, List.nil_append] at hL; have hF := hL.fx; refine ⟨_, rfl, hQp.out _ _ ?_⟩; clear hQp; intro a' ha; simp only [Exit.then, Exit.inBlock]; refine ⟨ha, ?_⟩; show NOut W0 b d g o cap tvs w (PL) _ _; rw [HB8.out]; exact ⟨vj2, dj, rfl, (hL.perml fun p => by simp only [List.countP_cons, List.countP_nil, List.countP_append, List.append_nil, List.nil_append, List.length_nil]; omega)⟩) | (refine cN ?_; intro W hL; have hF := hL.facts; go_wp2; refine zB2 ?_; clear hL hC hG; intro ι F hne hC hG))); ((done))))
     | ok ps r =>
      rw [hw2] at HWD2
      have HF3 := Lib.hid (by obtain ⟨f, hf1, hf⟩ := HF2; exact ⟨f, hf1, pr_ok hf hw2⟩ : ∃ f, ((TT tvs).drop (j + 1)).length ≤ f ∧ PL = (armW f (wv.map (·.1) ++ [ps]) r).bind fun ws r => (want [41] r).bind fun _ r => (li r).bind fun n r => (want [59, 59] r).bind fun _ r => .ok (.mk 13 [] false [] ws [] [n]) r)
      have HLE2 := Lib.hid (fun j2 (hr : r = (TT tvs).drop j2) (h : j2 < tvs.length) => word_at_le (l := TT tvs) hw2 hr (by rw [TT_len]; omega) (by rw [TT_len]; omega))
      clear hw2 HF2
      go_wp2_with (first | ((with_reducible refine zS ?_); clear hL; intro W hL hF) | ((with_reducible refine at_region 6 ?_); refine kn_wp ?_; clear hF hL; intro W hL; have hF := hL.fx; refine kn_region [0, 1, 2, 3, 4, 5, 6, 7, 8] [0, 1, 2, 4, 7] [6, 8] [0, 2, 4, 7] (by kernel_rfl) (by kernel_rfl) (List.Sublist.cons _ (List.Sublist.cons_cons _ (List.nil_sublist _))) ?_; clear hF hL; intro ι F hne hC hFF; have hG := fun n => (hFF n).fx; clear hFF; (repeat (first | (refine cS ?_) | (refine cF hC ?_; intro K hK; go_big_quiet_op; go_big_quiet_on) | (refine cP ?_; intro K hK; go_big_quiet_op; go_big_quiet_on) | (refine cC ?_; intro W hL; have hF := hL.fx; simp only [zA, Act.eval]; go_at_call 164; (with_reducible refine (HWD2.out _ (kn_bw HB0.out hL HXB.out) (by (exact hL.has _ List.mem_cons_self))).mono ?_); rintro e W ⟨_, j2, vj2, rfl, ⟨x2, pa2, pn2, pc2, hm2, hq2, rfl, hps⟩, HJ2, hb⟩; ((replace hL := hL.join1 0 rfl hb)); clear hb hF; simp only [List.eraseIdx_cons_zero, List.eraseIdx_cons_succ, List.cons_append, List.nil_append] at hL; have hF := hL.fx; have g3 := tkf3 x2.1.kind x2.1.fd x2.1.line ⟨x2.1.text.toArray⟩ ⟨x2.1.plain.toArray⟩ pa2 pn2 pc2; refine owed_ret ?_; ((refine owed0 _ (by repeat' (first | (with_reducible exact List.nil_sublist _) | (with_reducible apply List.Sublist.cons_cons) | (with_reducible apply List.Sublist.cons))) ?_; clear hL hF)); simp only [Act.put, zT]) | (refine cN ?_; intro W hL; have hF := hL.fx; at_builtin; go_loud (refine wpList_append_end rfl _ _ 37 37 rfl [_, _, _, _] LW hL wv.length 1 (wv.flatMap fun x => [x.2]) [.slice pa2 pn2 pc2] _ _ HRW.out rfl rfl (fun ho => run_append_Wd rfl (fun j u hu => by rw [Go.WideShapes.add_plain, Nat.zero_add, kn_cell hL List.mem_cons_self]; simpa using hu) (by intro u hu; simp only [List.mem_cons, List.not_mem_nil, or_false] at hu; subst hu; rfl) (by omega) ho) ?_); intro LP3 a3 c3 W3 hL2 hr3; clear hL hF; have hL := hL2; clear hL2; simp only [List.append_eq, List.cons_append, List.nil_append] at hL; have hF := hL.fx; go_wp2; refine zB2 ?_; clear hL hF hC hG; intro ι F hne hC hG) | (refine cN ?_; intro W hL; have hF := hL.fx; go_wp2; refine anchQ_normal ?_; (first | (refine owedB _ (by rfl) ?_; clear hL hF hC hG; intro ι F hne hC hFF; have hG := fun n => (hFF n).fx; clear hFF) | (refine owed0 _ (by repeat' (first | (with_reducible exact List.nil_sublist _) | (with_reducible apply List.Sublist.cons_cons) | (with_reducible apply List.Sublist.cons))) ?_; clear hL hF))))); refine cwk_nil ?_; clear hC hG; intro W hL; simp only [kfb] at hL; have hF := hL.fx))
      have hj4 := HJ2.out.1.1
      have hle2 := HLE2.out _ HJ2.out.2 hj4
      go_roundg (tvs.length - j2)
      case measure => omega
      case rel => exact ⟨j2, vj2, wv ++ [(ps, .slice pa2 pn2 pc2)], a3, c3, LP3, rfl, Lib.hid HJ2.out.1, Lib.hid (by obtain ⟨f, hf1, hf⟩ := HF3.out; rw [HJ2.out.2] at hf; exact ⟨f, by rw [List.length_drop] at hf1 ⊢; omega, by simpa using hf⟩), Lib.hid (by simpa using hr3), Lib.hid (all_snoc HPW.out (by have := prm_tok E hm2 (L := []); rw [hq2, ← hps] at this; exact this)), by simp only [List.length_append, List.length_singleton]; omega, hj4, by refine Kn.name ?_; clear hL; intro hL; simp only [List.length_append, List.length_singleton]; exact (hL.perml fun p => by simp only [List.countP_cons, List.countP_nil, List.countP_append, List.append_nil, List.nil_append, List.length_nil]; omega)⟩)
end Go.Proofs.YtgboffbbpmileaaGreatDoor
