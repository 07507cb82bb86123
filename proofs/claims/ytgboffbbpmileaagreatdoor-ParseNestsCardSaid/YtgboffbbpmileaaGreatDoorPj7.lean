/- Lemmas and walks for the law of this seat (part 7). -/
import Derived.Test.YtgboffbbpmileaaGreatDoorPj6
import Derived.Test.YtgboffbbpmileaaGreatDoorProg
import Derived.WalkKit
import Derived.Handy
import Derived.Deep.Light
import Derived.WalkSmall
import Derived.StillTailTactics
import Derived.Lib.Hide
import Derived.Deep.LoopGhost
import Derived.Laws.IdiomStrings
import Derived.Laws.BytesArg
set_option maxRecDepth 20000
set_option maxHeartbeats 4000000
set_option linter.unusedVariables false
set_option linter.unusedSimpArgs false
namespace Go.Proofs.YtgboffbbpmileaaGreatDoor
open Go Go.RowKit
theorem Kn.drop1 {X : List Nat} {w0 W : World} {a : Nat × Obj} {P : List (Nat × Obj)} (h : Kn X w0 W (a :: P)) : Kn X w0 W P := h.sub (List.sublist_cons_self _ _)
theorem Kn.selfbq {X : List Nat} {w0 W : World} {b q : Nat} {o o' : Obj} {P : List (Nat × Obj)} (h : Kn X w0 W ((b, o) :: (q, o') :: P)) : Kn (b :: q :: keys P) W W ((b, o) :: (q, o') :: P) := h.self0
theorem Sz.le {at_ ln n : Nat} {ps : List Prt} (h : Sz at_ ln ps) (ha : at_ ≤ n) (hn : n ≤ 10000) : ln ≤ 100000 ∧ ps.length ≤ 50000 ∧ tot ps ≤ 500000 := by
 obtain ⟨h1, h2⟩ := h
 unfold sz at h1
 omega
theorem double_is (src : ByteArray) (hs0 : src.size ≤ 10000) (v : Value) (b q : Nat) (at0 ln0 : Nat) (pv0 : Value) (LP0 : List (Nat × Obj)) (ps0 : List Prt) (w : World) (hL : Kn (b :: q :: keys LP0) w w ((b, .cells #[.string src, .int .i64 (at0), .int .i64 (ln0), v] 111 (0, 0)) :: (q, .cells #[pv0] 135 (0, 0)) :: LP0)) (hP0 : PtL LP0 pv0 ps0) (hz : Sz at0 ln0 ps0) (t : Bytes) (hd : src.data.toList.drop at0 = 34 :: t) :
  Calls Tryz.prog 114 #[.pointer (some ⟨b, 0, none⟩), .pointer (some ⟨q, 0, none⟩)] w (SPost src v b q (b :: q :: keys LP0) w (dbl ln0 (addT ps0 [] true, t, ln0))) := by
 have hsl := szl src
 have hs : src.size ≤ 100000 := by omega
 obtain ⟨V, hV⟩ : ∃ V, dbl ln0 (addT ps0 [] true, t, ln0) = V := ⟨_, rfl⟩
 rw [hV]
 obtain ⟨d1, d2, d3⟩ := one_parts hd
 rw [hsl] at d3
 obtain ⟨b1, b2, b3⟩ := hz.le (Nat.le_of_lt d3) hs0
 have HZ : Hid (Sz (at0 + 1) ln0 (addT ps0 [] true)) := Lib.hid (by
  obtain ⟨h1, h2⟩ := hz
  have h3 := addT_sz ps0 [] true
  simp only [List.length_nil] at h3
  exact ⟨by omega, by omega⟩)
 have HV : Hid (dbl ln0 (addT ps0 [] true, src.data.toList.drop (at0 + 1), ln0) = V) := Lib.hid (by rw [d2]; exact hV)
 have HX : Hid (src.data.toList.drop at0 = [34] ++ t) := Lib.hid hd
 clear hV d1 d2 hd
 have HLn : Hid (∀ src at_ (line : Int) v, (.cells #[.string src, .int .i64 at_, .int .i64 line, v] 111 (0, 0) : Obj) = .cells #[.string src, .int .i64 at_, .int .i64 line, v] 111 (0, 0)) := Lib.hid fun _ _ _ _ => rfl
 have hF := hL.fx
 go_enter Tryz.func114, Tryz.ntmps114
 go_wp2_with (first | ((with_reducible refine zS ?_); clear hL; intro W hL hF) | (go_at_call 113; refine zG ?_; clear hF hL; intro W hL hF; (with_reducible refine (text_is q pv0 _ LP0 ps0 (by (exact hL.self1q)) hP0 ⟨#[]⟩ true (by omega) (by rw [nil_sz]; omega)).mono ?_); rintro e W2 ⟨rfl, pv2, LP2, hP2, hb⟩; ((replace hL := hL.tail1 hb)); clear hb hF hP0; have hP := hP2; clear hP2; have hF := hL.fx) | (go_at_call 80; refine zG ?_; clear hF hL; intro W hL hF; (with_reducible refine (skip_nat src at0 [34] t ln0 v b _ (by (exact hL.has _ List.mem_cons_self)) HX.out (by simp) hs (by omega) _ (by (simp; done))).mono ?_); rintro e W ⟨rfl, hb⟩; ((replace hL := hL.join1 0 rfl hb)); clear hb hF; simp only [List.eraseIdx_cons_zero, List.eraseIdx_cons_succ, List.cons_append, List.nil_append] at hL; have hF := hL.fx))
 have hP1 : PtL LP2 pv2 (addT ps0 [] true) := hP
 clear hP
 have hz34 : lf [34] = 0 := rfl
 rw [hz34] at hL
 clear hz34
 go_loopg [] (src.size - (at0 + 1)) (fun k wr => ∃ (at_ ln : Nat) (pv : Value) (LP : List (Nat × Obj)) (ps : List Prt), Hid (k = src.size - at_) ∧ at_ ≤ src.size ∧ Hid (Sz at_ ln ps) ∧ PtL LP pv ps ∧ Kn (b :: q :: keys LP0) w wr ((b, .cells #[.string src, .int .i64 (at_), .int .i64 (ln), v] 111 (0, 0)) :: (q, .cells #[pv] 135 (0, 0)) :: LP) ∧ Hid (dbl ln0 (ps, src.data.toList.drop at_, ln) = V))
 case atStart => exact ⟨at0 + 1, ln0, pv2, LP2, _, Lib.hid rfl, by omega, HZ, hP1, by simpa using hL, HV⟩
 case round =>
  clear hL HZ HV hP1 HX HLn hz
  obtain ⟨at_, ln, pv, LP, ps, HK, hle, HZ, hP, hL, HV⟩ := hrel
  obtain ⟨b4, b5, b6⟩ := HZ.out.le hle hs0
  clear b1 b2 b3
  have hF := hL.fx
  by_cases hlt : at_ < src.size
  ·obtain ⟨c0, hc0⟩ : ∃ c, src.data.toList[at_]? = some c := ⟨_, List.getElem?_eq_getElem (by rw [szl]; omega)⟩
   have eb0 := byte_at hc0 (by omega)
   have hd0 : src.data.toList.drop (at_) = c0 :: src.data.toList.drop (at_ + 1) := by
    obtain ⟨h1, h2⟩ := List.getElem?_eq_some_iff.1 hc0
    rw [List.drop_eq_getElem_cons h1, h2]
   by_cases h34 : c0 = 34
   ·subst h34
    have hxx : src.data.toList.drop at_ = [34] ++ src.data.toList.drop (at_ + 1) := hd0
    have HX := Lib.hid hxx
    have hV : V = .ok (ps, src.data.toList.drop (at_ + 1), ln) := by rw [← HV.out, hd0, dbl_end]
    have HVV := Lib.hid hV
    clear hxx hd0 hV
    go_wp2_with (first | ((with_reducible refine zS ?_); clear hL; intro W hL hF) | ((with_reducible refine at_region 5 ?_); refine zW [0, 1, 2, 3, 4, 5, 6, 7, 8, 9, 10] [0, 1, 2, 3, 4, 5, 6, 7, 8, 9, 10] [] [0, 1, 2, 4, 5, 6, 8, 9, 10] ?_; clear hF hL; intro ι F hne hC hG; (repeat (first | (refine cF hC ?_; intro K hK; go_big_quiet_op; go_big_quiet_on) | (refine cP ?_; intro K hK; go_big_quiet_op; go_big_quiet_on))); refine cwk_nil ?_; clear hC hG; intro W hL; have hF := hL.fx) | ((with_reducible refine at_region 7 ?_); refine zW [0, 1, 2, 3, 4, 5, 6, 7, 8, 9, 10] [0, 1, 2, 3, 4, 5, 6, 7, 8, 9, 10] [] [0, 1, 2, 4, 5, 6, 8, 9, 10] ?_; clear hF hL; intro ι F hne hC hG; (repeat (first | (refine cF hC ?_; intro K hK; go_big_quiet_op; go_big_quiet_on) | (refine cP ?_; intro K hK; go_big_quiet_op; go_big_quiet_on))); refine cwk_nil ?_; clear hC hG; intro W hL; have hF := hL.fx) | (go_at_call 80; refine zG ?_; clear hF hL; intro W hL hF; (with_reducible refine (skip_nat src at_ [34] (src.data.toList.drop (at_ + 1)) ln v b _ (by (exact hL.has _ List.mem_cons_self)) HX.out (by simp) hs (by omega) _ (by (simp; done))).mono ?_); rintro e W ⟨rfl, hb⟩; ((replace hL := hL.join1 0 rfl hb)); clear hb hF; simp only [List.eraseIdx_cons_zero, List.eraseIdx_cons_succ, List.cons_append, List.nil_append] at hL; have hF := hL.fx))
    refine bodyPost_ret (by simp [results, Tryz.results114, go_sem, *]; try rfl) rfl ?_
    rw [HVV.out]
    exact ⟨rfl, at_ + 1, pv, LP, by omega, rfl, hP, hL⟩
   have f34 : ((c0.toNat : Int) == 34) = false := beq_false_of_ne (fun h => h34 (UInt8.toNat_inj.1 (show c0.toNat = 34 by omega)))
   by_cases h36 : c0 = 36
   ·subst h36
    have hdl := dbl_dollar ln0 ps (src.data.toList.drop (at_ + 1)) ln
    rw [← hd0, HV.out] at hdl
    cases hdo : dollar ps (src.data.toList.drop (at_ + 1)) ln true with
    | bad m =>
     rw [hdo] at hdl
     have HVV : Hid (V = .bad m) := Lib.hid hdl
     have HD : Hid (∀ W, Kn (b :: q :: keys LP) W W ((b, .cells #[.string src, .int .i64 (at_), .int .i64 (ln), v] 111 (0, 0)) :: (q, .cells #[pv] 135 (0, 0)) :: LP) → Calls Tryz.prog 115 #[.pointer (some ⟨b, 0, none⟩), .pointer (some ⟨q, 0, none⟩), .bool true] W fun e w' => e = .panicked [{ v := .iface 107 (.agg #[.int .i64 27, .int .i64 m]), recovered := false }] ∧ Kn (b :: q :: keys LP) W w' []) := Lib.hid fun W hK => by
      have := dollar_is src hs v b q at_ ln pv LP ps W hK hP (by omega) (by omega) (by omega) true _ hd0
      rw [hdo] at this; exact this
     clear hdl hdo hd0
     go_wp2_with (first | ((with_reducible refine at_region 5 ?_); refine zW [0, 1, 2, 3, 4, 5, 6, 7, 8, 9, 10] [0, 1, 2, 3, 4, 5, 6, 7, 8, 9, 10] [] [0, 1, 2, 4, 5, 6, 8, 9, 10] ?_; clear hF hL; intro ι F hne hC hG; (repeat (first | (refine cF hC ?_; intro K hK; go_big_quiet_op; go_big_quiet_on) | (refine cP ?_; intro K hK; go_big_quiet_op; go_big_quiet_on))); refine cwk_nil ?_; clear hC hG; intro W hL; have hF := hL.fx) | ((with_reducible refine at_region 7 ?_); refine zW [0, 1, 2, 3, 4, 5, 6, 7, 8, 9, 10] [0, 1, 2, 3, 4, 5, 6, 7, 8, 9, 10] [] [0, 1, 2, 4, 5, 6, 8, 9, 10] ?_; clear hF hL; intro ι F hne hC hG; (repeat (first | (refine cF hC ?_; intro K hK; go_big_quiet_op; go_big_quiet_on) | (refine cP ?_; intro K hK; go_big_quiet_op; go_big_quiet_on))); refine cwk_nil ?_; clear hC hG; intro W hL; have hF := hL.fx) | ((with_reducible refine at_region 9 ?_); refine zW [0, 1, 2, 3, 4, 5, 6, 7, 8, 9, 10] [0, 1, 2, 3, 4, 5, 6, 7, 8, 9, 10] [] [0, 1, 2, 4, 5, 6, 8, 9, 10] ?_; clear hF hL; intro ι F hne hC hG; (repeat (first | (refine cF hC ?_; intro K hK; go_big_quiet_op; go_big_quiet_on) | (refine cP ?_; intro K hK; go_big_quiet_op; go_big_quiet_on))); refine cwk_nil ?_; clear hC hG; intro W hL; have hF := hL.fx) | (go_at_call 115; refine zG ?_; clear hF hL; intro W hL hF; (with_reducible refine (HD.out _ hL.selfbq).mono ?_); rintro e W2 ⟨rfl, hb⟩; replace hL := hL.tail0 hb; clear hb hF hP; have hF := hL.fx))
     rw [HVV.out]
     exact ⟨rfl, rfl, hL⟩
    | ok x =>
     obtain ⟨ps2, r2, ln2⟩ := x
     rw [hdo] at hdl
     have hdz := dollar_sz hdo
     have HVV : Hid (dbl ln0 (ps2, r2, ln2) = V) := Lib.hid hdl.symm
     have HD : Hid (∀ W, Kn (b :: q :: keys LP) W W ((b, .cells #[.string src, .int .i64 (at_), .int .i64 (ln), v] 111 (0, 0)) :: (q, .cells #[pv] 135 (0, 0)) :: LP) → Calls Tryz.prog 115 #[.pointer (some ⟨b, 0, none⟩), .pointer (some ⟨q, 0, none⟩), .bool true] W fun e w' => e = .returned (.tuple #[]) ∧ ∃ (at2 : Nat) (pv2 : Value) (LP2 : List (Nat × Obj)), at2 ≤ src.size ∧ Hid (src.data.toList.drop at2 = r2) ∧ PtL LP2 pv2 ps2 ∧ Kn (b :: q :: keys LP) W w' ((b, .cells #[.string src, .int .i64 (at2), .int .i64 (ln2), v] 111 (0, 0)) :: (q, .cells #[pv2] 135 (0, 0)) :: LP2)) := Lib.hid fun W hK => by
      have := dollar_is src hs v b q at_ ln pv LP ps W hK hP (by omega) (by omega) (by omega) true _ hd0
      rw [hdo] at this; exact this
     have HDZ := Lib.hid hdz
     clear hdl hdo hd0 hdz
     go_wp2_with (first | ((with_reducible refine at_region 5 ?_); refine zW [0, 1, 2, 3, 4, 5, 6, 7, 8, 9, 10] [0, 1, 2, 3, 4, 5, 6, 7, 8, 9, 10] [] [0, 1, 2, 4, 5, 6, 8, 9, 10] ?_; clear hF hL; intro ι F hne hC hG; (repeat (first | (refine cF hC ?_; intro K hK; go_big_quiet_op; go_big_quiet_on) | (refine cP ?_; intro K hK; go_big_quiet_op; go_big_quiet_on))); refine cwk_nil ?_; clear hC hG; intro W hL; have hF := hL.fx) | ((with_reducible refine at_region 7 ?_); refine zW [0, 1, 2, 3, 4, 5, 6, 7, 8, 9, 10] [0, 1, 2, 3, 4, 5, 6, 7, 8, 9, 10] [] [0, 1, 2, 4, 5, 6, 8, 9, 10] ?_; clear hF hL; intro ι F hne hC hG; (repeat (first | (refine cF hC ?_; intro K hK; go_big_quiet_op; go_big_quiet_on) | (refine cP ?_; intro K hK; go_big_quiet_op; go_big_quiet_on))); refine cwk_nil ?_; clear hC hG; intro W hL; have hF := hL.fx) | ((with_reducible refine at_region 9 ?_); refine zW [0, 1, 2, 3, 4, 5, 6, 7, 8, 9, 10] [0, 1, 2, 3, 4, 5, 6, 7, 8, 9, 10] [] [0, 1, 2, 4, 5, 6, 8, 9, 10] ?_; clear hF hL; intro ι F hne hC hG; (repeat (first | (refine cF hC ?_; intro K hK; go_big_quiet_op; go_big_quiet_on) | (refine cP ?_; intro K hK; go_big_quiet_op; go_big_quiet_on))); refine cwk_nil ?_; clear hC hG; intro W hL; have hF := hL.fx) | (go_at_call 115; refine zG ?_; clear hF hL; intro W hL hF; (with_reducible refine (HD.out _ hL.selfbq).mono ?_); rintro e W2 ⟨rfl, at2, pv2, LP2, ha2, hr2, hP2, hb⟩; replace hL := hL.tail0 hb; clear hb hF hP; have hP := hP2; clear hP2; have hF := hL.fx))
     have hlen : r2.length = src.size - at2 := by rw [← hr2.out, List.length_drop, hsl]
     have hdz := HDZ.out
     have hlen2 : (src.data.toList.drop (at_ + 1)).length = src.size - (at_ + 1) := by rw [List.length_drop, hsl]
     simp only [hlen, hlen2] at hdz
     go_roundg (src.size - (at2))
     case measure => have := HK.out; omega
     case rel => exact ⟨at2, ln2, pv2, LP2, _, Lib.hid rfl, by omega, Lib.hid (by obtain ⟨h2, h3⟩ := HZ.out; exact ⟨by omega, by omega⟩), hP, hL, Lib.hid (by rw [← HVV.out, hr2.out])⟩
   have f36 : ((c0.toNat : Int) == 36) = false := beq_false_of_ne (fun h => h36 (UInt8.toNat_inj.1 (show c0.toNat = 36 by omega)))
   obtain ⟨u0, hu0⟩ : ∃ u, src.extract at_ (at_ + 1) = u := ⟨_, rfl⟩
   have hul0 : u0.data.toList = [c0] := by rw [← hu0, ext_list, List.drop_take, hd0]; simp
   have hus0 : u0.size = 1 := by rw [← szl, hul0]; rfl
   have hxx0 : src.data.toList.drop at_ = [c0] ++ src.data.toList.drop (at_ + 1) := hd0
   have HX0 := Lib.hid hxx0
   have a1 : at_ ≤ src.size := by omega
   have a2 : at_ + 1 ≤ src.size := by omega
   have a3 : (at_ : Int) ≤ (at_ : Int) + 1 := by omega
   have a4 : (at_ : Int) + 1 ≤ (src.size : Int) := by omega
   by_cases h92 : c0 = 92
   ·subst h92
    by_cases hlt1 : at_ + 1 < src.size
    ·obtain ⟨c1, hc1⟩ : ∃ c, src.data.toList[at_ + 1]? = some c := ⟨_, List.getElem?_eq_getElem (by rw [szl]; omega)⟩
     have eb1 := byte_at hc1 (by omega)
     have hd1 : src.data.toList.drop (at_ + 1) = c1 :: src.data.toList.drop (at_ + 1 + 1) := by
      obtain ⟨h1, h2⟩ := List.getElem?_eq_some_iff.1 hc1
      rw [List.drop_eq_getElem_cons h1, h2]
     have a5 : (at_ : Int) + 1 < (src.size : Int) := by omega
     obtain ⟨r, hr⟩ : ∃ r, Lib.indexByte [34, 36, 92] c1 = r := ⟨_, rfl⟩
     have hI : Hid (∀ W, Calls Tryz.prog 81 #[.string ⟨#[34, 36, 92]⟩, .int .u8 c1.toNat] W fun x w' => x = .returned (.int .i64 r) ∧ w' = W) := Lib.hid fun W => Index_any _ c1 r hr _ rfl W
     have hsp := esc_ix c1
     rw [hr] at hsp
     by_cases h0 : 0 ≤ r
     ·have q6 : r ≥ 0 := h0
      have hs1 : esc c1 = true := by simpa [h0] using hsp
      obtain ⟨u1, hu1⟩ : ∃ u, src.extract (at_ + 1) (at_ + 2) = u := ⟨_, rfl⟩
      have hul1 : u1.data.toList = [c1] := by rw [← hu1, ext_list, List.drop_take, hd1]; simp
      have hus1 : u1.size = 1 := by rw [← szl, hul1]; rfl
      have hxx1 : src.data.toList.drop at_ = [92, c1] ++ src.data.toList.drop (at_ + 1 + 1) := by rw [hd0, hd1]; rfl
      have HX1 := Lib.hid hxx1
      have hlf1 : lf [92, c1] = 0 := by
       have : c1 ≠ 10 := by rintro rfl; exact absurd hs1 (by decide)
       simp [lf, List.count_cons, this]
      have HLF := Lib.hid hlf1
      have HVV : Hid (dbl ln0 (addT ps [c1] true, src.data.toList.drop (at_ + 1 + 1), ln) = V) := Lib.hid (by rw [← HV.out, hd0, hd1, dbl_esc _ _ _ _ _ hs1])
      have HUL := Lib.hid hul1
      have a6 : at_ + 2 ≤ src.size := by omega
      have a7 : (at_ : Int) + 1 ≤ (at_ : Int) + 2 := by omega
      have a8 : (at_ : Int) + 2 ≤ (src.size : Int) := by omega
      have w1 : IntKind.i64.wrap ((at_ : Int) + 1) = (at_ : Int) + 1 := by rw [IntWalk.i64_in _ (by omega)]
      have w2 : IntKind.i64.wrap ((at_ : Int) + 2) = (at_ : Int) + 2 := by rw [IntWalk.i64_in _ (by omega)]
      have w3 : ((at_ : Int) + 1).toNat = at_ + 1 := by omega
      have w4 : ((at_ : Int) + 2).toNat = at_ + 2 := by omega
      have w5 : 0 ≤ (at_ : Int) + 1 := by omega
      have w6 : 0 ≤ (at_ : Int) + 2 := by omega
      clear hsp hs1 hr hd0 hd1 hxx1 hlf1 hul1 hul0 hxx0
      go_wp2_with (first | ((with_reducible refine zS ?_); clear hL; intro W hL hF) | ((with_reducible refine at_region 5 ?_); refine zW [0, 1, 2, 3, 4, 5, 6, 7, 8, 9, 10] [0, 1, 2, 3, 4, 5, 6, 7, 8, 9, 10] [] [0, 1, 2, 4, 5, 6, 8, 9, 10] ?_; clear hF hL; intro ι F hne hC hG; (repeat (first | (refine cF hC ?_; intro K hK; go_big_quiet_op; go_big_quiet_on) | (refine cP ?_; intro K hK; go_big_quiet_op; go_big_quiet_on))); refine cwk_nil ?_; clear hC hG; intro W hL; have hF := hL.fx) | ((with_reducible refine at_region 7 ?_); refine zW [0, 1, 2, 3, 4, 5, 6, 7, 8, 9, 10] [0, 1, 2, 3, 4, 5, 6, 7, 8, 9, 10] [] [0, 1, 2, 4, 5, 6, 8, 9, 10] ?_; clear hF hL; intro ι F hne hC hG; (repeat (first | (refine cF hC ?_; intro K hK; go_big_quiet_op; go_big_quiet_on) | (refine cP ?_; intro K hK; go_big_quiet_op; go_big_quiet_on))); refine cwk_nil ?_; clear hC hG; intro W hL; have hF := hL.fx) | ((with_reducible refine at_region 9 ?_); refine zW [0, 1, 2, 3, 4, 5, 6, 7, 8, 9, 10] [0, 1, 2, 3, 4, 5, 6, 7, 8, 9, 10] [] [0, 1, 2, 4, 5, 6, 8, 9, 10] ?_; clear hF hL; intro ι F hne hC hG; (repeat (first | (refine cF hC ?_; intro K hK; go_big_quiet_op; go_big_quiet_on) | (refine cP ?_; intro K hK; go_big_quiet_op; go_big_quiet_on))); refine cwk_nil ?_; clear hC hG; intro W hL; have hF := hL.fx) | ((with_reducible refine at_region 11 ?_); refine zW [0, 1, 2, 3, 4, 5, 6, 7, 8, 9, 10, 11, 12, 13, 14, 15, 16, 17, 18, 19, 20, 21, 22, 23, 24, 25, 26, 27, 28, 29, 30, 31, 32, 33, 34, 35, 36, 37] [0, 1, 2, 3, 4, 5, 6, 7, 8, 9, 10, 11, 12, 13, 14, 15, 16, 17, 18, 19, 20, 21, 22, 23, 24, 25, 26, 27, 28, 29, 30, 31, 32, 33, 35, 36, 37] [34] [0, 1, 2, 4, 5, 6, 8, 9, 10, 11, 12, 13, 15, 16, 17, 18, 20, 21, 22, 23, 24, 25, 26, 28, 29, 30, 32, 33, 35, 36, 37] ?_; clear hF hL; intro ι F hne hC hG; (repeat (first | (refine cS ?_) | (refine cF hC ?_; intro K hK; go_big_quiet_op; go_big_quiet_on) | (refine cP ?_; intro K hK; go_big_quiet_op; go_big_quiet_on) | (refine cC ?_; intro W hL; have hF := hL.fx; simp only [zA, Act.eval]; go_at_call 81; (with_reducible refine (hI.out _).mono ?_); rintro e W' ⟨rfl, rfl⟩; refine zB ?_; clear hL hF hC hG; intro ι F hne hC hG; simp only [Act.put, zT]) | (refine cN ?_; intro W hL; have hF := hL.facts; go_wp2; refine zB2 ?_; clear hL hC hG; intro ι F hne hC hG))); refine cwk_nil ?_; clear hC hG; intro W hL; have hF := hL.fx) | ((with_reducible refine at_region 12 ?_); refine zW [0, 1, 2, 3, 4, 5, 6, 7, 8, 9, 10, 11, 12, 13, 14, 15, 16] [0, 1, 2, 3, 4, 5, 6, 7, 8, 9, 10, 11, 12, 13, 14, 15] [16] [0, 1, 2, 3, 5, 6, 7, 9, 10, 11, 12, 14, 15] ?_; clear hF hL; intro ι F hne hC hG; (repeat (first | (refine cS ?_) | (refine cF hC ?_; intro K hK; go_big_quiet_op; go_big_quiet_on) | (refine cP ?_; intro K hK; go_big_quiet_op; go_big_quiet_on) | (refine cC ?_; intro W hL; have hF := hL.fx; simp only [zA, Act.eval]; go_at_call 113; (with_reducible refine (text_is q pv _ LP ps (by (exact hL.self1q)) hP u1 true (by omega) (by rw [hus1]; omega)).mono ?_); rintro e W2 ⟨rfl, pv2, LP2, hP2, hb⟩; ((replace hL := hL.tail1 hb)); clear hb hF hP; have hP := hP2; clear hP2; have hF := hL.fx; refine zB ?_; clear hL hF hC hG; intro ι F hne hC hG; simp only [Act.put, zT]) | (refine cN ?_; intro W hL; have hF := hL.facts; go_wp2; refine zB2 ?_; clear hL hC hG; intro ι F hne hC hG))); refine cwk_nil ?_; clear hC hG; intro W hL; have hF := hL.fx) | (go_at_call 80; refine zG ?_; clear hF hL; intro W hL hF; (with_reducible refine (skip_nat src at_ [92, c1] (src.data.toList.drop (at_ + 1 + 1)) ln v b _ (by (exact hL.has _ List.mem_cons_self)) HX1.out (by simp) hs (by omega) _ (by (simp; done))).mono ?_); rintro e W ⟨rfl, hb⟩; ((replace hL := hL.join1 0 rfl hb)); clear hb hF; simp only [List.eraseIdx_cons_zero, List.eraseIdx_cons_succ, List.cons_append, List.nil_append] at hL; have hF := hL.fx))
      rw [HUL.out] at hP
      rw [HLF.out] at hL
      go_roundg (src.size - (at_ + 2))
      case measure => have := HK.out; omega
      case rel => exact ⟨at_ + 2, ln, pv2, LP2, _, Lib.hid rfl, by omega, Lib.hid (by have h1 := HZ.out; obtain ⟨h2, h3⟩ := h1; have h4 := addT_sz ps [c1] true; have h5 := lf_le [c1]; simp only [List.length_cons, List.length_nil] at h4 h5; exact ⟨by omega, by omega⟩), hP, hL, Lib.hid (by rw [← HVV.out])⟩
     ·have q6 : ¬ r ≥ 0 := h0
      have hs1 : esc c1 = false := by simpa [h0] using hsp
      have HVV : Hid (dbl ln0 (addT ps [92] true, src.data.toList.drop (at_ + 1), ln + lf [92]) = V) := Lib.hid (by
       rw [← HV.out, hd0, dbl_one _ _ _ _ _ (by decide) (by decide) (.inr fun d r hdr => by rw [hd1] at hdr; injection hdr with h1 h2; rw [← h1]; exact hs1)])
      have HUL := Lib.hid hul0
      clear hsp hs1 hr hd0 hd1 hul0 hxx0
      go_wp2_with (first | ((with_reducible refine zS ?_); clear hL; intro W hL hF) | ((with_reducible refine at_region 5 ?_); refine zW [0, 1, 2, 3, 4, 5, 6, 7, 8, 9, 10] [0, 1, 2, 3, 4, 5, 6, 7, 8, 9, 10] [] [0, 1, 2, 4, 5, 6, 8, 9, 10] ?_; clear hF hL; intro ι F hne hC hG; (repeat (first | (refine cF hC ?_; intro K hK; go_big_quiet_op; go_big_quiet_on) | (refine cP ?_; intro K hK; go_big_quiet_op; go_big_quiet_on))); refine cwk_nil ?_; clear hC hG; intro W hL; have hF := hL.fx) | ((with_reducible refine at_region 7 ?_); refine zW [0, 1, 2, 3, 4, 5, 6, 7, 8, 9, 10] [0, 1, 2, 3, 4, 5, 6, 7, 8, 9, 10] [] [0, 1, 2, 4, 5, 6, 8, 9, 10] ?_; clear hF hL; intro ι F hne hC hG; (repeat (first | (refine cF hC ?_; intro K hK; go_big_quiet_op; go_big_quiet_on) | (refine cP ?_; intro K hK; go_big_quiet_op; go_big_quiet_on))); refine cwk_nil ?_; clear hC hG; intro W hL; have hF := hL.fx) | ((with_reducible refine at_region 9 ?_); refine zW [0, 1, 2, 3, 4, 5, 6, 7, 8, 9, 10] [0, 1, 2, 3, 4, 5, 6, 7, 8, 9, 10] [] [0, 1, 2, 4, 5, 6, 8, 9, 10] ?_; clear hF hL; intro ι F hne hC hG; (repeat (first | (refine cF hC ?_; intro K hK; go_big_quiet_op; go_big_quiet_on) | (refine cP ?_; intro K hK; go_big_quiet_op; go_big_quiet_on))); refine cwk_nil ?_; clear hC hG; intro W hL; have hF := hL.fx) | ((with_reducible refine at_region 11 ?_); refine zW [0, 1, 2, 3, 4, 5, 6, 7, 8, 9, 10, 11, 12, 13, 14, 15, 16, 17, 18, 19, 20, 21, 22, 23, 24, 25, 26, 27, 28, 29, 30, 31, 32, 33, 34, 35, 36, 37] [0, 1, 2, 3, 4, 5, 6, 7, 8, 9, 10, 11, 12, 13, 14, 15, 16, 17, 18, 19, 20, 21, 22, 23, 24, 25, 26, 27, 28, 29, 30, 31, 32, 33, 35, 36, 37] [34] [0, 1, 2, 4, 5, 6, 8, 9, 10, 11, 12, 13, 15, 16, 17, 18, 20, 21, 22, 23, 24, 25, 26, 28, 29, 30, 32, 33, 35, 36, 37] ?_; clear hF hL; intro ι F hne hC hG; (repeat (first | (refine cS ?_) | (refine cF hC ?_; intro K hK; go_big_quiet_op; go_big_quiet_on) | (refine cP ?_; intro K hK; go_big_quiet_op; go_big_quiet_on) | (refine cC ?_; intro W hL; have hF := hL.fx; simp only [zA, Act.eval]; go_at_call 81; (with_reducible refine (hI.out _).mono ?_); rintro e W' ⟨rfl, rfl⟩; refine zB ?_; clear hL hF hC hG; intro ι F hne hC hG; simp only [Act.put, zT]) | (refine cN ?_; intro W hL; have hF := hL.facts; go_wp2; refine zB2 ?_; clear hL hC hG; intro ι F hne hC hG))); refine cwk_nil ?_; clear hC hG; intro W hL; have hF := hL.fx) | ((with_reducible refine at_region 3 ?_); refine zW [0, 1, 2, 3, 4, 5, 6, 7, 8, 9, 10, 11, 12, 13, 14, 15] [0, 1, 2, 3, 4, 5, 6, 7, 8, 9, 10, 11, 12, 13, 14] [15] [0, 1, 2, 3, 5, 6, 7, 9, 10, 11, 13, 14] ?_; clear hF hL; intro ι F hne hC hG; (repeat (first | (refine cS ?_) | (refine cF hC ?_; intro K hK; go_big_quiet_op; go_big_quiet_on) | (refine cP ?_; intro K hK; go_big_quiet_op; go_big_quiet_on) | (refine cC ?_; intro W hL; have hF := hL.fx; simp only [zA, Act.eval]; go_at_call 113; (with_reducible refine (text_is q pv _ LP ps (by (exact hL.self1q)) hP u0 true (by omega) (by rw [hus0]; omega)).mono ?_); rintro e W2 ⟨rfl, pv2, LP2, hP2, hb⟩; ((replace hL := hL.tail1 hb)); clear hb hF hP; have hP := hP2; clear hP2; have hF := hL.fx; refine zB ?_; clear hL hF hC hG; intro ι F hne hC hG; simp only [Act.put, zT]) | (refine cN ?_; intro W hL; have hF := hL.facts; go_wp2; refine zB2 ?_; clear hL hC hG; intro ι F hne hC hG))); refine cwk_nil ?_; clear hC hG; intro W hL; have hF := hL.fx) | (go_at_call 80; refine zG ?_; clear hF hL; intro W hL hF; (with_reducible refine (skip_nat src at_ [92] (src.data.toList.drop (at_ + 1)) ln v b _ (by (exact hL.has _ List.mem_cons_self)) HX0.out (by simp) hs (by omega) _ (by (simp; done))).mono ?_); rintro e W ⟨rfl, hb⟩; ((replace hL := hL.join1 0 rfl hb)); clear hb hF; simp only [List.eraseIdx_cons_zero, List.eraseIdx_cons_succ, List.cons_append, List.nil_append] at hL; have hF := hL.fx))
      rw [HUL.out] at hP
      go_roundg (src.size - (at_ + 1))
      case measure => have := HK.out; omega
      case rel => exact ⟨at_ + 1, ln + lf [92], pv2, LP2, _, Lib.hid rfl, by omega, Lib.hid (by have h1 := HZ.out; obtain ⟨h2, h3⟩ := h1; have h4 := addT_sz ps [92] true; have h5 := lf_le [92]; simp only [List.length_cons, List.length_nil] at h4 h5; exact ⟨by omega, by omega⟩), hP, hL, Lib.hid (by rw [← HVV.out])⟩
    ·have a5 : ¬ (at_ : Int) + 1 < (src.size : Int) := by omega
     have HVV : Hid (dbl ln0 (addT ps [92] true, src.data.toList.drop (at_ + 1), ln + lf [92]) = V) := Lib.hid (by
      rw [← HV.out, hd0, dbl_one _ _ _ _ _ (by decide) (by decide) (.inr fun d r hdr => by rw [List.drop_eq_nil_of_le (by omega)] at hdr; cases hdr)])
     have HUL := Lib.hid hul0
     clear hd0 hul0 hxx0
     go_wp2_with (first | ((with_reducible refine zS ?_); clear hL; intro W hL hF) | ((with_reducible refine at_region 5 ?_); refine zW [0, 1, 2, 3, 4, 5, 6, 7, 8, 9, 10] [0, 1, 2, 3, 4, 5, 6, 7, 8, 9, 10] [] [0, 1, 2, 4, 5, 6, 8, 9, 10] ?_; clear hF hL; intro ι F hne hC hG; (repeat (first | (refine cF hC ?_; intro K hK; go_big_quiet_op; go_big_quiet_on) | (refine cP ?_; intro K hK; go_big_quiet_op; go_big_quiet_on))); refine cwk_nil ?_; clear hC hG; intro W hL; have hF := hL.fx) | ((with_reducible refine at_region 7 ?_); refine zW [0, 1, 2, 3, 4, 5, 6, 7, 8, 9, 10] [0, 1, 2, 3, 4, 5, 6, 7, 8, 9, 10] [] [0, 1, 2, 4, 5, 6, 8, 9, 10] ?_; clear hF hL; intro ι F hne hC hG; (repeat (first | (refine cF hC ?_; intro K hK; go_big_quiet_op; go_big_quiet_on) | (refine cP ?_; intro K hK; go_big_quiet_op; go_big_quiet_on))); refine cwk_nil ?_; clear hC hG; intro W hL; have hF := hL.fx) | ((with_reducible refine at_region 9 ?_); refine zW [0, 1, 2, 3, 4, 5, 6, 7, 8, 9, 10] [0, 1, 2, 3, 4, 5, 6, 7, 8, 9, 10] [] [0, 1, 2, 4, 5, 6, 8, 9, 10] ?_; clear hF hL; intro ι F hne hC hG; (repeat (first | (refine cF hC ?_; intro K hK; go_big_quiet_op; go_big_quiet_on) | (refine cP ?_; intro K hK; go_big_quiet_op; go_big_quiet_on))); refine cwk_nil ?_; clear hC hG; intro W hL; have hF := hL.fx) | ((with_reducible refine at_region 11 ?_); refine zW [0, 1, 2, 3, 4, 5, 6, 7, 8, 9, 10, 11, 12, 13, 14, 15, 16, 17, 18, 19, 20, 21, 22, 23, 24, 25, 26, 27, 28, 29, 30, 31, 32, 33, 34, 35, 36, 37] [0, 1, 2, 3, 4, 5, 6, 7, 8, 9, 10, 11, 12, 13, 14, 15, 16, 17, 18, 19, 20, 21, 22, 23, 24, 25, 26, 27, 28, 29, 30, 31, 32, 33, 35, 36, 37] [34] [0, 1, 2, 4, 5, 6, 8, 9, 10, 11, 12, 13, 15, 16, 17, 18, 20, 21, 22, 23, 24, 25, 26, 28, 29, 30, 32, 33, 35, 36, 37] ?_; clear hF hL; intro ι F hne hC hG; (repeat (first | (refine cS ?_; simp only [Act.put, zT]) | (refine cF hC ?_; intro K hK; go_big_quiet_op; go_big_quiet_on) | (refine cP ?_; intro K hK; go_big_quiet_op; go_big_quiet_on))); refine cwk_nil ?_; clear hC hG; intro W hL; have hF := hL.fx) | ((with_reducible refine at_region 3 ?_); refine zW [0, 1, 2, 3, 4, 5, 6, 7, 8, 9, 10, 11, 12, 13, 14, 15] [0, 1, 2, 3, 4, 5, 6, 7, 8, 9, 10, 11, 12, 13, 14] [15] [0, 1, 2, 3, 5, 6, 7, 9, 10, 11, 13, 14] ?_; clear hF hL; intro ι F hne hC hG; (repeat (first | (refine cS ?_) | (refine cF hC ?_; intro K hK; go_big_quiet_op; go_big_quiet_on) | (refine cP ?_; intro K hK; go_big_quiet_op; go_big_quiet_on) | (refine cC ?_; intro W hL; have hF := hL.fx; simp only [zA, Act.eval]; go_at_call 113; (with_reducible refine (text_is q pv _ LP ps (by (exact hL.self1q)) hP u0 true (by omega) (by rw [hus0]; omega)).mono ?_); rintro e W2 ⟨rfl, pv2, LP2, hP2, hb⟩; ((replace hL := hL.tail1 hb)); clear hb hF hP; have hP := hP2; clear hP2; have hF := hL.fx; refine zB ?_; clear hL hF hC hG; intro ι F hne hC hG; simp only [Act.put, zT]) | (refine cN ?_; intro W hL; have hF := hL.facts; go_wp2; refine zB2 ?_; clear hL hC hG; intro ι F hne hC hG))); refine cwk_nil ?_; clear hC hG; intro W hL; have hF := hL.fx) | (go_at_call 80; refine zG ?_; clear hF hL; intro W hL hF; (with_reducible refine (skip_nat src at_ [92] (src.data.toList.drop (at_ + 1)) ln v b _ (by (exact hL.has _ List.mem_cons_self)) HX0.out (by simp) hs (by omega) _ (by (simp; done))).mono ?_); rintro e W ⟨rfl, hb⟩; ((replace hL := hL.join1 0 rfl hb)); clear hb hF; simp only [List.eraseIdx_cons_zero, List.eraseIdx_cons_succ, List.cons_append, List.nil_append] at hL; have hF := hL.fx))
     rw [HUL.out] at hP
     go_roundg (src.size - (at_ + 1))
     case measure => have := HK.out; omega
     case rel => exact ⟨at_ + 1, ln + lf [92], pv2, LP2, _, Lib.hid rfl, by omega, Lib.hid (by have h1 := HZ.out; obtain ⟨h2, h3⟩ := h1; have h4 := addT_sz ps [92] true; have h5 := lf_le [92]; simp only [List.length_cons, List.length_nil] at h4 h5; exact ⟨by omega, by omega⟩), hP, hL, Lib.hid (by rw [← HVV.out])⟩
   have f92 : ((c0.toNat : Int) == 92) = false := beq_false_of_ne (fun h => h92 (UInt8.toNat_inj.1 (show c0.toNat = 92 by omega)))
   have HVV : Hid (dbl ln0 (addT ps [c0] true, src.data.toList.drop (at_ + 1), ln + lf [c0]) = V) := Lib.hid (by
    rw [← HV.out, hd0, dbl_one _ _ _ _ _ h34 h36 (.inl h92)])
   have HUL := Lib.hid hul0
   clear hd0 hul0 hxx0
   go_wp2_with (first | ((with_reducible refine zS ?_); clear hL; intro W hL hF) | ((with_reducible refine at_region 5 ?_); refine zW [0, 1, 2, 3, 4, 5, 6, 7, 8, 9, 10] [0, 1, 2, 3, 4, 5, 6, 7, 8, 9, 10] [] [0, 1, 2, 4, 5, 6, 8, 9, 10] ?_; clear hF hL; intro ι F hne hC hG; (repeat (first | (refine cF hC ?_; intro K hK; go_big_quiet_op; go_big_quiet_on) | (refine cP ?_; intro K hK; go_big_quiet_op; go_big_quiet_on))); refine cwk_nil ?_; clear hC hG; intro W hL; have hF := hL.fx) | ((with_reducible refine at_region 7 ?_); refine zW [0, 1, 2, 3, 4, 5, 6, 7, 8, 9, 10] [0, 1, 2, 3, 4, 5, 6, 7, 8, 9, 10] [] [0, 1, 2, 4, 5, 6, 8, 9, 10] ?_; clear hF hL; intro ι F hne hC hG; (repeat (first | (refine cF hC ?_; intro K hK; go_big_quiet_op; go_big_quiet_on) | (refine cP ?_; intro K hK; go_big_quiet_op; go_big_quiet_on))); refine cwk_nil ?_; clear hC hG; intro W hL; have hF := hL.fx) | ((with_reducible refine at_region 9 ?_); refine zW [0, 1, 2, 3, 4, 5, 6, 7, 8, 9, 10] [0, 1, 2, 3, 4, 5, 6, 7, 8, 9, 10] [] [0, 1, 2, 4, 5, 6, 8, 9, 10] ?_; clear hF hL; intro ι F hne hC hG; (repeat (first | (refine cF hC ?_; intro K hK; go_big_quiet_op; go_big_quiet_on) | (refine cP ?_; intro K hK; go_big_quiet_op; go_big_quiet_on))); refine cwk_nil ?_; clear hC hG; intro W hL; have hF := hL.fx) | ((with_reducible refine at_region 11 ?_); refine zW [0, 1, 2, 3, 4, 5, 6, 7, 8, 9, 10, 11, 12, 13, 14, 15, 16, 17, 18, 19, 20, 21, 22, 23, 24, 25, 26, 27, 28, 29, 30, 31, 32, 33, 34, 35, 36, 37] [0, 1, 2, 3, 4, 5, 6, 7, 8, 9, 10, 11, 12, 13, 14, 15, 16, 17, 18, 19, 20, 21, 22, 23, 24, 25, 26, 27, 28, 29, 30, 31, 32, 33, 35, 36, 37] [34] [0, 1, 2, 4, 5, 6, 8, 9, 10, 11, 12, 13, 15, 16, 17, 18, 20, 21, 22, 23, 24, 25, 26, 28, 29, 30, 32, 33, 35, 36, 37] ?_; clear hF hL; intro ι F hne hC hG; (repeat (first | (refine cS ?_; simp only [Act.put, zT]) | (refine cF hC ?_; intro K hK; go_big_quiet_op; go_big_quiet_on) | (refine cP ?_; intro K hK; go_big_quiet_op; go_big_quiet_on))); refine cwk_nil ?_; clear hC hG; intro W hL; have hF := hL.fx) | ((with_reducible refine at_region 3 ?_); refine zW [0, 1, 2, 3, 4, 5, 6, 7, 8, 9, 10, 11, 12, 13, 14, 15] [0, 1, 2, 3, 4, 5, 6, 7, 8, 9, 10, 11, 12, 13, 14] [15] [0, 1, 2, 3, 5, 6, 7, 9, 10, 11, 13, 14] ?_; clear hF hL; intro ι F hne hC hG; (repeat (first | (refine cS ?_) | (refine cF hC ?_; intro K hK; go_big_quiet_op; go_big_quiet_on) | (refine cP ?_; intro K hK; go_big_quiet_op; go_big_quiet_on) | (refine cC ?_; intro W hL; have hF := hL.fx; simp only [zA, Act.eval]; go_at_call 113; (with_reducible refine (text_is q pv _ LP ps (by (exact hL.self1q)) hP u0 true (by omega) (by rw [hus0]; omega)).mono ?_); rintro e W2 ⟨rfl, pv2, LP2, hP2, hb⟩; ((replace hL := hL.tail1 hb)); clear hb hF hP; have hP := hP2; clear hP2; have hF := hL.fx; refine zB ?_; clear hL hF hC hG; intro ι F hne hC hG; simp only [Act.put, zT]) | (refine cN ?_; intro W hL; have hF := hL.facts; go_wp2; refine zB2 ?_; clear hL hC hG; intro ι F hne hC hG))); refine cwk_nil ?_; clear hC hG; intro W hL; have hF := hL.fx) | (go_at_call 80; refine zG ?_; clear hF hL; intro W hL hF; (with_reducible refine (skip_nat src at_ [c0] (src.data.toList.drop (at_ + 1)) ln v b _ (by (exact hL.has _ List.mem_cons_self)) HX0.out (by simp) hs (by omega) _ (by (simp; done))).mono ?_); rintro e W ⟨rfl, hb⟩; ((replace hL := hL.join1 0 rfl hb)); clear hb hF; simp only [List.eraseIdx_cons_zero, List.eraseIdx_cons_succ, List.cons_append, List.nil_append] at hL; have hF := hL.fx))
   rw [HUL.out] at hP
   go_roundg (src.size - (at_ + 1))
   case measure => have := HK.out; omega
   case rel => exact ⟨at_ + 1, ln + lf [c0], pv2, LP2, _, Lib.hid rfl, by omega, Lib.hid (by have h1 := HZ.out; obtain ⟨h2, h3⟩ := h1; have h4 := addT_sz ps [c0] true; have h5 := lf_le [c0]; simp only [List.length_cons, List.length_nil] at h4 h5; exact ⟨by omega, by omega⟩), hP, hL, Lib.hid (by rw [← HVV.out])⟩
  ·have hV : V = .bad ln0 := by rw [← HV.out, List.drop_eq_nil_of_le (by omega), dbl_nil]
   have HVV := Lib.hid hV
   have hae : at_ = src.size := by omega
   have q0 : ((at_ : Int) == (src.size : Int)) = true := beq_iff_eq.2 (by omega)
   clear hV hae
   go_wp2_with (first | ((with_reducible refine at_region 5 ?_); refine zW [0, 1, 2, 3, 4, 5, 6, 7, 8, 9, 10] [0, 1, 2, 3, 4, 5, 6, 7, 8, 9, 10] [] [0, 1, 2, 4, 5, 6, 8, 9, 10] ?_; clear hF hL; intro ι F hne hC hG; (repeat (first | (refine cF hC ?_; intro K hK; go_big_quiet_op; go_big_quiet_on) | (refine cP ?_; intro K hK; go_big_quiet_op; go_big_quiet_on))); refine cwk_nil ?_; clear hC hG; intro W hL; have hF := hL.fx) | (go_at_call 112; refine zG ?_; clear hF hL; intro W hL hF; (with_reducible refine (syn_is b ln0 _).mono ?_); rintro e W ⟨rfl, rfl⟩))
   rw [HVV.out]
   exact ⟨rfl, rfl, hL.sub (List.nil_sublist _)⟩
end Go.Proofs.YtgboffbbpmileaaGreatDoor
/- A row of bytes of the call's own: append onto it, and its string. -/
set_option linter.unusedVariables false
set_option linter.unusedSimpArgs false
namespace Go.Proofs.YtgboffbbpmileaaGreatDoor
open Go Go.RowKit
def bc (l : List UInt8) : List Value := l.map fun c => Value.int .u8 (c.toNat : Int)
theorem bc_len (l : List UInt8) : (bc l).length = l.length := by simp [bc]
/-- v is a row of the bytes l in a world that is w0 but for new memory. -/
def BOwn (w0 w : World) (v : Value) (l : List UInt8) : Prop := Kn [] w0 w [] ∧ w.ownsRow w0.heap.size 5 1 v l.length (bc l)
theorem BOwn.kn {w0 w : World} {v : Value} {l : List UInt8} (h : BOwn w0 w v l) : Kn [] w0 w [] := h.1
theorem BOwn.below {w0 w w' : World} {v : Value} {l : List UInt8} (h : BOwn w0 w v l) (k : Below w.heap.size w w') : BOwn w0 w' v l := ⟨h.1.below k, owns_below h.2 k⟩
theorem BOwn.nil (w : World) : BOwn w w (.slice none 0 0) [] := ⟨Kn.refl [] w, ⟨rfl, .inl ⟨rfl, rfl⟩⟩⟩
theorem BOwn.new {w0 w : World} (h : Kn [] w0 w []) (l : List UInt8) (cs : Array Value) (hcs : cs = (bc l).toArray) (n : Nat) (hn : n = l.length) (hl : l.length ≤ 100000000) : BOwn w0 (w.alloc (.cells cs 5)) (.slice (some ⟨w.heap.size, 0, none⟩) n n) l := by
 subst hcs; subst hn
 refine ⟨h.below ((Below.refl _ _).alloc (Nat.le_refl _) _), ⟨by rw [bc_len, Nat.mul_one], .inr ⟨_, _, (bc l).toArray, rfl, h.size, ?_, Nat.le_refl _, by unfold maxLen; omega, by simp [bc_len], ?_⟩⟩⟩
 ·show (w.heap.push _)[w.heap.size]? = _
  simp
 ·rw [Nat.mul_one, List.take_of_length_le (by simp [bc_len])]
theorem conv_own {w0 w : World} {v : Value} {l : List UInt8} (h : BOwn w0 w v l) (t : ByteArray) (ht : t.data.toList = l) : (convert 119 9 v).run Tryz.prog w = .ok (.string t) w := by
 have e : (⟨l.toArray⟩ : ByteArray) = t := by cases t; subst ht; simp
 rw [← e]
 obtain ⟨h1, ⟨h2, ⟨rfl, h3⟩ | ⟨g, cap, cur, rfl, _, hg, _, _, _, h4⟩⟩⟩ := h
 ·have : l = [] := List.eq_nil_of_length_eq_zero h3
  subst this
  exact run_convert_bytes_nil (P := Tryz.prog) w 119 5 Tryz.underlying119 Tryz.underlying5 0 0 9 Tryz.underlying9
 ·refine run_convert_bytes_back (P := Tryz.prog) w 119 9 5 ⟨g, 0, none⟩ cap l Tryz.underlying119 Tryz.underlying5 Tryz.underlying9 fun j hj => ?_
  rw [Go.WideShapes.add_plain, Nat.zero_add]
  have h5 : (bc l)[j]? = some (.int .u8 (l[j].toNat : Int)) := by simp [bc, hj]
  rw [← h4, List.getElem?_take] at h5
  split at h5
  ·simp only [World.cell?, hg]; simpa using h5
  ·cases h5
end Go.Proofs.YtgboffbbpmileaaGreatDoor
