/- Lemmas and walks for the law of this seat (part 23). -/
import Derived.Test.YtgboffbbpmileaaGreatDoorPj22
import Derived.Test.YtgboffbbpmileaaGreatDoorProg
import Derived.WalkKit
import Derived.Handy
import Derived.Deep.Light
import Derived.WalkSmall
import Derived.StillTailTactics
import Derived.Lib.Hide
import Derived.Deep.LoopGhost
import Derived.Deep.DeepCutAuto
import Derived.Deep.CutBlock
import Derived.Defers
set_option maxRecDepth 20000
set_option maxHeartbeats 4000000
set_option linter.unusedVariables false
set_option linter.unusedSimpArgs false
namespace Go.Proofs.YtgboffbbpmileaaGreatDoor
open Go Go.RowKit
theorem fw_at {W0 : World} {g o cap : Nat} {tvs : List (Tok × Value)} (E : PEnv W0 g o cap tvs) {i : Nat} {x : Tok × Value} (hx : tvs[i]? = some x) : forWords ((TT tvs).drop i) = if ((x.1.kind : Int) == 0) = true then (x.1.parts :: (forWords ((TT tvs).drop (i + 1))).1, (forWords ((TT tvs).drop (i + 1))).2) else ([], (TT tvs).drop i) := by
 rcases drop_at E hx with ⟨h1, h2, h3, h4⟩ | ⟨h1, h2, h3⟩
 ·rw [h1, h2]; rfl
 ·rw [h1]
  show (if x.1.kind = 0 then _ else _) = _
  by_cases h : x.1.kind = 0
  ·rw [if_pos h, if_pos (by rw [h]; rfl)]
  ·rw [if_neg h, if_neg (by rw [beq_iff_eq]; omega)]
def loopR (so : Pa Nd) (nm : Bytes) (r : List Tok) : PR Nd := if isKw [kIn] (lines r) then forIn so nm (lines r).tail else forTail so nm allW (if isOp [59] (lines r) && !isK 3 r then (lines r).tail else lines r)
theorem loop_at {W0 : World} {g o cap : Nat} {tvs : List (Tok × Value)} (E : PEnv W0 g o cap tvs) {so : Pa Nd} {i : Nat} {x : Tok × Value} (hx : tvs[i]? = some x) : loopP so ((TT tvs).drop i) = if (((x.1.kind : Int) == 0) && isName x.1.plain) = true then loopR so x.1.plain ((TT tvs).drop (i + 1)) else syn ((TT tvs).drop i) := by
 rcases drop_at E hx with ⟨h1, h2, h3, h4⟩ | ⟨h1, h2, h3⟩
 ·rw [h1, h2]; rfl
 ·rw [h1]
  show (if x.1.kind = 0 ∧ isName x.1.plain = true then loopR so x.1.plain ((TT tvs).drop (i + 1)) else _) = _
  by_cases h : x.1.kind = 0 ∧ isName x.1.plain = true
  ·rw [if_pos h, if_pos (by rw [h.1, h.2]; rfl)]
  ·rw [if_neg h, if_neg (by intro e; apply h; simp only [Bool.and_eq_true, beq_iff_eq] at e; exact ⟨by omega, e.2⟩)]
theorem loop_out {W0 : World} {b d j g o cap gq : Nat} {tvs : List (Tok × Value)} {w W : World} {vj : Value} {nm : Bytes} {aw : Option Addr} {nw cw : Nat} {ws : List (List Prt × Value)} {n : Nd} {nm2 : ByteArray} {aa2 : Option Addr} {na2 : Nat} {ca2 : Nat} {aw2 : Option Addr} {nw2 : Nat} {cw2 : Nat} {ar2 : Option Addr} {nr2 : Nat} {cr2 : Nat} {ak2 : Option Addr} {nk2 : Nat} {ck2 : Nat} {LN LW : List (Nat × Obj)} (HN : NodeL W0 LN n [.int .i64 (n.kind : Int), .string nm2, .bool n.neg, .slice aa2 na2 ca2, .slice aw2 nw2 cw2, .slice ar2 nr2 cr2, .slice ak2 nk2 ck2])
  (h1 : RowM 1 W0 LW (.slice aw nw cw) (ws.map fun x => [x.2])) (h2 : ∀ x ∈ ws, PRm W0 LW x.2 x.1) (Hvj : AtV g o cap tvs j vj) (hL : Kn [b] w W ((b, .cells #[vj, .int .i64 (d : Int)] 73 (0, 0)) :: ((LN ++ LW) ++ [(gq, .cells #[.int .i64 (n.kind : Int), .string nm2, .bool n.neg, .slice aa2 na2 ca2, .slice aw2 nw2 cw2, .slice ar2 nr2 cr2, .slice ak2 nk2 ck2] 41 (0, 0))]))) :
  BOut W0 b d g o cap tvs w (.ok (.mk 11 nm false [] (ws.map (·.1)) [] [n]) ((TT tvs).drop j)) (.returned (.agg #[.int .i64 11, .string ⟨nm.toArray⟩, .bool false, .slice none 0 0, .slice aw nw cw, .slice none 0 0, .slice (some ⟨gq, 0, none⟩) 1 1])) W :=
 ⟨11, ⟨nm.toArray⟩, aw, nw, cw, some ⟨gq, 0, none⟩, 1, 1, LN ++ LW, _, j, vj, rfl, Lib.hid ⟨11, ws, [(n, [.int .i64 (n.kind : Int), .string nm2, .bool n.neg, .slice aa2 na2 ca2, .slice aw2 nw2 cw2, .slice ar2 nr2 cr2, .slice ak2 nk2 ck2])], by simp, rfl, h1.mono fun p hp => List.mem_append_right _ hp, fun x hx => (h2 x hx).mono fun p hp => List.mem_append_right _ hp, rfl, krow_one rfl rfl, fun z hz => by rw [List.mem_singleton.1 hz]; exact HN.l⟩, Lib.hid ⟨Hvj, rfl⟩, hL⟩
theorem loop_c {W0 : World} {g o cap : Nat} {tvs : List (Tok × Value)} (E : PEnv W0 g o cap tvs) {d : Nat} {so : Pa Nd} (HC : NodeC W0 g o cap tvs 162 d so) : BodyC W0 g o cap tvs 141 d (loopP so) := by
  intro b i v w hB hbb hv hb
  obtain ⟨PL, hpl⟩ : ∃ p : PR Nd, loopP so ((TT tvs).drop i) = p := ⟨_, rfl⟩
  rw [hpl]
  have HCC := Lib.hid HC
  clear HC
  obtain ⟨m, hm⟩ : ∃ m, m = ((TT tvs).drop i).length := ⟨_, rfl⟩
  have Hm := Lib.hid hm
  clear hm
  obtain ⟨x, pa, pn, pc, hx, hx2⟩ := E.tok hv.out
  have HX := Lib.hid hx
  have HX2 := Lib.hid hx2
  have f0 := tkf0 x.1.kind x.1.fd x.1.line ⟨x.1.text.toArray⟩ ⟨x.1.plain.toArray⟩ pa pn pc
  have f1 := tkf1 x.1.kind x.1.fd x.1.line ⟨x.1.text.toArray⟩ ⟨x.1.plain.toArray⟩ pa pn pc
  have f2 := tkf2 x.1.kind x.1.fd x.1.line ⟨x.1.text.toArray⟩ ⟨x.1.plain.toArray⟩ pa pn pc
  have f3 := tkf3 x.1.kind x.1.fd x.1.line ⟨x.1.text.toArray⟩ ⟨x.1.plain.toArray⟩ pa pn pc
  have f4 := tkf4 x.1.kind x.1.fd x.1.line ⟨x.1.text.toArray⟩ ⟨x.1.plain.toArray⟩ pa pn pc
  have f5 := tkf5 x.1.kind x.1.fd x.1.line ⟨x.1.text.toArray⟩ ⟨x.1.plain.toArray⟩ pa pn pc
  clear hx hx2
  rw [loop_at E HX.out] at hpl
  have HSZ : Hid ((⟨x.1.plain.toArray⟩ : ByteArray).size ≤ 1000000) := Lib.hid (by have := (E.word x (List.mem_of_getElem? HX.out)).2.1; rw [← szl]; simp only [List.toList_toArray]; omega)
  have HIN := Lib.hid (fun W => isName_is ⟨x.1.plain.toArray⟩ HSZ.out W)
  simp only [List.toList_toArray] at HIN
  obtain ⟨kx, hkx⟩ : ∃ z : Bool, ((x.1.kind : Int) == 0) = z := ⟨_, rfl⟩
  obtain ⟨nx, hnx⟩ : ∃ z : Bool, isName x.1.plain = z := ⟨_, rfl⟩
  have hkx2 : ((x.1.kind : Int) != 0) = !kx := by rw [← hkx]; rfl
  rw [hnx] at HIN
  rw [hkx, hnx] at hpl
  have H4X : Hid (kx = true → x.1.kind ≠ 4) := Lib.hid (fun h e4 => by rw [e4] at hkx; rw [h] at hkx; cases hkx)
  have HPL := Lib.hid hpl.symm
  clear hpl hnx
  have hi := hv.out.1
  have hmx := E.max
  have HB0 := Lib.hid hB
  have HXB := Lib.hid (show ∀ y ∈ [b], W0.heap.size ≤ y from by simpa using hbb)
  have hL : Kn [b] w w [(b, .cells #[v, .int .i64 (d : Int)] 73 (0, 0))] := Kn.one hb
  have HBS := Lib.hid hb
  clear hB hb
  have hF := hL.fx
  cases hq : (kx && nx) with
  | false =>
    have HB9 : Hid (PL = .bad 1 m) := Lib.hid (by rw [HPL.out, hq, if_neg (by decide), Hm.out]; rfl)
    clear HPL
    cases kx <;> cases nx <;> first | exact absurd hq (by decide) | (
      clear hq
      go_enter Tryz.func141, Tryz.ntmps141
      go_wp2_with (first | ((with_reducible refine zS ?_); clear hL; intro W hL hF) | (go_at_call 27; refine zC (fun W hL => next_i E b i v (d : Int) _ (kn_bw HB0.out hL HXB.out) hbb hv (by (exact hL.has _ (List.mem_cons_of_mem _ List.mem_cons_self))) HX.out pa pn pc HX2.out ) ?_; clear hF hL; intro W hL hF) | (go_at_call 121; refine zC (fun W hL => HIN.out _) ?_; clear hF hL; intro W hL hF) | (go_at_call 28; refine zG ?_; clear hF hL; intro W hL hF; (with_reducible refine (fail_c E b i v d _ (kn_bw HB0.out hL HXB.out) hbb hv (by (exact hL.has _ (List.mem_cons_of_mem _ List.mem_cons_self))) 27 d 1 (Lib.hid rfl) m Hm).mono ?_); rintro e W ⟨vj, dj, rfl, hb⟩; ((replace hL := hL.join1 1 rfl hb)); clear hb hF; simp only [List.eraseIdx_cons_zero, List.eraseIdx_cons_succ, List.cons_append, List.nil_append] at hL; have hF := hL.fx))
      refine ⟨rfl, ?_⟩; rw [HB9.out]; exact ⟨vj, dj, rfl, (hL.perml fun p => by simp only [List.countP_cons, List.countP_nil, List.countP_append, List.append_nil, List.nil_append, List.length_nil]; omega)⟩)
  | true =>
    obtain ⟨rfl, rfl⟩ : kx = true ∧ nx = true := by cases kx <;> cases nx <;> first | exact ⟨rfl, rfl⟩ | cases hq
    have HB9 : Hid (PL = loopR so x.1.plain ((TT tvs).drop (i + 1))) := Lib.hid (by rw [HPL.out]; exact if_pos rfl)
    have H4 := Lib.hid (H4X.out rfl)
    clear HPL hq H4X
    go_enter Tryz.func141, Tryz.ntmps141
    go_upto_region 4 with (first | (go_at_call 27; refine zC (fun W hL => next_i E b i v (d : Int) _ (kn_bw HB0.out hL HXB.out) hbb hv (by (exact hL.has _ (List.mem_cons_of_mem _ List.mem_cons_self))) HX.out pa pn pc HX2.out ) ?_; clear hF hL; intro W hL hF) | (go_at_call 121; refine zC (fun W hL => HIN.out _) ?_; clear hF hL; intro W hL hF) | (go_at_call 53; refine zG ?_; clear hF hL; intro W hL hF; (with_reducible refine (pass_i E b i v (d : Int) _ (kn_bw HB0.out hL HXB.out) hbb hv (by (exact hL.has _ (List.mem_cons_of_mem _ List.mem_cons_self))) HX.out pa pn pc HX2.out H4.out).mono ?_); rintro e W ⟨rfl, vj0, HVJ0, hb⟩; ((replace hL := hL.join1 1 rfl hb)); clear hb hF; simp only [List.eraseIdx_cons_zero, List.eraseIdx_cons_succ, List.cons_append, List.nil_append] at hL; have hF := hL.fx; obtain ⟨W1, rfl⟩ : ∃ W1 : World, W1 = W := ⟨_, rfl⟩))
    refine kn_wp ?_; clear hF hL; intro W hL; have hF := hL.fx
    have hj0 := HVJ0.out.1
    have Hvj0 := HVJ0
    obtain ⟨y, pa8, pn8, pc8, hx8, hx28⟩ := E.tok Hvj0.out
    have HX8 := Lib.hid hx8
    have HX28 := Lib.hid hx28
    have f08 := tkf0 y.1.kind y.1.fd y.1.line ⟨y.1.text.toArray⟩ ⟨y.1.plain.toArray⟩ pa8 pn8 pc8
    have f18 := tkf1 y.1.kind y.1.fd y.1.line ⟨y.1.text.toArray⟩ ⟨y.1.plain.toArray⟩ pa8 pn8 pc8
    have f28 := tkf2 y.1.kind y.1.fd y.1.line ⟨y.1.text.toArray⟩ ⟨y.1.plain.toArray⟩ pa8 pn8 pc8
    have f38 := tkf3 y.1.kind y.1.fd y.1.line ⟨y.1.text.toArray⟩ ⟨y.1.plain.toArray⟩ pa8 pn8 pc8
    have f48 := tkf4 y.1.kind y.1.fd y.1.line ⟨y.1.text.toArray⟩ ⟨y.1.plain.toArray⟩ pa8 pn8 pc8
    have f58 := tkf5 y.1.kind y.1.fd y.1.line ⟨y.1.text.toArray⟩ ⟨y.1.plain.toArray⟩ pa8 pn8 pc8
    clear hx8 hx28
    obtain ⟨k3, hk3⟩ : ∃ z : Bool, ((y.1.kind : Int) == 3) = z := ⟨_, rfl⟩
    have HK3 : Hid (isK 3 ((TT tvs).drop (i + 1)) = k3) := Lib.hid (by rw [k_at E HX8.out 3 (by omega)]; exact hk3)
    go_upto_block 0 with (first | (go_at_call 27; refine zC (fun W hL => next_i E b (i + 1) vj0 (d : Int) _ (kn_bw HB0.out hL HXB.out) hbb Hvj0 (by (exact hL.has _ (List.mem_cons_of_mem _ List.mem_cons_self))) HX8.out pa8 pn8 pc8 HX28.out ) ?_; clear hF hL; intro W hL hF) | (go_at_call 49; refine zG ?_; clear hF hL; intro W hL hF; (with_reducible refine (lines_c E b (i + 1) vj0 d _ (kn_bw HB0.out hL HXB.out) hbb Hvj0 (by (exact hL.has _ (List.mem_cons_of_mem _ List.mem_cons_self)))).mono ?_); rintro e W ⟨j1, vj1, rfl, HJ1, hb⟩; ((replace hL := hL.join1 1 rfl hb)); clear hb hF; simp only [List.eraseIdx_cons_zero, List.eraseIdx_cons_succ, List.cons_append, List.nil_append] at hL; have hF := hL.fx))
    have Hvj1 := Lib.hid HJ1.out.2.1
    have hj1 := HJ1.out.2.1.1
    obtain ⟨k5, hk5⟩ : ∃ z : Bool, isKw [kIn] ((TT tvs).drop j1) = z := ⟨_, rfl⟩
    have HK5 : Hid (isKw ([(⟨#[105, 110]⟩ : ByteArray)].map fun z => z.data.toList) ((TT tvs).drop j1) = k5) := Lib.hid hk5
    obtain ⟨k6, hk6⟩ : ∃ z : Bool, isOp [59] ((TT tvs).drop j1) = z := ⟨_, rfl⟩
    have HK6 : Hid (isOp (⟨#[59]⟩ : ByteArray).data.toList ((TT tvs).drop j1) = k6) := Lib.hid hk6
    have HB0_ : Hid (PL = if k5 = true then forIn so x.1.plain ((TT tvs).drop j1).tail else forTail so x.1.plain allW (if (k6 && !k3) = true then ((TT tvs).drop j1).tail else (TT tvs).drop j1)) := Lib.hid (by rw [HB9.out]; unfold loopR; rw [HJ1.out.2.2, hk5, hk6, HK3.out])
    go_cut [] (fun wc => ∃ (j : Nat) (vj : Value) (ws : List (List Prt × Value)) (aw : Option Addr) (nw cw : Nat) (LW : List (Nat × Obj)), Hid (AtV g o cap tvs j vj) ∧ Hid (PL = forTail so x.1.plain (ws.map (·.1)) ((TT tvs).drop j)) ∧ Hid (RowM 1 W0 LW (.slice aw nw cw) (ws.map fun x => [x.2]) ∧ ∀ x ∈ ws, PRm W0 LW x.2 x.1) ∧ Kn [b] w wc ((b, .cells #[vj, .int .i64 (d : Int)] 73 (0, 0)) :: (W1.heap.size, .cells #[.int .i64 11, .string ⟨x.1.plain.toArray⟩, .bool false, .slice none 0 0, .slice aw nw cw, .slice none 0 0, .slice none 0 0] 41 (0, 0)) :: (w.heap.size, .cells #[.int .i64 0, .string ⟨#[]⟩, .bool false, .slice none 0 0, .slice none 0 0, .slice none 0 0, .slice none 0 0] 41 (0, 0)) :: LW))
    case first =>
      have HB8 := HB0_.out
      clear HB0_
      cases k5
      · rw [if_neg (by decide)] at HB8
        have HB7 := Lib.hid HB8
        clear HB8
        go_upto_region 6 with ((go_at_call 86; refine zC (fun W hL => key_c E b j1 vj1 (d : Int) _ (kn_bw HB0.out hL HXB.out) hbb Hvj1 (by (exact hL.has _ (List.mem_cons_of_mem _ List.mem_cons_self))) _ 0 1 _ [⟨#[105, 110]⟩] _ HK5 (Lib.hid rfl) (by omega) (one_word (kn_c0 hL List.mem_cons_self)) (by (exact kn_ne hL List.mem_cons_self))) ?_; clear hF hL; intro W hL hF; replace hL := hL.drop1; clear hF; have hF := hL.fx))
        have hne7 : Hid ((k6 && !k3) = true → (TT tvs).drop j1 ≠ []) := Lib.hid fun h => op_ne (s := [59]) (by cases k6 with | true => exact HK6.out | false => cases h)
        refine kn_wp ?_; clear hF hL; intro W hL; have hF := hL.fx
        obtain ⟨W2, hW2⟩ : ∃ W2, W = W2 := ⟨_, rfl⟩
        subst hW2
        have HR9 : Hid (RowM 1 W0 [(W.heap.size + 1, .cells #[.slice (some ⟨W.heap.size, 0, none⟩) 1 1] 29 (0, 0)), (W.heap.size, .cells #[.int .i64 1, .string ⟨#[64]⟩, .bool true] 118 (0, 0))] (.slice (some ⟨W.heap.size + 1, 0, none⟩) 1 1) ([((⟨1, [64], true⟩ : Prt) :: [], Value.slice (some ⟨W.heap.size, 0, none⟩) 1 1)].map fun x => [x.2]) ∧ ∀ x ∈ [((⟨1, [64], true⟩ : Prt) :: [], Value.slice (some ⟨W.heap.size, 0, none⟩) 1 1)], PRm W0 [(W.heap.size + 1, .cells #[.slice (some ⟨W.heap.size, 0, none⟩) 1 1] 29 (0, 0)), (W.heap.size, .cells #[.int .i64 1, .string ⟨#[64]⟩, .bool true] 118 (0, 0))] x.2 x.1) := Lib.hid ⟨RowM.one (cs := [.slice (some ⟨W.heap.size, 0, none⟩) 1 1]) List.mem_cons_self (Nat.le_refl _), fun x hx => by rw [List.mem_singleton.1 hx]; exact RowM.one (cs := [.int .i64 1, .string ⟨#[64]⟩, .bool true]) (List.mem_cons_of_mem _ List.mem_cons_self) (Nat.le_refl _)⟩
        cases k6 <;> cases k3 <;> first
        | (have HNE7 := Lib.hid (hne7.out rfl)
           go_wp2_with (first | ((with_reducible refine zS ?_); clear hL; intro W hL hF) | (go_at_call 52; refine kn_calls ?_; clear hF hL; intro W hL; simp only [kfb] at hL; have hF := hL.fx; (((first | (with_reducible refine (op_c E b j1 vj1 (d : Int) _ (kn_bw HB0.out hL HXB.out) hbb Hvj1 (by (exact hL.has _ (List.mem_cons_of_mem _ (List.mem_cons_of_mem _ List.mem_cons_self)))) ⟨#[59]⟩ _ HK6).mono ?_)))); rintro e W ⟨rfl, hb⟩; replace hL := hL.below hb; clear hb hF; have hF := hL.fx) | (go_at_call 53; refine zG ?_; clear hF hL; intro W hL hF; (with_reducible refine (pass_c E b j1 vj1 (d : Int) _ (kn_bw HB0.out hL HXB.out) hbb Hvj1 (by (exact hL.has _ (List.mem_cons_of_mem _ (List.mem_cons_of_mem _ List.mem_cons_self)))) HNE7.out).mono ?_); rintro e W ⟨x1, pa1, pn1, pc1, vj5, rfl, HTX5, HVJ5, hb⟩; ((replace hL := hL.join1 2 rfl hb)); clear hb hF; simp only [List.eraseIdx_cons_zero, List.eraseIdx_cons_succ, List.cons_append, List.nil_append] at hL; have hF := hL.fx))
           go_meet
           case rel => exact ⟨j1 + 1, vj5, _, _, _, _, _, HVJ5, Lib.hid (by rw [HB7.out]; simp only [drop_tail]; rfl), HR9, by refine Kn.name ?_; clear hL; intro hL; exact (hL.perml fun p => by simp only [List.countP_cons, List.countP_nil, List.countP_append, List.append_nil, List.nil_append, List.length_nil]; omega)⟩)
        | (go_wp2_with (first | ((with_reducible refine zS ?_); clear hL; intro W hL hF) | (go_at_call 52; refine kn_calls ?_; clear hF hL; intro W hL; simp only [kfb] at hL; have hF := hL.fx; (((first | (with_reducible refine (op_c E b j1 vj1 (d : Int) _ (kn_bw HB0.out hL HXB.out) hbb Hvj1 (by (exact hL.has _ (List.mem_cons_of_mem _ (List.mem_cons_of_mem _ List.mem_cons_self)))) ⟨#[59]⟩ _ HK6).mono ?_)))); rintro e W ⟨rfl, hb⟩; replace hL := hL.below hb; clear hb hF; have hF := hL.fx))
           go_meet
           case rel => exact ⟨j1, vj1, _, _, _, _, _, Hvj1, Lib.hid (by rw [HB7.out]; rfl), HR9, by refine Kn.name ?_; clear hL; intro hL; exact (hL.perml fun p => by simp only [List.countP_cons, List.countP_nil, List.countP_append, List.append_nil, List.nil_append, List.length_nil]; omega)⟩)
      · rw [if_pos rfl, drop_tail] at HB8
        have HNE1 := Lib.hid (kw_ne hk5)
        have HB7 := Lib.hid HB8
        clear HB8 hk6 HK6
        go_wp2_with (first | ((with_reducible refine zS ?_); clear hL; intro W hL hF) | (go_at_call 86; refine zC (fun W hL => key_c E b j1 vj1 (d : Int) _ (kn_bw HB0.out hL HXB.out) hbb Hvj1 (by (exact hL.has _ (List.mem_cons_of_mem _ List.mem_cons_self))) _ 0 1 _ [⟨#[105, 110]⟩] _ HK5 (Lib.hid rfl) (by omega) (one_word (kn_c0 hL List.mem_cons_self)) (by (exact kn_ne hL List.mem_cons_self))) ?_; clear hF hL; intro W hL hF; replace hL := hL.drop1; clear hF; have hF := hL.fx) | (go_at_call 53; refine zG ?_; clear hF hL; intro W hL hF; (with_reducible refine (pass_c E b j1 vj1 (d : Int) _ (kn_bw HB0.out hL HXB.out) hbb Hvj1 (by (exact hL.has _ List.mem_cons_self)) HNE1.out).mono ?_); rintro e W ⟨x1, pa1, pn1, pc1, vj2, rfl, HTX1, HVJ2, hb⟩; ((replace hL := hL.join1 0 rfl hb)); clear hb hF; simp only [List.eraseIdx_cons_zero, List.eraseIdx_cons_succ, List.cons_append, List.nil_append] at hL; have hF := hL.fx))
        have hj2 := HVJ2.out.1
        go_loopg [] (tvs.length - (j1 + 1)) (fun n wr => ∃ (j : Nat) (vj : Value) (wv : List (List Prt × Value)) (aw : Option Addr) (cw : Nat) (LW : List (Nat × Obj)), n = tvs.length - j ∧ Hid (AtV g o cap tvs j vj) ∧ Hid (forWords ((TT tvs).drop (j1 + 1)) = (wv.map (·.1) ++ (forWords ((TT tvs).drop j)).1, (forWords ((TT tvs).drop j)).2)) ∧ Hid (RowL 1 29 LW (.slice aw wv.length cw) wv.length (wv.flatMap fun x => [x.2])) ∧ Hid (∀ x ∈ wv, PRm W0 [] x.2 x.1) ∧ wv.length ≤ j ∧ j < tvs.length ∧ Kn [b] w wr ((b, .cells #[vj, .int .i64 (d : Int)] 73 (0, 0)) :: (W1.heap.size, .cells #[.int .i64 11, .string ⟨x.1.plain.toArray⟩, .bool false, .slice none 0 0, .slice aw wv.length cw, .slice none 0 0, .slice none 0 0] 41 (0, 0)) :: (w.heap.size, .cells #[.int .i64 0, .string ⟨#[]⟩, .bool false, .slice none 0 0, .slice none 0 0, .slice none 0 0, .slice none 0 0] 41 (0, 0)) :: LW))
        case atStart => exact ⟨j1 + 1, vj2, [], none, 0, [], rfl, HVJ2, Lib.hid rfl, Lib.hid RowL.nil, Lib.hid (by simp), Nat.zero_le _, hj2, by refine Kn.name ?_; clear hL; intro hL; exact (hL.perml fun p => by simp only [List.countP_cons, List.countP_nil, List.countP_append, List.append_nil, List.nil_append, List.length_nil]; omega)⟩
        case round =>
          clear hL
          obtain ⟨j, vj, wv, aw, cw, LW, rfl, Hvj, HF, HRW, HPW, hsz, hjl, hL⟩ := hrel
          have hF := hL.fx
          obtain ⟨y, pa9, pn9, pc9, hx9, hx29⟩ := E.tok Hvj.out
          have HX9 := Lib.hid hx9
          have HX29 := Lib.hid hx29
          have f09 := tkf0 y.1.kind y.1.fd y.1.line ⟨y.1.text.toArray⟩ ⟨y.1.plain.toArray⟩ pa9 pn9 pc9
          have f19 := tkf1 y.1.kind y.1.fd y.1.line ⟨y.1.text.toArray⟩ ⟨y.1.plain.toArray⟩ pa9 pn9 pc9
          have f29 := tkf2 y.1.kind y.1.fd y.1.line ⟨y.1.text.toArray⟩ ⟨y.1.plain.toArray⟩ pa9 pn9 pc9
          have f39 := tkf3 y.1.kind y.1.fd y.1.line ⟨y.1.text.toArray⟩ ⟨y.1.plain.toArray⟩ pa9 pn9 pc9
          have f49 := tkf4 y.1.kind y.1.fd y.1.line ⟨y.1.text.toArray⟩ ⟨y.1.plain.toArray⟩ pa9 pn9 pc9
          have f59 := tkf5 y.1.kind y.1.fd y.1.line ⟨y.1.text.toArray⟩ ⟨y.1.plain.toArray⟩ pa9 pn9 pc9
          clear hx9 hx29
          obtain ⟨k0, hk0⟩ : ∃ z : Bool, ((y.1.kind : Int) == 0) = z := ⟨_, rfl⟩
          have HFW := Lib.hid (fw_at E HX9.out)
          rw [hk0] at HFW
          have H49 : Hid (k0 = true → y.1.kind ≠ 4) := Lib.hid (fun h e4 => by rw [e4] at hk0; rw [h] at hk0; cases hk0)
          cases k0
          · have HF5 : Hid (forWords ((TT tvs).drop (j1 + 1)) = (wv.map (·.1), (TT tvs).drop j)) := Lib.hid (by have h8 := HFW.out; rw [if_neg (by decide)] at h8; rw [HF.out, h8]; simp)
            obtain ⟨k6, hk6⟩ : ∃ z : Bool, isOp [59] ((TT tvs).drop j) = z := ⟨_, rfl⟩
            have HK6 : Hid (isOp (⟨#[59]⟩ : ByteArray).data.toList ((TT tvs).drop j) = k6) := Lib.hid hk6
            obtain ⟨k7, hk7⟩ : ∃ z : Bool, ((y.1.kind : Int) != 3) = z := ⟨_, rfl⟩
            have HK7 : Hid (isK 3 ((TT tvs).drop j) = !k7) := Lib.hid (by rw [k_at E HX9.out 3 (by omega), ← hk7]; exact (Bool.not_not _).symm)
            have HB4 : Hid (PL = if k6 || !k7 then forTail so x.1.plain (wv.map (·.1)) ((TT tvs).drop (j + 1)) else syn ((TT tvs).drop j)) := Lib.hid (by rw [HB7.out]; unfold forIn; rw [HF5.out]; simp only; rw [hk6, HK7.out, drop_tail])
            have HNE5 : Hid ((k6 || !k7) = true → (TT tvs).drop j ≠ []) := Lib.hid (fun h => by
              cases hq : k6 with
              | true => exact op_ne (by rw [hk6]; exact hq)
              | false => rw [hq] at h; exact k_ne (by rw [HK7.out]; simpa using h))
            have HR9 : Hid (RowM 1 W0 LW (.slice aw wv.length cw) (wv.map fun x => [x.2]) ∧ ∀ x ∈ wv, PRm W0 LW x.2 x.1) := Lib.hid ⟨RowL.rowM (fun _ => rfl) HRW.out fun p hp => hp, fun x hx => (HPW.out x hx).mono fun p hp => by cases hp⟩
            obtain ⟨m, hm⟩ : ∃ m, m = ((TT tvs).drop j).length := ⟨_, rfl⟩
            have Hm := Lib.hid hm
            clear hm
            clear hk6
            cases k6 <;> cases k7 <;> first
            | (have HB5 := HB4.out
               rw [if_pos (by decide)] at HB5
               have HB3 := Lib.hid HB5
               have HNE6 := Lib.hid (HNE5.out (by decide))
               clear HB4 HB5 HNE5
               go_wp2_with (first | ((with_reducible refine zS ?_); clear hL; intro W hL hF) | (go_at_call 27; refine zC (fun W hL => next_i E b j vj (d : Int) _ (kn_bw HB0.out hL HXB.out) hbb Hvj (by (exact hL.has _ List.mem_cons_self)) HX9.out pa9 pn9 pc9 HX29.out ) ?_; clear hF hL; intro W hL hF) | (go_at_call 52; refine zG ?_; clear hF hL; intro W hL hF; (((first | (with_reducible refine (op_c E b j vj (d : Int) _ (kn_bw HB0.out hL HXB.out) hbb Hvj (by (exact hL.has _ List.mem_cons_self)) ⟨#[59]⟩ _ HK6).mono ?_)))); rintro e W ⟨rfl, hb⟩; replace hL := hL.below hb; clear hb hF; have hF := hL.fx) | (go_at_call 53; refine zG ?_; clear hF hL; intro W hL hF; (with_reducible refine (pass_c E b j vj (d : Int) _ (kn_bw HB0.out hL HXB.out) hbb Hvj (by (exact hL.has _ List.mem_cons_self)) HNE6.out).mono ?_); rintro e W ⟨x1, pa1, pn1, pc1, vj5, rfl, HTX5, HVJ5, hb⟩; ((replace hL := hL.join1 0 rfl hb)); clear hb hF; simp only [List.eraseIdx_cons_zero, List.eraseIdx_cons_succ, List.cons_append, List.nil_append] at hL; have hF := hL.fx))
               go_meet
               case rel => exact ⟨j + 1, vj5, wv, aw, wv.length, cw, LW, HVJ5, HB3, HR9, by refine Kn.name ?_; clear hL; intro hL; exact (hL.perml fun p => by simp only [List.countP_cons, List.countP_nil, List.countP_append, List.append_nil, List.nil_append, List.length_nil]; omega)⟩)
            | (have HB5 := HB4.out
               rw [if_neg (by decide)] at HB5
               have HB3 : Hid (PL = .bad 1 m) := Lib.hid (by rw [HB5, Hm.out]; rfl)
               clear HB4 HB5 HNE5
               go_wp2_with (first | ((with_reducible refine zS ?_); clear hL; intro W hL hF) | (go_at_call 27; refine zC (fun W hL => next_i E b j vj (d : Int) _ (kn_bw HB0.out hL HXB.out) hbb Hvj (by (exact hL.has _ List.mem_cons_self)) HX9.out pa9 pn9 pc9 HX29.out ) ?_; clear hF hL; intro W hL hF) | (go_at_call 52; refine zG ?_; clear hF hL; intro W hL hF; (((first | (with_reducible refine (op_c E b j vj (d : Int) _ (kn_bw HB0.out hL HXB.out) hbb Hvj (by (exact hL.has _ List.mem_cons_self)) ⟨#[59]⟩ _ HK6).mono ?_)))); rintro e W ⟨rfl, hb⟩; replace hL := hL.below hb; clear hb hF; have hF := hL.fx) | (go_at_call 28; refine zG ?_; clear hF hL; intro W hL hF; (with_reducible refine (fail_c E b j vj d _ (kn_bw HB0.out hL HXB.out) hbb Hvj (by (exact hL.has _ List.mem_cons_self)) 27 d 1 (Lib.hid rfl) m Hm).mono ?_); rintro e W ⟨vj5, dj, rfl, hb⟩; ((replace hL := hL.join1 0 rfl hb)); clear hb hF; simp only [List.eraseIdx_cons_zero, List.eraseIdx_cons_succ, List.cons_append, List.nil_append] at hL; have hF := hL.fx))
               refine ⟨rfl, ?_⟩; rw [HB3.out]; exact ⟨vj5, dj, rfl, (hL.perml fun p => by simp only [List.countP_cons, List.countP_nil, List.countP_append, List.append_nil, List.nil_append, List.length_nil]; omega)⟩)
          · have H4 := Lib.hid (H49.out rfl)
            have HPT := Lib.hid (prm_tok E (List.mem_of_getElem? HX9.out) (L := []))
            rw [HX29.out] at HPT
            go_wp2_with (first | ((with_reducible refine zS ?_); clear hL; intro W hL hF) | (go_at_call 27; refine zC (fun W hL => next_i E b j vj (d : Int) _ (kn_bw HB0.out hL HXB.out) hbb Hvj (by (exact hL.has _ List.mem_cons_self)) HX9.out pa9 pn9 pc9 HX29.out ) ?_; clear hF hL; intro W hL hF) | ((with_reducible refine at_region 12 ?_); refine kn_wp ?_; clear hF hL; intro W hL; have hF := hL.fx; refine kn_region [0, 1, 2, 3, 4, 5, 6, 7, 8] [0, 1, 2, 4, 7] [6, 8] [0, 2, 4, 7] (by kernel_rfl) (by kernel_rfl) (List.Sublist.cons _ (List.Sublist.cons_cons _ (List.nil_sublist _))) ?_; clear hF hL; intro ι F hne hC hFF; have hG := fun n => (hFF n).fx; clear hFF; (repeat (first | (refine cS ?_) | (refine cF hC ?_; intro K hK; go_big_quiet_op; go_big_quiet_on) | (refine cP ?_; intro K hK; go_big_quiet_op; go_big_quiet_on) | (refine cC ?_; intro W hL; have hF := hL.fx; simp only [zA, Act.eval]; go_at_call 53; (with_reducible refine (pass_i E b j vj (d : Int) _ (kn_bw HB0.out hL HXB.out) hbb Hvj (by (exact hL.has _ List.mem_cons_self)) HX9.out pa9 pn9 pc9 HX29.out H4.out).mono ?_); rintro e W ⟨rfl, vj5, HVJ5, hb⟩; ((replace hL := hL.join1 0 rfl hb)); clear hb hF; simp only [List.eraseIdx_cons_zero, List.eraseIdx_cons_succ, List.cons_append, List.nil_append] at hL; have hF := hL.fx; refine owed_ret ?_; ((refine owed0 _ (by repeat' (first | (with_reducible exact List.nil_sublist _) | (with_reducible apply List.Sublist.cons_cons) | (with_reducible apply List.Sublist.cons))) ?_; clear hL hF)); simp only [Act.put, zT]) | (refine cN ?_; intro W hL; have hF := hL.fx; at_builtin; go_loud (refine wpList_append_end rfl _ _ 37 37 rfl [_, _, _, _] LW hL wv.length 1 (wv.flatMap fun x => [x.2]) [.slice pa9 pn9 pc9] _ _ HRW.out rfl rfl (fun ho => run_append_Wd rfl (fun j u hu => by rw [Go.WideShapes.add_plain, Nat.zero_add, kn_cell hL List.mem_cons_self]; simpa using hu) (by intro u hu; simp only [List.mem_cons, List.not_mem_nil, or_false] at hu; subst hu; rfl) (by omega) ho) ?_); intro LP3 a3 c3 W3 hL2 hr3; clear hL hF; have hL := hL2; clear hL2; simp only [List.append_eq, List.cons_append, List.nil_append] at hL; have hF := hL.fx; go_wp2; refine zB2 ?_; clear hL hF hC hG; intro ι F hne hC hG) | (refine cN ?_; intro W hL; have hF := hL.fx; go_wp2; refine anchQ_normal ?_; (first | (refine owedB _ (by rfl) ?_; clear hL hF hC hG; intro ι F hne hC hFF; have hG := fun n => (hFF n).fx; clear hFF) | (refine owed0 _ (by repeat' (first | (with_reducible exact List.nil_sublist _) | (with_reducible apply List.Sublist.cons_cons) | (with_reducible apply List.Sublist.cons))) ?_; clear hL hF))))); refine cwk_nil ?_; clear hC hG; intro W hL; simp only [kfb] at hL; have hF := hL.fx))
            have hj5 := HVJ5.out.1
            go_roundg (tvs.length - (j + 1))
            case measure => omega
            case rel => exact ⟨j + 1, vj5, wv ++ [(y.1.parts, .slice pa9 pn9 pc9)], a3, c3, LP3, rfl, HVJ5, Lib.hid (by have h8 := HFW.out; rw [if_pos trivial] at h8; rw [HF.out, h8]; simp), Lib.hid (by simpa using hr3), Lib.hid (all_snoc HPW.out HPT.out), by simp only [List.length_append, List.length_singleton]; omega, hj5, by refine Kn.name ?_; clear hL; intro hL; simp only [List.length_append, List.length_singleton]; exact (hL.perml fun p => by simp only [List.countP_cons, List.countP_nil, List.countP_append, List.append_nil, List.nil_append, List.length_nil]; omega)⟩
    case rest =>
      clear hL HB0_ hk5 hk6 hk3 HK5 HK6 HK3
      obtain ⟨j, vj, ws, aw, nw, cw, LW, Hvj, HB7, HRW, hL⟩ := hcut
      have hF := hL.fx
      have hjl := Hvj.out.1
      go_upto_region 17 with ((go_at_call 49; refine zG ?_; clear hF hL; intro W hL hF; (with_reducible refine (lines_c E b j vj d _ (kn_bw HB0.out hL HXB.out) hbb Hvj (by (exact hL.has _ List.mem_cons_self))).mono ?_); rintro e W ⟨j2, vj2, rfl, HJ2, hb⟩; ((replace hL := hL.join1 0 rfl hb)); clear hb hF; simp only [List.eraseIdx_cons_zero, List.eraseIdx_cons_succ, List.cons_append, List.nil_append] at hL; have hF := hL.fx))
      have Hvj2 := Lib.hid HJ2.out.2.1
      have HB2 := HB7.out
      unfold forTail at HB2
      rw [HJ2.out.2.2] at HB2
      have HW1 := Lib.hid (fun W hB hb => want_c E b j2 vj2 d W hB hbb Hvj2 hb ⟨#[100, 111]⟩)
      cases hw : want kDo ((TT tvs).drop j2) with
      | bad er m2 =>
        rw [show want (⟨#[100, 111]⟩ : ByteArray).data.toList ((TT tvs).drop j2) = _ from hw] at HW1
        replace HB2 := Lib.hid (pr_bad HB2 hw)
        clear hw
        go_wp2_with (first | ((with_reducible refine zS ?_); clear hL; intro W hL hF) | (go_at_call 144; refine zG ?_; clear hF hL; intro W hL hF; (with_reducible refine (HW1.out _ (kn_bw HB0.out hL HXB.out) (by (exact hL.has _ List.mem_cons_self))).mono ?_); rintro e W ⟨vj2, dj, rfl, hb⟩; ((replace hL := hL.join1 0 rfl hb)); clear hb hF; simp only [List.eraseIdx_cons_zero, List.eraseIdx_cons_succ, List.cons_append, List.nil_append] at hL; have hF := hL.fx))
        refine ⟨rfl, ?_⟩; rw [HB2.out]; exact ⟨vj2, dj, rfl, (hL.perml fun p => by simp only [List.countP_cons, List.countP_nil, List.countP_append, List.append_nil, List.nil_append, List.length_nil]; omega)⟩
      | ok u r3 =>
        rw [show want (⟨#[100, 111]⟩ : ByteArray).data.toList ((TT tvs).drop j2) = _ from hw] at HW1
        replace HB2 := pr_ok HB2 hw
        clear hw
        replace HB2 := Lib.hid HB2
        go_upto_region 18 with ((go_at_call 144; refine zG ?_; clear hF hL; intro W hL hF; (with_reducible refine (HW1.out _ (kn_bw HB0.out hL HXB.out) (by (exact hL.has _ List.mem_cons_self))).mono ?_); rintro e W ⟨_, j3, vj3, rfl, rfl, HJ3, hb⟩; ((replace hL := hL.join1 0 rfl hb)); clear hb hF; simp only [List.eraseIdx_cons_zero, List.eraseIdx_cons_succ, List.cons_append, List.nil_append] at hL; have hF := hL.fx))
        have Hvj3 := Lib.hid HJ3.out.1
        have HB3 := HB2.out
        rw [HJ3.out.2] at HB3
        have HCJ := Lib.hid (fun W hB hb => HCC.out b j3 vj3 W hB hbb Hvj3 hb)
        cases hc : so ((TT tvs).drop j3) with
        | bad er m2 =>
          rw [hc] at HCJ
          replace HB3 := Lib.hid (pr_bad HB3 hc)
          clear hc
          go_wp2_with (first | ((with_reducible refine zS ?_); clear hL; intro W hL hF) | (go_at_call 162; refine zG ?_; clear hF hL; intro W hL hF; (with_reducible refine (HCJ.out _ (kn_bw HB0.out hL HXB.out) (by (exact hL.has _ List.mem_cons_self))).mono ?_); rintro e W ⟨vj2, dj, rfl, hb⟩; ((replace hL := hL.join1 0 rfl hb)); clear hb hF; simp only [List.eraseIdx_cons_zero, List.eraseIdx_cons_succ, List.cons_append, List.nil_append] at hL; have hF := hL.fx))
          refine ⟨rfl, ?_⟩; rw [HB3.out]; exact ⟨vj2, dj, rfl, (hL.perml fun p => by simp only [List.countP_cons, List.countP_nil, List.countP_append, List.append_nil, List.nil_append, List.length_nil]; omega)⟩
        | ok n r4 =>
          rw [hc] at HCJ
          replace HB3 := Lib.hid (pr_ok HB3 hc)
          clear hc
          go_upto_region 19 with ((go_at_call 162; refine zG ?_; clear hF hL; intro W hL hF; (with_reducible refine (HCJ.out _ (kn_bw HB0.out hL HXB.out) (by (exact hL.has _ List.mem_cons_self))).mono ?_); rintro e W ⟨nm2, aa2, na2, ca2, aw2, nw2, cw2, ar2, nr2, cr2, ak2, nk2, ck2, LN, j4, vj4, rfl, HN, HJ4, hb⟩; ((replace hL := hL.join1 0 rfl hb)); clear hb hF; simp only [List.eraseIdx_cons_zero, List.eraseIdx_cons_succ, List.cons_append, List.nil_append] at hL; have hF := hL.fx; replace hL := hL.inP; clear hF; have hF := hL.fx; obtain ⟨W2, rfl⟩ : ∃ W2 : World, W2 = W := ⟨_, rfl⟩))
          refine kn_wp ?_; clear hF hL; intro W hL; simp only [kfb] at hL; have hF := hL.fx
          have Hvj4 := Lib.hid HJ4.out.1
          have HB4 := HB3.out
          rw [HJ4.out.2] at HB4
          have HW2 := Lib.hid (fun W hB hb => want_c E b j4 vj4 d W hB hbb Hvj4 hb ⟨#[100, 111, 110, 101]⟩)
          cases hw : want kDone ((TT tvs).drop j4) with
          | bad er m2 =>
            rw [show want (⟨#[100, 111, 110, 101]⟩ : ByteArray).data.toList ((TT tvs).drop j4) = _ from hw] at HW2
            replace HB4 := Lib.hid (pr_bad HB4 hw)
            clear hw
            go_wp2_with (first | ((with_reducible refine zS ?_); clear hL; intro W hL hF) | (go_at_call 144; refine zG ?_; clear hF hL; intro W hL hF; (with_reducible refine (HW2.out _ (kn_bw HB0.out hL HXB.out) (by (exact hL.has _ (List.mem_cons_of_mem _ List.mem_cons_self)))).mono ?_); rintro e W ⟨vj2, dj, rfl, hb⟩; ((replace hL := hL.join1 1 rfl hb)); clear hb hF; simp only [List.eraseIdx_cons_zero, List.eraseIdx_cons_succ, List.cons_append, List.nil_append] at hL; have hF := hL.fx))
            refine ⟨rfl, ?_⟩; rw [HB4.out]; exact ⟨vj2, dj, rfl, (hL.perml fun p => by simp only [List.countP_cons, List.countP_nil, List.countP_append, List.append_nil, List.nil_append, List.length_nil]; omega)⟩
          | ok u r5 =>
            rw [show want (⟨#[100, 111, 110, 101]⟩ : ByteArray).data.toList ((TT tvs).drop j4) = _ from hw] at HW2
            replace HB4 := Lib.hid (pr_ok HB4 hw)
            clear hw
            go_wp2_with (first | ((with_reducible refine zS ?_); clear hL; intro W hL hF) | (go_at_call 144; refine zG ?_; clear hF hL; intro W hL hF; (with_reducible refine (HW2.out _ (kn_bw HB0.out hL HXB.out) (by (exact hL.has _ (List.mem_cons_of_mem _ List.mem_cons_self)))).mono ?_); rintro e W ⟨_, j5, vj5, rfl, rfl, HJ5, hb⟩; ((replace hL := hL.join1 1 rfl hb)); clear hb hF; simp only [List.eraseIdx_cons_zero, List.eraseIdx_cons_succ, List.cons_append, List.nil_append] at hL; have hF := hL.fx))
            refine kn_body ?_; clear hF hL; intro W hL; simp only [kfb] at hL; have hF := hL.fx
            refine bodyPost_ret (by simp [results, Tryz.results141, go_sem, *]; try rfl) rfl ?_
            rw [HB4.out, HJ5.out.2]
            exact loop_out HN.out HRW.out.1 HRW.out.2 HJ5.out.1 (hL.perml fun p => by simp only [List.countP_cons, List.countP_nil, List.countP_append, List.append_nil, List.nil_append, List.length_nil]; omega)
end Go.Proofs.YtgboffbbpmileaaGreatDoor
set_option maxRecDepth 20000
set_option maxHeartbeats 4000000
set_option linter.unusedVariables false
set_option linter.unusedSimpArgs false
namespace Go.Proofs.YtgboffbbpmileaaGreatDoor
open Go Go.RowKit
theorem Kn.rotL {X : List Nat} {w0 W : World} {p0 : Nat × Obj} {LP R : List (Nat × Obj)} (h : Kn X w0 W (p0 :: (LP ++ R))) : Kn X w0 W (p0 :: (R ++ LP)) := h.perm fun p => by simp only [List.countP_cons, List.countP_append]; omega
theorem func_eqB (bk : Blk) : ∀ W : World, (binOp .eql 149 (blkV (some bk)) .nilFunc).run Tryz.prog W = .ok (.bool false) W := fun W => by cases bk <;> kernel_rfl
theorem func_gqB (bk : Blk) (x y : Operand) : ∀ W : World, (eqGuard .eql 149 x y (blkV (some bk)) .nilFunc).run Tryz.prog W = .ok () W := fun W => by cases bk <;> kernel_rfl
theorem nil_eqB : ∀ W : World, (binOp .eql 149 .nilFunc .nilFunc).run Tryz.prog W = .ok (.bool true) W := fun W => by kernel_rfl
theorem fun_out {W0 : World} {b d j g o cap gq : Nat} {tvs : List (Tok × Value)} {w W : World} {vj : Value} {nm9 : Bytes} {y : Nd} {nm : ByteArray} {aa : Option Addr} {na : Nat} {ca : Nat} {aw : Option Addr} {nw : Nat} {cw : Nat} {ar : Option Addr} {nr : Nat} {cr : Nat} {ak : Option Addr} {nk : Nat} {ck : Nat} {LN : List (Nat × Obj)} (HN : NodeL W0 LN y [.int .i64 (y.kind : Int), .string nm, .bool y.neg, .slice aa na ca, .slice aw nw cw, .slice ar nr cr, .slice ak nk ck]) (Hvj : AtV g o cap tvs j vj)
  (hL : Kn [b] w W ((b, .cells #[vj, .int .i64 (d : Int)] 73 (0, 0)) :: (gq, .cells #[.int .i64 (y.kind : Int), .string nm, .bool y.neg, .slice aa na ca, .slice aw nw cw, .slice ar nr cr, .slice ak nk ck] 41 (0, 0)) :: LN)) :
  NOut W0 b d g o cap tvs w (.ok (.mk 14 nm9 false [] [] [] [y]) ((TT tvs).drop j)) (.returned (.agg #[.int .i64 14, .string ⟨nm9.toArray⟩, .bool false, .slice none 0 0, .slice none 0 0, .slice none 0 0, .slice (some ⟨gq, 0, none⟩) 1 1])) W :=
 ⟨⟨nm9.toArray⟩, none, 0, 0, none, 0, 0, none, 0, 0, some ⟨gq, 0, none⟩, 1, 1, _, j, vj, rfl, Lib.hid (NodeL.one (name := nm9) (HN.mono fun p hp => List.mem_cons_of_mem _ hp) List.mem_cons_self (Nat.le_refl _)), Lib.hid ⟨Hvj, rfl⟩, hL⟩
theorem function_c {W0 : World} {g o cap : Nat} {tvs : List (Tok × Value)} (E : PEnv W0 g o cap tvs) {d : Nat} (hd : d < 20) {comp : Blk → Pa Nd} (HC : CompC W0 g o cap tvs (d + 1) comp) : FunC W0 g o cap tvs d (fnP (some comp)) := by
  intro b i v w hB hbb hv hb hfn
  obtain ⟨PL, hpl⟩ : ∃ p : PR Nd, funF comp ((TT tvs).drop i) = p := ⟨_, rfl⟩
  show Calls _ _ _ _ (NOut W0 b d g o cap tvs w (funF comp ((TT tvs).drop i)))
  rw [hpl]
  have HCC := Lib.hid HC
  obtain ⟨x, pa, pn, pc, hx, hx2⟩ := E.tok hv.out
  have HX := Lib.hid hx
  have HX2 := Lib.hid hx2
  have f0 := tkf0 x.1.kind x.1.fd x.1.line ⟨x.1.text.toArray⟩ ⟨x.1.plain.toArray⟩ pa pn pc
  have f1 := tkf1 x.1.kind x.1.fd x.1.line ⟨x.1.text.toArray⟩ ⟨x.1.plain.toArray⟩ pa pn pc
  have f2 := tkf2 x.1.kind x.1.fd x.1.line ⟨x.1.text.toArray⟩ ⟨x.1.plain.toArray⟩ pa pn pc
  have f3 := tkf3 x.1.kind x.1.fd x.1.line ⟨x.1.text.toArray⟩ ⟨x.1.plain.toArray⟩ pa pn pc
  have f4 := tkf4 x.1.kind x.1.fd x.1.line ⟨x.1.text.toArray⟩ ⟨x.1.plain.toArray⟩ pa pn pc
  have f5 := tkf5 x.1.kind x.1.fd x.1.line ⟨x.1.text.toArray⟩ ⟨x.1.plain.toArray⟩ pa pn pc
  clear hx hx2
  have hf9 := isFn_at E HX.out
  rw [hfn] at hf9
  have hf9 := hf9.symm
  simp only [Bool.and_eq_true] at hf9
  obtain ⟨⟨hkx, hnx⟩, hop⟩ := hf9
  have h4x : x.1.kind ≠ 4 := fun e => by rw [e] at hkx; cases hkx
  have hi2 : i + 2 < tvs.length := by
    rcases drop_at E HX.out with h | h
    · exact absurd h.2.1 h4x
    · obtain ⟨y, hy⟩ : ∃ y, tvs[i + 1]? = some y := ⟨_, List.getElem?_eq_getElem h.2.2⟩
      rcases drop_at E hy with h2 | h2
      · rw [h2.1] at hop; cases hop
      · exact h2.2.2
  obtain ⟨z, hz⟩ : ∃ z, tvs[i + 2]? = some z := ⟨_, List.getElem?_eq_getElem hi2⟩
  obtain ⟨paz, pnz, pcz, hzp⟩ : ∃ a n c, z.2 = .slice a n c := by obtain ⟨a, n, c, h, _⟩ := (E.parts z (List.mem_of_getElem? hz)).2; exact ⟨a, n, c, h⟩
  have hcz := tok6 E hB hz paz pnz pcz hzp
  have hcd := fun (k : Nat) => show o + (i + 2) * 6 + k = o + i * 6 + 12 + k by omega
  obtain ⟨hz0, hz1, hz2, hz3, hz4, hz5⟩ := hcz
  rw [hcd] at hz1 hz2 hz3 hz4 hz5
  rw [show o + (i + 2) * 6 = o + i * 6 + 12 by omega] at hz0
  have hgl := cell_lt hz0
  have hgb : g ≠ b := by have := cell_lt (tok6 E (Below.refl _ W0) hz paz pnz pcz hzp).1; omega
  obtain ⟨kz, hkz⟩ : ∃ k : Bool, ((z.1.kind : Int) == 1) = k := ⟨_, rfl⟩
  obtain ⟨tz, htz⟩ : ∃ k : Bool, (z.1.text == [41]) = k := ⟨_, rfl⟩
  have hkz2 : ((z.1.kind : Int) != 1) = !kz := by rw [← hkz]; rfl
  have htz2 : (z.1.text != [41]) = !tz := by rw [← htz]; rfl
  have hz41 : isOp [41] ((TT tvs).drop (i + 2)) = (kz && tz) := by rw [op_at E hz, hkz, htz]
  have hpl2 : PL = if (kz && tz) = true then (match blockOf (lines ((TT tvs).drop (i + 3))) with
      | none => syn (lines ((TT tvs).drop (i + 3)))
      | some bk => (comp bk (lines ((TT tvs).drop (i + 3)))).bind fun y r => .ok (.mk 14 x.1.plain false [] [] [] [y]) r) else syn ((TT tvs).drop (i + 2)) := by
    rw [← hpl, ← hz41]
    rcases drop_at E HX.out with h | h
    · exact absurd h.2.1 h4x
    · rw [h.1]
      simp only [funF, drop_tail]
      rfl
  have HPL := Lib.hid hpl2
  have H4X := Lib.hid h4x
  have hwo : want [40] ((TT tvs).drop (i + 1)) = .ok () ((TT tvs).drop (i + 2)) := by unfold want; rw [hop]; simp only [Bool.true_or, if_true, drop_tail]
  have hwc : (kz && tz) = true → want [41] ((TT tvs).drop (i + 2)) = .ok () ((TT tvs).drop (i + 3)) := fun h => by unfold want; rw [hz41, h]; simp only [Bool.true_or, if_true, drop_tail]
  have HWO := Lib.hid hwo
  have HWCL := Lib.hid hwc
  have HLZ : Hid (∀ m, m = ((TT tvs).drop (i + 2)).length → lineAt tvs m = z.1.line) := Lib.hid fun m hm => line_at hz m hm
  have hve := hv.out.2
  have hlen := E.len
  have hmx := E.max
  obtain ⟨n9, hn9⟩ : ∃ n, tvs.length - i = n := ⟨_, rfl⟩
  obtain ⟨c9, hc9⟩ : ∃ n, cap - i = n := ⟨_, rfl⟩
  obtain ⟨q9, hq9⟩ : ∃ n, o + i * 6 = n := ⟨_, rfl⟩
  rw [hn9, hc9, hq9] at hve
  rw [hq9] at hz0 hz1 hz2 hz3 hz4 hz5
  have HVE := Lib.hid hve
  have HN9 := Lib.hid hn9
  have q1 : wrap64 ((n9 : Int) - 1) = ((n9 - 1 : Nat) : Int) := by rw [show (n9 : Int) - 1 = ((n9 - 1 : Nat) : Int) by omega]; exact IntWalk.wrap64_in _ (by omega)
  have q2 : 2 < n9 := by omega
  have q3 : ¬ ((n9 - 1 : Nat) : Int) < 2 := by omega
  have q6 : min (2 : Int) ((n9 - 1 : Nat) : Int) = 2 := by omega
  clear hn9 hc9 hq9 hve
  clear hf9 hkx hnx hz hop hcd hzp HC hfn hpl hpl2 h4x hwo hwc hz41
  have HB0 := Lib.hid hB
  have HXB := Lib.hid (show ∀ y ∈ [b], W0.heap.size ≤ y from by simpa using hbb)
  have hL : Kn [b] w w [(b, .cells #[v, .int .i64 (d : Int)] 73 (0, 0))] := Kn.one hb
  have HBS := Lib.hid hb
  clear hB hb
  have hF := hL.fx
  go_enter_defers Tryz.func122, Tryz.ntmps122
  go_upto_region 2 with ((go_at_call 143; refine zG ?_; clear hF hL; intro W hL hF; (with_reducible refine (enter_ok E b i v d _ (kn_bw HB0.out hL HXB.out) hbb hv (by (exact hL.has _ (List.mem_cons_of_mem _ List.mem_cons_self))) hd).mono ?_); rintro e W ⟨c, rfl, hb⟩; ((replace hL := hL.join1 1 rfl hb)); clear hb hF; simp only [List.eraseIdx_cons_zero, List.eraseIdx_cons_succ, List.cons_append, List.nil_append] at hL; have hF := hL.fx))
  rw [HVE.out] at hL
  clear hF
  have hF := hL.fx
  go_upto_region 3 with ((with_reducible refine at_region 2 ?_); refine zW [0, 1, 2, 3, 4, 5, 6, 7, 8, 9, 10, 11, 12, 13, 14] [0, 1, 2, 3, 4, 5, 6, 7, 8, 9, 10, 11, 12] [14] [0, 1, 2, 4, 5, 6, 8, 9, 10, 11] ?_; clear hF hL; intro ι F hne hC hG; (repeat (first | (refine cF hC ?_; intro K hK; go_big_quiet_op; go_big_quiet_on) | (refine cP ?_; intro K hK; go_big_quiet_op; go_big_quiet_on) | (refine cN ?_; intro W hL; have hF := hL.fx; go_wp2; (first | (refine zB2 ?_; clear hL hF hC hG; intro ι F hne hC hG) | (refine zO2 ?_; clear hL hF))))); refine cwk_nil ?_; clear hC hG; intro W hL; simp only [kfb] at hL; have hF := hL.fx)
  have Hv9 : Hid (AtV g o cap tvs i (.slice (some ⟨g, q9, none⟩) n9 c9)) := Lib.hid (by rw [← HVE.out]; exact hv.out)
  obtain ⟨m, hm⟩ : ∃ m, m = ((TT tvs).drop (i + 2)).length := ⟨_, rfl⟩
  have Hm := Lib.hid hm
  clear hm
  cases hkt : (kz && tz) with
  | false =>
    have HB9 : Hid (PL = .bad 1 m) := Lib.hid (by rw [HPL.out, hkt, if_neg (by decide), Hm.out]; rfl)
    clear HPL
    cases kz <;> cases tz <;> first
    | (exfalso; exact absurd hkt (by decide))
    | (clear hkt
       go_wp2
       refine leave_p (v := (.slice (some ⟨g, q9, none⟩) n9 c9)) (dj := ((d + 1 : Nat) : Int)) (show Kn [b] w _ [(b, .cells #[(.slice (some ⟨g, q9, none⟩) n9 c9), .int .i64 ((d + 1 : Nat) : Int)] 73 (0, 0)), (c, .cells #[.pointer (some ⟨b, 0, none⟩)] 71 (0, 0))] from (hL.perml fun p => by simp only [List.countP_cons, List.countP_nil, List.countP_append, List.append_nil, List.nil_append, List.length_nil]; omega)) rfl ?_
       intro W' dj' hL'
       show NOut W0 b d g o cap tvs w PL _ _
       rw [HB9.out]
       refine ⟨_, dj', ?_, hL'⟩
       rw [HLZ.out _ Hm.out]
       rfl)
  | true =>
    obtain ⟨rfl, rfl⟩ : kz = true ∧ tz = true := by cases kz <;> cases tz <;> first | exact ⟨rfl, rfl⟩ | cases hkt
    have HB9 := HPL.out
    rw [if_pos (by rfl)] at HB9
    have HWC2 := Lib.hid (HWCL.out rfl)
    clear HPL HWCL hkt
    go_upto_region 6 with ((go_at_call 53; refine zG ?_; clear hF hL; intro W hL hF; (with_reducible refine (pass_i E b i _ ((d + 1 : Nat) : Int) _ (kn_bw HB0.out hL HXB.out) hbb Hv9 (by (exact hL.has _ (List.mem_cons_of_mem _ List.mem_cons_self))) HX.out pa pn pc HX2.out H4X.out).mono ?_); rintro e W ⟨rfl, vj1, HVJ1, hb⟩; ((replace hL := hL.join1 1 rfl hb)); clear hb hF; simp only [List.eraseIdx_cons_zero, List.eraseIdx_cons_succ, List.cons_append, List.nil_append] at hL; have hF := hL.fx; obtain ⟨W1, rfl⟩ : ∃ W1 : World, W1 = W := ⟨_, rfl⟩))
    refine kn_wp ?_; clear hF hL; intro W hL; have hF := hL.fx
    have HW1 := Lib.hid (fun W hB hb => want_c E b (i + 1) vj1 (d + 1) W hB hbb HVJ1 hb ⟨#[40]⟩)
    rw [show want (⟨#[40]⟩ : ByteArray).data.toList ((TT tvs).drop (i + 1)) = _ from HWO.out] at HW1
    go_upto_region 7 with ((go_at_call 144; refine zG ?_; clear hF hL; intro W hL hF; (with_reducible refine (HW1.out _ (kn_bw HB0.out hL HXB.out) (by (exact hL.has _ (List.mem_cons_of_mem _ List.mem_cons_self)))).mono ?_); rintro e W ⟨_, j3, vj3, rfl, rfl, HJ3, hb⟩; ((replace hL := hL.join1 1 rfl hb)); clear hb hF; simp only [List.eraseIdx_cons_zero, List.eraseIdx_cons_succ, List.cons_append, List.nil_append] at hL; have hF := hL.fx))
    have Hvj3 := Lib.hid HJ3.out.1
    have hwc3 := HWC2.out
    rw [HJ3.out.2] at hwc3
    have HW2 := Lib.hid (fun W hB hb => want_c E b j3 vj3 (d + 1) W hB hbb Hvj3 hb ⟨#[41]⟩)
    rw [show want (⟨#[41]⟩ : ByteArray).data.toList ((TT tvs).drop j3) = _ from hwc3] at HW2
    clear hwc3
    go_upto_region 8 with ((go_at_call 144; refine zG ?_; clear hF hL; intro W hL hF; (with_reducible refine (HW2.out _ (kn_bw HB0.out hL HXB.out) (by (exact hL.has _ List.mem_cons_self))).mono ?_); rintro e W ⟨_, j4, vj4, rfl, rfl, HJ4, hb⟩; ((replace hL := hL.join1 0 rfl hb)); clear hb hF; simp only [List.eraseIdx_cons_zero, List.eraseIdx_cons_succ, List.cons_append, List.nil_append] at hL; have hF := hL.fx))
    have Hvj4 := Lib.hid HJ4.out.1
    go_upto_region 9 with ((go_at_call 49; refine zG ?_; clear hF hL; intro W hL hF; (with_reducible refine (lines_c E b j4 vj4 (d + 1) _ (kn_bw HB0.out hL HXB.out) hbb Hvj4 (by (exact hL.has _ List.mem_cons_self))).mono ?_); rintro e W ⟨j5, vj5, rfl, HJ5, hb⟩; ((replace hL := hL.join1 0 rfl hb)); clear hb hF; simp only [List.eraseIdx_cons_zero, List.eraseIdx_cons_succ, List.cons_append, List.nil_append] at hL; have hF := hL.fx))
    have Hvj5 := Lib.hid HJ5.out.2.1
    rw [HJ4.out.2, HJ5.out.2.2] at HB9
    obtain ⟨m5, hm5⟩ : ∃ m5, m5 = ((TT tvs).drop j5).length := ⟨_, rfl⟩
    have Hm5 := Lib.hid hm5
    clear hm5
    have HBL := Lib.hid (fun W hB hb => block_c E b j5 vj5 (d + 1) W hB hbb Hvj5 hb)
    cases hbo : blockOf ((TT tvs).drop j5) with
    | none =>
      rw [hbo] at HB9 HBL
      simp only [show blkV none = Value.nilFunc from rfl] at HBL
      have HB8 : Hid (PL = .bad 1 m5) := Lib.hid (by rw [HB9, Hm5.out]; rfl)
      have hq0 := nil_eqB
      clear HB9
      go_wp2_with (first | ((with_reducible refine zS ?_); clear hL; intro W hL hF) | (go_at_call 119; refine zC (fun W hL => HBL.out _ (kn_bw HB0.out hL HXB.out) (by (exact hL.has _ List.mem_cons_self))) ?_; clear hF hL; intro W hL hF) | (go_at_call 28; refine zG ?_; clear hF hL; intro W hL hF; (with_reducible refine (fail_c E b j5 vj5 ((d + 1 : Nat) : Int) _ (kn_bw HB0.out hL HXB.out) hbb Hvj5 (by (exact hL.has _ List.mem_cons_self)) 27 (d + 1) 1 (Lib.hid rfl) m5 Hm5).mono ?_); rintro e W ⟨vj6, dj, rfl, hb⟩; ((replace hL := hL.join1 0 rfl hb)); clear hb hF; simp only [List.eraseIdx_cons_zero, List.eraseIdx_cons_succ, List.cons_append, List.nil_append] at hL; have hF := hL.fx))
      refine leave_p (v := vj6) (dj := dj) (show Kn [b] w _ [(b, .cells #[vj6, .int .i64 dj] 73 (0, 0)), (c, .cells #[.pointer (some ⟨b, 0, none⟩)] 71 (0, 0))] from (hL.perml fun p => by simp only [List.countP_cons, List.countP_nil, List.countP_append, List.append_nil, List.nil_append, List.length_nil]; omega)) rfl ?_; intro W' dj' hL'; show NOut W0 b d g o cap tvs w PL _ _; rw [HB8.out]; exact ⟨vj6, dj', rfl, hL'⟩
    | some bk =>
      rw [hbo] at HB9 HBL
      have HB8 : Hid (PL = (comp bk ((TT tvs).drop j5)).bind fun y r => .ok (.mk 14 x.1.plain false [] [] [] [y]) r) := Lib.hid HB9
      have HNE5 := block_ne hbo
      have HCJ := Lib.hid (fun W hB hb => HCC.out bk b j5 vj5 W hB hbb Hvj5 hb HNE5)
      have hq1 := func_eqB bk
      have hq2 := func_gqB bk
      obtain ⟨bv, hbv⟩ : ∃ z, blkV (some bk) = z := ⟨_, rfl⟩
      rw [hbv] at HBL HCJ hq1
      simp only [hbv] at hq2
      clear HNE5 hbo HB9 hbv
      cases hc : comp bk ((TT tvs).drop j5) with
      | bad er m2 =>
        rw [hc] at HCJ
        have HB7 := Lib.hid (pr_bad HB8.out hc)
        clear hc
        go_wp2_with (first | ((with_reducible refine zS ?_); clear hL; intro W hL hF) | (go_at_call 119; refine zC (fun W hL => HBL.out _ (kn_bw HB0.out hL HXB.out) (by (exact hL.has _ List.mem_cons_self))) ?_; clear hF hL; intro W hL hF) | (go_at_call 120; refine zG ?_; clear hF hL; intro W hL hF; (with_reducible refine (HCJ.out _ (kn_bw HB0.out hL HXB.out) (by (exact hL.has _ List.mem_cons_self))).mono ?_); rintro e W ⟨vj6, dj, rfl, hb⟩; ((replace hL := hL.join1 0 rfl hb)); clear hb hF; simp only [List.eraseIdx_cons_zero, List.eraseIdx_cons_succ, List.cons_append, List.nil_append] at hL; have hF := hL.fx))
        refine leave_p (v := vj6) (dj := dj) (show Kn [b] w _ [(b, .cells #[vj6, .int .i64 dj] 73 (0, 0)), (c, .cells #[.pointer (some ⟨b, 0, none⟩)] 71 (0, 0))] from (hL.perml fun p => by simp only [List.countP_cons, List.countP_nil, List.countP_append, List.append_nil, List.nil_append, List.length_nil]; omega)) rfl ?_; intro W' dj' hL'; show NOut W0 b d g o cap tvs w PL _ _; rw [HB7.out]; exact ⟨vj6, dj', rfl, hL'⟩
      | ok y r =>
        rw [hc] at HCJ
        have HB7 := Lib.hid (pr_ok HB8.out hc)
        clear hc
        go_upto_region 13 with (first | (go_at_call 119; refine zC (fun W hL => HBL.out _ (kn_bw HB0.out hL HXB.out) (by (exact hL.has _ List.mem_cons_self))) ?_; clear hF hL; intro W hL hF) | (go_at_call 120; refine zG ?_; clear hF hL; intro W hL hF; (with_reducible refine (HCJ.out _ (kn_bw HB0.out hL HXB.out) (by (exact hL.has _ List.mem_cons_self))).mono ?_); rintro e W ⟨nm, aa, na, ca, aw, nw, cw, ar, nr, cr, ak, nk, ck, LN, j6, vj6, rfl, HN, HJ6, hb⟩; ((replace hL := hL.join1 0 rfl hb)); clear hb hF; simp only [List.eraseIdx_cons_zero, List.eraseIdx_cons_succ, List.cons_append, List.nil_append] at hL; have hF := hL.fx; replace hL := hL.rotL; clear hF; simp only [kfb] at hL; have hF := hL.fx; obtain ⟨W2, rfl⟩ : ∃ W2 : World, W2 = W := ⟨_, rfl⟩))
        go_wp2
        refine kn_bodyD ?_; clear hF hL; intro W hL; simp only [kfb] at hL; have hF := hL.fx; simp only [bodyPostD]
        refine leave_x (by omega) (show Kn [b] w W ((b, .cells #[vj6, .int .i64 ((d + 1 : Nat) : Int)] 73 (0, 0)) :: (c, .cells #[.pointer (some ⟨b, 0, none⟩)] 71 (0, 0)) :: (w.heap.size, .cells #[.int .i64 14, .string ⟨x.1.plain.toArray⟩, .bool false, .slice none 0 0, .slice none 0 0, .slice none 0 0, .slice (some ⟨W2.heap.size, 0, none⟩) 1 1] 41 (0, 0)) :: (W2.heap.size, .cells #[.int .i64 (y.kind : Int), .string nm, .bool y.neg, .slice aa na ca, .slice aw nw cw, .slice ar nr cr, .slice ak nk ck] 41 (0, 0)) :: LN) from (hL.perml fun p => by simp only [List.countP_cons, List.countP_nil, List.countP_append, List.append_nil, List.nil_append, List.length_nil]; omega)) (by simp) ?_
        clear hL hF; intro W hL; have hF := hL.fx
        simp [Leaves, settle, results, Tryz.results122, go_sem, hF]
        rw [HB7.out, HJ6.out.2]
        exact fun_out HN.out HJ6.out.1 (hL.perml fun p => by simp only [List.countP_cons, List.countP_nil, List.countP_append, List.append_nil, List.nil_append, List.length_nil]; omega)
theorem function_full {W0 : World} {g o cap : Nat} {tvs : List (Tok × Value)} (E : PEnv W0 g o cap tvs) {d : Nat} (hd : d = 20) : FunC W0 g o cap tvs d (fnP none) := by
 intro b i v w hB hbb hv hb hfn
 show Calls _ _ _ _ (NOut W0 b d g o cap tvs w (full ((TT tvs).drop i)))
 obtain ⟨m, hm⟩ : ∃ m, m = ((TT tvs).drop i).length := ⟨_, rfl⟩
 have Hm := Lib.hid hm
 clear hm
 have HEF := Lib.hid (fun W (hB : Below W0.heap.size W0 W) hb => (enter_full E b i v d W hB hbb hv hb hd).mono (R' := fun e w' => POut b d g o cap tvs W (α := Unit) (fun _ _ _ => False) (.bad 2 m) e w') fun e w' h => by rw [Hm.out]; exact h)
 have HB6 : Hid ((full ((TT tvs).drop i) : PR Nd) = .bad 2 m) := Lib.hid (by rw [Hm.out]; rfl)
 clear hfn hd
 have HB0 := Lib.hid hB
 have HXB := Lib.hid (show ∀ y ∈ [b], W0.heap.size ≤ y from by simpa using hbb)
 have hL : Kn [b] w w [(b, .cells #[v, .int .i64 (d : Int)] 73 (0, 0))] := Kn.one hb
 have HBS := Lib.hid hb
 clear hB hb
 have hF := hL.fx
 go_enter_defers Tryz.func122, Tryz.ntmps122
 go_wp2_with (first | ((with_reducible refine zS ?_); clear hL; intro W hL hF) | (go_at_call 143; refine zG ?_; clear hF hL; intro W hL hF; (with_reducible refine (HEF.out _ (kn_bw HB0.out hL HXB.out) (by (exact hL.has _ (List.mem_cons_of_mem _ List.mem_cons_self)))).mono ?_); rintro e W ⟨vj3, dj, rfl, hb⟩; ((replace hL := hL.join1 1 rfl hb)); clear hb hF; simp only [List.eraseIdx_cons_zero, List.eraseIdx_cons_succ, List.cons_append, List.nil_append] at hL; have hF := hL.fx))
 show NOut W0 b d g o cap tvs w (full ((TT tvs).drop i)) _ _
 rw [HB6.out]
 exact ⟨vj3, dj, rfl, (hL.perml fun p => by simp only [List.countP_cons, List.countP_nil, List.countP_append, List.append_nil, List.nil_append, List.length_nil]; omega)⟩
end Go.Proofs.YtgboffbbpmileaaGreatDoor
