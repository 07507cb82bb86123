/- Lemmas and walks for the law LawTells (part 10). -/
import Derived.Test.YtfdlifhkeicnnaaGreatDoorWPt9
import Derived.Test.YtfdlifhkeicnnaaGreatDoorProg
import Derived.WalkKit
import Derived.Handy
import Derived.Deep.Light
import Derived.WalkSmall
import Derived.StillTailTactics
import Derived.Lib.Hide
set_option maxRecDepth 20000
set_option maxHeartbeats 4000000
set_option linter.unusedVariables false
set_option linter.unusedSimpArgs false
namespace Go.Proofs.YtfdlifhkeicnnaaGreatDoor
open Go Go.RowKit
noncomputable def wf (L : Labs) (last : Bool) (s : Bytes) : Rs Int := if named s then (match address L s last with
  | .bad e => .bad e
  | .ok n => .ok (n : Int)) else number OO s (-2147483648) 4294967295
def w4 (n : Int) : Bytes := [byteOf n, byteOf (n / 256), byteOf (n / 65536), byteOf (n / 16777216)]
noncomputable def wordsR (L : Labs) (last : Bool) (ops : List Bytes) : Rs Bytes := if ops = [] ∨ ops.any (fun s => (OO.int s).isNone && !named s) then .bad 2 else match mapR (wf L last) ops with
 | .bad e => .bad e
 | .ok l => .ok (l.flatMap w4)
theorem w4_len (l : List Int) : (l.flatMap w4).length = 4 * l.length := flat4 w4 (fun _ => rfl) l
theorem wordsR_none {L : Labs} {last : Bool} {ops : List Bytes} {k : Nat} {p : Bytes} (h : ops[k]? = some p) (hc : canon p = none) (hn : named p = false) : wordsR L last ops = .bad 2 := by
 unfold wordsR
 rw [if_pos (.inr (List.any_eq_true.2 ⟨p, List.mem_of_getElem? h, by show ((canon p).isNone && !named p) = true; rw [hc, hn]; rfl⟩))]
theorem wordsR_all {L : Labs} {last : Bool} {ops : List Bytes} (hne : ops ≠ []) (h : ∀ j < ops.length, ∀ p, ops[j]? = some p → canon p ≠ none ∨ named p = true) : wordsR L last ops = (match mapR (wf L last) ops with
 | .bad e => .bad e
 | .ok l => .ok (l.flatMap w4)) := by
 unfold wordsR
 rw [if_neg]
 rintro (h1 | h1)
 ·exact hne h1
 ·obtain ⟨p, hp, hn⟩ := List.any_eq_true.1 h1
  obtain ⟨j, hj⟩ := List.mem_iff_getElem?.1 hp
  simp only [Bool.and_eq_true, Bool.not_eq_true'] at hn
  rcases h j (List.getElem?_eq_some_iff.1 hj).1 p hj with h2 | h2
  ·exact h2 (by show canon p = none; exact Option.isNone_iff_eq_none.1 hn.1)
  ·rw [hn.2] at h2; cases h2
theorem words_none (ab mb : Nat) (es : Array MapEntry) (clock : Nat) (L : Labs) (xg xo : Nat) (vo : Value) (ops : List Bytes) (last : Bool) (w : World) (hA : w.cell? ⟨ab, 0, none⟩ = some (.map (some mb))) (hmb : w.heap[mb]? = some (.map es clock)) (hM : MapV Tryz.prog 9 es (lv L)) (hLn : ∀ p ∈ L, p.2 ≤ 100000) (hx2 : w.cell? ⟨xg, xo + 2, none⟩ = some vo) (hvo : Row w vo (sv ops)) (hsz : ∀ p ∈ ops, p.length ≤ 900000) (hn : ops.length ≤ 100000) (hT : TabA w) (h1 : ops.length = 0) : Calls Tryz.prog 96 #[.pointer (some ⟨ab, 0, none⟩), .pointer (some ⟨xg, xo, none⟩), .bool last] w (DirP (wordsR L last ops) w) := by
 obtain rfl := List.eq_nil_of_length_eq_zero h1
 rw [show wordsR L last [] = .bad 2 from if_pos (.inl rfl)]
 obtain ⟨ao, cap, rfl, hc⟩ := row_open hvo
 have l2 := cell_lt hx2
 clear h1 hc hvo
 have hL : Kn [] w w [] := Kn.refl [] w; have hF := hL.fx; go_enter Tryz.func96, Tryz.ntmps96
 go_wp2_with (first | ((with_reducible refine ks ?_); clear hL; intro W hL hF) | (go_at_call 100; (with_reducible refine (need_bad _ _).mono ?_); rintro e w' ⟨rfl, rfl⟩))
 exact ⟨rfl, rfl, hL.below0⟩
theorem words_some (ab mb : Nat) (es : Array MapEntry) (clock : Nat) (L : Labs) (xg xo : Nat) (vo : Value) (ops : List Bytes) (last : Bool) (w : World) (hA : w.cell? ⟨ab, 0, none⟩ = some (.map (some mb))) (hmb : w.heap[mb]? = some (.map es clock)) (hM : MapV Tryz.prog 9 es (lv L)) (hLn : ∀ p ∈ L, p.2 ≤ 100000) (hx2 : w.cell? ⟨xg, xo + 2, none⟩ = some vo) (hvo : Row w vo (sv ops)) (hsz : ∀ p ∈ ops, p.length ≤ 900000) (hn : ops.length ≤ 100000) (hT : TabA w) (hne : ops.length ≠ 0) : Calls Tryz.prog 96 #[.pointer (some ⟨ab, 0, none⟩), .pointer (some ⟨xg, xo, none⟩), .bool last] w (DirP (wordsR L last ops) w) := by
 obtain ⟨i0, hi, hz0, hz1, hz2⟩ := info_parts infoB8
 have HNE := Lib.hid (show ops ≠ [] from fun h => hne (by rw [h]; rfl))
 obtain ⟨ao, cap, rfl, hc⟩ := row_open hvo
 obtain ⟨p0, hp0⟩ : ∃ p, ops[0]? = some p := ⟨_, List.getElem?_eq_getElem (by omega)⟩
 obtain ⟨g, o, rfl, hg1, _⟩ := hc 0 _ hp0
 have HC := Lib.hid (show ∀ (j : Nat) p, ops[j]? = some p → w.cell? ⟨g, o + j, none⟩ = some (.string ⟨p.toArray⟩) from fun j p hp => by
  obtain ⟨g', o', e, _, h2⟩ := hc j p hp
  cases e; exact h2)
 have HSZ := Lib.hid hsz
 obtain ⟨n, hln⟩ : ∃ n, ops.length = n := ⟨_, rfl⟩
 rw [hln] at hx2 hn hne
 have l2 := cell_lt hx2
 have q1 : (0 : Int) < n := by omega
 have q2 : decide ((0 : Int) < (n : Int)) = true := decide_eq_true q1
 have q3 : decide (0 < n) = true := decide_eq_true (by omega)
 have HLN := Lib.hid hln
 clear hc hvo hp0 hsz hln
 have l1 := cell_lt hA
 have lm := lt_of_has hmb
 have hcA := fun {W : World} {LL : List (Nat × Obj)} (hL : Kn [] w W LL) => (hL.facts.2.2.2.1 ab 0 l1 (by simp)).trans hA
 have hcM := fun {W : World} {LL : List (Nat × Obj)} (hL : Kn [] w W LL) => (hL.block mb lm (by simp)).trans hmb
 obtain ⟨R, hR⟩ : ∃ R, wordsR L last ops = R := ⟨_, rfl⟩
 have HR := Lib.hid hR
 rw [hR]
 clear hR
 have hL : Kn [] w w [] := Kn.refl [] w; have hF := hL.fx; go_enter Tryz.func96, Tryz.ntmps96
 go_wp2_with (first | ((with_reducible refine ks ?_); clear hL; intro W hL hF) | (go_at_call 100; (with_reducible refine (need_ok _ _).mono ?_); rintro e w' ⟨rfl, rfl⟩))
 go_loopw [8, 9, 10, 27] (fun a b c i wr => ∃ k : Nat, k ≤ n ∧ i = .int .i64 k ∧ Hid (∀ j < k, ∀ p, ops[j]? = some p → canon p ≠ none ∨ named p = true) ∧ Kn [] w wr []) (fun _ _ _ i _ => n - (intOf i).toNat)
 case atStart => exact ⟨0, by omega, rfl, Lib.hid (fun j hj => by omega), hL⟩
 case round =>
  clear hL
  obtain ⟨k, hk, rfl, HI, hL⟩ := hrel
  have hF := hL.fx
  by_cases hlt : k < n
  ·obtain ⟨p, hp⟩ : ∃ p, ops[k]? = some p := ⟨_, List.getElem?_eq_getElem (by rw [HLN.out]; omega)⟩
   have hck := HC.out k p hp
   have hps := HSZ.out p (List.mem_of_getElem? hp)
   obtain ⟨s, rfl⟩ : ∃ s : ByteArray, p = s.data.toList := ⟨⟨p.toArray⟩, by simp⟩
   rw [toList_mk] at hck
   rw [szl] at hps
   have HP := Lib.hid hp
   clear hp
   cases hcn : canon s.data.toList with
   | none =>
    cases hnm : named s.data.toList with
    | false =>
     have HB := HR.out.symm.trans (wordsR_none HP.out hcn hnm)
     subst HB
     have HN := Lib.hid hnm
     clear hnm
     go_wp2_with (first | ((with_reducible refine ks ?_); clear hL; intro W hL hF) | (go_at_call 100; (with_reducible refine (need_bad _ _).mono ?_); rintro e w' ⟨rfl, rfl⟩) | (go_at_call 64; refine kc (fun W hL => named_eq s (by omega) _ HN _) ?_; clear hF hL; intro W hL hF) | (go_at_call 126; refine kc (fun W hL => Int_none s (by omega) hcn _ ((hT.kn hL (by simp)).t)) ?_; clear hF hL; intro W hL hF))
     exact ⟨rfl, rfl, hL.below0⟩
    | true =>
     have HN := Lib.hid hnm
     clear hnm
     go_wp2_with (first | ((with_reducible refine ks ?_); clear hL; intro W hL hF) | (go_at_call 100; (with_reducible refine (need_ok _ _).mono ?_); rintro e w' ⟨rfl, rfl⟩) | (go_at_call 64; refine kc (fun W hL => named_eq s (by omega) _ HN _) ?_; clear hF hL; intro W hL hF) | (go_at_call 126; refine kc (fun W hL => Int_none s (by omega) hcn _ ((hT.kn hL (by simp)).t)) ?_; clear hF hL; intro W hL hF))
     go_roundw
     case measure => simp [intOf]; omega
     case rel => exact ⟨k + 1, by omega, by go_num, Lib.hid (fun j hj p hp => by
      rcases Nat.lt_or_ge j k with h | h
      ·exact HI.out j h p hp
      ·obtain rfl : j = k := by omega
       rw [HP.out] at hp; cases hp; exact .inr HN.out), hL⟩
   | some v =>
    go_wp2_with (first | ((with_reducible refine ks ?_); clear hL; intro W hL hF) | (go_at_call 100; (with_reducible refine (need_ok _ _).mono ?_); rintro e w' ⟨rfl, rfl⟩) | (go_at_call 126; refine kc (fun W hL => Int_some s (by omega) v hcn _ ((hT.kn hL (by simp)).t)) ?_; clear hF hL; intro W hL hF))
    go_roundw
    case measure => simp [intOf]; omega
    case rel => exact ⟨k + 1, by omega, by go_num, Lib.hid (fun j hj p hp => by
     rcases Nat.lt_or_ge j k with h | h
     ·exact HI.out j h p hp
     ·obtain rfl : j = k := by omega
      rw [HP.out] at hp; cases hp; rw [hcn]; simp), hL⟩
  ·obtain rfl : k = n := by omega
   have HM := Lib.hid (HR.out.symm.trans (wordsR_all HNE.out (by rw [HLN.out]; exact HI.out)))
   clear HI
   go_wp2
   go_loopw [11, 13, 14, 48] (fun out b d i wr => ∃ (j : Nat) (LP : List (Nat × Obj)) (l : List Int), j ≤ k ∧ i = .int .i64 j ∧ RowL 1 5 LP out (4 * j) (bc (l.flatMap w4)) ∧ Hid (mapR (wf L last) (ops.take j) = .ok l ∧ l.length = j) ∧ Kn [] w wr (LP ++ [])) (fun _ _ _ i _ => k - (intOf i).toNat)
   case atStart => exact ⟨0, [], [], by omega, rfl, RowL.nil, Lib.hid ⟨rfl, rfl⟩, hL⟩
   case round =>
    clear hL
    obtain ⟨j, LP, l, hj, rfl, hrow, HI, hL⟩ := hrel
    have hF := hL.fx
    by_cases hlt : j < k
    ·obtain ⟨p, hp⟩ : ∃ p, ops[j]? = some p := ⟨_, List.getElem?_eq_getElem (by rw [HLN.out]; omega)⟩
     have hck := HC.out j p hp
     have hps := HSZ.out p (List.mem_of_getElem? hp)
     obtain ⟨s, rfl⟩ : ∃ s : ByteArray, p = s.data.toList := ⟨⟨p.toArray⟩, by simp⟩
     rw [toList_mk] at hck
     rw [szl] at hps
     have HP := Lib.hid hp
     clear hp
     rcases hrow with ⟨rfl, rfl, hj0, hsv⟩ | ⟨g2, cap2, cur2, rfl, rfl, hb⟩
     ·have HJ0 := Lib.hid hj0
      clear hj0
      cases hnm : named s.data.toList with
      | true =>
       have HN := Lib.hid hnm
       cases had : address L s.data.toList last with
       | bad m =>
        have HB := HM.out
        rw [mapR_fail HI.out.1 HP.out (show wf L last s.data.toList = .bad m by unfold wf; rw [hnm, had]; rfl)] at HB
        subst HB
        have HU := Lib.hid had
        clear had hnm
        skip
        go_wp2_with (first | (go_at_call 64; refine kn_calls ?_; clear hF hL; intro W hL; simp only [kfb] at hL; have hF := hL.fx; (with_reducible refine (named_eq s (by omega) _ HN _).mono ?_); rintro e W ⟨rfl, hb⟩; replace hL := hL.below hb; clear hb hF; have hF := hL.fx) | (go_at_call 128; refine kc (fun W hL => address_bad ab mb es clock L s (by omega) last _ (hcA hL) (hcM hL) hM _ HU) ?_; clear hF hL; intro W hL hF))
        exact ⟨rfl, rfl, hL.below0⟩
       | ok v =>
        have HU := Lib.hid had
        have HN2 := Lib.hid (mapR_next HI.out.1 HP.out (show wf L last s.data.toList = .ok (v : Int) by unfold wf; rw [hnm, had]; rfl))
        have hvL := address_le hLn had
        have hvn : (-2147483648 : Int) ≤ (v : Int) ∧ (v : Int) ≤ 4294967295 := by omega
        clear had hnm hvL
        obtain ⟨z, hz⟩ : ∃ z : Int, (v : Int) = z := ⟨_, rfl⟩
        rw [hz] at HN2 hvn
        have HAD := Lib.hid (show ∀ W, W.cell? ⟨ab, 0, none⟩ = some (.map (some mb)) → W.heap[mb]? = some (.map es clock) → Calls Tryz.prog 128 #[.pointer (some ⟨ab, 0, none⟩), .string s, .bool last] W fun e w' => e = .returned (.int .i64 z) ∧ Below W.heap.size W w' from fun W h1 h2 => by rw [← hz]; exact address_ok ab mb es clock L s (by omega) last W h1 h2 hM _ HU)
        clear hz
        have hw0 := u8_wrap z
        have hw1 := u8_wrap (z / 256)
        have hw2 := u8_wrap (z / 65536)
        have hw3 := u8_wrap (z / 16777216)
        obtain ⟨c0, hc0⟩ : ∃ c, byteOf z = c := ⟨_, rfl⟩
        obtain ⟨c1, hc1⟩ : ∃ c, byteOf (z / 256) = c := ⟨_, rfl⟩
        obtain ⟨c2, hc2⟩ : ∃ c, byteOf (z / 65536) = c := ⟨_, rfl⟩
        obtain ⟨c3, hc3⟩ : ∃ c, byteOf (z / 16777216) = c := ⟨_, rfl⟩
        rw [hc0] at hw0
        rw [hc1] at hw1
        rw [hc2] at hw2
        rw [hc3] at hw3
        have HW4 := Lib.hid (show w4 z = [c0, c1, c2, c3] by unfold w4; rw [hc0, hc1, hc2, hc3])
        clear hc0 hc1 hc2 hc3 hvn
        go_wp2_with (first | (go_at_call 64; refine kn_calls ?_; clear hF hL; intro W hL; simp only [kfb] at hL; have hF := hL.fx; (with_reducible refine (named_eq s (by omega) _ HN _).mono ?_); rintro e W ⟨rfl, hb⟩; replace hL := hL.below hb; clear hb hF; have hF := hL.fx) | (go_at_call 128; refine kc (fun W hL => HAD.out _ (hcA hL) (hcM hL)) ?_; clear hF hL; intro W hL hF) | (at_builtin; refine kL ?_; clear hF hL; intro W hL hF; refine wpList_append_rowL rfl _ _ 47 rfl 5 i0 _ Tryz.underlying47 hi hz0 (by rw [hz1]; rfl) (by rw [hz1]; decide) _ ([]) [] hL _ _ _ (by rw [hz1]; exact (.inl ⟨rfl, rfl, HJ0.out, hsv⟩)) rfl _ _ _ (bc [c0, c1, c2, c3]) rfl (by rw [hz1]; rfl) (fun j u hu => by rw [Go.WideShapes.add_plain, Nat.zero_add, World.cell?, hL.has _ List.mem_cons_self]; simpa [bc] using hu) (by intro u hu; obtain ⟨c, _, rfl⟩ := List.mem_map.1 hu; rfl) (by unfold maxLen; omega) (by rw [hz2]; omega) (by decide) ?_; intro g14 cap14 cur14 W2 hL2 hr14; clear hL hF; rw [hz1] at hr14; have hL := hL2.sub (List.Sublist.cons_cons (g14, Obj.cells cur14 5 (0, 0)) (List.sublist_cons_self _ _)); clear hL2; have hF := hL.fx))
        go_roundw
        case measure => simp [intOf]; omega
        case rel => exact ⟨j + 1, _, _, by omega, by go_num, RowL.of_blk (by rw [List.flatMap_append, bc_app, List.flatMap_cons, List.flatMap_nil, List.append_nil, HW4.out]; exact hr14), Lib.hid ⟨HN2.out, by simp [HI.out.2]⟩, hL⟩
      | false =>
       have HN := Lib.hid hnm
       cases hnum : number OO s.data.toList (-2147483648) 4294967295 with
       | bad m =>
        have HB := HM.out
        rw [mapR_fail HI.out.1 HP.out (show wf L last s.data.toList = .bad m by unfold wf; rw [hnm, hnum]; rfl)] at HB
        subst HB
        have HU := Lib.hid hnum
        clear hnum hnm
        skip
        go_wp2_with (first | (go_at_call 64; refine kn_calls ?_; clear hF hL; intro W hL; simp only [kfb] at hL; have hF := hL.fx; (with_reducible refine (named_eq s (by omega) _ HN _).mono ?_); rintro e W ⟨rfl, hb⟩; replace hL := hL.below hb; clear hb hF; have hF := hL.fx) | (go_at_call 127; refine kc (fun W hL => number_bad s (by omega) _ _ _ HU _ ((hT.kn hL (by simp)).t)) ?_; clear hF hL; intro W hL hF))
        exact ⟨rfl, rfl, hL.below0⟩
       | ok z =>
        have HU := Lib.hid hnum
        have HN2 := Lib.hid (mapR_next HI.out.1 HP.out (show wf L last s.data.toList = .ok z by unfold wf; rw [hnm, hnum]; rfl))
        have hvn := number_range hnum
        clear hnum hnm
        have hw0 := u8_wrap z
        have hw1 := u8_wrap (z / 256)
        have hw2 := u8_wrap (z / 65536)
        have hw3 := u8_wrap (z / 16777216)
        obtain ⟨c0, hc0⟩ : ∃ c, byteOf z = c := ⟨_, rfl⟩
        obtain ⟨c1, hc1⟩ : ∃ c, byteOf (z / 256) = c := ⟨_, rfl⟩
        obtain ⟨c2, hc2⟩ : ∃ c, byteOf (z / 65536) = c := ⟨_, rfl⟩
        obtain ⟨c3, hc3⟩ : ∃ c, byteOf (z / 16777216) = c := ⟨_, rfl⟩
        rw [hc0] at hw0
        rw [hc1] at hw1
        rw [hc2] at hw2
        rw [hc3] at hw3
        have HW4 := Lib.hid (show w4 z = [c0, c1, c2, c3] by unfold w4; rw [hc0, hc1, hc2, hc3])
        clear hc0 hc1 hc2 hc3 hvn
        go_wp2_with (first | (go_at_call 64; refine kn_calls ?_; clear hF hL; intro W hL; simp only [kfb] at hL; have hF := hL.fx; (with_reducible refine (named_eq s (by omega) _ HN _).mono ?_); rintro e W ⟨rfl, hb⟩; replace hL := hL.below hb; clear hb hF; have hF := hL.fx) | (go_at_call 127; refine kc (fun W hL => number_ok s (by omega) _ _ _ HU _ ((hT.kn hL (by simp)).t)) ?_; clear hF hL; intro W hL hF) | (at_builtin; refine kL ?_; clear hF hL; intro W hL hF; refine wpList_append_rowL rfl _ _ 47 rfl 5 i0 _ Tryz.underlying47 hi hz0 (by rw [hz1]; rfl) (by rw [hz1]; decide) _ ([]) [] hL _ _ _ (by rw [hz1]; exact (.inl ⟨rfl, rfl, HJ0.out, hsv⟩)) rfl _ _ _ (bc [c0, c1, c2, c3]) rfl (by rw [hz1]; rfl) (fun j u hu => by rw [Go.WideShapes.add_plain, Nat.zero_add, World.cell?, hL.has _ List.mem_cons_self]; simpa [bc] using hu) (by intro u hu; obtain ⟨c, _, rfl⟩ := List.mem_map.1 hu; rfl) (by unfold maxLen; omega) (by rw [hz2]; omega) (by decide) ?_; intro g14 cap14 cur14 W2 hL2 hr14; clear hL hF; rw [hz1] at hr14; have hL := hL2.sub (List.Sublist.cons_cons (g14, Obj.cells cur14 5 (0, 0)) (List.sublist_cons_self _ _)); clear hL2; have hF := hL.fx))
        go_roundw
        case measure => simp [intOf]; omega
        case rel => exact ⟨j + 1, _, _, by omega, by go_num, RowL.of_blk (by rw [List.flatMap_append, bc_app, List.flatMap_cons, List.flatMap_nil, List.append_nil, HW4.out]; exact hr14), Lib.hid ⟨HN2.out, by simp [HI.out.2]⟩, hL⟩
     ·cases hnm : named s.data.toList with
      | true =>
       have HN := Lib.hid hnm
       cases had : address L s.data.toList last with
       | bad m =>
        have HB := HM.out
        rw [mapR_fail HI.out.1 HP.out (show wf L last s.data.toList = .bad m by unfold wf; rw [hnm, had]; rfl)] at HB
        subst HB
        have HU := Lib.hid had
        clear had hnm
        skip
        go_wp2_with (first | (go_at_call 64; refine kn_calls ?_; clear hF hL; intro W hL; simp only [kfb] at hL; have hF := hL.fx; (with_reducible refine (named_eq s (by omega) _ HN _).mono ?_); rintro e W ⟨rfl, hb⟩; replace hL := hL.below hb; clear hb hF; have hF := hL.fx) | (go_at_call 128; refine kc (fun W hL => address_bad ab mb es clock L s (by omega) last _ (hcA hL) (hcM hL) hM _ HU) ?_; clear hF hL; intro W hL hF))
        exact ⟨rfl, rfl, hL.below0⟩
       | ok v =>
        have HU := Lib.hid had
        have HN2 := Lib.hid (mapR_next HI.out.1 HP.out (show wf L last s.data.toList = .ok (v : Int) by unfold wf; rw [hnm, had]; rfl))
        have hvL := address_le hLn had
        have hvn : (-2147483648 : Int) ≤ (v : Int) ∧ (v : Int) ≤ 4294967295 := by omega
        clear had hnm hvL
        obtain ⟨z, hz⟩ : ∃ z : Int, (v : Int) = z := ⟨_, rfl⟩
        rw [hz] at HN2 hvn
        have HAD := Lib.hid (show ∀ W, W.cell? ⟨ab, 0, none⟩ = some (.map (some mb)) → W.heap[mb]? = some (.map es clock) → Calls Tryz.prog 128 #[.pointer (some ⟨ab, 0, none⟩), .string s, .bool last] W fun e w' => e = .returned (.int .i64 z) ∧ Below W.heap.size W w' from fun W h1 h2 => by rw [← hz]; exact address_ok ab mb es clock L s (by omega) last W h1 h2 hM _ HU)
        clear hz
        have hw0 := u8_wrap z
        have hw1 := u8_wrap (z / 256)
        have hw2 := u8_wrap (z / 65536)
        have hw3 := u8_wrap (z / 16777216)
        obtain ⟨c0, hc0⟩ : ∃ c, byteOf z = c := ⟨_, rfl⟩
        obtain ⟨c1, hc1⟩ : ∃ c, byteOf (z / 256) = c := ⟨_, rfl⟩
        obtain ⟨c2, hc2⟩ : ∃ c, byteOf (z / 65536) = c := ⟨_, rfl⟩
        obtain ⟨c3, hc3⟩ : ∃ c, byteOf (z / 16777216) = c := ⟨_, rfl⟩
        rw [hc0] at hw0
        rw [hc1] at hw1
        rw [hc2] at hw2
        rw [hc3] at hw3
        have HW4 := Lib.hid (show w4 z = [c0, c1, c2, c3] by unfold w4; rw [hc0, hc1, hc2, hc3])
        clear hc0 hc1 hc2 hc3 hvn
        go_wp2_with (first | (go_at_call 64; refine kn_calls ?_; clear hF hL; intro W hL; simp only [kfb] at hL; have hF := hL.fx; (with_reducible refine (named_eq s (by omega) _ HN _).mono ?_); rintro e W ⟨rfl, hb⟩; replace hL := hL.below hb; clear hb hF; have hF := hL.fx) | (go_at_call 128; refine kc (fun W hL => HAD.out _ (hcA hL) (hcM hL)) ?_; clear hF hL; intro W hL hF) | (at_builtin; refine kL ?_; clear hF hL; intro W hL hF; refine wpList_append_rowL rfl _ _ 47 rfl 5 i0 _ Tryz.underlying47 hi hz0 (by rw [hz1]; rfl) (by rw [hz1]; decide) _ ([(g2, .cells cur2 5 (0, 0))]) [] hL _ _ _ (by rw [hz1]; exact (RowL.of_blk hb)) rfl _ _ _ (bc [c0, c1, c2, c3]) rfl (by rw [hz1]; rfl) (fun j u hu => by rw [Go.WideShapes.add_plain, Nat.zero_add, World.cell?, hL.has _ List.mem_cons_self]; simpa [bc] using hu) (by intro u hu; obtain ⟨c, _, rfl⟩ := List.mem_map.1 hu; rfl) (by unfold maxLen; omega) (by rw [hz2]; omega) (by decide) ?_; intro g14 cap14 cur14 W2 hL2 hr14; clear hL hF; rw [hz1] at hr14; have hL := hL2.sub (List.Sublist.cons_cons (g14, Obj.cells cur14 5 (0, 0)) (List.sublist_cons_self _ _)); clear hL2; have hF := hL.fx))
        go_roundw
        case measure => simp [intOf]; omega
        case rel => exact ⟨j + 1, _, _, by omega, by go_num, RowL.of_blk (by rw [List.flatMap_append, bc_app, List.flatMap_cons, List.flatMap_nil, List.append_nil, HW4.out]; exact hr14), Lib.hid ⟨HN2.out, by simp [HI.out.2]⟩, hL⟩
      | false =>
       have HN := Lib.hid hnm
       cases hnum : number OO s.data.toList (-2147483648) 4294967295 with
       | bad m =>
        have HB := HM.out
        rw [mapR_fail HI.out.1 HP.out (show wf L last s.data.toList = .bad m by unfold wf; rw [hnm, hnum]; rfl)] at HB
        subst HB
        have HU := Lib.hid hnum
        clear hnum hnm
        skip
        go_wp2_with (first | (go_at_call 64; refine kn_calls ?_; clear hF hL; intro W hL; simp only [kfb] at hL; have hF := hL.fx; (with_reducible refine (named_eq s (by omega) _ HN _).mono ?_); rintro e W ⟨rfl, hb⟩; replace hL := hL.below hb; clear hb hF; have hF := hL.fx) | (go_at_call 127; refine kc (fun W hL => number_bad s (by omega) _ _ _ HU _ ((hT.kn hL (by simp)).t)) ?_; clear hF hL; intro W hL hF))
        exact ⟨rfl, rfl, hL.below0⟩
       | ok z =>
        have HU := Lib.hid hnum
        have HN2 := Lib.hid (mapR_next HI.out.1 HP.out (show wf L last s.data.toList = .ok z by unfold wf; rw [hnm, hnum]; rfl))
        have hvn := number_range hnum
        clear hnum hnm
        have hw0 := u8_wrap z
        have hw1 := u8_wrap (z / 256)
        have hw2 := u8_wrap (z / 65536)
        have hw3 := u8_wrap (z / 16777216)
        obtain ⟨c0, hc0⟩ : ∃ c, byteOf z = c := ⟨_, rfl⟩
        obtain ⟨c1, hc1⟩ : ∃ c, byteOf (z / 256) = c := ⟨_, rfl⟩
        obtain ⟨c2, hc2⟩ : ∃ c, byteOf (z / 65536) = c := ⟨_, rfl⟩
        obtain ⟨c3, hc3⟩ : ∃ c, byteOf (z / 16777216) = c := ⟨_, rfl⟩
        rw [hc0] at hw0
        rw [hc1] at hw1
        rw [hc2] at hw2
        rw [hc3] at hw3
        have HW4 := Lib.hid (show w4 z = [c0, c1, c2, c3] by unfold w4; rw [hc0, hc1, hc2, hc3])
        clear hc0 hc1 hc2 hc3 hvn
        go_wp2_with (first | (go_at_call 64; refine kn_calls ?_; clear hF hL; intro W hL; simp only [kfb] at hL; have hF := hL.fx; (with_reducible refine (named_eq s (by omega) _ HN _).mono ?_); rintro e W ⟨rfl, hb⟩; replace hL := hL.below hb; clear hb hF; have hF := hL.fx) | (go_at_call 127; refine kc (fun W hL => number_ok s (by omega) _ _ _ HU _ ((hT.kn hL (by simp)).t)) ?_; clear hF hL; intro W hL hF) | (at_builtin; refine kL ?_; clear hF hL; intro W hL hF; refine wpList_append_rowL rfl _ _ 47 rfl 5 i0 _ Tryz.underlying47 hi hz0 (by rw [hz1]; rfl) (by rw [hz1]; decide) _ ([(g2, .cells cur2 5 (0, 0))]) [] hL _ _ _ (by rw [hz1]; exact (RowL.of_blk hb)) rfl _ _ _ (bc [c0, c1, c2, c3]) rfl (by rw [hz1]; rfl) (fun j u hu => by rw [Go.WideShapes.add_plain, Nat.zero_add, World.cell?, hL.has _ List.mem_cons_self]; simpa [bc] using hu) (by intro u hu; obtain ⟨c, _, rfl⟩ := List.mem_map.1 hu; rfl) (by unfold maxLen; omega) (by rw [hz2]; omega) (by decide) ?_; intro g14 cap14 cur14 W2 hL2 hr14; clear hL hF; rw [hz1] at hr14; have hL := hL2.sub (List.Sublist.cons_cons (g14, Obj.cells cur14 5 (0, 0)) (List.sublist_cons_self _ _)); clear hL2; have hF := hL.fx))
        go_roundw
        case measure => simp [intOf]; omega
        case rel => exact ⟨j + 1, _, _, by omega, by go_num, RowL.of_blk (by rw [List.flatMap_append, bc_app, List.flatMap_cons, List.flatMap_nil, List.append_nil, HW4.out]; exact hr14), Lib.hid ⟨HN2.out, by simp [HI.out.2]⟩, hL⟩
    ·obtain rfl : j = k := by omega
     have HB := HM.out
     rw [List.take_of_length_le (by rw [HLN.out]; omega)] at HI
     rw [HI.out.1] at HB
     subst HB
     rcases hrow with ⟨rfl, rfl, hj0, hsv⟩ | ⟨g2, cap2, cur2, rfl, rfl, hb⟩
     ·exact absurd q1 (by omega)
     ·go_wp2
      refine bodyPost_ret (by simp [results, Tryz.results96, go_sem, *]; try rfl) rfl ?_
      exact ⟨_, _, _, _, by rw [w4_len, HI.out.2], fun j x hx => hb.get hx, hL⟩
theorem words_is (ab mb : Nat) (es : Array MapEntry) (clock : Nat) (L : Labs) (xg xo : Nat) (vo : Value) (ops : List Bytes) (last : Bool) (w : World) (hA : w.cell? ⟨ab, 0, none⟩ = some (.map (some mb))) (hmb : w.heap[mb]? = some (.map es clock)) (hM : MapV Tryz.prog 9 es (lv L)) (hLn : ∀ p ∈ L, p.2 ≤ 100000) (hx2 : w.cell? ⟨xg, xo + 2, none⟩ = some vo) (hvo : Row w vo (sv ops)) (hsz : ∀ p ∈ ops, p.length ≤ 900000) (hn : ops.length ≤ 100000) (hT : TabA w) : Calls Tryz.prog 96 #[.pointer (some ⟨ab, 0, none⟩), .pointer (some ⟨xg, xo, none⟩), .bool last] w (DirP (wordsR L last ops) w) := by
 by_cases h : ops.length = 0
 ·exact words_none ab mb es clock L xg xo vo ops last w hA hmb hM hLn hx2 hvo hsz hn hT h
 ·exact words_some ab mb es clock L xg xo vo ops last w hA hmb hM hLn hx2 hvo hsz hn hT h
end Go.Proofs.YtfdlifhkeicnnaaGreatDoor
