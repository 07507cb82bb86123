/- Lemmas and walks for the law LawTells (part 38). -/
import Derived.Test.YtfdlifhkeicnnaaGreatDoorWPt37
import Derived.Test.YtfdlifhkeicnnaaGreatDoorProg
import Derived.WalkKit
import Derived.Handy
import Derived.Deep.Light
import Derived.WalkSmall
import Derived.StillTailTactics
import Derived.Lib.Hide
set_option maxRecDepth 20000
set_option maxHeartbeats 4000000
set_option linter.unusedVariables false
set_option linter.unusedSimpArgs false
namespace Go.Proofs.YtfdlifhkeicnnaaGreatDoor
open Go Go.RowKit
theorem one_w (vl vo v : Value) (sop : ByteArray) (ls ops : List Bytes) (at_ : Nat) (L : Labs) (hsz : ∀ p ∈ ops, p.length ≤ 90000) (hol : ops.length ≤ 20000) (hn : L.length ≤ 100000) (hLn : Hid (∀ p ∈ L, p.2 ≤ 100000)) (hLU : Hid (∀ (i j : Nat) (p q : Bytes × Nat), L[i]? = some p → L[j]? = some q → p.1 = q.1 → p = q)) (w : World) (hvo : Row w vo (sv ops)) (hv : LRow w v L) (hso : sop.data.toList = dWord) (hok : ∃ b, direct OO [] ⟨ls, dWord, ops⟩ false = .ok b) : Calls Tryz.prog 49 #[.agg #[vl, .string sop, vo, .int .i64 (at_ : Int)], v] w (OneP (oneR L ⟨ls, sop.data.toList, ops⟩ at_) w) := by
 obtain rfl : sop = ⟨#[46, 119, 111, 114, 100]⟩ := ba_ext hso
 have hop : (⟨#[46, 119, 111, 114, 100]⟩ : ByteArray).data.toList = dWord := rfl
 rw [hop]
 have hcv1 := conv1
 have hcv4 := @conv4
 have HFI := Lib.hid (fun W => refFind_no (s := ⟨#[46, 119, 111, 114, 100]⟩) (OO_fine.dir dWord (by decide)) W)
 obtain ⟨hne0, hall⟩ := dirW_ok hok
 have hne : ops.length ≠ 0 := fun h => hne0 (List.eq_nil_of_length_eq_zero h)
 obtain ⟨R, hR⟩ : ∃ R, oneR L ⟨ls, dWord, ops⟩ at_ = R := ⟨_, rfl⟩
 have HR := Lib.hid (show (match mapR (wf L true) ops with
   | .bad e => (.bad e : Rs Bytes)
   | .ok l => .ok (l.flatMap w4)) = R from by rw [← hR]; exact (oneR_w hne0 hall).symm)
 rw [hR]
 have HALL := Lib.hid hall
 obtain ⟨ao, cap, rfl, hc⟩ := row_open hvo
 obtain ⟨p0, hp0⟩ : ∃ p, ops[0]? = some p := ⟨_, List.getElem?_eq_getElem (by omega)⟩
 obtain ⟨g, o, rfl, hg1, _⟩ := hc 0 _ hp0
 have HC := Lib.hid (show ∀ (j : Nat) p, ops[j]? = some p → w.cell? ⟨g, o + j, none⟩ = some (.string ⟨p.toArray⟩) from fun j p hp => by
  obtain ⟨g', o', e, _, h2⟩ := hc j p hp
  cases e; exact h2)
 have HSZ := Lib.hid hsz
 obtain ⟨n, hln⟩ : ∃ n, ops.length = n := ⟨_, rfl⟩
 rw [hln] at hol hne ⊢
 have HLN := Lib.hid hln
 have HV := Lib.hid hv
 clear hc hvo hp0 hsz hln hop hso hok hall hR hne0 hv
 have hL : Kn [] w w [] := Kn.refl [] w; have hF := hL.fx; go_enter Tryz.func49, Tryz.ntmps49
 go_wp2_with ((go_at_call 45; refine kc (fun W hL => HFI.out _) ?_; clear hF hL; intro W hL hF))
 go_loopw [14, 15, 16, 17] (fun a i b c wr => ∃ (k : Nat) (zz : ByteArray), k ≤ n ∧ a = .string zz ∧ i = .int .i64 k ∧ zz.size = 4 * k ∧ Hid (zz.data.toList = (ops.take k).flatMap (fun s => w4 (valW L s))) ∧ Hid (∀ j, j < k → ∀ p, ops[j]? = some p → (wf L true) p = .ok ((valW L) p)) ∧ Kn [] w wr [(w.heap.size, .cells #[vl, .string ⟨#[46, 119, 111, 114, 100]⟩, .slice (some ⟨g, o, none⟩) n cap, .int .i64 (at_ : Int)] 85 (0, 0))]) (fun _ i _ _ _ => n - (intOf i).toNat)
 case atStart => exact ⟨0, ⟨#[]⟩, by omega, rfl, rfl, rfl, Lib.hid rfl, Lib.hid (fun j hj => by omega), kn_here⟩
 case round =>
  clear hL
  clear hF
  obtain ⟨k, zz, hk, rfl, rfl, hzs, HZZ, HI, hL⟩ := hrel
  have hF := hL.fx
  by_cases hlt : k < n
  ·have hmax : IntKind.i64.max = 9223372036854775807 := by decide
   have mm1 : ∀ c : UInt8, ¬ IntKind.i64.max < ((zz.size + (⟨#[c]⟩ : ByteArray).size : Nat) : Int) := fun c => by rw [hmax, show (⟨#[c]⟩ : ByteArray).size = 1 from rfl]; omega
   have mm4 : ∀ c d e f : UInt8, ¬ IntKind.i64.max < ((zz.size + (⟨#[c, d, e, f]⟩ : ByteArray).size : Nat) : Int) := fun c d e f => by rw [hmax, show (⟨#[c, d, e, f]⟩ : ByteArray).size = 4 from rfl]; omega
   clear hmax
   obtain ⟨p, hp⟩ : ∃ p, ops[k]? = some p := ⟨_, List.getElem?_eq_getElem (by rw [HLN.out]; omega)⟩
   have hck := HC.out k p hp
   have hps := HSZ.out p (List.mem_of_getElem? hp)
   have HA := Lib.hid (HALL.out p (List.mem_of_getElem? hp))
   obtain ⟨s, rfl⟩ : ∃ s : ByteArray, p = s.data.toList := ⟨⟨p.toArray⟩, by simp⟩
   rw [toList_mk] at hck
   rw [szl] at hps
   have HP := Lib.hid hp
   clear hp
   cases hcn : canon s.data.toList with
   | some z =>
    have HNU := Lib.hid (fun W => refNum_some s (by omega) z hcn W)
    obtain ⟨hv1, hv2⟩ := wf_num (L := L) HA.out hcn
    have HVAL := Lib.hid hv1
    have HOKS := Lib.hid hv2
    clear hcn hv1 hv2
    have ha0 := and255 z
    have ha1 := and255 (z / 256)
    have ha2 := and255 (z / 65536)
    have ha3 := and255 (z / 16777216)
    obtain ⟨b0, hb0⟩ : ∃ c, byteOf z = c := ⟨_, rfl⟩
    obtain ⟨b1, hb1⟩ : ∃ c, byteOf (z / 256) = c := ⟨_, rfl⟩
    obtain ⟨b2, hb2⟩ : ∃ c, byteOf (z / 65536) = c := ⟨_, rfl⟩
    obtain ⟨b3, hb3⟩ : ∃ c, byteOf (z / 16777216) = c := ⟨_, rfl⟩
    have hw0 := (u8_mod z).trans (show ((byteOf z).toNat : Int) = (b0.toNat : Int) by rw [hb0])
    have hw1 := (u8_mod (z / 256)).trans (show ((byteOf (z / 256)).toNat : Int) = (b1.toNat : Int) by rw [hb1])
    have hw2 := (u8_mod (z / 65536)).trans (show ((byteOf (z / 65536)).toNat : Int) = (b2.toNat : Int) by rw [hb2])
    have hw3 := (u8_mod (z / 16777216)).trans (show ((byteOf (z / 16777216)).toNat : Int) = (b3.toNat : Int) by rw [hb3])
    have HBY := Lib.hid (show (fun s => w4 (valW L s)) s.data.toList = [b0, b1, b2, b3] from by simp only [HVAL.out]; unfold w4; rw [hb0, hb1, hb2, hb3])
    clear hb0 hb1 hb2 hb3
    go_wp2_with ((go_at_call 74; refine kc (fun W hL => HNU.out _) ?_; clear hF hL; intro W hL hF))
    go_roundw
    case measure => simp [intOf]; omega
    case rel => exact ⟨k + 1, zz ++ ⟨#[b0, b1, b2, b3]⟩, by omega, by (rfl), by go_num, by rw [ByteArray.size_append, hzs]; rfl, Lib.hid (by rw [cat_list, HZZ.out, List.take_add_one, HP.out, Option.toList_some, List.flatMap_append, List.flatMap_cons, List.flatMap_nil, List.append_nil]; exact congrArg (fun z => _ ++ z) HBY.out.symm), Lib.hid (fun j hj p hp => by
     rcases Nat.lt_or_ge j k with h | h
     ·exact HI.out j h p hp
     ·obtain rfl : j = k := by omega
      rw [HP.out] at hp; cases hp; exact HOKS.out), Kn.sub kn_here (by repeat (first | exact List.Sublist.refl _ | apply List.Sublist.cons))⟩
   | none =>
    have HNU := Lib.hid (fun W => refNum_none s (by omega) hcn W)
    have hnm := wf_named HA.out hcn
    cases hlk : look L s.data.toList with
    | none =>
     have HHS := Lib.hid (fun W (h : LRow W v L) => refHas_is v L s hn false (Lib.hid (by rw [hlk]; rfl)) W h)
     have hbad : wf L true s.data.toList = .bad 4 := by unfold wf; rw [hnm, if_pos rfl]; unfold address; rw [hnm, hlk]; rfl
     have hB := HR.out
     rw [mapR_stop4 (fun q hq => wf_or L (HALL.out q hq)) (List.mem_of_getElem? HP.out) hbad] at hB
     subst hB
     clear hbad hcn hnm hlk
     go_wp2_with (first | (go_at_call 74; refine kc (fun W hL => HNU.out _) ?_; clear hF hL; intro W hL hF) | (go_at_call 47; refine kc (fun W hL => HHS.out _ (HV.out.kn hL)) ?_; clear hF hL; intro W hL hF))
     refine bodyPost_ret (by simp [results, Tryz.results49, go_sem, *]; try rfl) rfl ?_
     exact ⟨rfl, kn_here.below0⟩
    | some lk =>
     have HHS := Lib.hid (fun W (h : LRow W v L) => refHas_is v L s hn true (Lib.hid (by rw [hlk]; rfl)) W h)
     have HLK := Lib.hid (look_ex hlk)
     have HVL := Lib.hid (show valW L s.data.toList = (lk : Int) from by unfold valW; rw [hnm, hlk]; rfl)
     have HOK := Lib.hid (show wf L true s.data.toList = .ok (valW L s.data.toList) from by rw [HVL.out]; unfold wf; rw [hnm, if_pos rfl]; unfold address; rw [hnm, hlk]; rfl)
     obtain ⟨nL, hnl⟩ : ∃ n, L.length = n := ⟨_, rfl⟩
     have HNL := Lib.hid hnl
     obtain ⟨gl, ol, lcap, rfl, hgl, hlc⟩ : ∃ g o cap, v = .slice (some ⟨g, o, none⟩) L.length cap ∧ g < w.heap.size ∧ ∀ (j : Nat) p, L[j]? = some p → w.cell? ⟨g, o + j * 2, none⟩ = some (.string ⟨p.1.toArray⟩) ∧ w.cell? ⟨g, o + j * 2 + 1, none⟩ = some (.int .i64 (p.2 : Int)) := by
      rcases lrow_open HV.out with ⟨rfl, _⟩ | h
      ·cases hlk
      ·exact h
     have HLC := Lib.hid hlc
     rw [hnl] at hn HHS ⊢
     clear hlc hcn hnm hlk hnl
     go_wp2_with (first | (go_at_call 74; refine kc (fun W hL => HNU.out _) ?_; clear hF hL; intro W hL hF) | (go_at_call 47; refine kc (fun W hL => HHS.out _ (HNL.out ▸ HV.out.kn hL)) ?_; clear hF hL; intro W hL hF))
     go_loopw [16, 18] (fun nv m wr2 => ∃ (i : Nat) (y : Int), i ≤ nL ∧ nv = .int .i64 y ∧ m = .int .i64 i ∧ Hid (∀ j, j < i → ∀ q, L[j]? = some q → q.1 = s.data.toList → y = (q.2 : Int)) ∧ Kn [] w wr2 [(w.heap.size, .cells #[vl, .string ⟨#[46, 119, 111, 114, 100]⟩, .slice (some ⟨g, o, none⟩) n cap, .int .i64 (at_ : Int)] 85 (0, 0))]) (fun _ m _ => nL - (intOf m).toNat)
     case atStart => exact ⟨0, _, by omega, rfl, rfl, Lib.hid (fun j hj => by omega), hL⟩
     case round =>
      clear hL
      clear hF
      obtain ⟨i, y, hi, rfl, rfl, HY, hL⟩ := hrel
      have hF := hL.fx
      by_cases hlt2 : i < nL
      ·obtain ⟨pl, hpl⟩ : ∃ p, L[i]? = some p := ⟨_, List.getElem?_eq_getElem (by rw [HNL.out]; omega)⟩
       obtain ⟨l1, l2⟩ := HLC.out i pl hpl
       obtain ⟨nmx, pa⟩ := pl
       obtain ⟨xn, rfl⟩ : ∃ x : ByteArray, nmx = x.data.toList := ⟨⟨nmx.toArray⟩, by simp⟩
       rw [toList_mk] at l1
       have HPL := Lib.hid hpl
       clear hpl
       cases he : (xn.toList == s.toList) with
       | true =>
        have HE := Lib.hid (show xn = s from ba_ext (by have := beq_iff_eq.1 he; rwa [Lib.toList_data, Lib.toList_data] at this))
        have HY2 := Lib.hid (show ∀ j, j < i + 1 → ∀ q, L[j]? = some q → q.1 = s.data.toList → (pa : Int) = (q.2 : Int) from fun j hj q hq e => by
         have := hLU.out i j _ q HPL.out hq (by rw [HE.out]; exact e.symm)
         rw [← this])
        go_wp2_with ((with_reducible refine at_region 26 ?_); refine kW [0, 1, 2, 3, 4, 5, 6, 7, 8, 9, 10] [0, 1, 2, 3, 4, 5, 6, 7, 8, 9, 10] [] [0, 1, 2, 3, 5, 7, 8, 10] ?_; clear hF hL; intro ι F hne hC hG; (repeat (first | (refine cF hC ?_; intro K hK; go_big_quiet_op; go_big_quiet_on) | (refine cP ?_; intro K hK; go_big_quiet_op; go_big_quiet_on))); refine cwk_nil ?_; clear hC hG; intro W hL; have hF := hL.fx)
        go_roundw
        case measure => simp [intOf]; omega
        case rel => exact ⟨i + 1, _, by omega, rfl, by go_num, HY2, hL⟩
       | false =>
        have HY2 := Lib.hid (show ∀ j, j < i + 1 → ∀ q, L[j]? = some q → q.1 = s.data.toList → y = (q.2 : Int) from fun j hj q hq e => by
         rcases Nat.lt_or_ge j i with h | h
         ·exact HY.out j h q hq e
         ·obtain rfl : j = i := by omega
          rw [HPL.out] at hq; cases hq
          have e2 : xn.data.toList = s.data.toList := e
          rw [Lib.toList_data, Lib.toList_data, e2] at he; simp at he)
        go_wp2_with ((with_reducible refine at_region 26 ?_); refine kW [0, 1, 2, 3, 4, 5, 6, 7, 8, 9, 10] [0, 1, 2, 3, 4, 5, 6, 7, 8, 9, 10] [] [0, 1, 2, 3, 5, 7, 8, 10] ?_; clear hF hL; intro ι F hne hC hG; (repeat (first | (refine cF hC ?_; intro K hK; go_big_quiet_op; go_big_quiet_on) | (refine cP ?_; intro K hK; go_big_quiet_op; go_big_quiet_on))); refine cwk_nil ?_; clear hC hG; intro W hL; have hF := hL.fx)
        go_roundw
        case measure => simp [intOf]; omega
        case rel => exact ⟨i + 1, _, by omega, rfl, by go_num, HY2, hL⟩
      ·obtain rfl : i = nL := by omega
       obtain ⟨jx, qx, hjx, hqx, hq2⟩ := HLK.out
       have hyv : y = (lk : Int) := by rw [HY.out jx (by rw [← HNL.out]; exact (List.getElem?_eq_some_iff.1 hjx).1) qx hjx hqx, hq2]
       obtain ⟨z, hz⟩ : ∃ z, y = z := ⟨_, rfl⟩
       have HVAL := Lib.hid (show valW L s.data.toList = z from by rw [← hz, hyv]; exact HVL.out)
       have HOKS := Lib.hid (show wf L true s.data.toList = .ok (valW L s.data.toList) from HOK.out)
       rw [hz] at *
       clear hz hyv hjx hqx hq2 HY
       have ha0 := and255 z
       have ha1 := and255 (z / 256)
       have ha2 := and255 (z / 65536)
       have ha3 := and255 (z / 16777216)
       obtain ⟨b0, hb0⟩ : ∃ c, byteOf z = c := ⟨_, rfl⟩
       obtain ⟨b1, hb1⟩ : ∃ c, byteOf (z / 256) = c := ⟨_, rfl⟩
       obtain ⟨b2, hb2⟩ : ∃ c, byteOf (z / 65536) = c := ⟨_, rfl⟩
       obtain ⟨b3, hb3⟩ : ∃ c, byteOf (z / 16777216) = c := ⟨_, rfl⟩
       have hw0 := (u8_mod z).trans (show ((byteOf z).toNat : Int) = (b0.toNat : Int) by rw [hb0])
       have hw1 := (u8_mod (z / 256)).trans (show ((byteOf (z / 256)).toNat : Int) = (b1.toNat : Int) by rw [hb1])
       have hw2 := (u8_mod (z / 65536)).trans (show ((byteOf (z / 65536)).toNat : Int) = (b2.toNat : Int) by rw [hb2])
       have hw3 := (u8_mod (z / 16777216)).trans (show ((byteOf (z / 16777216)).toNat : Int) = (b3.toNat : Int) by rw [hb3])
       have HBY := Lib.hid (show (fun s => w4 (valW L s)) s.data.toList = [b0, b1, b2, b3] from by simp only [HVAL.out]; unfold w4; rw [hb0, hb1, hb2, hb3])
       clear hb0 hb1 hb2 hb3
       go_wp2_with ((with_reducible refine ks ?_); clear hL; intro W hL hF)
       go_roundw
       case measure => simp [intOf]; omega
       case rel => exact ⟨k + 1, zz ++ ⟨#[b0, b1, b2, b3]⟩, by omega, by (rfl), by go_num, by rw [ByteArray.size_append, hzs]; rfl, Lib.hid (by rw [cat_list, HZZ.out, List.take_add_one, HP.out, Option.toList_some, List.flatMap_append, List.flatMap_cons, List.flatMap_nil, List.append_nil]; exact congrArg (fun z => _ ++ z) HBY.out.symm), Lib.hid (fun j hj p hp => by
        rcases Nat.lt_or_ge j k with h | h
        ·exact HI.out j h p hp
        ·obtain rfl : j = k := by omega
         rw [HP.out] at hp; cases hp; exact HOKS.out), Kn.sub kn_here (by repeat (first | exact List.Sublist.refl _ | apply List.Sublist.cons))⟩
  ·obtain rfl : k = n := by omega
   have hB := HR.out
   rw [mapR_full (fun j p hp => HI.out j (by rw [← HLN.out]; exact (List.getElem?_eq_some_iff.1 hp).1) p hp)] at hB
   have hz2 := HZZ.out
   rw [List.take_of_length_le (by rw [HLN.out]; exact Nat.le_refl _)] at hz2
   have hB2 : R = .ok zz.data.toList := by rw [← hB, hz2]; simp only; rw [List.flatMap_map]
   subst hB2
   clear hB hz2 HR
   unfold OneP
   simp only [toList_mk]
   go_wp2_with ((with_reducible refine ks ?_); clear hL; intro W hL hF)
   refine bodyPost_ret (by simp [results, Tryz.results49, go_sem, *]; try rfl) rfl ?_
   exact ⟨rfl, kn_here.below0⟩
theorem one_e (vl vo v : Value) (ls : List Bytes) (at_ : Nat) (L : Labs) (w : World) (hvo : Row w vo (sv [])) : Calls Tryz.prog 49 #[.agg #[vl, .string ⟨#[]⟩, vo, .int .i64 (at_ : Int)], v] w (OneP (oneR L ⟨ls, [], []⟩ at_) w) := by
 have HFI := Lib.hid (fun W => refFind_no (s := ⟨#[]⟩) OO_fine.nil W)
 obtain ⟨ao, cap, rfl, _⟩ := row_open hvo
 rw [show oneR L ⟨ls, [], []⟩ at_ = .ok [] from by unfold oneR; rw [show OO.find (⟨ls, [], []⟩ : Stm).op = none from OO_fine.nil]; simp]
 clear hvo
 have hL : Kn [] w w [] := Kn.refl [] w; have hF := hL.fx; go_enter Tryz.func49, Tryz.ntmps49
 go_wp2_with ((go_at_call 45; refine kc (fun W hL => HFI.out _) ?_; clear hF hL; intro W hL hF))
 go_loopw [14, 15] (fun a i wr => a = .string ⟨#[]⟩ ∧ i = .int .i64 0 ∧ Kn [] w wr [(w.heap.size, .cells #[vl, .string ⟨#[]⟩, .slice ao 0 cap, .int .i64 (at_ : Int)] 85 (0, 0))]) (fun _ _ _ => 0)
 case atStart => exact ⟨rfl, rfl, kn_here⟩
 case round =>
  clear hL
  clear hF
  obtain ⟨rfl, rfl, hL⟩ := hrel
  have hF := hL.fx
  go_wp2
  refine bodyPost_ret (by simp [results, Tryz.results49, go_sem, *]; try rfl) rfl ?_
  exact ⟨rfl, kn_here.below0⟩
theorem one_is (vl vo v : Value) (sop : ByteArray) (ls ops : List Bytes) (at_ : Nat) (L : Labs) (hsz : ∀ p ∈ ops, p.length ≤ 90000) (hol : ops.length ≤ 20000) (hn : L.length ≤ 100000) (hLn : Hid (∀ p ∈ L, p.2 ≤ 100000)) (hLU : Hid (∀ (i j : Nat) (p q : Bytes × Nat), L[i]? = some p → L[j]? = some q → p.1 = q.1 → p = q)) (w : World) (hvo : Row w vo (sv ops)) (hv : LRow w v L) (hat : at_ ≤ 100000) (hx : OO.find sop.data.toList = none → (sop.data.toList = [] ∧ ops = []) ∨ (isDir sop.data.toList = true ∧ ∃ b, direct OO [] ⟨ls, sop.data.toList, ops⟩ false = .ok b)) : Calls Tryz.prog 49 #[.agg #[vl, .string sop, vo, .int .i64 (at_ : Int)], v] w (OneP (oneR L ⟨ls, sop.data.toList, ops⟩ at_) w) := by
 cases hf : OO.find sop.data.toList with
 | some op => exact one_ins vl vo v sop ls ops at_ op L hf hsz (by omega) hat hn hLn w hvo hv
 | none =>
  rcases hx hf with ⟨h1, rfl⟩ | ⟨h1, h2⟩
  ·obtain rfl : sop = ⟨#[]⟩ := ba_ext h1
   exact one_e vl vo v ls at_ L w hvo
  ·have h3 := h1
   unfold isDir at h3
   simp only [Bool.or_eq_true, beq_iff_eq] at h3
   rcases h3 with ((h3 | h3) | h3) | h3
   ·exact one_b vl vo v sop ls ops at_ L hsz hol hn hLn hLU w hvo hv h3 (by rw [h3] at h2; exact h2)
   ·exact one_w vl vo v sop ls ops at_ L hsz hol hn hLn hLU w hvo hv h3 (by rw [h3] at h2; exact h2)
   ·exact one_t vl vo v sop ls ops at_ L hsz hol hn hLn hLU w hvo hv h3 (by rw [h3] at h2; exact h2)
   ·exact one_s vl vo v sop ls ops at_ L hsz hol hn hLn hLU w hvo hv h3 (by rw [h3] at h2; exact h2)
/-- Two results that are both errors, the same, or both none. -/
def SameR {α β : Type} (r : Rs α) (r' : Rs β) : Prop := (∃ e, r = .bad e ∧ r' = .bad e) ∨ ((∃ a, r = .ok a) ∧ ∃ a, r' = .ok a)
theorem same_refl {α : Type} (r : Rs α) : SameR r r := by
 cases r with
 | bad e => exact .inl ⟨e, rfl, rfl⟩
 | ok a => exact .inr ⟨⟨a, rfl⟩, ⟨a, rfl⟩⟩
theorem same_bind {α α' β β' : Type} {r : Rs α} {r' : Rs α'} {f : α → Rs β} {f' : α' → Rs β'} (h : SameR r r') (hf : ∀ a a', SameR (f a) (f' a')) : SameR (r.bind f) (r'.bind f') := by
 rcases h with ⟨e, rfl, rfl⟩ | ⟨⟨a, rfl⟩, ⟨a', rfl⟩⟩
 ·exact .inl ⟨e, rfl, rfl⟩
 ·exact hf a a'
theorem same_ok {α β : Type} (a : α) (b : β) : SameR (.ok a : Rs α) (.ok b : Rs β) := .inr ⟨⟨a, rfl⟩, ⟨b, rfl⟩⟩
theorem address_L (L L' : Labs) (s : Bytes) : SameR (address L s false) (address L' s false) := by
 unfold address
 cases hn : named s with
 | false => exact .inl ⟨2, rfl, rfl⟩
 | true =>
  rw [if_pos rfl, if_pos rfl]
  cases look L s <;> cases look L' s <;> exact same_ok _ _
theorem target_L (L L' : Labs) (a op : Nat) (s : Bytes) : SameR (target OO L a op s false) (target OO L' a op s false) := by
 unfold target
 cases hc : OO.int s with
 | some n => exact same_ok _ _
 | none =>
  simp only
  split
  ·rcases address_L L L' s with ⟨e, h1, h2⟩ | ⟨⟨x, h1⟩, ⟨y, h2⟩⟩
   ·rw [h1, h2]; exact .inl ⟨e, rfl, rfl⟩
   ·rw [h1, h2]; exact same_ok _ _
  ·split
   ·rcases address_L L L' s with ⟨e, h1, h2⟩ | ⟨⟨x, h1⟩, ⟨y, h2⟩⟩
    ·rw [h1, h2]; exact .inl ⟨e, rfl, rfl⟩
    ·rw [h1, h2]; exact same_ok _ _
   ·exact same_refl _
theorem instr_L (L L' : Labs) (x : Stm) (a op : Nat) : SameR (instr OO L x a op false) (instr OO L' x a op false) := by
 unfold instr
 split
 ·exact same_refl _
 ·split
  ·exact same_refl _
  ·exact same_refl _
  ·exact same_refl _
  ·exact same_refl _
  ·exact same_bind (same_refl _) fun _ _ => same_bind (target_L L L' _ _ _) fun _ _ => same_ok _ _
  ·exact same_bind (target_L L L' _ _ _) fun _ _ => same_ok _ _
  ·exact same_refl _
theorem mapR_L {α β : Type} {f f' : α → Rs β} (h : ∀ a, SameR (f a) (f' a)) : ∀ l : List α, SameR (mapR f l) (mapR f' l)
 | [] => same_ok _ _
 | a :: l => by
  unfold mapR
  rcases h a with ⟨e, h1, h2⟩ | ⟨⟨x, h1⟩, ⟨y, h2⟩⟩
  ·rw [h1, h2]; exact .inl ⟨e, rfl, rfl⟩
  ·rw [h1, h2]
   rcases mapR_L h l with ⟨e, h3, h4⟩ | ⟨⟨xs, h3⟩, ⟨ys, h4⟩⟩
   ·simp only [h3, h4]; exact .inl ⟨e, rfl, rfl⟩
   ·simp only [h3, h4]; exact same_ok _ _
theorem wf_L (L L' : Labs) (s : Bytes) : SameR (wf L false s) (wf L' false s) := by
 unfold wf
 split
 ·rcases address_L L L' s with ⟨e, h1, h2⟩ | ⟨⟨x, h1⟩, ⟨y, h2⟩⟩
  ·rw [h1, h2]; exact .inl ⟨e, rfl, rfl⟩
  ·rw [h1, h2]; exact same_ok _ _
 ·exact same_refl _
theorem direct_word (L : Labs) (ls ops : List Bytes) (last : Bool) : direct OO L ⟨ls, dWord, ops⟩ last = if ops = [] ∨ ops.any (fun s => (OO.int s).isNone && !named s) then .bad 2 else (match mapR (wf L last) ops with
  | .bad e => .bad e
  | .ok l => .ok (l.flatMap w4)) := by
 unfold direct
 rw [if_neg (show ¬ dWord = dByte by decide), if_pos rfl]
 rfl
theorem direct_L (L L' : Labs) (x : Stm) : SameR (direct OO L x false) (direct OO L' x false) := by
 by_cases hw : x.op = dWord
 ·obtain ⟨ls, op, ops⟩ := x
  simp only at hw
  subst hw
  rw [direct_word, direct_word]
  split
  ·exact same_refl _
  ·rcases mapR_L (wf_L L L') ops with ⟨e, h1, h2⟩ | ⟨⟨x, h1⟩, ⟨y, h2⟩⟩
   ·rw [h1, h2]; exact .inl ⟨e, rfl, rfl⟩
   ·rw [h1, h2]; exact same_ok _ _
 ·have e : ∀ L, direct OO L x false = direct OO [] x false := fun L => by
   unfold direct
   split
   ·rfl
   ·(rfl)
  rw [e L, e L']
  exact same_refl _
/-- Labels with different names. -/
def LUn (L : Labs) : Prop := ∀ (i j : Nat) (p q : Bytes × Nat), L[i]? = some p → L[j]? = some q → p.1 = q.1 → p = q
theorem lun_nil : LUn [] := fun i j p q h => by simp at h
theorem lun_snoc {L : Labs} {s : Bytes} {a : Nat} (h : LUn L) (hs : look L s = none) : LUn (L ++ [(s, a)]) := by
 have hno : ∀ q ∈ L, q.1 ≠ s := fun q hq e => by
  unfold look at hs
  rw [Option.map_eq_none_iff, List.find?_eq_none] at hs
  exact hs q hq (by simp [e])
 intro i j p q hp hq e
 have key : ∀ (k : Nat) (z : Bytes × Nat), (L ++ [(s, a)])[k]? = some z → L[k]? = some z ∨ z = (s, a) := fun k z hz => by
  rcases Nat.lt_or_ge k L.length with hk | hk
  ·rw [List.getElem?_append_left hk] at hz; exact .inl hz
  ·rw [List.getElem?_append_right hk] at hz
   right
   cases hkk : k - L.length with
   | zero => rw [hkk] at hz; simp at hz; exact hz.symm
   | succ m => rw [hkk] at hz; simp at hz
 rcases key i p hp with h1 | rfl <;> rcases key j q hq with h2 | rfl
 ·exact h i j p q h1 h2 e
 ·exact absurd e (hno p (List.mem_of_getElem? h1))
 ·exact absurd e.symm (hno q (List.mem_of_getElem? h2))
 ·rfl
/-- The reference's second pass. -/
theorem emit_one {L : Labs} {x : Stm} {a : Nat} {code : Bytes} (hx : OO.find x.op = none → x.op = [] ∨ isDir x.op = true) : emit OO L x a code = (oneR L x a).bind fun b => .ok (if x.op = [] then code else code ++ List.replicate (a - code.length) 0 ++ b) := by
 unfold emit oneR
 cases hf : OO.find x.op with
 | some op =>
  obtain ⟨h1, h2⟩ := find_ne hf
  rw [if_neg h1]
  simp only [h2, Bool.false_eq_true, if_false]
  cases instr OO L x a op true with
  | bad e => rfl
  | ok i =>
   simp only [Rs.bind]
   split
   ·rfl
   ·rfl
 | none =>
  simp only
  by_cases h0 : x.op = []
  ·rw [if_pos h0, if_pos h0]; simp only [Rs.bind]; rw [if_pos h0]
  ·rw [if_neg h0, if_neg h0]
   have hd := (hx hf).resolve_left h0
   simp only [hd, if_true]
   cases direct OO L x true with
   | bad e => rfl
   | ok b => simp only [Rs.bind]; rw [if_neg h0]
theorem readRO (Y : List Nat) (line : ByteArray) (hs : line.size ≤ 20000) (w : World) (hY : ∀ y ∈ Y, y < w.heap.size) : Calls Tryz.prog 44 #[.string line] w fun e w' => ∃ vl vo sop, e = .returned (.agg #[vl, .string sop, vo, .int .i64 0]) ∧ XOK Y w' ⟨read line.data.toList, vl, vo, sop⟩ ∧ (∃ ao n c, vl = .slice ao n c) ∧ (∃ ao n c, vo = .slice ao n c) ∧ Below w.heap.size w w' := by
 refine (refRead_is line hs w).mono fun e w' h => ?_
 obtain ⟨vl, vo, LL, LO, sop, h1, h2, h3, h4, h5⟩ := h
 obtain ⟨s1, s2, s3, s4, s5⟩ := read_sizes line.data.toList
 rw [szl] at s1 s2 s3 s4 s5
 have hnew : ∀ p ∈ LO ++ LL, p.1 ∉ Y := fun p hp hm => by
  have := hY _ hm
  rcases h5.own p hp with e | e
  ·omega
  ·simp at e
 refine ⟨vl, vo, sop, h1, ⟨h4.symm, h2.rowO (h5.sub (List.sublist_append_right LO LL)) (fun p hp => hnew p (List.mem_append_right _ hp)), h3.rowO (h5.sub (List.sublist_append_left LO LL)) (fun p hp => hnew p (List.mem_append_left _ hp)), fun p hp => by have := s1 p hp; omega, fun p hp => by have := s2 p hp; omega, by rw [← szl, h4]; omega, by show (read line.data.toList).labels.length ≤ _; omega, by show (read line.data.toList).ops.length ≤ _; omega⟩, ?_, ?_, h5.below0⟩
 ·rcases h2 with ⟨_, rfl, _⟩ | ⟨_, _, _, _, rfl, _⟩ <;> exact ⟨_, _, _, rfl⟩
 ·rcases h3 with ⟨_, rfl, _⟩ | ⟨_, _, _, _, rfl, _⟩ <;> exact ⟨_, _, _, rfl⟩
theorem info6 : (Tryz.prog.info? 85).map (fun i => (i.zero, i.size, i.bytes)) = some (some (.agg #[.slice none 0 0, .string ⟨#[]⟩, .slice none 0 0, .int .i64 0]), 4, 72) := by kernel_rfl
theorem info7 : (Tryz.prog.info? 91).map (fun i => (i.zero, i.size, i.bytes)) = some (some (.agg #[.string ⟨#[]⟩, .int .i64 0]), 2, 24) := by kernel_rfl
theorem run_append_6 {W : World} {t : TypeId} {v : Value} {n m c : Nat} {xs news : List Value} {ad : Addr} (hl : news.length = m * 4) (hnews : ∀ j u, news[j]? = some u → W.cell? (ad.add j) = some u) (h1 : ∀ u ∈ news, u.oneCell' = true) (hs : n + m ≤ 1000000) (ho : W.ownsRow 0 85 4 v n xs) :
  ∃ v' w', (Builtin.append_ #[82, 82] t #[v, .slice (some ad) m c]).run Tryz.prog W = .ok v' w' ∧ w'.ownsRow 0 85 4 v' (n + m) (xs ++ news) ∧ W.grownBy w' v.ownBlock ∧ (v'.ownBlock = v.ownBlock ∨ v'.ownBlock = some W.heap.size) := by
 obtain ⟨i0, hi, hz0, hz1, hz2⟩ := info_parts info6
 have := run_append_kn (P := Tryz.prog) (w := W) 0 82 t 85 i0 _ Tryz.underlying82 hi hz0 (by rw [hz1]; rfl) (by rw [hz1]; decide) v n xs (by rw [hz1]; exact ho) ad m c news (by rw [hz1, hl]) hnews h1 (by unfold maxLen; omega) (by rw [hz2]; omega) (Nat.zero_le _)
 rw [hz1] at this
 exact this
theorem run_append_7 {W : World} {t : TypeId} {v : Value} {n m c : Nat} {xs news : List Value} {ad : Addr} (hl : news.length = m * 2) (hnews : ∀ j u, news[j]? = some u → W.cell? (ad.add j) = some u) (h1 : ∀ u ∈ news, u.oneCell' = true) (hs : n + m ≤ 1000000) (ho : W.ownsRow 0 91 2 v n xs) :
  ∃ v' w', (Builtin.append_ #[83, 83] t #[v, .slice (some ad) m c]).run Tryz.prog W = .ok v' w' ∧ w'.ownsRow 0 91 2 v' (n + m) (xs ++ news) ∧ W.grownBy w' v.ownBlock ∧ (v'.ownBlock = v.ownBlock ∨ v'.ownBlock = some W.heap.size) := by
 obtain ⟨i0, hi, hz0, hz1, hz2⟩ := info_parts info7
 have := run_append_kn (P := Tryz.prog) (w := W) 0 83 t 91 i0 _ Tryz.underlying83 hi hz0 (by rw [hz1]; rfl) (by rw [hz1]; decide) v n xs (by rw [hz1]; exact ho) ad m c news (by rw [hz1, hl]) hnews h1 (by unfold maxLen; omega) (by rw [hz2]; omega) (Nat.zero_le _)
 rw [hz1] at this
 exact this
/-- The cells of the labels. -/
def LVL (L : Labs) : List Value := L.flatMap fun p => [.string ⟨p.1.toArray⟩, .int .i64 (p.2 : Int)]
theorem LVL_get : ∀ (L : Labs) (j : Nat) (p : Bytes × Nat), L[j]? = some p → (LVL L)[j * 2]? = some (.string ⟨p.1.toArray⟩) ∧ (LVL L)[j * 2 + 1]? = some (.int .i64 (p.2 : Int))
 | [], j, p, h => by simp at h
 | a :: L, 0, p, h => by simp at h; subst h; exact ⟨rfl, rfl⟩
 | a :: L, j + 1, p, h => by
  have := LVL_get L j p (by simpa using h)
  rw [show (j + 1) * 2 = j * 2 + 2 by omega]
  exact this
theorem RowL.lrow {LL : List (Nat × Obj)} {X : List Nat} {w0 w : World} {v : Value} {L : Labs} {K : List (Nat × Obj)} (h : RowL 2 91 LL v L.length (LVL L)) (hk : Kn X w0 w K) (hs : ∀ p ∈ LL, p ∈ K) : LRow w v L := by
 rcases h with ⟨_, rfl, h0, h1⟩ | ⟨g, cap, cur, rfl, rfl, hb⟩
 ·have : L = [] := List.eq_nil_of_length_eq_zero h0
  subst this
  exact LRow.nil w
 ·refine ⟨some ⟨g, 0, none⟩, cap, rfl, fun j p hp => ⟨g, 0, rfl, ?_, ?_⟩⟩
  ·rw [Nat.zero_add, cells_at (hk.has _ (hs _ List.mem_cons_self))]
   exact hb.get (LVL_get L j p hp).1
  ·rw [Nat.zero_add, cells_at (hk.has _ (hs _ List.mem_cons_self))]
   exact hb.get (LVL_get L j p hp).2
/-- A statement of the reference: its cells. -/
theorem find_fb {sop : ByteArray} {b : Bool} (h : decide (0 ≤ findI sop) = b) : (b = true → OO.find sop.data.toList = some (findI sop).toNat) ∧ (b = false → OO.find sop.data.toList = none) := by
 have e : OO.find sop.data.toList = if 0 ≤ findI sop then some (findI sop).toNat else none := by
  show (if 0 ≤ findI ⟨sop.data.toList.toArray⟩ then some (findI ⟨sop.data.toList.toArray⟩).toNat else none) = _
  rw [toList_mk]
 rw [e]
 refine ⟨fun hb => ?_, fun hb => ?_⟩
 ·rw [hb] at h; rw [if_pos (of_decide_eq_true h)]
 ·rw [hb] at h; rw [if_neg (of_decide_eq_false h)]
def rst (x : XT × Nat) : List Value := [x.1.vl, .string x.1.op, x.1.vo, .int .i64 (x.2 : Int)]
def psx (x : XT × Nat) : Stm × Nat := (x.1.s, x.2)
theorem asm_bad_at {Ls : List Bytes} {s : Bytes} {k size e : Nat} {r : List (Stm × Nat)} {L : Labs} (h : pass1 OO ((Ls.take k).map read) 1 0 [] = .ok (r, size, L)) (hs : Ls[k]? = some s) (hm : measure OO (read s) size L = .bad e) : asm OO Ls = .bad e (k + 1) := by
 have h1 : pass1 OO ((Ls.take (k + 1)).map read) 1 0 [] = .bad e (k + 1) := by
  rw [List.take_add_one, hs, Option.toList_some, List.map_append, List.map_singleton, pass1_snoc, h]
  simp only
  rw [hm]
  have hk := (List.getElem?_eq_some_iff.1 hs).1
  simp only [List.length_map, List.length_take]
  rw [Nat.min_eq_left (by omega), Nat.add_comm]
 have h2 : pass1 OO (Ls.map read) 1 0 [] = .bad e (k + 1) := by
  conv => lhs; rw [← List.take_append_drop (k + 1) Ls, List.map_append]
  exact pass1_stop h1
 unfold asm
 rw [h2]
theorem pass1_add {Ls : List Bytes} {s : Bytes} {k size size' at_ : Nat} {r : List (Stm × Nat)} {L L' : Labs} (h : pass1 OO ((Ls.take k).map read) 1 0 [] = .ok (r, size, L)) (hs : Ls[k]? = some s) (hm : measure OO (read s) size L = .ok (size', at_, L')) : pass1 OO ((Ls.take (k + 1)).map read) 1 0 [] = .ok (r ++ [(read s, at_)], size', L') := by
 rw [List.take_add_one, hs, Option.toList_some, List.map_append, List.map_singleton, pass1_snoc, h]
 simp only
 rw [hm]
theorem addL_at {L : Labs} {a : Nat} : ∀ {l : List Bytes} {j : Nat} {s : Bytes} {Lj : Labs}, addL L a (l.take j) = .ok Lj → l[j]? = some s → ((look Lj s).isSome = true → addL L a l = .bad 5) ∧ ((look Lj s) = none → addL L a (l.take (j + 1)) = .ok (Lj ++ [(s, a)]))
 | [], j, s, Lj, _, hs => by simp at hs
 | x :: l, 0, s, Lj, h, hs => by
  simp at hs; subst hs
  rw [List.take_zero, addL] at h
  cases h
  refine ⟨fun hh => by rw [addL, if_pos hh], fun hh => ?_⟩
  show addL L a [x] = _
  rw [addL, hh, if_neg (by simp), addL]
 | x :: l, j + 1, s, Lj, h, hs => by
  rw [List.take_succ_cons, addL] at h
  rw [List.take_succ_cons, addL, addL]
  split at h
  ·cases h
  ·rename_i hx
   rw [if_neg hx, if_neg hx]
   exact addL_at h (by simpa using hs)
theorem addL_un {a : Nat} : ∀ {l : List Bytes} {L L' : Labs}, addL L a l = .ok L' → LUn L → LUn L' ∧ L'.length = L.length + l.length ∧ ∀ p ∈ L', p ∈ L ∨ p.2 = a
 | [], L, L', h, hu => by rw [addL] at h; cases h; exact ⟨hu, rfl, fun p hp => .inl hp⟩
 | s :: l, L, L', h, hu => by
  rw [addL] at h
  split at h
  ·cases h
  ·rename_i hs
   obtain ⟨h1, h2, h3⟩ := addL_un h (lun_snoc hu (by simpa using hs))
   refine ⟨h1, by rw [h2, List.length_append, List.length_cons]; simp; omega, fun p hp => ?_⟩
   rcases h3 p hp with h4 | h4
   ·rcases List.mem_append.1 h4 with h5 | h5
    ·exact .inl h5
    ·rw [List.mem_singleton] at h5; subst h5; exact .inr rfl
   ·exact .inr h4
/-- Where a statement comes to stand. -/
noncomputable def atR (y : Stm) (size : Nat) : Nat := if (OO.find y.op).isSome ∨ y.op = dWord then aligned size else size
theorem mB_named {y : Stm} {size : Nat} {L : Labs} {j : Nat} {s : Bytes} (h : y.labels[j]? = some s) (hn : named s = false) : measure OO y size L = .bad 2 := by
 unfold measure
 simp only
 rw [if_pos (List.any_eq_true.2 ⟨s, List.mem_of_getElem? h, by rw [hn]; rfl⟩)]
theorem any_named {y : Stm} (h : ∀ (j : Nat) s, y.labels[j]? = some s → named s = true) : y.labels.any (fun s => !named s) = false := by
 rw [List.any_eq_false]
 intro s hs
 obtain ⟨j, hj⟩ := List.getElem?_of_mem hs
 rw [h j s hj]; simp
theorem mB_unk {y : Stm} {size : Nat} {L : Labs} (h : y.labels.any (fun s => !named s) = false) (h1 : y.op ≠ []) (h2 : OO.find y.op = none) (h3 : isDir y.op = false) : measure OO y size L = .bad 2 := by
 unfold measure
 simp only [h, h2, h3]
 simp [h1]
/-- The rest of the first pass, when the names are names and the operation is known. -/
theorem m_rest {y : Stm} {size : Nat} {L : Labs} (h : y.labels.any (fun s => !named s) = false) (hk : y.op = [] ∨ OO.find y.op ≠ none ∨ isDir y.op = true) (h0 : y.op = [] → y.ops = []) : measure OO y size L = (addL L (64 + atR y size) y.labels).bind fun L' => (match OO.find y.op with
   | some op => (instr OO L' y (atR y size) op false).bind fun _ => .ok 4
   | none => if y.op = [] then .ok 0 else (direct OO L' y false).bind fun b => .ok b.length).bind fun n => if 4096 < atR y size + n then .bad 6 else .ok (atR y size + n, atR y size, L') := by
 unfold measure atR
 simp only [h]
 rw [if_neg (by simp), if_neg (by
  rintro ⟨h1, h2, h3⟩
  rcases hk with hk | hk | hk
  ·exact h1 hk
  ·exact hk h2
  ·rw [h3] at hk; cases hk)]
 congr 1
 funext L'
 rw [if_neg (fun e => e.2 (h0 e.1))]
 (rfl)
theorem mB_dup {y : Stm} {size : Nat} {L : Labs} (h : y.labels.any (fun s => !named s) = false) (hk : y.op = [] ∨ OO.find y.op ≠ none ∨ isDir y.op = true) (h0 : y.op = [] → y.ops = []) (ha : addL L (64 + atR y size) y.labels = .bad 5) : measure OO y size L = .bad 5 := by
 rw [m_rest h hk h0, ha]; rfl
/-- The number of bytes, or the error. -/
noncomputable def lenR (y : Stm) (at_ : Nat) : Rs Nat := match OO.find y.op with
 | some op => (instr OO [] y at_ op false).bind fun _ => .ok 4
 | none => if y.op = [] then .ok 0 else (direct OO [] y false).bind fun b => .ok b.length
theorem m_len {y : Stm} {size : Nat} {L L' : Labs} (h : y.labels.any (fun s => !named s) = false) (hk : y.op = [] ∨ OO.find y.op ≠ none ∨ isDir y.op = true) (h0 : y.op = [] → y.ops = []) (ha : addL L (64 + atR y size) y.labels = .ok L') : measure OO y size L = (lenR y (atR y size)).bind fun n => if 4096 < atR y size + n then .bad 6 else .ok (atR y size + n, atR y size, L') := by
 rw [m_rest h hk h0, ha]
 show Rs.bind _ _ = _
 unfold lenR
 cases hf : OO.find y.op with
 | some op =>
  rcases instr_L L' [] y (atR y size) op with ⟨e, h1, h2⟩ | ⟨⟨a, h1⟩, ⟨b, h2⟩⟩
  ·simp only [h1, h2, Rs.bind]
  ·simp only [h1, h2, Rs.bind]
 | none =>
  by_cases he : y.op = []
  ·simp only [if_pos he]; rfl
  ·simp only [if_neg he]
   rcases direct_L L' [] y with ⟨e, h1, h2⟩ | ⟨⟨a, h1⟩, ⟨b, h2⟩⟩
   ·simp only [h1, h2, Rs.bind]
   ·have hl := direct_len OO L' [] y false false a b h1 h2
    simp only [h1, h2, Rs.bind, hl]
theorem direct_bound {ls ops : List Bytes} {op b : Bytes} (hd : isDir op = true) (h : direct OO [] ⟨ls, op, ops⟩ false = .ok b) (hsz : ∀ p ∈ ops, p.length ≤ 90000) (hol : ops.length ≤ 2010) : b.length ≤ 100000 := by
 unfold isDir at hd
 simp only [Bool.or_eq_true, beq_iff_eq] at hd
 rcases hd with ((rfl | rfl) | rfl) | rfl
 ·unfold direct at h
  rw [if_pos rfl] at h
  split at h
  ·cases h
  ·cases hm : mapR (fun s => number OO s (-128) 255) ops with
   | bad e => simp only [hm] at h; cases h
   | ok l =>
    simp only [hm] at h
    cases h
    have := mapR_len _ _ _ hm
    rw [List.length_map]; omega
 ·rw [direct_word] at h
  split at h
  ·cases h
  ·cases hm : mapR (wf [] false) ops with
   | bad e => rw [hm] at h; cases h
   | ok l =>
    rw [hm] at h
    cases h
    have := mapR_len _ _ _ hm
    rw [flat4 _ (fun _ => rfl)]; omega
 ·unfold direct at h
  rw [if_neg (show ¬ dText = dByte by decide), if_neg (show ¬ dText = dWord by decide), if_pos rfl] at h
  split at h
  ·rename_i s hs
   simp only at hs
   cases hu : OO.unq s with
   | none => rw [hu] at h; cases h
   | some u =>
    rw [hu] at h
    cases h
    have h1 := unq_len (show unqB s = some b from hu)
    have h2 := hsz s (by rw [hs]; simp)
    omega
  ·cases h
 ·unfold direct at h
  rw [if_neg (show ¬ dSpace = dByte by decide), if_neg (show ¬ dSpace = dWord by decide), if_neg (show ¬ dSpace = dText by decide)] at h
  split at h
  ·rename_i s hs
   unfold number at h
   cases hc : OO.int s with
   | none => rw [hc] at h; cases h
   | some z =>
    rw [hc] at h
    simp only at h
    by_cases hz : 0 ≤ z ∧ z ≤ 4096
    ·rw [if_pos hz] at h
     cases h
     rw [List.length_replicate]; omega
    ·rw [if_neg hz] at h; cases h
  ·cases h
theorem read_nil (line : Bytes) (h : (read line).op = []) : (read line).ops = [] := by
 rw [← readR_eq] at h ⊢
 unfold readR at h ⊢
 simp only at h ⊢
 obtain ⟨r, hr⟩ : ∃ r, trim ((dv 58 ((dv 59 line.length false line).headD []).length false ((dv 59 line.length false line).headD [])).getLastD []) = r := ⟨_, rfl⟩
 rw [hr] at h ⊢
 rw [h]
 have hb : r = [] := by
  cases r with
  | nil => rfl
  | cons c l =>
   rw [List.takeWhile_cons] at h
   have hc : blank c = false := dw_head _ c (by
    have : trim ((dv 58 ((dv 59 line.length false line).headD []).length false ((dv 59 line.length false line).headD [])).getLastD []) = c :: l := hr
    unfold trim at this
    rw [this]; rfl)
   rw [hc] at h
   simp at h
 rw [hb]; rfl
theorem p1_mem : ∀ (l : List Stm) (n size : Nat) (L : Labs) (r : List (Stm × Nat)) (s : Nat) (L' : Labs), pass1 OO l n size L = .ok (r, s, L') → ∀ (k : Nat) (x : Stm) (a : Nat), r[k]? = some (x, a) → l[k]? = some x ∧ ∃ sz Lz s' L'', measure OO x sz Lz = .ok (s', a, L'')
 | [], n, size, L, r, s, L', h, k, x, a, hx => by
  cases h
  simp at hx
 | y :: l, n, size, L, r, s, L', h, k, x, a, hx => by
  rw [pass1] at h
  cases hm : measure OO y size L with
  | bad e => rw [hm] at h; cases h
  | ok z =>
   obtain ⟨s1, a1, L1⟩ := z
   rw [hm] at h
   simp only at h
   cases hp : pass1 OO l (n + 1) s1 L1 with
   | bad e m => rw [hp] at h; cases h
   | ok z =>
    obtain ⟨r2, s2, L2⟩ := z
    rw [hp] at h
    cases h
    cases k with
    | zero =>
     simp at hx
     obtain ⟨rfl, rfl⟩ := hx
     exact ⟨rfl, _, _, _, _, hm⟩
    | succ k => exact p1_mem l _ _ _ _ _ _ hp k x a (by simpa using hx)
theorem second {Ls : List Bytes} {r : List (Stm × Nat)} {size : Nat} {L : Labs} (h : pass1 OO (Ls.map read) 1 0 [] = .ok (r, size, L)) {k : Nat} {x : Stm} {a : Nat} (hx : r[k]? = some (x, a)) : (∃ s, Ls[k]? = some s ∧ x = read s) ∧ a ≤ 4096 ∧ (OO.find x.op = none → (x.op = [] ∧ x.ops = []) ∨ (isDir x.op = true ∧ ∃ b, direct OO [] x false = .ok b)) := by
 obtain ⟨h1, sz, Lz, s', L'', h2⟩ := p1_mem _ _ _ _ _ _ _ h k x a hx
 rw [List.getElem?_map] at h1
 obtain ⟨s, h3, h4⟩ := Option.map_eq_some_iff.1 h1
 obtain ⟨_, m2, m3, m4, _, m6, m7⟩ := measure_at OO OO_fine h2
 refine ⟨⟨s, h3, h4.symm⟩, by omega, fun hn => ?_⟩
 by_cases ho : x.op = []
 ·left
  refine ⟨ho, ?_⟩
  rw [← h4] at ho ⊢
  exact read_nil s ho
 ·right
  obtain ⟨m8, b, m9, _⟩ := m7 hn ho
  refine ⟨m8, ?_⟩
  rcases direct_L L'' [] x with ⟨e, e1, _⟩ | ⟨_, e2⟩
  ·rw [e1] at m9; cases m9
  ·exact e2
theorem flat4g {α : Type} {f : α → List Value} {n : Nat} (hn : ∀ a, (f a).length = n) : ∀ (l : List α) (j c : Nat) (a : α) (x : Value), l[j]? = some a → (f a)[c]? = some x → (l.flatMap f)[j * n + c]? = some x
 | [], j, c, a, x, h, _ => by simp at h
 | y :: l, 0, c, a, x, h, hx => by
  simp at h; subst h
  rw [List.flatMap_cons, Nat.zero_mul, Nat.zero_add, List.getElem?_append_left (List.getElem?_eq_some_iff.1 hx).1]
  exact hx
 | y :: l, j + 1, c, a, x, h, hx => by
  have := flat4g hn l j c a x (by simpa using h) hx
  rw [List.flatMap_cons, List.getElem?_append_right (by rw [hn, Nat.succ_mul]; omega), hn, show (j + 1) * n + c - n = j * n + c by rw [Nat.succ_mul]; omega]
  exact this
end Go.Proofs.YtfdlifhkeicnnaaGreatDoor
