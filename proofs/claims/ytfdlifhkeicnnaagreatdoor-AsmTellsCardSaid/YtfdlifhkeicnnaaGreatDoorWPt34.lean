/- Lemmas and walks for the law LawTells (part 34). -/
import Derived.Test.YtfdlifhkeicnnaaGreatDoorWPt33
import Derived.Test.YtfdlifhkeicnnaaGreatDoorProg
import Derived.WalkKit
import Derived.Handy
import Derived.Deep.Light
import Derived.WalkSmall
import Derived.StillTailTactics
import Derived.Lib.Hide
set_option maxRecDepth 20000
set_option maxHeartbeats 4000000
set_option linter.unusedVariables false
set_option linter.unusedSimpArgs false
namespace Go.Proofs.YtfdlifhkeicnnaaGreatDoor
open Go Go.RowKit
/-- What the reference returns for the last operand, if it is one. -/
noncomputable def lastV (L : Labs) (at_ op : Nat) (s : Bytes) : Int := match canon s with
  | some n => n
  | none => if op = 31 then (match callB s with
      | some n => (n : Int)
      | none => 0)
    else match look L s with
      | some n => if (op : Int) = 2 then (n : Int) else (n : Int) - (64 + at_ + 4)
      | none => 0
def LastQ (T : Rs Int) (V : Int) (w : World) (e : Ending) (w' : World) : Prop := e = (match T with
 | .ok _ => Ending.returned (.tuple #[.int .i64 V, .int .i64 0])
 | .bad m => Ending.returned (.tuple #[.int .i64 0, .int .i64 (m : Int)])) ∧ Below w.heap.size w w'
def LastP (first : Bool) (L : Labs) (at_ op : Nat) (s : Bytes) (w : World) (e : Ending) (w' : World) : Prop := LastQ (target OO L at_ op s (!first)) (lastV L at_ op s) w e w'
theorem target_lab {L : Labs} {at_ op : Nat} {s : Bytes} {last : Bool} (hc : canon s = none) (hl : labB (op : Int) = true) : target OO L at_ op s last = (match address L s last with
  | .bad e => .bad e
  | .ok n => .ok (if (op : Int) = 2 then (n : Int) else (n : Int) - (64 + at_ + 4))) := by
 unfold target
 rw [show OO.int s = none from hc]
 unfold labB at hl
 simp only [Bool.or_eq_true, beq_iff_eq] at hl
 simp only
 by_cases h2 : op = 2
 ·rw [if_neg (by omega), if_pos h2]
  cases address L s last with
  | bad e => rfl
  | ok n => simp only; rw [if_pos (by omega)]
 ·rw [if_pos (by omega)]
  cases address L s last with
  | bad e => rfl
  | ok n => simp only; rw [if_neg (by omega)]
theorem target_unl {L : Labs} {at_ op : Nat} {s : Bytes} {last : Bool} (hc : canon s = none) (hl : labB (op : Int) = false) (h31 : op ≠ 31) : target OO L at_ op s last = .bad 2 := by
 unfold target
 rw [show OO.int s = none from hc]
 unfold labB at hl
 simp only [Bool.or_eq_false_iff, beq_eq_false_iff_ne, ne_eq] at hl
 simp only
 rw [if_neg (by omega), if_neg (by omega), if_neg h31]
theorem refLast_num (vl vo v : Value) (sop s : ByteArray) (at_ op : Nat) (L : Labs) (first : Bool) (hs : s.size ≤ 100000) (hat : at_ ≤ 100000) (hn : L.length ≤ 100000) (hLn : Hid (∀ p ∈ L, p.2 ≤ 100000)) (w : World) (hv : LRow w v L) (n : Int) (hc : canon s.data.toList = some n) : Calls Tryz.prog 77 #[.agg #[vl, .string sop, vo, .int .i64 (at_ : Int)], .int .i64 (op : Int), .string s, v, .bool first] w (LastP first L at_ op s.data.toList w) := by
 unfold LastP
 rw [show target OO L at_ op s.data.toList (!first) = .ok n by unfold target; rw [show OO.int s.data.toList = some n from hc], show lastV L at_ op s.data.toList = n by unfold lastV; rw [hc]]
 obtain ⟨o, ho⟩ : ∃ o : Int, (op : Int) = o := ⟨_, rfl⟩
 rw [ho]
 have HNU := Lib.hid (fun W => refNum_some s (by omega) n hc W)
 clear hv hc
 have hL : Kn [] w w [] := Kn.refl [] w; have hF := hL.fx; go_enter Tryz.func77, Tryz.ntmps77
 go_wp2_with ((go_at_call 74; refine kc (fun W hL => HNU.out _) ?_; clear hF hL; intro W hL hF))
 refine bodyPost_ret (by simp [results, Tryz.results77, go_sem, *]; try rfl) rfl ?_
 exact ⟨rfl, hL.below0⟩
theorem refLast_call (vl vo v : Value) (sop s : ByteArray) (at_ op : Nat) (L : Labs) (first : Bool) (hs : s.size ≤ 100000) (hat : at_ ≤ 100000) (hn : L.length ≤ 100000) (hLn : Hid (∀ p ∈ L, p.2 ≤ 100000)) (w : World) (hv : LRow w v L) (hc : canon s.data.toList = none) (h31 : op = 31) : Calls Tryz.prog 77 #[.agg #[vl, .string sop, vo, .int .i64 (at_ : Int)], .int .i64 (op : Int), .string s, v, .bool first] w (LastP first L at_ op s.data.toList w) := by
 have HNU := Lib.hid (fun W => refNum_none s (by omega) hc W)
 have HCA := Lib.hid (fun W => refCall_is s W)
 have hT : target OO L at_ op s.data.toList (!first) = (match callB s.data.toList with
  | some n => .ok (n : Int)
  | none => .bad 2) := by
  unfold target
  rw [show OO.int s.data.toList = none from hc]
  simp only
  rw [if_neg (by omega), if_neg (by omega), if_pos h31]; rfl
 have hV : lastV L at_ op s.data.toList = (match callB s.data.toList with
  | some n => (n : Int)
  | none => 0) := by unfold lastV; rw [hc]; simp only; rw [if_pos h31]
 unfold LastP
 rw [hT, hV]
 subst h31
 clear hV
 clear hT hv hc
 unfold CallR at HCA
 cases hR : callB s.data.toList with
 | some n =>
  rw [hR] at HCA
  simp only at HCA ⊢
  have hL : Kn [] w w [] := Kn.refl [] w; have hF := hL.fx; go_enter Tryz.func77, Tryz.ntmps77
  go_wp2_with (first | (go_at_call 74; refine kc (fun W hL => HNU.out _) ?_; clear hF hL; intro W hL hF) | (go_at_call 23; refine kc (fun W hL => HCA.out _) ?_; clear hF hL; intro W hL hF))
  refine bodyPost_ret (by simp [results, Tryz.results77, go_sem, *]; try rfl) rfl ?_
  exact ⟨rfl, hL.below0⟩
 | none =>
  rw [hR] at HCA
  simp only at HCA ⊢
  have hL : Kn [] w w [] := Kn.refl [] w; have hF := hL.fx; go_enter Tryz.func77, Tryz.ntmps77
  go_wp2_with (first | (go_at_call 74; refine kc (fun W hL => HNU.out _) ?_; clear hF hL; intro W hL hF) | (go_at_call 23; refine kc (fun W hL => HCA.out _) ?_; clear hF hL; intro W hL hF))
  refine bodyPost_ret (by simp [results, Tryz.results77, go_sem, *]; try rfl) rfl ?_
  exact ⟨rfl, hL.below0⟩
theorem refLast_unl (vl vo v : Value) (sop s : ByteArray) (at_ op : Nat) (L : Labs) (first : Bool) (hs : s.size ≤ 100000) (hat : at_ ≤ 100000) (hn : L.length ≤ 100000) (hLn : Hid (∀ p ∈ L, p.2 ≤ 100000)) (w : World) (hv : LRow w v L) (hc : canon s.data.toList = none) (h31 : op ≠ 31) (hl : labB (op : Int) = false) : Calls Tryz.prog 77 #[.agg #[vl, .string sop, vo, .int .i64 (at_ : Int)], .int .i64 (op : Int), .string s, v, .bool first] w (LastP first L at_ op s.data.toList w) := by
 have HNU := Lib.hid (fun W => refNum_none s (by omega) hc W)
 unfold LastP
 rw [target_unl hc hl h31]
 obtain ⟨V, hV⟩ : ∃ V, lastV L at_ op s.data.toList = V := ⟨_, rfl⟩
 rw [hV]
 clear hV
 have f31 : ((op : Int) == 31) = false := beq_false_of_ne (by omega)
 clear hv hc h31
 obtain ⟨o, ho⟩ : ∃ o : Int, (op : Int) = o := ⟨_, rfl⟩
 rw [ho] at hl f31 ⊢
 have HLB := Lib.hid (fun W => refLab_is o false hl W)
 clear hl
 have hL : Kn [] w w [] := Kn.refl [] w; have hF := hL.fx; go_enter Tryz.func77, Tryz.ntmps77
 go_wp2_with (first | (go_at_call 74; refine kc (fun W hL => HNU.out _) ?_; clear hF hL; intro W hL hF) | (go_at_call 112; (with_reducible refine (HLB.out _).mono ?_); rintro e w' ⟨rfl, rfl⟩))
 refine bodyPost_ret (by simp [results, Tryz.results77, go_sem, *]; try rfl) rfl ?_
 exact ⟨rfl, hL.below0⟩
theorem refLast_bad (vl vo v : Value) (sop s : ByteArray) (at_ op : Nat) (L : Labs) (first : Bool) (hs : s.size ≤ 100000) (hat : at_ ≤ 100000) (hn : L.length ≤ 100000) (hLn : Hid (∀ p ∈ L, p.2 ≤ 100000)) (w : World) (hv : LRow w v L) (hc : canon s.data.toList = none) (h31 : op ≠ 31) (hl : labB (op : Int) = true) (hnm : named s.data.toList = false) : Calls Tryz.prog 77 #[.agg #[vl, .string sop, vo, .int .i64 (at_ : Int)], .int .i64 (op : Int), .string s, v, .bool first] w (LastP first L at_ op s.data.toList w) := by
 have HNU := Lib.hid (fun W => refNum_none s (by omega) hc W)
 have HNM := Lib.hid (fun W => refName_is s (by omega) W)
 rw [hnm] at HNM
 unfold LastP
 rw [target_lab hc hl, show address L s.data.toList (!first) = .bad 2 by unfold address; rw [hnm]; rfl]
 obtain ⟨V, hV⟩ : ∃ V, lastV L at_ op s.data.toList = V := ⟨_, rfl⟩
 rw [hV]
 clear hV
 have f31 : ((op : Int) == 31) = false := beq_false_of_ne (by omega)
 clear hv hc h31 hnm
 obtain ⟨o, ho⟩ : ∃ o : Int, (op : Int) = o := ⟨_, rfl⟩
 rw [ho] at hl f31 ⊢
 have HLB := Lib.hid (fun W => refLab_is o true hl W)
 clear hl
 have hL : Kn [] w w [] := Kn.refl [] w; have hF := hL.fx; go_enter Tryz.func77, Tryz.ntmps77
 go_wp2_with (first | (go_at_call 74; refine kc (fun W hL => HNU.out _) ?_; clear hF hL; intro W hL hF) | (go_at_call 112; (with_reducible refine (HLB.out _).mono ?_); rintro e w' ⟨rfl, rfl⟩) | (go_at_call 12; refine kc (fun W hL => HNM.out _) ?_; clear hF hL; intro W hL hF))
 refine bodyPost_ret (by simp [results, Tryz.results77, go_sem, *]; try rfl) rfl ?_
 exact ⟨rfl, hL.below0⟩
theorem refLast_lab (vl vo v : Value) (sop s : ByteArray) (at_ op : Nat) (L : Labs) (first : Bool) (hs : s.size ≤ 100000) (hat : at_ ≤ 100000) (hn : L.length ≤ 100000) (hLn : Hid (∀ p ∈ L, p.2 ≤ 100000)) (w : World) (hv : LRow w v L) (hc : canon s.data.toList = none) (h31 : op ≠ 31) (hl : labB (op : Int) = true) (hnm : named s.data.toList = true) : Calls Tryz.prog 77 #[.agg #[vl, .string sop, vo, .int .i64 (at_ : Int)], .int .i64 (op : Int), .string s, v, .bool first] w (LastP first L at_ op s.data.toList w) := by
 have HNU := Lib.hid (fun W => refNum_none s (by omega) hc W)
 have HNM := Lib.hid (fun W => refName_is s (by omega) W)
 rw [hnm] at HNM
 have f31 : ((op : Int) == 31) = false := beq_false_of_ne (by omega)
 unfold LastP
 obtain ⟨T, hTT⟩ : ∃ T, target OO L at_ op s.data.toList (!first) = T := ⟨_, rfl⟩
 obtain ⟨V, hV⟩ : ∃ V, lastV L at_ op s.data.toList = V := ⟨_, rfl⟩
 rw [hTT, hV]
 have HV := Lib.hid (show (match look L s.data.toList with
   | some n => if (op : Int) = 2 then (n : Int) else (n : Int) - (64 + at_ + 4)
   | none => 0) = V from by rw [← hV]; unfold lastV; rw [hc]; simp only; rw [if_neg h31] <;> rfl)
 clear hV
 have HT := Lib.hid ((target_lab hc hl).symm.trans hTT)
 clear hc h31 hTT
 obtain ⟨oo, ho⟩ : ∃ o : Int, (op : Int) = o := ⟨_, rfl⟩
 rw [ho] at hl f31 HT HV ⊢
 have HLB := Lib.hid (fun W => refLab_is oo true hl W)
 clear hl
 have HNAME := Lib.hid hnm
 rcases lrow_open hv with ⟨rfl, ad, cap, rfl⟩ | ⟨g, o, cap, rfl, hg1, hc⟩
 ·have HLK := Lib.hid (show look [] s.data.toList = none from rfl)
  clear hnm hv hLn hn
  have hL : Kn [] w w [] := Kn.refl [] w; have hF := hL.fx; go_enter Tryz.func77, Tryz.ntmps77
  go_wp2_with (first | (go_at_call 74; refine kc (fun W hL => HNU.out _) ?_; clear hF hL; intro W hL hF) | (go_at_call 112; (with_reducible refine (HLB.out _).mono ?_); rintro e w' ⟨rfl, rfl⟩) | (go_at_call 12; refine kc (fun W hL => HNM.out _) ?_; clear hF hL; intro W hL hF))
  go_loopw [14] (fun i wr => i = .int .i64 0 ∧ Kn [] w wr []) (fun _ _ => 0)
  case atStart => exact ⟨rfl, hL.sub (List.nil_sublist _)⟩
  case round =>
   clear hL
   clear hF
   obtain ⟨rfl, hL⟩ := hrel
   have hF := hL.fx
   cases first with
   | true =>
    have hT := HT.out
    unfold address at hT
    rw [if_pos HNAME.out, HLK.out] at hT
    simp only [Bool.not_true, Bool.false_eq_true, if_false] at hT
    have hV := HV.out
    rw [HLK.out] at hV
    subst hV
    clear HV
    generalize (if oo = 2 then ((0 : Nat) : Int) else ((0 : Nat) : Int) - (64 + at_ + 4)) = t0 at hT
    subst hT
    clear HT
    go_wp2_with ((with_reducible refine ks ?_); clear hL; intro W hL hF)
    refine bodyPost_ret (by simp [results, Tryz.results77, go_sem, *]; try rfl) rfl ?_
    exact ⟨rfl, hL.below0⟩
   | false =>
    have hT := HT.out
    unfold address at hT
    rw [if_pos HNAME.out, HLK.out] at hT
    simp only [Bool.not_false, if_true] at hT
    subst hT
    go_wp2_with ((with_reducible refine ks ?_); clear hL; intro W hL hF)
    refine bodyPost_ret (by simp [results, Tryz.results77, go_sem, *]; try rfl) rfl ?_
    exact ⟨rfl, hL.below0⟩
 ·have HC := Lib.hid hc
  obtain ⟨n, hln⟩ : ∃ n, L.length = n := ⟨_, rfl⟩
  have HLN := Lib.hid hln
  rw [hln] at hn ⊢
  clear hv hc hln hnm
  have hL : Kn [] w w [] := Kn.refl [] w; have hF := hL.fx; go_enter Tryz.func77, Tryz.ntmps77
  go_wp2_with (first | (go_at_call 74; refine kc (fun W hL => HNU.out _) ?_; clear hF hL; intro W hL hF) | (go_at_call 112; (with_reducible refine (HLB.out _).mono ?_); rintro e w' ⟨rfl, rfl⟩) | (go_at_call 12; refine kc (fun W hL => HNM.out _) ?_; clear hF hL; intro W hL hF))
  go_loopw [14] (fun i wr => ∃ k : Nat, k ≤ n ∧ i = .int .i64 k ∧ Hid (∀ j, j < k → ∀ q, L[j]? = some q → q.1 ≠ s.data.toList) ∧ Kn [] w wr [(w.heap.size, .cells #[vl, .string sop, vo, .int .i64 (at_ : Int)] 85 (0, 0))]) (fun i _ => n - (intOf i).toNat)
  case atStart => exact ⟨0, by omega, rfl, Lib.hid (fun j hj => by omega), hL⟩
  case round =>
   clear hL
   clear hF
   obtain ⟨k, hk, rfl, HI, hL⟩ := hrel
   have hF := hL.fx
   by_cases hlt : k < n
   ·obtain ⟨p, hp⟩ : ∃ p, L[k]? = some p := ⟨_, List.getElem?_eq_getElem (by rw [HLN.out]; omega)⟩
    obtain ⟨c1, c2⟩ := HC.out k p hp
    have hp2 := hLn.out p (List.mem_of_getElem? hp)
    obtain ⟨nm, pa⟩ := p
    obtain ⟨x, rfl⟩ : ∃ x : ByteArray, nm = x.data.toList := ⟨⟨nm.toArray⟩, by simp⟩
    simp only at hp2
    rw [toList_mk] at c1
    have HP := Lib.hid hp
    clear hp
    cases he : (x.toList == s.toList) with
    | true =>
     have HE : x = s := ba_ext (by have := beq_iff_eq.1 he; rwa [Lib.toList_data, Lib.toList_data] at this)
     have hT := HT.out
     unfold address at hT
     rw [if_pos HNAME.out, look_at HI.out HP.out (by rw [HE])] at hT
     simp only at hT
     have hV := HV.out
     rw [look_at HI.out HP.out (by rw [HE])] at hV
     simp only at hV
     clear HV HT
     cases h2 : oo == 2 with
     | true =>
      rw [if_pos (beq_iff_eq.1 h2)] at hT hV
      clear HE
      subst hT hV
      go_wp2_with ((with_reducible refine ks ?_); clear hL; intro W hL hF)
      refine bodyPost_ret (by simp [results, Tryz.results77, go_sem, *]; try rfl) rfl ?_
      exact ⟨rfl, hL.below0⟩
     | false =>
      rw [if_neg (beq_eq_false_iff_ne.1 h2)] at hT hV
      clear HE
      have hV2 : (pa : Int) - (64 + (at_ : Int)) - 4 = V := by omega
      clear hV
      subst hT
      go_wp2_with ((with_reducible refine at_region 17 ?_); refine kW [0, 1, 2, 3, 4, 5, 6, 7, 8, 9, 10, 11] [0, 1, 2, 3, 4, 5, 6, 7, 8, 9, 10, 11] [] [0, 1, 2, 3, 5, 7, 8, 9, 10, 11] ?_; clear hF hL; intro ι F hne hC hG; (repeat (first | (refine cF hC ?_; intro K hK; go_big_quiet_op; go_big_quiet_on) | (refine cP ?_; intro K hK; go_big_quiet_op; go_big_quiet_on))); refine cwk_nil ?_; clear hC hG; intro W hL; have hF := hL.fx)
      refine bodyPost_ret (by simp [results, Tryz.results77, go_sem, *]; try rfl) rfl ?_
      exact ⟨rfl, hL.below0⟩
    | false =>
     have HE := Lib.hid (show ∀ j, j < k + 1 → ∀ q, L[j]? = some q → q.1 ≠ s.data.toList from fun j hj q hq => by
      rcases Nat.lt_or_ge j k with h | h
      ·exact HI.out j h q hq
      ·obtain rfl : j = k := by omega
       rw [HP.out] at hq; cases hq
       intro e
       have e2 : x.data.toList = s.data.toList := e
       rw [Lib.toList_data, Lib.toList_data, e2] at he; simp at he)
     go_wp2_with ((with_reducible refine ks ?_); clear hL; intro W hL hF)
     go_roundw
     case measure => simp [intOf]; omega
     case rel => exact ⟨k + 1, by omega, by go_num, HE, hL⟩
   ·obtain rfl : k = n := by omega
    have HLK := Lib.hid (show look L s.data.toList = none from look_all (fun j q hq => HI.out j (by rw [← HLN.out]; exact (List.getElem?_eq_some_iff.1 hq).1) q hq))
    cases first with
    | true =>
     have hT := HT.out
     unfold address at hT
     rw [if_pos HNAME.out, HLK.out] at hT
     simp only [Bool.not_true, Bool.false_eq_true, if_false] at hT
     have hV := HV.out
     rw [HLK.out] at hV
     subst hV
     clear HV
     generalize (if oo = 2 then ((0 : Nat) : Int) else ((0 : Nat) : Int) - (64 + at_ + 4)) = t0 at hT
     subst hT
     clear HT
     go_wp2_with ((with_reducible refine ks ?_); clear hL; intro W hL hF)
     refine bodyPost_ret (by simp [results, Tryz.results77, go_sem, *]; try rfl) rfl ?_
     exact ⟨rfl, hL.below0⟩
    | false =>
     have hT := HT.out
     unfold address at hT
     rw [if_pos HNAME.out, HLK.out] at hT
     simp only [Bool.not_false, if_true] at hT
     subst hT
     go_wp2_with ((with_reducible refine ks ?_); clear hL; intro W hL hF)
     refine bodyPost_ret (by simp [results, Tryz.results77, go_sem, *]; try rfl) rfl ?_
     exact ⟨rfl, hL.below0⟩
theorem refLast_is (vl vo v : Value) (sop s : ByteArray) (at_ op : Nat) (L : Labs) (first : Bool) (hs : s.size ≤ 100000) (hat : at_ ≤ 100000) (hn : L.length ≤ 100000) (hLn : Hid (∀ p ∈ L, p.2 ≤ 100000)) (w : World) (hv : LRow w v L) : Calls Tryz.prog 77 #[.agg #[vl, .string sop, vo, .int .i64 (at_ : Int)], .int .i64 (op : Int), .string s, v, .bool first] w (LastP first L at_ op s.data.toList w) := by
 cases hc : canon s.data.toList with
 | some n => exact refLast_num vl vo v sop s at_ op L first hs hat hn hLn w hv n hc
 | none =>
  by_cases h31 : op = 31
  ·exact refLast_call vl vo v sop s at_ op L first hs hat hn hLn w hv hc h31
  ·cases hl : labB (op : Int) with
   | false => exact refLast_unl vl vo v sop s at_ op L first hs hat hn hLn w hv hc h31 hl
   | true =>
    cases hnm : named s.data.toList with
    | false => exact refLast_bad vl vo v sop s at_ op L first hs hat hn hLn w hv hc h31 hl hnm
    | true => exact refLast_lab vl vo v sop s at_ op L first hs hat hn hLn w hv hc h31 hl hnm
def InsRP (first : Bool) (I : Rs (Int × Int × Int)) (op : Nat) (w : World) (e : Ending) (w' : World) : Prop := (match I with
 | .ok i => ∃ b : Int, (first = false → b = i.2.1) ∧ e = .returned (.tuple #[.agg #[.int .i64 (op : Int), .int .i64 i.1, .int .i64 b, .int .i64 i.2.2], .int .i64 0])
 | .bad m => ∃ a b c d : Int, e = .returned (.tuple #[.agg #[.int .i64 a, .int .i64 b, .int .i64 c, .int .i64 d], .int .i64 (m : Int)])) ∧ Below w.heap.size w w'
theorem registerR_bad {s : Bytes} {m : Nat} (h : register s = .bad m) : m = 2 := by
 unfold register at h
 split at h
 ·split at h
  ·cases h
  ·cases h; rfl
 ·cases h; rfl
theorem integerR_bad {s : Bytes} {m : Nat} (h : integer OO s = .bad m) : m = 2 ∧ canon s = none := by
 unfold integer at h
 split at h
 ·cases h
 ·rename_i hc; cases h; exact ⟨rfl, hc⟩
theorem integerR_good {s : Bytes} {n : Int} (h : integer OO s = .ok n) : canon s = some n := by
 unfold integer at h
 split at h
 ·rename_i m hm; cases h; exact hm
 ·cases h
theorem lastV_eq {L : Labs} {at_ op : Nat} {s : Bytes} {n : Int} (h : target OO L at_ op s true = .ok n) : lastV L at_ op s = n := by
 unfold lastV
 cases hc : canon s with
 | some m =>
  unfold target at h
  rw [show OO.int s = some m from hc] at h
  cases h; rfl
 | none =>
  by_cases h31 : op = 31
  ·simp only [if_pos h31]
   unfold target at h
   rw [show OO.int s = none from hc] at h
   simp only at h
   rw [if_neg (by omega), if_neg (by omega), if_pos h31] at h
   have e : OO.call s = callB s := rfl
   rw [e] at h
   cases hcb : callB s with
   | some k => rw [hcb] at h; cases h; rfl
   | none => rw [hcb] at h; cases h
  ·simp only [if_neg h31]
   cases hl : labB (op : Int) with
   | false => rw [target_unl hc hl h31] at h; cases h
   | true =>
    rw [target_lab hc hl] at h
    unfold address at h
    cases hn : named s with
    | false => rw [hn] at h; cases h
    | true =>
     rw [hn] at h
     simp only [if_true] at h
     cases hk : look L s with
     | none => rw [hk] at h; cases h
     | some k => rw [hk] at h; cases h; rfl
theorem LRow.kn {w W : World} {v : Value} {L : Labs} {K : List (Nat × Obj)} (h : LRow w v L) (k : Kn [] w W K) : LRow W v L := by
 obtain ⟨ad, cap, h1, h2⟩ := h
 refine ⟨ad, cap, h1, fun j p hp => ?_⟩
 obtain ⟨g, o, e, h3, h4⟩ := h2 j p hp
 exact ⟨g, o, e, by rw [World.cell?_of_block (k.block g (cell_lt h3) (by simp))]; exact h3, by rw [World.cell?_of_block (k.block g (cell_lt h3) (by simp))]; exact h4⟩
theorem instrR_0 {L : Labs} {x : Stm} {at_ op : Nat} {last : Bool}  (hf : OO.form op = 0) (hx : x.ops = []) : instr OO L x at_ op last = .ok (0, 0, 0) := by
 unfold instr; rw [hf, hx]; rfl
theorem instrR_1 {L : Labs} {x : Stm} {at_ op : Nat} {last : Bool} {a : Bytes} (hf : OO.form op = 1) (hx : x.ops = [a]) : instr OO L x at_ op last = (register a).bind fun a => .ok (a, 0, 0) := by
 unfold instr; rw [hf, hx]; rfl
theorem instrR_2 {L : Labs} {x : Stm} {at_ op : Nat} {last : Bool} {a b : Bytes} (hf : OO.form op = 2) (hx : x.ops = [a, b]) : instr OO L x at_ op last = (register a).bind fun a => (register b).bind fun b => .ok (a, b, 0) := by
 unfold instr; rw [hf, hx]; rfl
theorem instrR_3 {L : Labs} {x : Stm} {at_ op : Nat} {last : Bool} {a b c : Bytes} (hf : OO.form op = 3) (hx : x.ops = [a, b, c]) : instr OO L x at_ op last = (register a).bind fun a => (register b).bind fun b => (register c).bind fun c => .ok (a, b, c) := by
 unfold instr; rw [hf, hx]; rfl
theorem instrR_4 {L : Labs} {x : Stm} {at_ op : Nat} {last : Bool} {a b c : Bytes} (hf : OO.form op = 4) (hx : x.ops = [a, b, c]) : instr OO L x at_ op last = (register a).bind fun a => (register b).bind fun b => (integer OO c).bind fun c => .ok (a, b, c) := by
 unfold instr; rw [hf, hx]; rfl
theorem instrR_5 {L : Labs} {x : Stm} {at_ op : Nat} {last : Bool} {a b : Bytes} (hf : OO.form op = 5) (hx : x.ops = [a, b]) : instr OO L x at_ op last = (register a).bind fun a => (target OO L at_ op b last).bind fun b => .ok (a, b, 0) := by
 unfold instr; rw [hf, hx]; rfl
theorem instrR_6 {L : Labs} {x : Stm} {at_ op : Nat} {last : Bool} {a : Bytes} (hf : OO.form op = 6) (hx : x.ops = [a]) : instr OO L x at_ op last = (target OO L at_ op a last).bind fun b => .ok (0, b, 0) := by
 unfold instr; rw [hf, hx]; rfl
theorem instrR_len {L : Labs} {x : Stm} {at_ op : Nat} {last : Bool} {f : Nat} (hf : OO.form op = f) (hx : x.ops.length ≠ many f) : instr OO L x at_ op last = .bad 2 := by
 unfold instr; rw [hf, if_pos hx]
theorem refForm_eq {op : Nat} {f : Int} (h : form (op : Int) = f) (W : World) : Calls Tryz.prog 75 #[.int .i64 (op : Int)] W fun e w' => e = .returned (.int .i64 f) ∧ W = w' := by
 have := refForm_any (op : Int) W
 rwa [h] at this
theorem refReg_ok {s : ByteArray} {n : Int} (h : register s.data.toList = .ok n) (hs : s.size ≤ 900000) (W : World) : Calls Tryz.prog 78 #[.string s] W fun e w' => e = .returned (.tuple #[.int .i64 n, .bool true]) ∧ Below W.heap.size W w' := by
 have := refReg_is s hs W
 unfold RegR at this
 rwa [h] at this
theorem refReg_bad {s : ByteArray} {n : Nat} (h : register s.data.toList = .bad n) (hs : s.size ≤ 900000) (W : World) : Calls Tryz.prog 78 #[.string s] W fun e w' => e = .returned (.tuple #[.int .i64 (regV s.data.toList), .bool false]) ∧ Below W.heap.size W w' := by
 have := refReg_is s hs W
 unfold RegR at this
 rwa [h] at this
theorem ins_0 (vl v : Value) (sop  : ByteArray) (ls : List Bytes) (at_ op : Nat) (L : Labs) (first : Bool) (ad : Option Addr) (cap : Nat)  (hat : at_ ≤ 100000) (hn : L.length ≤ 100000) (hLn : Hid (∀ p ∈ L, p.2 ≤ 100000)) (hfo : OO.form op = 0) (HFM : Hid (∀ W, Calls Tryz.prog 75 #[.int .i64 (op : Int)] W fun e w' => e = .returned (.int .i64 0) ∧ W = w')) (HMN : Hid (∀ W, Calls Tryz.prog 76 #[.int .i64 0] W fun e w' => e = .returned (.int .i64 0) ∧ W = w')) (w : World)  (hv : Hid (LRow w v L)) : Calls Tryz.prog 48 #[.agg #[vl, .string sop, .slice ad 0 cap, .int .i64 (at_ : Int)], .int .i64 (op : Int), v, .bool first] w (InsRP first (instr OO L ⟨ls, sop.data.toList, []⟩ at_ op (!first)) op w) := by
 rw [instrR_0 hfo rfl]
 skip
 obtain ⟨oo, ho⟩ : ∃ o : Int, (op : Int) = o := ⟨_, rfl⟩
 unfold InsRP
 simp only [ho] at HFM  ⊢
 clear hfo ho
 have hL : Kn [] w w [] := Kn.refl [] w; have hF := hL.fx; go_enter Tryz.func48, Tryz.ntmps48
 go_wp2_with (first | (go_at_call 75; (with_reducible refine (HFM.out _).mono ?_); rintro e w' ⟨rfl, rfl⟩) | (go_at_call 76; refine kp (fun W hL => HMN.out _) ?_; clear hF hL; intro W hL hF))
 refine bodyPost_ret (by simp [results, Tryz.results48, go_sem, *]; try rfl) rfl ?_
 exact ⟨⟨_, (fun _ => rfl), rfl⟩, kn_here.below0⟩
theorem ins_1 (vl v : Value) (sop s1 : ByteArray) (ls : List Bytes) (at_ op : Nat) (L : Labs) (first : Bool) (g og cap : Nat) (hs1 : s1.size ≤ 90000) (hat : at_ ≤ 100000) (hn : L.length ≤ 100000) (hLn : Hid (∀ p ∈ L, p.2 ≤ 100000)) (hfo : OO.form op = 1) (HFM : Hid (∀ W, Calls Tryz.prog 75 #[.int .i64 (op : Int)] W fun e w' => e = .returned (.int .i64 1) ∧ W = w')) (HMN : Hid (∀ W, Calls Tryz.prog 76 #[.int .i64 1] W fun e w' => e = .returned (.int .i64 1) ∧ W = w')) (w : World) (hg : g < w.heap.size) (c1 : w.cell? ⟨g, og, none⟩ = some (.string s1)) (hv : Hid (LRow w v L)) : Calls Tryz.prog 48 #[.agg #[vl, .string sop, .slice (some ⟨g, og, none⟩) 1 cap, .int .i64 (at_ : Int)], .int .i64 (op : Int), v, .bool first] w (InsRP first (instr OO L ⟨ls, sop.data.toList, [s1.data.toList]⟩ at_ op (!first)) op w) := by
 cases hr1 : register s1.data.toList with
 | bad m =>
  obtain rfl := registerR_bad hr1
  have HRG1 := Lib.hid (fun W => refReg_bad hr1 (by omega) W)
  rw [instrR_1 hfo rfl, hr1]
  try simp only [Rs.bind]
  obtain ⟨rv, hrv⟩ : ∃ r, regV s1.data.toList = r := ⟨_, rfl⟩
  rw [hrv] at HRG1
  clear hrv hr1
  obtain ⟨oo, ho⟩ : ∃ o : Int, (op : Int) = o := ⟨_, rfl⟩
  unfold InsRP
  simp only [ho] at HFM  ⊢
  clear hfo ho
  have hL : Kn [] w w [] := Kn.refl [] w; have hF := hL.fx; go_enter Tryz.func48, Tryz.ntmps48
  go_wp2_with (first | ((with_reducible refine ks ?_); clear hL; intro W hL hF) | (go_at_call 75; (with_reducible refine (HFM.out _).mono ?_); rintro e w' ⟨rfl, rfl⟩) | (go_at_call 76; refine kp (fun W hL => HMN.out _) ?_; clear hF hL; intro W hL hF) | (go_at_call 78; refine kG ?_; clear hF hL; intro W hL hF; (((first | (with_reducible refine (HRG1.out _).mono ?_)))); rintro e W ⟨rfl, hb⟩; replace hL := hL.below hb; clear hb hF; have hF := hL.fx))
  refine bodyPost_ret (by simp [results, Tryz.results48, go_sem, *]; try rfl) rfl ?_
  exact ⟨⟨_, _, _, _, rfl⟩, kn_here.below0⟩
 | ok n1 =>
  have HRG1 := Lib.hid (fun W => refReg_ok hr1 (by omega) W)
  rw [instrR_1 hfo rfl, hr1]
  try simp only [Rs.bind]
  obtain ⟨oo, ho⟩ : ∃ o : Int, (op : Int) = o := ⟨_, rfl⟩
  unfold InsRP
  simp only [ho] at HFM  ⊢
  clear hfo ho
  have hL : Kn [] w w [] := Kn.refl [] w; have hF := hL.fx; go_enter Tryz.func48, Tryz.ntmps48
  go_wp2_with (first | ((with_reducible refine ks ?_); clear hF hL; intro W hL hF) | (go_at_call 75; (with_reducible refine (HFM.out _).mono ?_); rintro e w' ⟨rfl, rfl⟩) | (go_at_call 76; refine kp (fun W hL => HMN.out _) ?_; clear hF hL; intro W hL hF) | (go_at_call 78; refine kG ?_; clear hF hL; intro W hL hF; (((first | (with_reducible refine (HRG1.out _).mono ?_)))); rintro e W ⟨rfl, hb⟩; replace hL := hL.below hb; clear hb hF; have hF := hL.fx))
  refine bodyPost_ret (by simp [results, Tryz.results48, go_sem, *]; try rfl) rfl ?_
  exact ⟨⟨_, (fun _ => rfl), rfl⟩, kn_here.below0⟩
theorem ins_2 (vl v : Value) (sop s1 s2 : ByteArray) (ls : List Bytes) (at_ op : Nat) (L : Labs) (first : Bool) (g og cap : Nat) (hs1 : s1.size ≤ 90000) (hs2 : s2.size ≤ 90000) (hat : at_ ≤ 100000) (hn : L.length ≤ 100000) (hLn : Hid (∀ p ∈ L, p.2 ≤ 100000)) (hfo : OO.form op = 2) (HFM : Hid (∀ W, Calls Tryz.prog 75 #[.int .i64 (op : Int)] W fun e w' => e = .returned (.int .i64 2) ∧ W = w')) (HMN : Hid (∀ W, Calls Tryz.prog 76 #[.int .i64 2] W fun e w' => e = .returned (.int .i64 2) ∧ W = w')) (w : World) (hg : g < w.heap.size) (c1 : w.cell? ⟨g, og, none⟩ = some (.string s1)) (c2 : w.cell? ⟨g, og + 1, none⟩ = some (.string s2)) (hv : Hid (LRow w v L)) : Calls Tryz.prog 48 #[.agg #[vl, .string sop, .slice (some ⟨g, og, none⟩) 2 cap, .int .i64 (at_ : Int)], .int .i64 (op : Int), v, .bool first] w (InsRP first (instr OO L ⟨ls, sop.data.toList, [s1.data.toList, s2.data.toList]⟩ at_ op (!first)) op w) := by
 cases hr1 : register s1.data.toList with
 | bad m =>
  obtain rfl := registerR_bad hr1
  have HRG1 := Lib.hid (fun W => refReg_bad hr1 (by omega) W)
  rw [instrR_2 hfo rfl, hr1]
  try simp only [Rs.bind]
  obtain ⟨rv, hrv⟩ : ∃ r, regV s1.data.toList = r := ⟨_, rfl⟩
  rw [hrv] at HRG1
  clear hrv hr1
  obtain ⟨oo, ho⟩ : ∃ o : Int, (op : Int) = o := ⟨_, rfl⟩
  unfold InsRP
  simp only [ho] at HFM  ⊢
  clear hfo ho
  have hL : Kn [] w w [] := Kn.refl [] w; have hF := hL.fx; go_enter Tryz.func48, Tryz.ntmps48
  go_wp2_with (first | ((with_reducible refine ks ?_); clear hL; intro W hL hF) | (go_at_call 75; (with_reducible refine (HFM.out _).mono ?_); rintro e w' ⟨rfl, rfl⟩) | (go_at_call 76; refine kp (fun W hL => HMN.out _) ?_; clear hF hL; intro W hL hF) | (go_at_call 78; refine kG ?_; clear hF hL; intro W hL hF; (((first | (with_reducible refine (HRG1.out _).mono ?_)))); rintro e W ⟨rfl, hb⟩; replace hL := hL.below hb; clear hb hF; have hF := hL.fx))
  refine bodyPost_ret (by simp [results, Tryz.results48, go_sem, *]; try rfl) rfl ?_
  exact ⟨⟨_, _, _, _, rfl⟩, kn_here.below0⟩
 | ok n1 =>
  have HRG1 := Lib.hid (fun W => refReg_ok hr1 (by omega) W)
  cases hr2 : register s2.data.toList with
  | bad m =>
   obtain rfl := registerR_bad hr2
   have HRG2 := Lib.hid (fun W => refReg_bad hr2 (by omega) W)
   rw [instrR_2 hfo rfl, hr1, hr2]
   try simp only [Rs.bind]
   obtain ⟨rv, hrv⟩ : ∃ r, regV s2.data.toList = r := ⟨_, rfl⟩
   rw [hrv] at HRG2
   clear hrv hr1 hr2
   obtain ⟨oo, ho⟩ : ∃ o : Int, (op : Int) = o := ⟨_, rfl⟩
   unfold InsRP
   simp only [ho] at HFM  ⊢
   clear hfo ho
   have hL : Kn [] w w [] := Kn.refl [] w; have hF := hL.fx; go_enter Tryz.func48, Tryz.ntmps48
   go_wp2_with (first | ((with_reducible refine ks ?_); clear hF hL; intro W hL hF) | (go_at_call 75; (with_reducible refine (HFM.out _).mono ?_); rintro e w' ⟨rfl, rfl⟩) | (go_at_call 76; refine kp (fun W hL => HMN.out _) ?_; clear hF hL; intro W hL hF) | (go_at_call 78; refine kG ?_; clear hF hL; intro W hL hF; (((first | (with_reducible refine (HRG1.out _).mono ?_) | (with_reducible refine (HRG2.out _).mono ?_)))); rintro e W ⟨rfl, hb⟩; replace hL := hL.below hb; clear hb hF; have hF := hL.fx))
   refine bodyPost_ret (by simp [results, Tryz.results48, go_sem, *]; try rfl) rfl ?_
   exact ⟨⟨_, _, _, _, rfl⟩, kn_here.below0⟩
  | ok n2 =>
   have HRG2 := Lib.hid (fun W => refReg_ok hr2 (by omega) W)
   rw [instrR_2 hfo rfl, hr1, hr2]
   try simp only [Rs.bind]
   obtain ⟨oo, ho⟩ : ∃ o : Int, (op : Int) = o := ⟨_, rfl⟩
   unfold InsRP
   simp only [ho] at HFM  ⊢
   clear hfo ho
   have hL : Kn [] w w [] := Kn.refl [] w; have hF := hL.fx; go_enter Tryz.func48, Tryz.ntmps48
   go_wp2_with (first | ((with_reducible refine ks ?_); clear hF hL; intro W hL hF) | (go_at_call 75; (with_reducible refine (HFM.out _).mono ?_); rintro e w' ⟨rfl, rfl⟩) | (go_at_call 76; refine kp (fun W hL => HMN.out _) ?_; clear hF hL; intro W hL hF) | (go_at_call 78; refine kG ?_; clear hF hL; intro W hL hF; (((first | (with_reducible refine (HRG1.out _).mono ?_) | (with_reducible refine (HRG2.out _).mono ?_)))); rintro e W ⟨rfl, hb⟩; replace hL := hL.below hb; clear hb hF; have hF := hL.fx))
   refine bodyPost_ret (by simp [results, Tryz.results48, go_sem, *]; try rfl) rfl ?_
   exact ⟨⟨_, (fun _ => rfl), rfl⟩, kn_here.below0⟩
end Go.Proofs.YtfdlifhkeicnnaaGreatDoor
