/- Lemmas and walks for the law LawTells (part 19). -/
import Derived.Test.YtfdlifhkeicnnaaGreatDoorWPt18
import Derived.Test.YtfdlifhkeicnnaaGreatDoorProg
import Derived.WalkKit
import Derived.Handy
import Derived.Deep.Light
import Derived.WalkSmall
import Derived.StillTailTactics
import Derived.Lib.Hide
set_option maxRecDepth 20000
set_option maxHeartbeats 4000000
set_option linter.unusedVariables false
set_option linter.unusedSimpArgs false
namespace Go.Proofs.YtfdlifhkeicnnaaGreatDoor
open Go Go.RowKit
theorem measW_E (ab mb g xo n : Nat) (es : Array MapEntry) (clock : Nat) (Lb : Labs) (cur : Array Value) (x : Stm) (sop : ByteArray) (vl vo : Value) (w : World) (hL0 : Kn [mb, g] w w [(mb, .map es clock), (g, .cells cur 64 (0, 0))]) (hA : w.cell? ⟨ab, 0, none⟩ = some (.map (some mb))) (ha1 : ab ≠ mb) (ha2 : ab ≠ g) (hM : MapV Tryz.prog 9 es (lv Lb)) (hLn : ∀ p ∈ Lb, p.2 ≤ 100000) (hLl : Lb.length ≤ 1000000000000) (hS : StIn w mb g xo cur x sop vl vo) (hn : n ≤ 4096) (hT : TabA w) (h14 : ∀ y ∈ [mb, g], 14 ≤ y) (hso : sop = ⟨#[]⟩) : Calls Tryz.prog 34 #[.pointer (some ⟨ab, 0, none⟩), .pointer (some ⟨g, xo, none⟩), .int .i64 n] w (MeasP (measure OO x n Lb) mb g xo cur w) := by
 subst hso
 have hfi : findI ⟨#[]⟩ = -1 := find_dirs.2.2.2.2
 have HFI := Lib.hid (fun W hT => Find_no ⟨#[]⟩ hfi W hT)
 have HDN := Lib.hid (fun W h1 => directive_no ab g xo ⟨#[]⟩ (by decide) W h1 rfl)
 have HFS := Lib.hid find_nil
 have HOE := Lib.hid (show x.op = [] from hS.op)
 clear hfi
 obtain ⟨at_, hat⟩ : ∃ at_ : Nat, n = at_ := ⟨_, rfl⟩
 have hat2 : at_ ≤ 4099 := by omega
 obtain ⟨d0, d1, d2, d3⟩ := hS.set (at_ : Int)
 obtain ⟨cur2, hc2⟩ : ∃ c, cur.setIfInBounds (xo + 3) (.int .i64 (at_ : Int)) = c := ⟨_, rfl⟩
 rw [hc2] at d0 d1 d2 d3
 have HC2 := Lib.hid hc2
 clear hc2
 have lab := cell_lt hA
 obtain ⟨c0, c1, c2, ⟨a3, c3⟩, hop, hvl, hvo, hsl, hso, hsp, hnl, hno⟩ := hS
 obtain ⟨al, cl, rfl, hlc⟩ := rowO_open hvl
 have HLC := Lib.hid hlc
 have HSL := Lib.hid hsl
 have HSO := Lib.hid hso
 have HVO := Lib.hid hvo
 have HLB := Lib.hid hLn
 have HOP := Lib.hid hop
 obtain ⟨nl, hnl2⟩ : ∃ nl, x.labels.length = nl := ⟨_, rfl⟩
 rw [hnl2] at c0 d0 hnl
 have HNL := Lib.hid hnl2
 clear hlc hsl hso hvl hvo hLn hop hnl2
 obtain ⟨R, hR⟩ : ∃ R, measure OO x n Lb = R := ⟨_, rfl⟩
 have HR := Lib.hid hR
 rw [hR]
 clear hR
 have hL := hL0
 have hF := hL.fx
 go_enter Tryz.func34, Tryz.ntmps34
 go_wp2_with (first | (go_at_call 61; refine kc (fun W hL => HFI.out _ ((hT.kn hL h14).i)) ?_; clear hF hL; intro W hL hF) | (go_at_call 63; refine kc (fun W hL => HDN.out _ ((kn_cell hL (List.mem_cons_of_mem _ List.mem_cons_self) _).trans c1)) ?_; clear hF hL; intro W hL hF))
 go_loopw [11, 42] (fun a i wr => ∃ k : Nat, k ≤ nl ∧ i = .int .i64 k ∧ Hid (∀ j < k, ∀ p, x.labels[j]? = some p → named p = true) ∧ Kn [mb, g] w wr [(mb, .map es clock), (g, .cells cur 64 (0, 0))]) (fun _ i _ => nl - (intOf i).toNat)
 case atStart => exact ⟨0, by omega, rfl, Lib.hid (fun j hj => by omega), hL⟩
 case round =>
  clear hL
  obtain ⟨k, hk, rfl, HI, hL⟩ := hrel
  have hF := hL.fx
  by_cases hlt : k < nl
  ·obtain ⟨p, hp⟩ : ∃ p, x.labels[k]? = some p := ⟨_, List.getElem?_eq_getElem (by rw [HNL.out]; omega)⟩
   obtain ⟨gl, ol, rfl, hgy, hgs, hgc⟩ := HLC.out k p hp
   have hps := HSL.out p (List.mem_of_getElem? hp)
   obtain ⟨s, rfl⟩ : ∃ s : ByteArray, p = s.data.toList := ⟨⟨p.toArray⟩, by simp⟩
   rw [toList_mk] at hgc
   rw [szl] at hps
   have hg1 : ¬ gl = mb := fun e => hgy (by simp [e])
   have hg2 : ¬ gl = g := fun e => hgy (by simp [e])
   clear hgy
   have HP := Lib.hid hp
   clear hp
   cases hnm : named s.data.toList with
   | false =>
    have HB := HR.out.symm.trans (measure_bad HP.out hnm)
    subst HB
    have HN := Lib.hid hnm
    clear hnm
    go_wp2_with ((go_at_call 64; refine kc (fun W hL => named_eq s (by omega) _ HN _) ?_; clear hF hL; intro W hL hF))
    exact ⟨rfl, rfl, hL.sub (by simp)⟩
   | true =>
    have HN := Lib.hid hnm
    clear hnm
    go_wp2_with ((go_at_call 64; refine kc (fun W hL => named_eq s (by omega) _ HN _) ?_; clear hF hL; intro W hL hF))
    go_roundw
    case measure => simp [intOf]; omega
    case rel => exact ⟨k + 1, by omega, by go_num, Lib.hid (fun j hj p hp => by
     rcases Nat.lt_or_ge j k with h | h
     ·exact HI.out j h p hp
     ·obtain rfl : j = k := by omega
      rw [HP.out] at hp; cases hp; exact HN.out), hL⟩
  ·obtain rfl : k = nl := by omega
   have HAN := Lib.hid (show ∀ j < x.labels.length, ∀ p, x.labels[j]? = some p → named p = true from by rw [HNL.out]; exact HI.out)
   clear HI
   have HM := Lib.hid (HR.out.symm.trans (measure_E HAN.out HFS.out HOE.out))
   rw [hat] at HM
   go_wp2
   refine kn_wp ?_; clear hF hL; intro W hL; have hF := hL.fx
   rw [HC2.out] at hL
   go_loopw [13, 14, 15, 74] (fun a b c i wr => ∃ (j : Nat) (esk : Array MapEntry) (ckk : Nat) (Lk : Labs), j ≤ k ∧ i = .int .i64 j ∧ MapV Tryz.prog 9 esk (lv Lk) ∧ Hid (addL Lb (64 + at_) (x.labels.take j) = .ok Lk) ∧ Kn [mb, g] w wr [(mb, .map esk ckk), (g, .cells cur2 64 (0, 0))]) (fun _ _ _ i _ => k - (intOf i).toNat)
   case atStart => exact ⟨0, _, _, Lb, by omega, rfl, hM, Lib.hid rfl, hL⟩
   case round =>
    clear hL
    obtain ⟨j, esk, ckk, Lk, hj, rfl, hMk, HI, hL⟩ := hrel
    have hF := hL.fx
    by_cases hlt : j < k
    ·obtain ⟨p, hp⟩ : ∃ p, x.labels[j]? = some p := ⟨_, List.getElem?_eq_getElem (by rw [HNL.out]; omega)⟩
     obtain ⟨gl, ol, rfl, hgy, hgs, hgc⟩ := HLC.out j p hp
     have hps := HSL.out p (List.mem_of_getElem? hp)
     obtain ⟨s, rfl⟩ : ∃ s : ByteArray, p = s.data.toList := ⟨⟨p.toArray⟩, by simp⟩
     rw [toList_mk] at hgc
     rw [szl] at hps
     have hg1 : ¬ gl = mb := fun e => hgy (by simp [e])
     have hg2 : ¬ gl = g := fun e => hgy (by simp [e])
     clear hgy
     have HP := Lib.hid hp
     clear hp
     cases hlk : look Lk s.data.toList with
     | some v =>
      have HB : R = .bad 5 := by have HB := HM.out; rw [addL_fail HI.out HP.out hlk] at HB; exact HB
      subst HB
      have HH := Lib.hid (look_hit hlk)
      clear hlk
      go_wp2_with ((at_lookup; go_loud (refine wpList_hit rfl _ _ _ rfl strlaw under_labs (hL.has _ List.mem_cons_self) hMk rfl _ (.int .i64 v) rfl HH.out ?_); simp only [if_true]))
      exact ⟨rfl, rfl, hL.sub (by simp)⟩
     | none =>
      have HH := Lib.hid (look_miss hlk)
      have HN2 := Lib.hid (addL_next HI.out HP.out hlk)
      have hLkl := addL_len HI.out
      have hLkl2 : Lk.length ≤ 2000000000000 := by rw [hLkl, List.length_take]; have := HNL.out; omega
      clear hlk hLkl
      have s1 : IntKind.i64.wrap (64 + (at_ : Int)) = ((64 + at_ : Nat) : Int) := by rw [IntWalk.i64_in _ (by omega)]; omega
      go_wp2_with (first | (at_lookup; go_loud (refine wpList_miss rfl _ _ _ rfl strlaw under_labs _ zeroI (hL.has _ List.mem_cons_self) hMk rfl _ _ rfl (strkey s (by omega)) HH.out ?_); simp only [if_true]) | (at_mapUpdate; refine kL ?_; clear hF hL; intro W hL hF; go_loud (refine wpList_new rfl _ _ _ rfl strlaw under_labs hL 0 rfl hMk (by rw [lv_len]; unfold maxLen; omega) rfl _ _ _ rfl rfl (strkey s (by omega)) HH.out ?_); intro W2 es2 ck2 hL2 hM2; clear hL hF; have hL := hL2; have hM2' := Lib.hid hM2; clear hL2 hM2; simp only [kfb] at hL; have hF := hL.fx))
      go_roundw
      case measure => simp [intOf]; omega
      case rel => exact ⟨j + 1, _, _, _, by omega, by go_num, by rw [lv_snoc]; exact hM2'.out, HN2, hL⟩
    ·obtain rfl : j = k := by omega
     have HB := HM.out
     rw [List.take_of_length_le (by rw [HNL.out]; omega)] at HI
     rw [HI.out] at HB
     have HLK := Lib.hid (addL_le HI.out (b := 100000) (by exact HLB.out) (by omega))
     replace HB : R = if x.ops ≠ [] then .bad 2 else if 4096 < at_ then .bad 6 else .ok (at_, at_, Lk) := HB
     obtain ⟨ao2, cap2, rfl, _⟩ := rowO_open HVO.out
     by_cases ho : x.ops = []
     ·rw [if_neg (fun h => h ho), if_neg (by omega)] at HB
      subst HB
      have HO := Lib.hid ho
      have hlo : x.ops.length = 0 := by rw [ho]; rfl
      rw [hlo] at c2 d2
      clear ho hlo
      have t1 : ¬ (4096 : Int) < (at_ : Int) := by omega
      go_wp2
      refine bodyPost_ret (by simp [results, Tryz.results34, go_sem, *]; try rfl) rfl ?_
      exact ⟨rfl, esk, ckk, hMk, by rw [HC2.out]; exact hL⟩
     ·rw [if_pos ho] at HB
      subst HB
      have hlo : 0 < x.ops.length := List.length_pos_iff.2 ho
      obtain ⟨m, hm⟩ : ∃ m, x.ops.length = m := ⟨_, rfl⟩
      rw [hm] at c2 d2 hlo
      have t1 : (0 : Int) < (m : Int) := by omega
      clear ho
      go_wp2
      exact ⟨rfl, rfl, hL.sub (by simp)⟩
theorem measW_N (ab mb g xo n : Nat) (es : Array MapEntry) (clock : Nat) (Lb : Labs) (cur : Array Value) (x : Stm) (sop : ByteArray) (vl vo : Value) (w : World) (hL0 : Kn [mb, g] w w [(mb, .map es clock), (g, .cells cur 64 (0, 0))]) (hA : w.cell? ⟨ab, 0, none⟩ = some (.map (some mb))) (ha1 : ab ≠ mb) (ha2 : ab ≠ g) (hM : MapV Tryz.prog 9 es (lv Lb)) (hLn : ∀ p ∈ Lb, p.2 ≤ 100000) (hLl : Lb.length ≤ 1000000000000) (hS : StIn w mb g xo cur x sop vl vo) (hn : n ≤ 4096) (hT : TabA w) (h14 : ∀ y ∈ [mb, g], 14 ≤ y) (hfi : findI sop = -1) (hnd : isDir sop.data.toList = false) (hno0 : sop.data.toList ≠ []) : Calls Tryz.prog 34 #[.pointer (some ⟨ab, 0, none⟩), .pointer (some ⟨g, xo, none⟩), .int .i64 n] w (MeasP (measure OO x n Lb) mb g xo cur w) := by
 have HFI := Lib.hid (fun W hT => Find_no sop hfi W hT)
 have HDN := Lib.hid (fun W h1 => directive_no ab g xo sop (by have := hS.sp; omega) W h1 hnd)
 have HFS := Lib.hid (show OO.find x.op = none from by rw [hS.op]; exact find_none hfi)
 have hne : ¬ sop.toList = [] := by rw [Lib.toList_data]; exact hno0
 have hnw : (sop.toList == [46, 119, 111, 114, 100]) = false := beq_false_of_ne (fun e => by
  rw [Lib.toList_data] at e
  rw [e] at hnd; cases hnd)
 have HNE := Lib.hid (show x.op ≠ [] from by rw [hS.op]; exact hno0)
 have HND := Lib.hid (show isDir x.op = false from by rw [hS.op]; exact hnd)
 have hnil := nil_eq
 have hne2 : (!sop.toList.isEmpty) = true := by
  cases h : sop.toList with
  | nil => exact absurd h hne
  | cons => rfl
 clear hfi hnd hno0
 obtain ⟨at_, hat⟩ : ∃ at_ : Nat, n = at_ := ⟨_, rfl⟩
 have hat2 : at_ ≤ 4099 := by omega
 obtain ⟨d0, d1, d2, d3⟩ := hS.set (at_ : Int)
 obtain ⟨cur2, hc2⟩ : ∃ c, cur.setIfInBounds (xo + 3) (.int .i64 (at_ : Int)) = c := ⟨_, rfl⟩
 rw [hc2] at d0 d1 d2 d3
 have HC2 := Lib.hid hc2
 clear hc2
 have lab := cell_lt hA
 obtain ⟨c0, c1, c2, ⟨a3, c3⟩, hop, hvl, hvo, hsl, hso, hsp, hnl, hno⟩ := hS
 obtain ⟨al, cl, rfl, hlc⟩ := rowO_open hvl
 have HLC := Lib.hid hlc
 have HSL := Lib.hid hsl
 have HSO := Lib.hid hso
 have HVO := Lib.hid hvo
 have HLB := Lib.hid hLn
 have HOP := Lib.hid hop
 obtain ⟨nl, hnl2⟩ : ∃ nl, x.labels.length = nl := ⟨_, rfl⟩
 rw [hnl2] at c0 d0 hnl
 have HNL := Lib.hid hnl2
 clear hlc hsl hso hvl hvo hLn hop hnl2
 obtain ⟨R, hR⟩ : ∃ R, measure OO x n Lb = R := ⟨_, rfl⟩
 have HR := Lib.hid hR
 rw [hR]
 clear hR
 have hL := hL0
 have hF := hL.fx
 go_enter Tryz.func34, Tryz.ntmps34
 go_wp2_with (first | (go_at_call 61; refine kc (fun W hL => HFI.out _ ((hT.kn hL h14).i)) ?_; clear hF hL; intro W hL hF) | (go_at_call 63; refine kc (fun W hL => HDN.out _ ((kn_cell hL (List.mem_cons_of_mem _ List.mem_cons_self) _).trans c1)) ?_; clear hF hL; intro W hL hF))
 go_loopw [11, 42] (fun a i wr => ∃ k : Nat, k ≤ nl ∧ i = .int .i64 k ∧ Hid (∀ j < k, ∀ p, x.labels[j]? = some p → named p = true) ∧ Kn [mb, g] w wr [(mb, .map es clock), (g, .cells cur 64 (0, 0))]) (fun _ i _ => nl - (intOf i).toNat)
 case atStart => exact ⟨0, by omega, rfl, Lib.hid (fun j hj => by omega), hL⟩
 case round =>
  clear hL
  obtain ⟨k, hk, rfl, HI, hL⟩ := hrel
  have hF := hL.fx
  by_cases hlt : k < nl
  ·obtain ⟨p, hp⟩ : ∃ p, x.labels[k]? = some p := ⟨_, List.getElem?_eq_getElem (by rw [HNL.out]; omega)⟩
   obtain ⟨gl, ol, rfl, hgy, hgs, hgc⟩ := HLC.out k p hp
   have hps := HSL.out p (List.mem_of_getElem? hp)
   obtain ⟨s, rfl⟩ : ∃ s : ByteArray, p = s.data.toList := ⟨⟨p.toArray⟩, by simp⟩
   rw [toList_mk] at hgc
   rw [szl] at hps
   have hg1 : ¬ gl = mb := fun e => hgy (by simp [e])
   have hg2 : ¬ gl = g := fun e => hgy (by simp [e])
   clear hgy
   have HP := Lib.hid hp
   clear hp
   cases hnm : named s.data.toList with
   | false =>
    have HB := HR.out.symm.trans (measure_bad HP.out hnm)
    subst HB
    have HN := Lib.hid hnm
    clear hnm
    go_wp2_with ((go_at_call 64; refine kc (fun W hL => named_eq s (by omega) _ HN _) ?_; clear hF hL; intro W hL hF))
    exact ⟨rfl, rfl, hL.sub (by simp)⟩
   | true =>
    have HN := Lib.hid hnm
    clear hnm
    go_wp2_with ((go_at_call 64; refine kc (fun W hL => named_eq s (by omega) _ HN _) ?_; clear hF hL; intro W hL hF))
    go_roundw
    case measure => simp [intOf]; omega
    case rel => exact ⟨k + 1, by omega, by go_num, Lib.hid (fun j hj p hp => by
     rcases Nat.lt_or_ge j k with h | h
     ·exact HI.out j h p hp
     ·obtain rfl : j = k := by omega
      rw [HP.out] at hp; cases hp; exact HN.out), hL⟩
  ·obtain rfl : k = nl := by omega
   have HAN := Lib.hid (show ∀ j < x.labels.length, ∀ p, x.labels[j]? = some p → named p = true from by rw [HNL.out]; exact HI.out)
   clear HI
   have HB := HR.out.symm.trans (measure_N HAN.out HNE.out HFS.out HND.out)
   subst HB
   go_wp2
   exact ⟨rfl, rfl, hL.sub (by simp)⟩
theorem measure_is (ab mb g xo n : Nat) (es : Array MapEntry) (clock : Nat) (Lb : Labs) (cur : Array Value) (x : Stm) (sop : ByteArray) (vl vo : Value) (w : World) (hL0 : Kn [mb, g] w w [(mb, .map es clock), (g, .cells cur 64 (0, 0))]) (hA : w.cell? ⟨ab, 0, none⟩ = some (.map (some mb))) (ha1 : ab ≠ mb) (ha2 : ab ≠ g) (hM : MapV Tryz.prog 9 es (lv Lb)) (hLn : ∀ p ∈ Lb, p.2 ≤ 100000) (hLl : Lb.length ≤ 1000000000000) (hS : StIn w mb g xo cur x sop vl vo) (hn : n ≤ 4096) (hT : TabA w) (h14 : ∀ y ∈ [mb, g], 14 ≤ y) : Calls Tryz.prog 34 #[.pointer (some ⟨ab, 0, none⟩), .pointer (some ⟨g, xo, none⟩), .int .i64 n] w (MeasP (measure OO x n Lb) mb g xo cur w) := by
 by_cases h0 : 0 ≤ findI sop
 ·exact measW_I ab mb g xo n es clock Lb cur x sop vl vo w hL0 hA ha1 ha2 hM hLn hLl hS hn hT h14 (findI sop).toNat (by omega)
 ·have hfi : findI sop = -1 := by have := (findI_lt sop).1; omega
  cases hd : isDir sop.data.toList with
  | true =>
   have : ∀ (d : Bytes) (b : ByteArray), b.data.toList = d → sop.data.toList = d → sop = b := fun d b h1 h2 => by
    rw [← h1] at h2
    cases sop; cases b; simp at h2; simp [h2]
   simp only [isDir, Bool.or_eq_true, beq_iff_eq] at hd
   rcases hd with ((hd | hd) | hd) | hd
   ·exact measW_D0 ab mb g xo n es clock Lb cur x sop vl vo w hL0 hA ha1 ha2 hM hLn hLl hS hn hT h14 (this _ ⟨#[46, 98, 121, 116, 101]⟩ rfl hd)
   ·exact measW_D1 ab mb g xo n es clock Lb cur x sop vl vo w hL0 hA ha1 ha2 hM hLn hLl hS hn hT h14 (this _ ⟨#[46, 119, 111, 114, 100]⟩ rfl hd)
   ·exact measW_D2 ab mb g xo n es clock Lb cur x sop vl vo w hL0 hA ha1 ha2 hM hLn hLl hS hn hT h14 (this _ ⟨#[46, 116, 101, 120, 116]⟩ rfl hd)
   ·exact measW_D3 ab mb g xo n es clock Lb cur x sop vl vo w hL0 hA ha1 ha2 hM hLn hLl hS hn hT h14 (this _ ⟨#[46, 115, 112, 97, 99, 101]⟩ rfl hd)
  | false =>
   by_cases he : sop.data.toList = []
   ·exact measW_E ab mb g xo n es clock Lb cur x sop vl vo w hL0 hA ha1 ha2 hM hLn hLl hS hn hT h14 (by cases sop; simp at he; simp [he])
   ·exact measW_N ab mb g xo n es clock Lb cur x sop vl vo w hL0 hA ha1 ha2 hM hLn hLl hS hn hT h14 hfi hd he
theorem emitW_I (ab mb g xo at_ : Nat) (es : Array MapEntry) (clock : Nat) (L : Labs) (cur : Array Value) (x : Stm) (sop : ByteArray) (vo vc : Value) (code : Bytes) (LP : List (Nat × Obj)) (Y : List Nat) (w : World) (hL0 : Kn Y w w ((ab, .cells #[.map (some mb), vc] 61 (0, 0)) :: LP)) (hrow : RowL 1 5 LP vc code.length (bc code)) (hmb : w.heap[mb]? = some (.map es clock)) (hmY : mb ∉ Y) (hM : MapV Tryz.prog 9 es (lv L)) (hLn : ∀ p ∈ L, p.2 ≤ 100000) (hg : w.heap[g]? = some (.cells cur 64 (0, 0))) (hgY : g ∉ Y) (hS : StEm w Y xo at_ cur x sop vo) (hat : at_ ≤ 5000) (hcl : code.length ≤ 1000000) (hT : TabA w) (h14 : ∀ y ∈ Y, 14 ≤ y) (op : Nat) (hfi : findI sop = (op : Int)) : Calls Tryz.prog 35 #[.pointer (some ⟨ab, 0, none⟩), .pointer (some ⟨g, xo, none⟩)] w (EmitP (emit OO L x at_ code) ab mb Y w) := by
 have HFS := Lib.hid (show OO.find x.op = some op from by rw [hS.op]; exact find_some hfi)
 have hnd := (findI_dir hfi).1
 have hne0 := (findI_dir hfi).2
 have hne : ¬ sop.toList = [] := by rw [Lib.toList_data]; exact hne0
 have hne3 : sop.toList.isEmpty = false := by
  cases h : sop.toList with
  | nil => exact absurd h hne
  | cons => rfl
 have HDN := Lib.hid (fun W h1 => directive_no ab g xo sop (by have := hS.sp; omega) W h1 hnd)
 have hnn := nil_ne
 have lg := lt_of_has hg
 have x1 := (cells_at hg (xo + 1)).trans hS.c1
 have x2 := (cells_at hg (xo + 2)).trans hS.c2
 have x3 := (cells_at hg (xo + 3)).trans hS.c3
 have HVO := Lib.hid hS.vo
 have HSO := Lib.hid hS.so
 have hno := hS.no
 have HOP := Lib.hid hS.op
 obtain ⟨R, hR⟩ : ∃ R, emit OO L x at_ code = R := ⟨_, rfl⟩
 rw [hR]
 have hL := hL0
 have hF := hL.fx
 have HR := Lib.hid (hR.symm.trans (emit_I (by rw [hS.op]; exact hne0) (by rw [hS.op]; exact hnd) HFS.out))
 have HFI := Lib.hid hfi
 clear hR hnd hne0 hfi hS
 go_enter Tryz.func35, Tryz.ntmps35
 go_wp2
 go_loopg [] (at_ - code.length) (fun n wr => ∃ (k : Nat) (LPk : List (Nat × Obj)) (vk : Value), Hid (n = at_ - code.length - k) ∧ k ≤ at_ - code.length ∧ RowL 1 5 LPk vk (code.length + k) (bc (code ++ List.replicate k 0)) ∧ Kn Y w wr ((ab, .cells #[.map (some mb), vk] 61 (0, 0)) :: LPk))
 case atStart => exact ⟨0, LP, vc, Lib.hid rfl, by omega, by rw [Nat.add_zero, List.replicate_zero, List.append_nil]; exact hrow, hL⟩
 case round =>
  clear hL
  obtain ⟨k, LPk, vk, HK, hk, hrowk, hL⟩ := hrel
  have hF := hL.fx
  have HRK := Lib.hid hrowk
  obtain ⟨ao, cp, hvk⟩ : ∃ ao cp, vk = .slice ao (code.length + k) cp := by
   rcases hrowk with ⟨_, rfl, h0, _⟩ | ⟨g2, cap2, cur2, _, rfl, _⟩
   ·exact ⟨none, 0, by rw [h0]⟩
   ·exact ⟨_, _, rfl⟩
  clear hrowk
  subst hvk
  by_cases hlt : code.length + k < at_
  ·have t1 : ((code.length + k : Nat) : Int) < (at_ : Int) := by omega
   go_wp2_with (first | ((with_reducible refine at_region 1 ?_); refine kW [0, 1, 2, 3, 4, 5, 6, 7, 8, 9] [0, 1, 2, 3, 4, 5, 6, 7, 8, 9] [] [0, 1, 2, 4, 5, 6, 7, 9] ?_; clear hF hL; intro ι F hne hC hG; (repeat (first | (refine cF hC ?_; intro K hK; go_big_quiet_op; go_big_quiet_on) | (refine cP ?_; intro K hK; go_big_quiet_op; go_big_quiet_on))); refine cwk_nil ?_; clear hC hG; intro W hL; have hF := hL.fx) | (at_builtin; refine kL ?_; clear hF hL; intro W hL hF; go_loud (refine wpList_append_end rfl _ _ 47 47 rfl [(_, .cells #[.int .u8 0] 5 (0, 0)), (ab, .cells #[.map (some mb), _] 61 (0, 0))] LPk hL _ 1 _ (bc [0]) _ _ HRK.out rfl rfl (fun ho => run_append_b rfl (fun j u hu => by rw [Go.WideShapes.add_plain, Nat.zero_add, kn_cell hL List.mem_cons_self]; simpa [bc] using hu) (bc_one _) (by omega) ho) ?_); intro LPn an cpn W2 hL2 hrn; clear hL hF; have hL := hL2; clear hL2; simp only [kfb] at hL; have hF := hL.fx))
   go_roundg (at_ - code.length - (k + 1))
   case measure => have := HK.out; omega
   case rel => exact ⟨k + 1, LPn, _, Lib.hid rfl, by omega, by rw [List.replicate_succ', ← List.append_assoc, bc_app, ← Nat.add_assoc]; exact hrn, Kn.sub kn_here (List.sublist_cons_self _ _)⟩
  ·have t1 : ¬ ((code.length + k : Nat) : Int) < (at_ : Int) := by omega
   obtain rfl : k = at_ - code.length := by omega
   obtain ⟨C, hC⟩ : ∃ C, padTo code at_ = C := ⟨_, rfl⟩
   have hCl : C.length = code.length + (at_ - code.length) := by rw [← hC]; simp [padTo]
   have HRC := Lib.hid (show RowL 1 5 LPk (.slice ao (code.length + (at_ - code.length)) cp) C.length (bc C) from by rw [hCl, ← hC]; exact HRK.out)
   rw [hC] at HR
   obtain ⟨cn, hcn⟩ : ∃ cn, code.length + (at_ - code.length) = cn := ⟨_, rfl⟩
   rw [hcn] at hCl HRC hL hF t1
   have HCL := Lib.hid hCl
   have hcnb : cn ≤ 1005000 := by omega
   clear hC hCl
   have HIN := Lib.hid (fun W (LL : List (Nat × Obj)) (hL : Kn Y w W ((ab, .cells #[.map (some mb), .slice ao cn cp] 61 (0, 0)) :: LL)) => instruction_is ab mb es clock L g xo at_ op sop vo x.ops true W ((kn_cell hL List.mem_cons_self 0).trans rfl) ((hL.block mb (lt_of_has hmb) hmY).trans hmb) hM hLn (kn_old hL x1 hgY) (kn_old hL x2 hgY) (HVO.out.kn hL (fun y hy => .inl hy)).row (kn_old hL x3 hgY) (by omega) HSO.out hno HFI.out (hT.kn hL h14))
   cases hin : instrR L x.ops at_ op true with
   | bad m =>
    have HB := HR.out
    rw [hin] at HB HIN
    replace HB : R = .bad m := HB
    subst HB
    clear hin
    go_wp2_with (first | ((with_reducible refine at_region 1 ?_); refine kW [0, 1, 2, 3, 4, 5, 6, 7, 8, 9] [0, 1, 2, 3, 4, 5, 6, 7, 8, 9] [] [0, 1, 2, 4, 5, 6, 7, 9] ?_; clear hF hL; intro ι F hne hC hG; (repeat (first | (refine cF hC ?_; intro K hK; go_big_quiet_op; go_big_quiet_on) | (refine cP ?_; intro K hK; go_big_quiet_op; go_big_quiet_on))); refine cwk_nil ?_; clear hC hG; intro W hL; have hF := hL.fx) | (go_at_call 63; refine kc (fun W hL => HDN.out _ (kn_old hL x1 hgY)) ?_; clear hF hL; intro W hL hF) | (go_at_call 65; refine kc (fun W hL => HIN.out _ _ hL) ?_; clear hF hL; intro W hL hF))
    exact ⟨rfl, rfl, hL.sub (by simp)⟩
   | ok i =>
    obtain ⟨ia, ib, ic⟩ := i
    have HB := HR.out
    rw [hin] at HB HIN
    replace HB : R = if valid op ia ib ic then .ok (C ++ (encS op ia ib ic).data.toList) else .bad 3 := HB
    clear hin
    have HVA := Lib.hid (fun W hT => Valid_any op ia ib ic W hT)
    cases hv : valid op ia ib ic with
    | false =>
     rw [hv] at HB HVA
     replace HB : R = .bad 3 := HB
     subst HB
     go_wp2_with (first | ((with_reducible refine at_region 1 ?_); refine kW [0, 1, 2, 3, 4, 5, 6, 7, 8, 9] [0, 1, 2, 3, 4, 5, 6, 7, 8, 9] [] [0, 1, 2, 4, 5, 6, 7, 9] ?_; clear hF hL; intro ι F hne hC hG; (repeat (first | (refine cF hC ?_; intro K hK; go_big_quiet_op; go_big_quiet_on) | (refine cP ?_; intro K hK; go_big_quiet_op; go_big_quiet_on))); refine cwk_nil ?_; clear hC hG; intro W hL; have hF := hL.fx) | (go_at_call 63; refine kc (fun W hL => HDN.out _ (kn_old hL x1 hgY)) ?_; clear hF hL; intro W hL hF) | (go_at_call 65; refine kc (fun W hL => HIN.out _ _ hL) ?_; clear hF hL; intro W hL hF) | (go_at_call 18; refine kc (fun W hL => HVA.out _ ((hT.kn hL h14).i)) ?_; clear hF hL; intro W hL hF))
     exact ⟨rfl, rfl, hL.sub (by simp)⟩
    | true =>
     rw [hv] at HB HVA
     replace HB : R = .ok (C ++ (encS op ia ib ic).data.toList) := HB
     have HEN := Lib.hid (fun W hT => Encode_any op ia ib ic W hT)
     obtain ⟨en, hen⟩ : ∃ en, encS op ia ib ic = en := ⟨_, rfl⟩
     have hel : en.size ≤ 4 := by rw [← hen]; unfold encS; split <;> simp [encB, ByteArray.size]
     rw [hen] at HEN HB
     subst HB
     clear hen
     go_wp2_with (first | ((with_reducible refine ks ?_); clear hL; intro W hL hF) | ((with_reducible refine at_region 1 ?_); refine kW [0, 1, 2, 3, 4, 5, 6, 7, 8, 9] [0, 1, 2, 3, 4, 5, 6, 7, 8, 9] [] [0, 1, 2, 4, 5, 6, 7, 9] ?_; clear hF hL; intro ι F hne hC hG; (repeat (first | (refine cF hC ?_; intro K hK; go_big_quiet_op; go_big_quiet_on) | (refine cP ?_; intro K hK; go_big_quiet_op; go_big_quiet_on))); refine cwk_nil ?_; clear hC hG; intro W hL; have hF := hL.fx) | (go_at_call 63; refine kc (fun W hL => HDN.out _ (kn_old hL x1 hgY)) ?_; clear hF hL; intro W hL hF) | (go_at_call 65; refine kc (fun W hL => HIN.out _ _ hL) ?_; clear hF hL; intro W hL hF) | (go_at_call 18; refine kc (fun W hL => HVA.out _ ((hT.kn hL h14).i)) ?_; clear hF hL; intro W hL hF) | ((with_reducible refine at_region 9 ?_); refine kW [0, 1, 2, 3, 4, 5, 6, 7, 8, 9, 10] [0, 1, 2, 3, 4, 5, 8, 9] [7, 10] [0, 1, 2, 3, 8, 9] ?_; clear hF hL; intro ι F hne hC hG; (repeat (first | (refine cS ?_) | (refine cF hC ?_; intro K hK; go_big_quiet_op; go_big_quiet_on) | (refine cP ?_; intro K hK; go_big_quiet_op; go_big_quiet_on) | (refine cC ?_; intro W hL; have hF := hL.fx; simp only [ka, Act.eval]; go_at_call 20; (with_reducible refine (HEN.out _ ((hT.kn hL h14).i)).mono ?_); rintro e W ⟨rfl, hb⟩; replace hL := hL.below hb; clear hb hF; have hF := hL.fx; refine ko ?_; clear hL hF; simp only [Act.put, kT]) | (refine cN ?_; intro W hL; have hF := hL.fx; at_builtin; go_loud (refine wpList_append_end rfl _ _ 47 9 rfl [_, (ab, .cells #[.map (some mb), _] 61 (0, 0))] LPk hL C.length en.size (bc C) (bc en.data.toList) _ _ HRC.out rfl rfl (fun ho => run_append_s (by rw [HCL.out]; omega) ho) ?_); intro LPn an cpn W2 hL2 hrn; clear hL hF; have hL := hL2; clear hL2; simp only [kfb] at hL; have hF := hL.fx; go_wp2; refine kb2 ?_; clear hL hF hC hG; intro ι F hne hC hG) | (refine cN ?_; intro W hL; have hF := hL.fx; go_wp2; refine kb2 ?_; clear hL hF hC hG; intro ι F hne hC hG))); refine cwk_nil ?_; clear hC hG; intro W hL; simp only [kfb] at hL; have hF := hL.fx))
     go_end0
     exact ⟨rfl, LPn, _, by rw [List.length_append, szl, bc_app]; exact hrn, hL.sub (List.sublist_cons_self _ _)⟩
end Go.Proofs.YtfdlifhkeicnnaaGreatDoor
