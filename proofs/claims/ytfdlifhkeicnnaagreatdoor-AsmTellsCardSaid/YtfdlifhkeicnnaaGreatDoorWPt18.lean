/- Lemmas and walks for the law LawTells (part 18). -/
import Derived.Test.YtfdlifhkeicnnaaGreatDoorWPt17
import Derived.Test.YtfdlifhkeicnnaaGreatDoorProg
import Derived.WalkKit
import Derived.Handy
import Derived.Deep.Light
import Derived.WalkSmall
import Derived.StillTailTactics
import Derived.Lib.Hide
set_option maxRecDepth 20000
set_option maxHeartbeats 4000000
set_option linter.unusedVariables false
set_option linter.unusedSimpArgs false
namespace Go.Proofs.YtfdlifhkeicnnaaGreatDoor
open Go Go.RowKit
theorem measW_D1 (ab mb g xo n : Nat) (es : Array MapEntry) (clock : Nat) (Lb : Labs) (cur : Array Value) (x : Stm) (sop : ByteArray) (vl vo : Value) (w : World) (hL0 : Kn [mb, g] w w [(mb, .map es clock), (g, .cells cur 64 (0, 0))]) (hA : w.cell? ⟨ab, 0, none⟩ = some (.map (some mb))) (ha1 : ab ≠ mb) (ha2 : ab ≠ g) (hM : MapV Tryz.prog 9 es (lv Lb)) (hLn : ∀ p ∈ Lb, p.2 ≤ 100000) (hLl : Lb.length ≤ 1000000000000) (hS : StIn w mb g xo cur x sop vl vo) (hn : n ≤ 4096) (hT : TabA w) (h14 : ∀ y ∈ [mb, g], 14 ≤ y) (hso : sop = ⟨#[46, 119, 111, 114, 100]⟩) : Calls Tryz.prog 34 #[.pointer (some ⟨ab, 0, none⟩), .pointer (some ⟨g, xo, none⟩), .int .i64 n] w (MeasP (measure OO x n Lb) mb g xo cur w) := by
 subst hso
 have hfi : findI ⟨#[46, 119, 111, 114, 100]⟩ = -1 := find_dirs.2.1
 have HFI := Lib.hid (fun W hT => Find_no ⟨#[46, 119, 111, 114, 100]⟩ hfi W hT)
 have hAl := aligned_is n (by omega)
 have hfe := func_eq
 have HFS := Lib.hid (show OO.find x.op = none from by rw [hS.op]; exact find_none hfi)
 have HNE := Lib.hid (show x.op ≠ [] from by rw [hS.op]; simp)
 have HDW := Lib.hid (show aligned n = if x.op = dWord then aligned n else n from by rw [hS.op]; rfl)
 have HDR := Lib.hid (show isDir x.op = true from by rw [hS.op]; rfl)
 clear hfi
 obtain ⟨at_, hat⟩ : ∃ at_ : Nat, aligned n = at_ := ⟨_, rfl⟩
 have hat2 : at_ ≤ 4099 := by unfold aligned at hat; omega
 obtain ⟨d0, d1, d2, d3⟩ := hS.set (at_ : Int)
 obtain ⟨cur2, hc2⟩ : ∃ c, cur.setIfInBounds (xo + 3) (.int .i64 (at_ : Int)) = c := ⟨_, rfl⟩
 rw [hc2] at d0 d1 d2 d3
 have HC2 := Lib.hid hc2
 clear hc2
 have lab := cell_lt hA
 obtain ⟨c0, c1, c2, ⟨a3, c3⟩, hop, hvl, hvo, hsl, hso, hsp, hnl, hno⟩ := hS
 obtain ⟨al, cl, rfl, hlc⟩ := rowO_open hvl
 have HLC := Lib.hid hlc
 have HSL := Lib.hid hsl
 have HSO := Lib.hid hso
 have HVO := Lib.hid hvo
 have HLB := Lib.hid hLn
 have HOP := Lib.hid hop
 obtain ⟨nl, hnl2⟩ : ∃ nl, x.labels.length = nl := ⟨_, rfl⟩
 rw [hnl2] at c0 d0 hnl
 have HNL := Lib.hid hnl2
 clear hlc hsl hso hvl hvo hLn hop hnl2
 obtain ⟨R, hR⟩ : ∃ R, measure OO x n Lb = R := ⟨_, rfl⟩
 have HR := Lib.hid hR
 rw [hR]
 clear hR
 have hL := hL0
 have hF := hL.fx
 rw [hat] at hAl
 go_enter Tryz.func34, Tryz.ntmps34
 go_wp2_with (first | (go_at_call 61; refine kc (fun W hL => HFI.out _ ((hT.kn hL h14).i)) ?_; clear hF hL; intro W hL hF) | (go_at_call 62; (with_reducible refine (hAl _).mono ?_); rintro e w' ⟨rfl, rfl⟩) | (go_at_call 63; refine kG ?_; clear hF hL; intro W hL hF; (with_reducible refine (directive_1 ab g xo _ ((kn_cell hL (List.mem_cons_of_mem _ List.mem_cons_self) _).trans c1)).mono ?_); rintro e W ⟨b6, b3, rfl, hb⟩; replace hL := hL.join hb; clear hb hF; simp only [kfb] at hL; have hF := hL.fx))
 go_loopw [11, 42] (fun a i wr => ∃ k : Nat, k ≤ nl ∧ i = .int .i64 k ∧ Hid (∀ j < k, ∀ p, x.labels[j]? = some p → named p = true) ∧ Kn [mb, g] w wr [(b6, .cells #[Value.func (.func 96) #[.pointer (some ⟨ab, 0, none⟩)] #[]] 130 (0, 0)), (b3, .cells #[.pointer (some ⟨g, xo, none⟩)] 66 (0, 0)), (mb, .map es clock), (g, .cells cur 64 (0, 0))]) (fun _ i _ => nl - (intOf i).toNat)
 case atStart => exact ⟨0, by omega, rfl, Lib.hid (fun j hj => by omega), hL⟩
 case round =>
  clear hL
  obtain ⟨k, hk, rfl, HI, hL⟩ := hrel
  have hF := hL.fx
  by_cases hlt : k < nl
  ·obtain ⟨p, hp⟩ : ∃ p, x.labels[k]? = some p := ⟨_, List.getElem?_eq_getElem (by rw [HNL.out]; omega)⟩
   obtain ⟨gl, ol, rfl, hgy, hgs, hgc⟩ := HLC.out k p hp
   have hps := HSL.out p (List.mem_of_getElem? hp)
   obtain ⟨s, rfl⟩ : ∃ s : ByteArray, p = s.data.toList := ⟨⟨p.toArray⟩, by simp⟩
   rw [toList_mk] at hgc
   rw [szl] at hps
   have hg1 : ¬ gl = mb := fun e => hgy (by simp [e])
   have hg2 : ¬ gl = g := fun e => hgy (by simp [e])
   clear hgy
   have HP := Lib.hid hp
   clear hp
   cases hnm : named s.data.toList with
   | false =>
    have HB := HR.out.symm.trans (measure_bad HP.out hnm)
    subst HB
    have HN := Lib.hid hnm
    clear hnm
    go_wp2_with ((go_at_call 64; refine kc (fun W hL => named_eq s (by omega) _ HN _) ?_; clear hF hL; intro W hL hF))
    exact ⟨rfl, rfl, hL.sub (by simp)⟩
   | true =>
    have HN := Lib.hid hnm
    clear hnm
    go_wp2_with ((go_at_call 64; refine kc (fun W hL => named_eq s (by omega) _ HN _) ?_; clear hF hL; intro W hL hF))
    go_roundw
    case measure => simp [intOf]; omega
    case rel => exact ⟨k + 1, by omega, by go_num, Lib.hid (fun j hj p hp => by
     rcases Nat.lt_or_ge j k with h | h
     ·exact HI.out j h p hp
     ·obtain rfl : j = k := by omega
      rw [HP.out] at hp; cases hp; exact HN.out), hL⟩
  ·obtain rfl : k = nl := by omega
   have HAN := Lib.hid (show ∀ j < x.labels.length, ∀ p, x.labels[j]? = some p → named p = true from by rw [HNL.out]; exact HI.out)
   clear HI
   have HM := Lib.hid (HR.out.symm.trans (measure_D HAN.out HFS.out HDR.out HNE.out HDW.out))
   rw [hat] at HM
   go_wp2
   refine kn_wp ?_; clear hF hL; intro W hL; have hF := hL.fx
   rw [HC2.out] at hL
   go_loopw [13, 14, 15, 74] (fun a b c i wr => ∃ (j : Nat) (esk : Array MapEntry) (ckk : Nat) (Lk : Labs), j ≤ k ∧ i = .int .i64 j ∧ MapV Tryz.prog 9 esk (lv Lk) ∧ Hid (addL Lb (64 + at_) (x.labels.take j) = .ok Lk) ∧ Kn [mb, g] w wr [(b6, .cells #[Value.func (.func 96) #[.pointer (some ⟨ab, 0, none⟩)] #[]] 130 (0, 0)), (b3, .cells #[.pointer (some ⟨g, xo, none⟩)] 66 (0, 0)), (mb, .map esk ckk), (g, .cells cur2 64 (0, 0))]) (fun _ _ _ i _ => k - (intOf i).toNat)
   case atStart => exact ⟨0, _, _, Lb, by omega, rfl, hM, Lib.hid rfl, hL⟩
   case round =>
    clear hL
    obtain ⟨j, esk, ckk, Lk, hj, rfl, hMk, HI, hL⟩ := hrel
    have hF := hL.fx
    by_cases hlt : j < k
    ·obtain ⟨p, hp⟩ : ∃ p, x.labels[j]? = some p := ⟨_, List.getElem?_eq_getElem (by rw [HNL.out]; omega)⟩
     obtain ⟨gl, ol, rfl, hgy, hgs, hgc⟩ := HLC.out j p hp
     have hps := HSL.out p (List.mem_of_getElem? hp)
     obtain ⟨s, rfl⟩ : ∃ s : ByteArray, p = s.data.toList := ⟨⟨p.toArray⟩, by simp⟩
     rw [toList_mk] at hgc
     rw [szl] at hps
     have hg1 : ¬ gl = mb := fun e => hgy (by simp [e])
     have hg2 : ¬ gl = g := fun e => hgy (by simp [e])
     clear hgy
     have HP := Lib.hid hp
     clear hp
     cases hlk : look Lk s.data.toList with
     | some v =>
      have HB : R = .bad 5 := by have HB := HM.out; rw [addL_fail HI.out HP.out hlk] at HB; exact HB
      subst HB
      have HH := Lib.hid (look_hit hlk)
      clear hlk
      go_wp2_with ((at_lookup; go_loud (refine wpList_hit rfl _ _ _ rfl strlaw under_labs (hL.has _ (List.mem_cons_of_mem _ (List.mem_cons_of_mem _ List.mem_cons_self))) hMk rfl _ (.int .i64 v) rfl HH.out ?_); simp only [if_true]))
      exact ⟨rfl, rfl, hL.sub (by simp)⟩
     | none =>
      have HH := Lib.hid (look_miss hlk)
      have HN2 := Lib.hid (addL_next HI.out HP.out hlk)
      have hLkl := addL_len HI.out
      have hLkl2 : Lk.length ≤ 2000000000000 := by rw [hLkl, List.length_take]; have := HNL.out; omega
      clear hlk hLkl
      have s1 : IntKind.i64.wrap (64 + (at_ : Int)) = ((64 + at_ : Nat) : Int) := by rw [IntWalk.i64_in _ (by omega)]; omega
      go_wp2_with (first | (at_lookup; go_loud (refine wpList_miss rfl _ _ _ rfl strlaw under_labs _ zeroI (hL.has _ (List.mem_cons_of_mem _ (List.mem_cons_of_mem _ List.mem_cons_self))) hMk rfl _ _ rfl (strkey s (by omega)) HH.out ?_); simp only [if_true]) | (at_mapUpdate; refine kL ?_; clear hF hL; intro W hL hF; go_loud (refine wpList_new rfl _ _ _ rfl strlaw under_labs hL 2 rfl hMk (by rw [lv_len]; unfold maxLen; omega) rfl _ _ _ rfl rfl (strkey s (by omega)) HH.out ?_); intro W2 es2 ck2 hL2 hM2; clear hL hF; have hL := hL2; have hM2' := Lib.hid hM2; clear hL2 hM2; simp only [kfb] at hL; have hF := hL.fx))
      go_roundw
      case measure => simp [intOf]; omega
      case rel => exact ⟨j + 1, _, _, _, by omega, by go_num, by rw [lv_snoc]; exact hM2'.out, HN2, hL⟩
    ·obtain rfl : j = k := by omega
     have HB := HM.out
     rw [List.take_of_length_le (by rw [HNL.out]; omega)] at HI
     rw [HI.out] at HB
     have HLK := Lib.hid (addL_le HI.out (b := 100000) (by exact HLB.out) (by omega))
     replace HB : R = (direct OO Lk x false).bind fun b => if 4096 < at_ + b.length then .bad 6 else .ok (at_ + b.length, at_, Lk) := HB
     rw [direct_w HOP.out] at HB
     have HIN := Lib.hid (fun W (hL : Kn [mb, g] w W [(b6, .cells #[Value.func (.func 96) #[.pointer (some ⟨ab, 0, none⟩)] #[]] 130 (0, 0)), (b3, .cells #[.pointer (some ⟨g, xo, none⟩)] 66 (0, 0)), (mb, .map esk ckk), (g, .cells cur2 64 (0, 0))]) => clo_1 ab g xo b6 b3 false _ W (by rw [kn_cell hL List.mem_cons_self]; rfl) (by rw [kn_cell hL (List.mem_cons_of_mem _ List.mem_cons_self)]; rfl) (Lib.hid fun W' hK => words_is ab mb esk ckk Lk g xo vo x.ops false W' (kn_old hK (kn_old hL hA (by simp [ha1, ha2])) (by simp)) ((hK.block mb (hL.lt (List.mem_cons_of_mem _ (List.mem_cons_of_mem _ List.mem_cons_self))) (by simp)).trans (hL.has _ (List.mem_cons_of_mem _ (List.mem_cons_of_mem _ List.mem_cons_self)))) hMk HLK.out (kn_old hK ((kn_cell hL (List.mem_cons_of_mem _ (List.mem_cons_of_mem _ (List.mem_cons_of_mem _ List.mem_cons_self))) _).trans d2) (by simp)) ((HVO.out.kn hL (fun y hy => .inl hy)).row.kn hK (by simp)) HSO.out hno ((hT.kn hL h14).kn hK (by simp))))
     cases hd : wordsR Lk false x.ops with
     | bad m =>
      rw [hd] at HB HIN
      replace HB : R = .bad m := HB
      subst HB
      clear hd
      go_wp2_with ((go_at_call 99; refine kc (fun W hL => HIN.out _ hL) ?_; clear hF hL; intro W hL hF))
      exact ⟨rfl, rfl, hL.sub (by simp)⟩
     | ok u =>
      rw [hd] at HB HIN
      replace HB : R = if 4096 < at_ + u.length then .bad 6 else .ok (at_ + u.length, at_, Lk) := HB
      have hul : u.length ≤ 1000000 := by have := wordsR_len hd; omega
      obtain ⟨ul, hul2⟩ : ∃ ul, u.length = ul := ⟨_, rfl⟩
      rw [hul2] at HB hul
      have s1 : IntKind.i64.wrap ((at_ : Int) + (ul : Int)) = ((at_ + ul : Nat) : Int) := by rw [IntWalk.i64_in _ (by omega)]; omega
      obtain ⟨sz, hsz⟩ : ∃ sz : Nat, at_ + ul = sz := ⟨_, rfl⟩
      rw [hsz] at HB s1
      have HIN2 := Lib.hid (fun W hL => (HIN.out W hL).mono (P := Tryz.prog) (R' := fun e w' => (∃ gu cap, e = .returned (.slice (some ⟨gu, 0, none⟩) ul cap)) ∧ Below W.heap.size W w') (fun e w' hp => by
       obtain ⟨gu, cap, cu, fu, h1, _, h2⟩ := hp
       rw [hul2] at h1
       exact ⟨⟨gu, cap, h1⟩, h2.below0⟩))
      clear HIN
      by_cases hbig : 4096 < sz
      ·replace HB : R = .bad 6 := HB.trans (if_pos hbig)
       subst HB
       have t1 : (4096 : Int) < (sz : Int) := by omega
       clear hd hul2
       go_wp2_with ((go_at_call 99; refine kG ?_; clear hF hL; intro W hL hF; (with_reducible refine (HIN2.out _ hL).mono ?_); rintro e W ⟨⟨gu, cap, rfl⟩, hb⟩; replace hL := hL.below hb; clear hb hF; have hF := hL.fx))
       exact ⟨rfl, rfl, hL.sub (by simp)⟩
      ·replace HB : R = .ok (sz, at_, Lk) := HB.trans (if_neg hbig)
       subst HB
       have t1 : ¬ (4096 : Int) < (sz : Int) := by omega
       clear hd hul2
       go_wp2_with ((go_at_call 99; refine kG ?_; clear hF hL; intro W hL hF; (with_reducible refine (HIN2.out _ hL).mono ?_); rintro e W ⟨⟨gu, cap, rfl⟩, hb⟩; replace hL := hL.below hb; clear hb hF; have hF := hL.fx))
       refine bodyPost_ret (by simp [results, Tryz.results34, go_sem, *]; try rfl) rfl ?_
       exact ⟨rfl, esk, ckk, hMk, by rw [HC2.out]; exact hL.sub (by apply List.Sublist.cons; apply List.Sublist.cons; exact List.Sublist.refl _)⟩
theorem measW_D2 (ab mb g xo n : Nat) (es : Array MapEntry) (clock : Nat) (Lb : Labs) (cur : Array Value) (x : Stm) (sop : ByteArray) (vl vo : Value) (w : World) (hL0 : Kn [mb, g] w w [(mb, .map es clock), (g, .cells cur 64 (0, 0))]) (hA : w.cell? ⟨ab, 0, none⟩ = some (.map (some mb))) (ha1 : ab ≠ mb) (ha2 : ab ≠ g) (hM : MapV Tryz.prog 9 es (lv Lb)) (hLn : ∀ p ∈ Lb, p.2 ≤ 100000) (hLl : Lb.length ≤ 1000000000000) (hS : StIn w mb g xo cur x sop vl vo) (hn : n ≤ 4096) (hT : TabA w) (h14 : ∀ y ∈ [mb, g], 14 ≤ y) (hso : sop = ⟨#[46, 116, 101, 120, 116]⟩) : Calls Tryz.prog 34 #[.pointer (some ⟨ab, 0, none⟩), .pointer (some ⟨g, xo, none⟩), .int .i64 n] w (MeasP (measure OO x n Lb) mb g xo cur w) := by
 subst hso
 have hfi : findI ⟨#[46, 116, 101, 120, 116]⟩ = -1 := find_dirs.2.2.1
 have HFI := Lib.hid (fun W hT => Find_no ⟨#[46, 116, 101, 120, 116]⟩ hfi W hT)
 have hAl := aligned_is n (by omega)
 have hfe := func_eq
 have HFS := Lib.hid (show OO.find x.op = none from by rw [hS.op]; exact find_none hfi)
 have HNE := Lib.hid (show x.op ≠ [] from by rw [hS.op]; simp)
 have HDW := Lib.hid (show n = if x.op = dWord then aligned n else n from by rw [hS.op]; rfl)
 have HDR := Lib.hid (show isDir x.op = true from by rw [hS.op]; rfl)
 clear hfi
 obtain ⟨at_, hat⟩ : ∃ at_ : Nat, n = at_ := ⟨_, rfl⟩
 have hat2 : at_ ≤ 4099 := by omega
 obtain ⟨d0, d1, d2, d3⟩ := hS.set (at_ : Int)
 obtain ⟨cur2, hc2⟩ : ∃ c, cur.setIfInBounds (xo + 3) (.int .i64 (at_ : Int)) = c := ⟨_, rfl⟩
 rw [hc2] at d0 d1 d2 d3
 have HC2 := Lib.hid hc2
 clear hc2
 have lab := cell_lt hA
 obtain ⟨c0, c1, c2, ⟨a3, c3⟩, hop, hvl, hvo, hsl, hso, hsp, hnl, hno⟩ := hS
 obtain ⟨al, cl, rfl, hlc⟩ := rowO_open hvl
 have HLC := Lib.hid hlc
 have HSL := Lib.hid hsl
 have HSO := Lib.hid hso
 have HVO := Lib.hid hvo
 have HLB := Lib.hid hLn
 have HOP := Lib.hid hop
 obtain ⟨nl, hnl2⟩ : ∃ nl, x.labels.length = nl := ⟨_, rfl⟩
 rw [hnl2] at c0 d0 hnl
 have HNL := Lib.hid hnl2
 clear hlc hsl hso hvl hvo hLn hop hnl2
 obtain ⟨R, hR⟩ : ∃ R, measure OO x n Lb = R := ⟨_, rfl⟩
 have HR := Lib.hid hR
 rw [hR]
 clear hR
 have hL := hL0
 have hF := hL.fx
 go_enter Tryz.func34, Tryz.ntmps34
 go_wp2_with (first | (go_at_call 61; refine kc (fun W hL => HFI.out _ ((hT.kn hL h14).i)) ?_; clear hF hL; intro W hL hF) | (go_at_call 63; refine kG ?_; clear hF hL; intro W hL hF; (with_reducible refine (directive_2 ab g xo _ ((kn_cell hL (List.mem_cons_of_mem _ List.mem_cons_self) _).trans c1)).mono ?_); rintro e W ⟨b6, b3, rfl, hb⟩; replace hL := hL.join hb; clear hb hF; simp only [kfb] at hL; have hF := hL.fx))
 go_loopw [11, 42] (fun a i wr => ∃ k : Nat, k ≤ nl ∧ i = .int .i64 k ∧ Hid (∀ j < k, ∀ p, x.labels[j]? = some p → named p = true) ∧ Kn [mb, g] w wr [(b6, .cells #[Value.func (.func 97) #[.pointer (some ⟨ab, 0, none⟩)] #[]] 130 (0, 0)), (b3, .cells #[.pointer (some ⟨g, xo, none⟩)] 66 (0, 0)), (mb, .map es clock), (g, .cells cur 64 (0, 0))]) (fun _ i _ => nl - (intOf i).toNat)
 case atStart => exact ⟨0, by omega, rfl, Lib.hid (fun j hj => by omega), hL⟩
 case round =>
  clear hL
  obtain ⟨k, hk, rfl, HI, hL⟩ := hrel
  have hF := hL.fx
  by_cases hlt : k < nl
  ·obtain ⟨p, hp⟩ : ∃ p, x.labels[k]? = some p := ⟨_, List.getElem?_eq_getElem (by rw [HNL.out]; omega)⟩
   obtain ⟨gl, ol, rfl, hgy, hgs, hgc⟩ := HLC.out k p hp
   have hps := HSL.out p (List.mem_of_getElem? hp)
   obtain ⟨s, rfl⟩ : ∃ s : ByteArray, p = s.data.toList := ⟨⟨p.toArray⟩, by simp⟩
   rw [toList_mk] at hgc
   rw [szl] at hps
   have hg1 : ¬ gl = mb := fun e => hgy (by simp [e])
   have hg2 : ¬ gl = g := fun e => hgy (by simp [e])
   clear hgy
   have HP := Lib.hid hp
   clear hp
   cases hnm : named s.data.toList with
   | false =>
    have HB := HR.out.symm.trans (measure_bad HP.out hnm)
    subst HB
    have HN := Lib.hid hnm
    clear hnm
    go_wp2_with ((go_at_call 64; refine kc (fun W hL => named_eq s (by omega) _ HN _) ?_; clear hF hL; intro W hL hF))
    exact ⟨rfl, rfl, hL.sub (by simp)⟩
   | true =>
    have HN := Lib.hid hnm
    clear hnm
    go_wp2_with ((go_at_call 64; refine kc (fun W hL => named_eq s (by omega) _ HN _) ?_; clear hF hL; intro W hL hF))
    go_roundw
    case measure => simp [intOf]; omega
    case rel => exact ⟨k + 1, by omega, by go_num, Lib.hid (fun j hj p hp => by
     rcases Nat.lt_or_ge j k with h | h
     ·exact HI.out j h p hp
     ·obtain rfl : j = k := by omega
      rw [HP.out] at hp; cases hp; exact HN.out), hL⟩
  ·obtain rfl : k = nl := by omega
   have HAN := Lib.hid (show ∀ j < x.labels.length, ∀ p, x.labels[j]? = some p → named p = true from by rw [HNL.out]; exact HI.out)
   clear HI
   have HM := Lib.hid (HR.out.symm.trans (measure_D HAN.out HFS.out HDR.out HNE.out HDW.out))
   rw [hat] at HM
   go_wp2
   refine kn_wp ?_; clear hF hL; intro W hL; have hF := hL.fx
   rw [HC2.out] at hL
   go_loopw [13, 14, 15, 74] (fun a b c i wr => ∃ (j : Nat) (esk : Array MapEntry) (ckk : Nat) (Lk : Labs), j ≤ k ∧ i = .int .i64 j ∧ MapV Tryz.prog 9 esk (lv Lk) ∧ Hid (addL Lb (64 + at_) (x.labels.take j) = .ok Lk) ∧ Kn [mb, g] w wr [(b6, .cells #[Value.func (.func 97) #[.pointer (some ⟨ab, 0, none⟩)] #[]] 130 (0, 0)), (b3, .cells #[.pointer (some ⟨g, xo, none⟩)] 66 (0, 0)), (mb, .map esk ckk), (g, .cells cur2 64 (0, 0))]) (fun _ _ _ i _ => k - (intOf i).toNat)
   case atStart => exact ⟨0, _, _, Lb, by omega, rfl, hM, Lib.hid rfl, hL⟩
   case round =>
    clear hL
    obtain ⟨j, esk, ckk, Lk, hj, rfl, hMk, HI, hL⟩ := hrel
    have hF := hL.fx
    by_cases hlt : j < k
    ·obtain ⟨p, hp⟩ : ∃ p, x.labels[j]? = some p := ⟨_, List.getElem?_eq_getElem (by rw [HNL.out]; omega)⟩
     obtain ⟨gl, ol, rfl, hgy, hgs, hgc⟩ := HLC.out j p hp
     have hps := HSL.out p (List.mem_of_getElem? hp)
     obtain ⟨s, rfl⟩ : ∃ s : ByteArray, p = s.data.toList := ⟨⟨p.toArray⟩, by simp⟩
     rw [toList_mk] at hgc
     rw [szl] at hps
     have hg1 : ¬ gl = mb := fun e => hgy (by simp [e])
     have hg2 : ¬ gl = g := fun e => hgy (by simp [e])
     clear hgy
     have HP := Lib.hid hp
     clear hp
     cases hlk : look Lk s.data.toList with
     | some v =>
      have HB : R = .bad 5 := by have HB := HM.out; rw [addL_fail HI.out HP.out hlk] at HB; exact HB
      subst HB
      have HH := Lib.hid (look_hit hlk)
      clear hlk
      go_wp2_with ((at_lookup; go_loud (refine wpList_hit rfl _ _ _ rfl strlaw under_labs (hL.has _ (List.mem_cons_of_mem _ (List.mem_cons_of_mem _ List.mem_cons_self))) hMk rfl _ (.int .i64 v) rfl HH.out ?_); simp only [if_true]))
      exact ⟨rfl, rfl, hL.sub (by simp)⟩
     | none =>
      have HH := Lib.hid (look_miss hlk)
      have HN2 := Lib.hid (addL_next HI.out HP.out hlk)
      have hLkl := addL_len HI.out
      have hLkl2 : Lk.length ≤ 2000000000000 := by rw [hLkl, List.length_take]; have := HNL.out; omega
      clear hlk hLkl
      have s1 : IntKind.i64.wrap (64 + (at_ : Int)) = ((64 + at_ : Nat) : Int) := by rw [IntWalk.i64_in _ (by omega)]; omega
      go_wp2_with (first | (at_lookup; go_loud (refine wpList_miss rfl _ _ _ rfl strlaw under_labs _ zeroI (hL.has _ (List.mem_cons_of_mem _ (List.mem_cons_of_mem _ List.mem_cons_self))) hMk rfl _ _ rfl (strkey s (by omega)) HH.out ?_); simp only [if_true]) | (at_mapUpdate; refine kL ?_; clear hF hL; intro W hL hF; go_loud (refine wpList_new rfl _ _ _ rfl strlaw under_labs hL 2 rfl hMk (by rw [lv_len]; unfold maxLen; omega) rfl _ _ _ rfl rfl (strkey s (by omega)) HH.out ?_); intro W2 es2 ck2 hL2 hM2; clear hL hF; have hL := hL2; have hM2' := Lib.hid hM2; clear hL2 hM2; simp only [kfb] at hL; have hF := hL.fx))
      go_roundw
      case measure => simp [intOf]; omega
      case rel => exact ⟨j + 1, _, _, _, by omega, by go_num, by rw [lv_snoc]; exact hM2'.out, HN2, hL⟩
    ·obtain rfl : j = k := by omega
     have HB := HM.out
     rw [List.take_of_length_le (by rw [HNL.out]; omega)] at HI
     rw [HI.out] at HB
     have HLK := Lib.hid (addL_le HI.out (b := 100000) (by exact HLB.out) (by omega))
     replace HB : R = (direct OO Lk x false).bind fun b => if 4096 < at_ + b.length then .bad 6 else .ok (at_ + b.length, at_, Lk) := HB
     rw [direct_t HOP.out] at HB
     have HIN := Lib.hid (fun W (hL : Kn [mb, g] w W [(b6, .cells #[Value.func (.func 97) #[.pointer (some ⟨ab, 0, none⟩)] #[]] 130 (0, 0)), (b3, .cells #[.pointer (some ⟨g, xo, none⟩)] 66 (0, 0)), (mb, .map esk ckk), (g, .cells cur2 64 (0, 0))]) => clo_2 ab g xo b6 b3 false _ W (by rw [kn_cell hL List.mem_cons_self]; rfl) (by rw [kn_cell hL (List.mem_cons_of_mem _ List.mem_cons_self)]; rfl) (Lib.hid fun W' hK => text_is ab g xo vo x.ops false W' (kn_old hK ((kn_cell hL (List.mem_cons_of_mem _ (List.mem_cons_of_mem _ (List.mem_cons_of_mem _ List.mem_cons_self))) _).trans d2) (by simp)) ((HVO.out.kn hL (fun y hy => .inl hy)).row.kn hK (by simp)) HSO.out hno ((hT.kn hL h14).kn hK (by simp))))
     cases hd : textR x.ops with
     | bad m =>
      rw [hd] at HB HIN
      replace HB : R = .bad m := HB
      subst HB
      clear hd
      go_wp2_with ((go_at_call 99; refine kc (fun W hL => HIN.out _ hL) ?_; clear hF hL; intro W hL hF))
      exact ⟨rfl, rfl, hL.sub (by simp)⟩
     | ok u =>
      rw [hd] at HB HIN
      replace HB : R = if 4096 < at_ + u.length then .bad 6 else .ok (at_ + u.length, at_, Lk) := HB
      have hul : u.length ≤ 1000000 := by have := textR_len hd HSO.out; omega
      obtain ⟨ul, hul2⟩ : ∃ ul, u.length = ul := ⟨_, rfl⟩
      rw [hul2] at HB hul
      have s1 : IntKind.i64.wrap ((at_ : Int) + (ul : Int)) = ((at_ + ul : Nat) : Int) := by rw [IntWalk.i64_in _ (by omega)]; omega
      obtain ⟨sz, hsz⟩ : ∃ sz : Nat, at_ + ul = sz := ⟨_, rfl⟩
      rw [hsz] at HB s1
      have HIN2 := Lib.hid (fun W hL => (HIN.out W hL).mono (P := Tryz.prog) (R' := fun e w' => (∃ gu cap, e = .returned (.slice (some ⟨gu, 0, none⟩) ul cap)) ∧ Below W.heap.size W w') (fun e w' hp => by
       obtain ⟨gu, cap, cu, fu, h1, _, h2⟩ := hp
       rw [hul2] at h1
       exact ⟨⟨gu, cap, h1⟩, h2.below0⟩))
      clear HIN
      by_cases hbig : 4096 < sz
      ·replace HB : R = .bad 6 := HB.trans (if_pos hbig)
       subst HB
       have t1 : (4096 : Int) < (sz : Int) := by omega
       clear hd hul2
       go_wp2_with ((go_at_call 99; refine kG ?_; clear hF hL; intro W hL hF; (with_reducible refine (HIN2.out _ hL).mono ?_); rintro e W ⟨⟨gu, cap, rfl⟩, hb⟩; replace hL := hL.below hb; clear hb hF; have hF := hL.fx))
       exact ⟨rfl, rfl, hL.sub (by simp)⟩
      ·replace HB : R = .ok (sz, at_, Lk) := HB.trans (if_neg hbig)
       subst HB
       have t1 : ¬ (4096 : Int) < (sz : Int) := by omega
       clear hd hul2
       go_wp2_with ((go_at_call 99; refine kG ?_; clear hF hL; intro W hL hF; (with_reducible refine (HIN2.out _ hL).mono ?_); rintro e W ⟨⟨gu, cap, rfl⟩, hb⟩; replace hL := hL.below hb; clear hb hF; have hF := hL.fx))
       refine bodyPost_ret (by simp [results, Tryz.results34, go_sem, *]; try rfl) rfl ?_
       exact ⟨rfl, esk, ckk, hMk, by rw [HC2.out]; exact hL.sub (by apply List.Sublist.cons; apply List.Sublist.cons; exact List.Sublist.refl _)⟩
theorem measW_D3 (ab mb g xo n : Nat) (es : Array MapEntry) (clock : Nat) (Lb : Labs) (cur : Array Value) (x : Stm) (sop : ByteArray) (vl vo : Value) (w : World) (hL0 : Kn [mb, g] w w [(mb, .map es clock), (g, .cells cur 64 (0, 0))]) (hA : w.cell? ⟨ab, 0, none⟩ = some (.map (some mb))) (ha1 : ab ≠ mb) (ha2 : ab ≠ g) (hM : MapV Tryz.prog 9 es (lv Lb)) (hLn : ∀ p ∈ Lb, p.2 ≤ 100000) (hLl : Lb.length ≤ 1000000000000) (hS : StIn w mb g xo cur x sop vl vo) (hn : n ≤ 4096) (hT : TabA w) (h14 : ∀ y ∈ [mb, g], 14 ≤ y) (hso : sop = ⟨#[46, 115, 112, 97, 99, 101]⟩) : Calls Tryz.prog 34 #[.pointer (some ⟨ab, 0, none⟩), .pointer (some ⟨g, xo, none⟩), .int .i64 n] w (MeasP (measure OO x n Lb) mb g xo cur w) := by
 subst hso
 have hfi : findI ⟨#[46, 115, 112, 97, 99, 101]⟩ = -1 := find_dirs.2.2.2.1
 have HFI := Lib.hid (fun W hT => Find_no ⟨#[46, 115, 112, 97, 99, 101]⟩ hfi W hT)
 have hAl := aligned_is n (by omega)
 have hfe := func_eq
 have HFS := Lib.hid (show OO.find x.op = none from by rw [hS.op]; exact find_none hfi)
 have HNE := Lib.hid (show x.op ≠ [] from by rw [hS.op]; simp)
 have HDW := Lib.hid (show n = if x.op = dWord then aligned n else n from by rw [hS.op]; rfl)
 have HDR := Lib.hid (show isDir x.op = true from by rw [hS.op]; rfl)
 clear hfi
 obtain ⟨at_, hat⟩ : ∃ at_ : Nat, n = at_ := ⟨_, rfl⟩
 have hat2 : at_ ≤ 4099 := by omega
 obtain ⟨d0, d1, d2, d3⟩ := hS.set (at_ : Int)
 obtain ⟨cur2, hc2⟩ : ∃ c, cur.setIfInBounds (xo + 3) (.int .i64 (at_ : Int)) = c := ⟨_, rfl⟩
 rw [hc2] at d0 d1 d2 d3
 have HC2 := Lib.hid hc2
 clear hc2
 have lab := cell_lt hA
 obtain ⟨c0, c1, c2, ⟨a3, c3⟩, hop, hvl, hvo, hsl, hso, hsp, hnl, hno⟩ := hS
 obtain ⟨al, cl, rfl, hlc⟩ := rowO_open hvl
 have HLC := Lib.hid hlc
 have HSL := Lib.hid hsl
 have HSO := Lib.hid hso
 have HVO := Lib.hid hvo
 have HLB := Lib.hid hLn
 have HOP := Lib.hid hop
 obtain ⟨nl, hnl2⟩ : ∃ nl, x.labels.length = nl := ⟨_, rfl⟩
 rw [hnl2] at c0 d0 hnl
 have HNL := Lib.hid hnl2
 clear hlc hsl hso hvl hvo hLn hop hnl2
 obtain ⟨R, hR⟩ : ∃ R, measure OO x n Lb = R := ⟨_, rfl⟩
 have HR := Lib.hid hR
 rw [hR]
 clear hR
 have hL := hL0
 have hF := hL.fx
 go_enter Tryz.func34, Tryz.ntmps34
 go_wp2_with (first | (go_at_call 61; refine kc (fun W hL => HFI.out _ ((hT.kn hL h14).i)) ?_; clear hF hL; intro W hL hF) | (go_at_call 63; refine kG ?_; clear hF hL; intro W hL hF; (with_reducible refine (directive_3 ab g xo _ ((kn_cell hL (List.mem_cons_of_mem _ List.mem_cons_self) _).trans c1)).mono ?_); rintro e W ⟨b6, b3, rfl, hb⟩; replace hL := hL.join hb; clear hb hF; simp only [kfb] at hL; have hF := hL.fx))
 go_loopw [11, 42] (fun a i wr => ∃ k : Nat, k ≤ nl ∧ i = .int .i64 k ∧ Hid (∀ j < k, ∀ p, x.labels[j]? = some p → named p = true) ∧ Kn [mb, g] w wr [(b6, .cells #[Value.func (.func 98) #[.pointer (some ⟨ab, 0, none⟩)] #[]] 130 (0, 0)), (b3, .cells #[.pointer (some ⟨g, xo, none⟩)] 66 (0, 0)), (mb, .map es clock), (g, .cells cur 64 (0, 0))]) (fun _ i _ => nl - (intOf i).toNat)
 case atStart => exact ⟨0, by omega, rfl, Lib.hid (fun j hj => by omega), hL⟩
 case round =>
  clear hL
  obtain ⟨k, hk, rfl, HI, hL⟩ := hrel
  have hF := hL.fx
  by_cases hlt : k < nl
  ·obtain ⟨p, hp⟩ : ∃ p, x.labels[k]? = some p := ⟨_, List.getElem?_eq_getElem (by rw [HNL.out]; omega)⟩
   obtain ⟨gl, ol, rfl, hgy, hgs, hgc⟩ := HLC.out k p hp
   have hps := HSL.out p (List.mem_of_getElem? hp)
   obtain ⟨s, rfl⟩ : ∃ s : ByteArray, p = s.data.toList := ⟨⟨p.toArray⟩, by simp⟩
   rw [toList_mk] at hgc
   rw [szl] at hps
   have hg1 : ¬ gl = mb := fun e => hgy (by simp [e])
   have hg2 : ¬ gl = g := fun e => hgy (by simp [e])
   clear hgy
   have HP := Lib.hid hp
   clear hp
   cases hnm : named s.data.toList with
   | false =>
    have HB := HR.out.symm.trans (measure_bad HP.out hnm)
    subst HB
    have HN := Lib.hid hnm
    clear hnm
    go_wp2_with ((go_at_call 64; refine kc (fun W hL => named_eq s (by omega) _ HN _) ?_; clear hF hL; intro W hL hF))
    exact ⟨rfl, rfl, hL.sub (by simp)⟩
   | true =>
    have HN := Lib.hid hnm
    clear hnm
    go_wp2_with ((go_at_call 64; refine kc (fun W hL => named_eq s (by omega) _ HN _) ?_; clear hF hL; intro W hL hF))
    go_roundw
    case measure => simp [intOf]; omega
    case rel => exact ⟨k + 1, by omega, by go_num, Lib.hid (fun j hj p hp => by
     rcases Nat.lt_or_ge j k with h | h
     ·exact HI.out j h p hp
     ·obtain rfl : j = k := by omega
      rw [HP.out] at hp; cases hp; exact HN.out), hL⟩
  ·obtain rfl : k = nl := by omega
   have HAN := Lib.hid (show ∀ j < x.labels.length, ∀ p, x.labels[j]? = some p → named p = true from by rw [HNL.out]; exact HI.out)
   clear HI
   have HM := Lib.hid (HR.out.symm.trans (measure_D HAN.out HFS.out HDR.out HNE.out HDW.out))
   rw [hat] at HM
   go_wp2
   refine kn_wp ?_; clear hF hL; intro W hL; have hF := hL.fx
   rw [HC2.out] at hL
   go_loopw [13, 14, 15, 74] (fun a b c i wr => ∃ (j : Nat) (esk : Array MapEntry) (ckk : Nat) (Lk : Labs), j ≤ k ∧ i = .int .i64 j ∧ MapV Tryz.prog 9 esk (lv Lk) ∧ Hid (addL Lb (64 + at_) (x.labels.take j) = .ok Lk) ∧ Kn [mb, g] w wr [(b6, .cells #[Value.func (.func 98) #[.pointer (some ⟨ab, 0, none⟩)] #[]] 130 (0, 0)), (b3, .cells #[.pointer (some ⟨g, xo, none⟩)] 66 (0, 0)), (mb, .map esk ckk), (g, .cells cur2 64 (0, 0))]) (fun _ _ _ i _ => k - (intOf i).toNat)
   case atStart => exact ⟨0, _, _, Lb, by omega, rfl, hM, Lib.hid rfl, hL⟩
   case round =>
    clear hL
    obtain ⟨j, esk, ckk, Lk, hj, rfl, hMk, HI, hL⟩ := hrel
    have hF := hL.fx
    by_cases hlt : j < k
    ·obtain ⟨p, hp⟩ : ∃ p, x.labels[j]? = some p := ⟨_, List.getElem?_eq_getElem (by rw [HNL.out]; omega)⟩
     obtain ⟨gl, ol, rfl, hgy, hgs, hgc⟩ := HLC.out j p hp
     have hps := HSL.out p (List.mem_of_getElem? hp)
     obtain ⟨s, rfl⟩ : ∃ s : ByteArray, p = s.data.toList := ⟨⟨p.toArray⟩, by simp⟩
     rw [toList_mk] at hgc
     rw [szl] at hps
     have hg1 : ¬ gl = mb := fun e => hgy (by simp [e])
     have hg2 : ¬ gl = g := fun e => hgy (by simp [e])
     clear hgy
     have HP := Lib.hid hp
     clear hp
     cases hlk : look Lk s.data.toList with
     | some v =>
      have HB : R = .bad 5 := by have HB := HM.out; rw [addL_fail HI.out HP.out hlk] at HB; exact HB
      subst HB
      have HH := Lib.hid (look_hit hlk)
      clear hlk
      go_wp2_with ((at_lookup; go_loud (refine wpList_hit rfl _ _ _ rfl strlaw under_labs (hL.has _ (List.mem_cons_of_mem _ (List.mem_cons_of_mem _ List.mem_cons_self))) hMk rfl _ (.int .i64 v) rfl HH.out ?_); simp only [if_true]))
      exact ⟨rfl, rfl, hL.sub (by simp)⟩
     | none =>
      have HH := Lib.hid (look_miss hlk)
      have HN2 := Lib.hid (addL_next HI.out HP.out hlk)
      have hLkl := addL_len HI.out
      have hLkl2 : Lk.length ≤ 2000000000000 := by rw [hLkl, List.length_take]; have := HNL.out; omega
      clear hlk hLkl
      have s1 : IntKind.i64.wrap (64 + (at_ : Int)) = ((64 + at_ : Nat) : Int) := by rw [IntWalk.i64_in _ (by omega)]; omega
      go_wp2_with (first | (at_lookup; go_loud (refine wpList_miss rfl _ _ _ rfl strlaw under_labs _ zeroI (hL.has _ (List.mem_cons_of_mem _ (List.mem_cons_of_mem _ List.mem_cons_self))) hMk rfl _ _ rfl (strkey s (by omega)) HH.out ?_); simp only [if_true]) | (at_mapUpdate; refine kL ?_; clear hF hL; intro W hL hF; go_loud (refine wpList_new rfl _ _ _ rfl strlaw under_labs hL 2 rfl hMk (by rw [lv_len]; unfold maxLen; omega) rfl _ _ _ rfl rfl (strkey s (by omega)) HH.out ?_); intro W2 es2 ck2 hL2 hM2; clear hL hF; have hL := hL2; have hM2' := Lib.hid hM2; clear hL2 hM2; simp only [kfb] at hL; have hF := hL.fx))
      go_roundw
      case measure => simp [intOf]; omega
      case rel => exact ⟨j + 1, _, _, _, by omega, by go_num, by rw [lv_snoc]; exact hM2'.out, HN2, hL⟩
    ·obtain rfl : j = k := by omega
     have HB := HM.out
     rw [List.take_of_length_le (by rw [HNL.out]; omega)] at HI
     rw [HI.out] at HB
     have HLK := Lib.hid (addL_le HI.out (b := 100000) (by exact HLB.out) (by omega))
     replace HB : R = (direct OO Lk x false).bind fun b => if 4096 < at_ + b.length then .bad 6 else .ok (at_ + b.length, at_, Lk) := HB
     rw [direct_s HOP.out] at HB
     have HIN := Lib.hid (fun W (hL : Kn [mb, g] w W [(b6, .cells #[Value.func (.func 98) #[.pointer (some ⟨ab, 0, none⟩)] #[]] 130 (0, 0)), (b3, .cells #[.pointer (some ⟨g, xo, none⟩)] 66 (0, 0)), (mb, .map esk ckk), (g, .cells cur2 64 (0, 0))]) => clo_3 ab g xo b6 b3 false _ W (by rw [kn_cell hL List.mem_cons_self]; rfl) (by rw [kn_cell hL (List.mem_cons_of_mem _ List.mem_cons_self)]; rfl) (Lib.hid fun W' hK => space_is ab g xo vo x.ops false W' (kn_old hK ((kn_cell hL (List.mem_cons_of_mem _ (List.mem_cons_of_mem _ (List.mem_cons_of_mem _ List.mem_cons_self))) _).trans d2) (by simp)) ((HVO.out.kn hL (fun y hy => .inl hy)).row.kn hK (by simp)) HSO.out hno ((hT.kn hL h14).kn hK (by simp))))
     cases hd : spaceR x.ops with
     | bad m =>
      rw [hd] at HB HIN
      replace HB : R = .bad m := HB
      subst HB
      clear hd
      go_wp2_with ((go_at_call 99; refine kc (fun W hL => HIN.out _ hL) ?_; clear hF hL; intro W hL hF))
      exact ⟨rfl, rfl, hL.sub (by simp)⟩
     | ok u =>
      rw [hd] at HB HIN
      replace HB : R = if 4096 < at_ + u.length then .bad 6 else .ok (at_ + u.length, at_, Lk) := HB
      have hul : u.length ≤ 1000000 := by have := spaceR_len hd; omega
      obtain ⟨ul, hul2⟩ : ∃ ul, u.length = ul := ⟨_, rfl⟩
      rw [hul2] at HB hul
      have s1 : IntKind.i64.wrap ((at_ : Int) + (ul : Int)) = ((at_ + ul : Nat) : Int) := by rw [IntWalk.i64_in _ (by omega)]; omega
      obtain ⟨sz, hsz⟩ : ∃ sz : Nat, at_ + ul = sz := ⟨_, rfl⟩
      rw [hsz] at HB s1
      have HIN2 := Lib.hid (fun W hL => (HIN.out W hL).mono (P := Tryz.prog) (R' := fun e w' => (∃ gu cap, e = .returned (.slice (some ⟨gu, 0, none⟩) ul cap)) ∧ Below W.heap.size W w') (fun e w' hp => by
       obtain ⟨gu, cap, cu, fu, h1, _, h2⟩ := hp
       rw [hul2] at h1
       exact ⟨⟨gu, cap, h1⟩, h2.below0⟩))
      clear HIN
      by_cases hbig : 4096 < sz
      ·replace HB : R = .bad 6 := HB.trans (if_pos hbig)
       subst HB
       have t1 : (4096 : Int) < (sz : Int) := by omega
       clear hd hul2
       go_wp2_with ((go_at_call 99; refine kG ?_; clear hF hL; intro W hL hF; (with_reducible refine (HIN2.out _ hL).mono ?_); rintro e W ⟨⟨gu, cap, rfl⟩, hb⟩; replace hL := hL.below hb; clear hb hF; have hF := hL.fx))
       exact ⟨rfl, rfl, hL.sub (by simp)⟩
      ·replace HB : R = .ok (sz, at_, Lk) := HB.trans (if_neg hbig)
       subst HB
       have t1 : ¬ (4096 : Int) < (sz : Int) := by omega
       clear hd hul2
       go_wp2_with ((go_at_call 99; refine kG ?_; clear hF hL; intro W hL hF; (with_reducible refine (HIN2.out _ hL).mono ?_); rintro e W ⟨⟨gu, cap, rfl⟩, hb⟩; replace hL := hL.below hb; clear hb hF; have hF := hL.fx))
       refine bodyPost_ret (by simp [results, Tryz.results34, go_sem, *]; try rfl) rfl ?_
       exact ⟨rfl, esk, ckk, hMk, by rw [HC2.out]; exact hL.sub (by apply List.Sublist.cons; apply List.Sublist.cons; exact List.Sublist.refl _)⟩
end Go.Proofs.YtfdlifhkeicnnaaGreatDoor
