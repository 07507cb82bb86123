/- Lemmas and walks for the law LawTells (part 39). -/
import Derived.Test.YtfdlifhkeicnnaaGreatDoorWPt38
import Derived.Test.YtfdlifhkeicnnaaGreatDoorProg
import Derived.WalkKit
import Derived.Handy
import Derived.Deep.Light
import Derived.WalkSmall
import Derived.StillTailTactics
import Derived.Lib.Hide
set_option maxRecDepth 20000
set_option maxHeartbeats 4000000
set_option linter.unusedVariables false
set_option linter.unusedSimpArgs false
namespace Go.Proofs.YtfdlifhkeicnnaaGreatDoor
open Go Go.RowKit
theorem refAssemble_is (src : ByteArray) (hs : src.size ≤ 2000) (w : World) : Calls Tryz.prog 21 #[.string src] w (AsmP (asm OO (linesB src.data.toList)) w) := by
  obtain ⟨Ls, hLs⟩ : ∃ l, linesB src.data.toList = l := ⟨_, rfl⟩
  obtain ⟨n, hn⟩ : ∃ n, Ls.length = n := ⟨_, rfl⟩
  have hll := lines_len src.data.toList
  have hj10 := join_len src.data.toList
  rw [hLs, hn, szl] at hll
  rw [hLs, szl] at hj10
  have HJ10 := Lib.hid (show ∀ k, (join10 (Ls.take k)).length ≤ 2001 from fun k => by
    have e : join10 Ls = join10 (Ls.take k) ++ join10 (Ls.drop k) := by rw [← join_app, List.take_append_drop]
    rw [e, List.length_append] at hj10
    omega)
  clear hj10
  obtain ⟨hn1, hLp, _⟩ := hll
  obtain ⟨A, hA⟩ : ∃ A, asm OO Ls = A := ⟨_, rfl⟩
  have HA := Lib.hid hA
  have HLP := Lib.hid hLp
  have HN := Lib.hid hn
  have HLN := Lib.hid (fun W => (refLines_any src (by omega) W).mono (R' := fun e w' => ∃ ad cap, e = .returned (.slice ad n cap) ∧ Hid (∀ (j : Nat) (s : ByteArray), Ls[j]? = some s.data.toList → ∃ g o, ad = some ⟨g, o, none⟩ ∧ g < w'.heap.size ∧ w'.cell? ⟨g, o + j, none⟩ = some (.string s)) ∧ Below W.heap.size W w') fun e w' h => by
    obtain ⟨v, h1, ⟨ad, cap, h2, h3⟩, h4⟩ := h
    rw [← lines_lns, hLs] at h2 h3
    refine ⟨ad, cap, by rw [h1, h2]; simp [strs, hn], Lib.hid fun j s hj => ?_, h4⟩
    obtain ⟨g, o, e1, e2⟩ := h3 j (.string s) (by simp [strs, hj, toList_mk])
    exact ⟨g, o, e1, cell_lt e2, e2⟩)
  rw [hLs, hA]
  have q0 : ¬ ((20000 : Int) < (src.size : Int)) := by omega
  clear hLs hA hLp hn
  have hL : Kn [] w w [] := Kn.refl [] w; have hF := hL.fx; go_enter Tryz.func21, Tryz.ntmps21
  go_wp2_with ((go_at_call 43; refine kG ?_; clear hF hL; intro W hL hF; (with_reducible refine (HLN.out _).mono ?_); rintro e W ⟨lad, lcap, rfl, HLC, hb⟩; replace hL := hL.below hb; clear hb hF; have hF := hL.fx))
  have HW1 := Lib.hid hL
  clear hL hF
  have hL : Kn [] W W [] := HW1.out.self0
  go_loopw [6, 7, 8, 9] (fun o6 o7 o8 o9 wr => ∃ (k size : Nat) (L6 L7 : List (Nat × Obj)) (xs : List (XT × Nat)) (L : Labs), k ≤ n ∧ size ≤ 4096 ∧ o8 = .int .i64 size ∧ o9 = .int .i64 k ∧ RowL 4 85 L6 o6 k (xs.flatMap rst) ∧ RowL 2 91 L7 o7 L.length (LVL L) ∧ Hid (pass1 OO ((Ls.take k).map read) 1 0 [] = .ok (xs.map psx, size, L)) ∧ Hid (∀ x ∈ xs.map (·.1), XOK (keys (L6 ++ L7)) wr x) ∧ Hid (LUn L ∧ L.length ≤ (join10 (Ls.take k)).length ∧ ∀ p ∈ L, p.2 ≤ 5000) ∧ Kn [] W wr (L6 ++ L7)) (fun _ _ _ i _ => n - (intOf i).toNat)
  case atStart => exact ⟨0, 0, [], [], [], [], by omega, by omega, rfl, rfl, RowL.nil, RowL.nil, Lib.hid rfl, Lib.hid (fun x hx => by simp at hx), Lib.hid ⟨lun_nil, by simp, fun p hp => by simp at hp⟩, hL⟩
  case round =>
    clear hL
    obtain ⟨k, size, L6, L7, xs, L, hk, hsz, rfl, rfl, hrow6, hrow7, HP1, HX, HLU, hL⟩ := hrel
    have HB := Lib.hid hL
    clear hL
    have hL := HB.out.self0
    have hF := hL.fx
    have HR6 := Lib.hid hrow6
    have HR7 := Lib.hid hrow7
    obtain ⟨ao6, cp6, hv6⟩ : ∃ ao cp, u6 = .slice ao k cp := by
      rcases hrow6 with ⟨_, rfl, h0, _⟩ | ⟨g2, cap2, cur2, _, rfl, _⟩
      · exact ⟨none, 0, by rw [h0]⟩
      · exact ⟨_, _, rfl⟩
    obtain ⟨nl, hnl⟩ : ∃ nl, L.length = nl := ⟨_, rfl⟩
    obtain ⟨ao7, cp7, hv7⟩ : ∃ ao cp, u7 = .slice ao nl cp := by
      rw [hnl] at hrow7
      rcases hrow7 with ⟨_, rfl, h0, _⟩ | ⟨g2, cap2, cur2, _, rfl, _⟩
      · exact ⟨none, 0, by rw [h0]⟩
      · exact ⟨_, _, rfl⟩
    have HNL := Lib.hid hnl
    clear hrow6 hrow7 hnl
    subst hv6 hv7
    by_cases hlt : k < n
    · obtain ⟨p, hp⟩ : ∃ p, Ls[k]? = some p := ⟨_, List.getElem?_eq_getElem (by rw [HN.out]; omega)⟩
      have hps := HLP.out p (List.mem_of_getElem? hp)
      obtain ⟨s, rfl⟩ : ∃ s : ByteArray, p = s.data.toList := ⟨⟨p.toArray⟩, by simp⟩
      rw [szl] at hps
      obtain ⟨gl, ol, rfl, hgl, hcl⟩ := HLC.out k s hp
      have HP := Lib.hid hp
      clear hp
      have hWr : W.heap.size ≤ wr.heap.size := HB.out.size
      have hcl2 : wr.cell? ⟨gl, ol + k, none⟩ = some (.string s) := by rw [World.cell?_of_block (HB.out.block gl hgl (by simp))]; exact hcl
      have hgl2 : gl < wr.heap.size := by omega
      have hgl3 : ∀ x ∈ keys (L6 ++ L7), x ≠ gl := fun x hx e => by
        obtain ⟨q, hq, rfl⟩ := List.mem_map.1 hx
        rcases HB.out.own q hq with h | h
        · omega
        · simp at h
      have HGL := Lib.hid hgl3
      clear hgl3 hcl hgl
      have HRD := Lib.hid (fun W (hL : Kn (keys (L6 ++ L7)) wr W (L6 ++ L7)) => readRO (keys (L6 ++ L7)) s (by omega) W (fun y hy => by obtain ⟨p, hp, rfl⟩ := List.mem_map.1 hy; exact hL.lt hp))
      go_wp2_with ((go_at_call 44; refine kG ?_; clear hF hL; intro W hL hF; (with_reducible refine (HRD.out _ hL).mono ?_); rintro e W2 ⟨vl, vo, sop, rfl, hxn, ⟨al, nl2, cl2, rfl⟩, ⟨ao2, no2, co2, rfl⟩, hb⟩; replace hL := hL.below hb; clear hb hF; have hF := hL.facts; have HXN := Lib.hid (fun x hx => (HX.out x hx).next hL); have HXW := Lib.hid hxn; have HB2 := Lib.hid (HB.out.tail0 hL); clear hL hF hxn; have hL := HB2.out.self0; have hF := hL.fx))
      obtain ⟨y, hy⟩ : ∃ y, read s.data.toList = y := ⟨_, rfl⟩
      have HY := Lib.hid hy
      rw [hy] at HXW
      clear hy
      have hop : y.op = sop.data.toList := HXW.out.op
      obtain ⟨ls, opb, ops⟩ := y
      simp only at hop
      subst hop
      have hszo : ∀ p ∈ ops, p.length ≤ 90000 := by have := read_sizes s.data.toList; rw [HY.out] at this; intro p hp; have := this.2.1 p hp; simp only [szl] at this; omega
      have hszl : ∀ p ∈ ls, p.length ≤ 90000 := by have := read_sizes s.data.toList; rw [HY.out] at this; intro p hp; have := this.1 p hp; simp only [szl] at this; omega
      have hol : ops.length ≤ 2010 := by have := (read_sizes s.data.toList).2.2.2.1; rw [HY.out, szl] at this; have h9 : ops.length ≤ s.size + 1 := this; omega
      have hll : ls.length ≤ 2010 := by have := (read_sizes s.data.toList).2.2.1; rw [HY.out, szl] at this; have h9 : ls.length ≤ s.size + 1 := this; omega
      obtain ⟨fv, hfv⟩ : ∃ z : Int, max (findI sop) 0 = z := ⟨_, rfl⟩
      obtain ⟨fb, hfb⟩ : ∃ z : Bool, decide (0 ≤ findI sop) = z := ⟨_, rfl⟩
      have HFI := Lib.hid (fun W => refFind_any sop W)
      rw [hfv, hfb] at HFI
      obtain ⟨isd, hisd⟩ : ∃ z : Bool, isDir sop.data.toList = z := ⟨_, rfl⟩
      obtain ⟨de, hde⟩ : ∃ z : Nat, dirE ⟨ls, sop.data.toList, ops⟩ = z := ⟨_, rfl⟩
      have HDR := Lib.hid (fun W (h : Row W (.slice ao2 no2 co2) (sv ops)) => refDir_is (.slice al nl2 cl2) (.slice ao2 no2 co2) sop ls ops 0 hszo (by omega) W h)
      unfold DirRQ at HDR
      simp only [hde, hisd] at HDR
      have HFV := Lib.hid hfv
      have HFB := Lib.hid hfb
      have HISD := Lib.hid hisd
      have HDE := Lib.hid hde
      have HSZO := Lib.hid hszo
      have HSZL := Lib.hid hszl
      clear hfv hfb hisd hde hszo hszl
      go_wp2_with (first | (go_at_call 45; refine kc (fun W hL => HFI.out _) ?_; clear hF hL; intro W hL hF) | (go_at_call 46; refine kG ?_; clear hF hL; intro W hL hF; (with_reducible refine (HDR.out _ ((HXW.out.vo.kn hL (fun y hy => .inl hy)).row)).mono ?_); rintro e W ⟨dn, hdn, rfl, hb⟩; replace hL := hL.below hb; clear hb hF; have hF := hL.fx))
      have HDN := Lib.hid hdn
      clear hdn
      have hrl : RowO (keys (L6 ++ L7)) W2 (.slice al nl2 cl2) (sv ls) := HXW.out.vl
      obtain ⟨avl, cvl, hvl, hvc⟩ := rowO_open hrl
      obtain ⟨nls, hnls⟩ : ∃ z, ls.length = z := ⟨_, rfl⟩
      rw [hnls] at hvl
      injection hvl with hv1 hv2 hv3
      subst hv1 hv2 hv3
      have HVC := Lib.hid hvc
      have HNLS := Lib.hid hnls
      have hll2 : nl2 ≤ 2010 := by omega
      clear hvc hrl hnls
      have hw2s : W2.heap.size ≤ W2.heap.size + 1 := by omega
      go_loopw [16] (fun i wr2 => ∃ j : Nat, j ≤ nl2 ∧ i = .int .i64 j ∧ Hid (∀ j', j' < j → ∀ z, ls[j']? = some z → named z = true) ∧ Kn (keys (L6 ++ L7)) W2 wr2 ((W2.heap.size, .cells #[.slice al nl2 cl2, .string sop, .slice ao2 no2 co2, .int .i64 0] 85 (0, 0)) :: (L6 ++ L7))) (fun i _ => nl2 - (intOf i).toNat)
      case atStart => exact ⟨0, by omega, rfl, Lib.hid (fun j hj => by omega), hL⟩
      case round =>
        clear hL
        clear hF
        obtain ⟨j, hj, rfl, HJ, hL⟩ := hrel
        have hF := hL.fx
        by_cases hltj : j < nl2
        · obtain ⟨z, hz⟩ : ∃ z, ls[j]? = some z := ⟨_, List.getElem?_eq_getElem (by rw [HNLS.out]; omega)⟩
          obtain ⟨gv, ov, rfl, hg1, hg2, hg3⟩ := HVC.out j z hz
          have hcz := kn_old hL hg3 hg1
          have hzs := HSZL.out z (List.mem_of_getElem? hz)
          obtain ⟨zb, rfl⟩ : ∃ s : ByteArray, z = s.data.toList := ⟨⟨z.toArray⟩, by simp⟩
          rw [toList_mk] at hcz
          rw [szl] at hzs
          have HNM := Lib.hid (fun W => refName_is zb (by omega) W)
          have HZ := Lib.hid hz
          clear hz hg3
          cases hnm : named zb.data.toList with
          | false =>
            rw [hnm] at HNM
            have HM := Lib.hid (show measure OO (read s.data.toList) size L = .bad 2 from by rw [HY.out]; exact mB_named (y := ⟨ls, sop.data.toList, ops⟩) HZ.out hnm)
            have hB := HA.out.symm.trans (asm_bad_at HP1.out HP.out HM.out)
            subst hB
            go_wp2_with ((go_at_call 12; refine kc (fun W hL => HNM.out _) ?_; clear hF hL; intro W hL hF))
            refine bodyPost_ret (by simp [results, Tryz.results21, go_sem, *]; try rfl) rfl ?_
            exact ⟨(HW1.out.tail0 (HB2.out.tail0 hL)).below0, rfl⟩
          | true =>
            rw [hnm] at HNM
            have HN2 := Lib.hid hnm
            clear hnm
            go_wp2_with ((go_at_call 12; refine kc (fun W hL => HNM.out _) ?_; clear hF hL; intro W hL hF))
            go_roundw
            case measure => simp [intOf]; omega
            case rel => exact ⟨j + 1, by omega, by go_num, Lib.hid (fun j' hj' z hz => by
              rcases Nat.lt_or_ge j' j with h | h
              · exact HJ.out j' h z hz
              · obtain rfl : j' = j := by omega
                rw [HZ.out] at hz; cases hz; exact HN2.out), hL⟩
        · obtain rfl : nl2 = j := by omega
          have HNAMED := Lib.hid (any_named (y := ⟨ls, sop.data.toList, ops⟩) fun j' z hz => HJ.out j' (by rw [← HNLS.out]; exact (List.getElem?_eq_some_iff.1 hz).1) z hz)
          have hnl3 : nl ≤ 2001 := by have h1 := HLU.out.2.1; have h2 := HJ10.out k; rw [HNL.out] at h1; omega
          have HFN := Lib.hid (find_fb HFB.out)
          cases fb with
          | true =>
            obtain ⟨at_, hat⟩ : ∃ z, atR ⟨ls, sop.data.toList, ops⟩ size = z := ⟨_, rfl⟩
            have HAT := Lib.hid hat
            have hat2 : ((size : Int) + 3) / 4 * 4 = (at_ : Int) := by
              unfold atR at hat
              rw [if_pos (.inl (by rw [HFN.out.1 rfl]; rfl))] at hat
              unfold aligned at hat
              omega
            have hat3 : at_ ≤ 4099 := by omega
            have HFO := Lib.hid (HFN.out.1 rfl)
            have HF0 := Lib.hid (of_decide_eq_true HFB.out)
            have hsne : sop.data.toList ≠ [] := (find_ne (HFN.out.1 rfl)).1
            have hse : sop.toList.isEmpty = false := by rw [Lib.toList_data]; cases hxx : sop.data.toList with | nil => exact absurd hxx hsne | cons a l => rfl
            have z1 : (sop.toList == []) = false := by rw [Lib.toList_data]; exact beq_false_of_ne hsne
            clear hsne
            have HK : Hid (sop.data.toList = [] ∨ OO.find sop.data.toList ≠ none ∨ isDir sop.data.toList = true) := Lib.hid (.inr (.inl (by rw [HFN.out.1 rfl]; simp)))
            have H0 : Hid (sop.data.toList = [] → ops = []) := Lib.hid (fun e => by have := HFN.out.1 rfl; rw [e, OO_fine.nil] at this; cases this)
            clear hat
            go_wp2
            refine kn_wp ?_; clear hF hL; intro W hL; simp only [kfb] at hL; have hF := hL.fx
            go_loopw [7, 17] (fun o7 i wr3 => ∃ (j nlj : Nat) (L7j : List (Nat × Obj)) (Lj : Labs) (aj : Option Addr) (cj : Nat), j ≤ nl2 ∧ nlj ≤ nl + j ∧ i = .int .i64 j ∧ o7 = .slice aj nlj cj ∧ Hid (Lj.length = nlj) ∧ Hid (RowL 2 91 L7j (.slice aj nlj cj) nlj (LVL Lj)) ∧ Hid (addL L (64 + at_) (ls.take j) = .ok Lj) ∧ Kn (keys (L6 ++ L7)) W2 wr3 ((W2.heap.size, .cells #[.slice al nl2 cl2, .string sop, .slice ao2 no2 co2, .int .i64 (at_ : Int)] 85 (0, 0)) :: (L6 ++ L7j))) (fun _ i _ => nl2 - (intOf i).toNat)
            case atStart => exact ⟨0, nl, L7, L, _, _, by omega, by omega, rfl, rfl, HNL, Lib.hid (by have := HR7.out; rwa [HNL.out] at this), Lib.hid rfl, hL⟩
            case round =>
              clear hL
              clear hF
              obtain ⟨j, nlj, L7j, Lj, aj, cj, hj, hnlj, rfl, rfl, HNJ, HRJ, HAJ, hL⟩ := hrel
              have hF := hL.fx
              by_cases hltj : j < nl2
              · obtain ⟨z, hz⟩ : ∃ z, ls[j]? = some z := ⟨_, List.getElem?_eq_getElem (by rw [HNLS.out]; omega)⟩
                obtain ⟨gv, ov, rfl, hg1, hg2, hg3⟩ := HVC.out j z hz
                have hcz := kn_old hL hg3 hg1
                have hzs := HSZL.out z (List.mem_of_getElem? hz)
                obtain ⟨zb, rfl⟩ : ∃ s : ByteArray, z = s.data.toList := ⟨⟨z.toArray⟩, by simp⟩
                rw [toList_mk] at hcz hg3
                rw [szl] at hzs
                have HZ := Lib.hid hz
                have HG1 := Lib.hid hg1
                have HG3 := Lib.hid hg3
                clear hz hg3
                cases hlk : look Lj zb.data.toList with
                | some lv =>
                  have HHS := Lib.hid (fun W (h : LRow W (.slice aj nlj cj) Lj) => refHas_is (.slice aj nlj cj) Lj zb (by rw [HNJ.out]; omega) true (Lib.hid (by rw [hlk]; rfl)) W h)
                  have HM := Lib.hid (show measure OO (read s.data.toList) size L = .bad 5 from by rw [HY.out]; exact mB_dup (y := ⟨ls, sop.data.toList, ops⟩) HNAMED.out HK.out H0.out (by rw [HAT.out]; exact (addL_at HAJ.out HZ.out).1 (by rw [hlk]; rfl)))
                  have hB := HA.out.symm.trans (asm_bad_at HP1.out HP.out HM.out)
                  subst hB
                  clear hlk
                  go_wp2_with ((go_at_call 47; refine kc (fun W hL => HHS.out _ (RowL.lrow (by rw [HNJ.out]; exact HRJ.out) hL (fun p hp => List.mem_cons_of_mem _ (List.mem_append_right _ hp)))) ?_; clear hF hL; intro W hL hF))
                  refine bodyPost_ret (by simp [results, Tryz.results21, go_sem, *]; try rfl) rfl ?_
                  exact ⟨(HW1.out.tail0 (HB2.out.tail0 hL)).below0, rfl⟩
                | none =>
                  have HHS := Lib.hid (fun W (h : LRow W (.slice aj nlj cj) Lj) => refHas_is (.slice aj nlj cj) Lj zb (by rw [HNJ.out]; omega) false (Lib.hid (by rw [hlk]; rfl)) W h)
                  have HAJ2 := Lib.hid ((addL_at HAJ.out HZ.out).2 hlk)
                  have HLV := Lib.hid (show LVL (Lj ++ [(zb.data.toList, 64 + at_)]) = LVL Lj ++ [.string zb, .int .i64 (64 + (at_ : Int))] from by simp [LVL, toList_mk])
                  clear hlk
                  go_wp2_with (first | (go_at_call 47; refine kc (fun W hL => HHS.out _ (RowL.lrow (by rw [HNJ.out]; exact HRJ.out) hL (fun p hp => List.mem_cons_of_mem _ (List.mem_append_right _ hp)))) ?_; clear hF hL; intro W hL hF; have hcz2 := kn_old hL HG3.out HG1.out) | (at_builtin; refine kL ?_; clear hF hL; intro W hL hF; go_loud (refine wpList_append_end rfl _ _ 83 83 rfl ((_, .cells #[.string zb, .int .i64 (64 + (at_ : Int))] 91 (0, 0)) :: _ :: L6) L7j hL nlj 1 (LVL Lj) [.string zb, .int .i64 (64 + (at_ : Int))] _ _ HRJ.out rfl rfl (fun ho => run_append_7 rfl (fun j u hu => by rw [Go.WideShapes.add_plain, Nat.zero_add, kn_cell hL List.mem_cons_self]; simpa using hu) (by intro u hu; simp only [List.mem_cons, List.not_mem_nil, or_false] at hu; rcases hu with rfl | rfl <;> rfl) (by omega) ho) ?_); intro LPn an cpn W3 hL2 hrn; clear hL hF; have hL := hL2.sub (List.sublist_cons_self _ _); clear hL2; simp only [List.append_eq] at hL; simp only [kfb] at hL; have hF := hL.fx))
                  go_roundw
                  case measure => simp [intOf]; omega
                  case rel => exact ⟨j + 1, nlj + 1, LPn, Lj ++ [(zb.data.toList, 64 + at_)], an, cpn, by omega, by omega, by go_num, rfl, Lib.hid (by rw [List.length_append, HNJ.out]; rfl), Lib.hid (by rw [HLV.out]; exact hrn), HAJ2, hL⟩
              · obtain rfl : nl2 = j := by omega
                have HAL := Lib.hid (show addL L (64 + at_) ls = .ok Lj from by have := HAJ.out; rwa [List.take_of_length_le (by rw [HNLS.out]; exact Nat.le_refl _)] at this)
                obtain ⟨op, hopn⟩ : ∃ op : Nat, (findI sop).toNat = op := ⟨_, rfl⟩
                have hfind : OO.find sop.data.toList = some op := by rw [← hopn]; exact HFO.out
                obtain rfl : fv = (op : Int) := by have h1 := HFV.out; have h2 := HF0.out; omega
                have HIN := Lib.hid (fun W (h1 : Row W (.slice ao2 no2 co2) (sv ops)) => refIns_is (.slice al nl2 cl2) (.slice ao2 no2 co2) (.slice none 0 0) sop ls ops at_ op [] true (find_lt hfind).1 HSZO.out (by omega) (by omega) (by simp) (Lib.hid (fun p hp => by cases hp)) W h1 (LRow.nil W))
                unfold InsRP at HIN
                rw [Bool.not_true] at HIN
                cases hI : instr OO [] ⟨ls, sop.data.toList, ops⟩ at_ op false with
                | bad m =>
                  rw [hI] at HIN
                  simp only at HIN
                  have HM := Lib.hid (show measure OO (read s.data.toList) size L = .bad m from by
                    rw [HY.out, m_len (size := size) (L := L) (L' := Lj) HNAMED.out HK.out H0.out (by rw [HAT.out]; exact HAL.out), HAT.out]
                    unfold lenR
                    rw [show OO.find (⟨ls, sop.data.toList, ops⟩ : Stm).op = some op from hfind]
                    simp only [hI, Rs.bind])
                  have hB := HA.out.symm.trans (asm_bad_at HP1.out HP.out HM.out)
                  subst hB
                  have hm0 : ((m : Int) != 0) = true := bne_iff_ne.2 (by have := pos_instr OO [] _ at_ op false m hI; omega)
                  clear hI hfind hopn
                  go_wp2_with ((go_at_call 48; refine kG ?_; clear hF hL; intro W hL hF; (with_reducible refine (HIN.out _ ((HXW.out.vo.kn hL (fun y hy => .inl hy)).row)).mono ?_); rintro e W ⟨⟨va, vb, vc, vd, rfl⟩, hb⟩; replace hL := hL.below hb; clear hb hF; have hF := hL.fx))
                  refine bodyPost_ret (by simp [results, Tryz.results21, go_sem, *]; try rfl) rfl ?_
                  exact ⟨(HW1.out.tail0 (HB2.out.tail0 hL)).below0, rfl⟩
                | ok i =>
                rw [hI] at HIN
                simp only at HIN
                have HLR := Lib.hid (show lenR ⟨ls, sop.data.toList, ops⟩ at_ = .ok 4 from by
                  unfold lenR
                  rw [show OO.find (⟨ls, sop.data.toList, ops⟩ : Stm).op = some op from hfind]
                  simp only [hI, Rs.bind])
                clear hI hfind hopn
                have hM := m_len (y := ⟨ls, sop.data.toList, ops⟩) (size := size) (L := L) (L' := Lj) HNAMED.out HK.out H0.out (by rw [HAT.out]; exact HAL.out)
                rw [HAT.out, HLR.out] at hM
                simp only [Rs.bind] at hM
                by_cases hfull : 4096 < at_ + 4
                · rw [if_pos hfull] at hM
                  have hB := HA.out.symm.trans (asm_bad_at HP1.out HP.out (by rw [HY.out]; exact hM))
                  subst hB
                  have q1 : decide ((4096 : Int) < (at_ : Int) + 4) = true := decide_eq_true (by omega)
                  have q2 : decide (4096 < at_ + 4) = true := decide_eq_true hfull
                  clear hM
                  go_wp2_with ((go_at_call 48; refine kG ?_; clear hF hL; intro W hL hF; (with_reducible refine (HIN.out _ ((HXW.out.vo.kn hL (fun y hy => .inl hy)).row)).mono ?_); rintro e W ⟨⟨vb, _, rfl⟩, hb⟩; replace hL := hL.below hb; clear hb hF; have hF := hL.fx))
                  refine bodyPost_ret (by simp [results, Tryz.results21, go_sem, *]; try rfl) rfl ?_
                  exact ⟨(HW1.out.tail0 (HB2.out.tail0 hL)).below0, rfl⟩
                · rw [if_neg hfull] at hM
                  have HM := Lib.hid (pass1_add HP1.out HP.out (by rw [HY.out]; exact hM))
                  have HUN := Lib.hid (addL_un HAL.out HLU.out.1)
                  have q1 : decide ((4096 : Int) < (at_ : Int) + 4) = false := decide_eq_false (by omega)
                  have q2 : decide (4096 < at_ + 4) = false := decide_eq_false hfull
                  clear hM
                  go_wp2_with (first | (go_at_call 48; refine kG ?_; clear hF hL; intro W hL hF; (with_reducible refine (HIN.out _ ((HXW.out.vo.kn hL (fun y hy => .inl hy)).row)).mono ?_); rintro e W ⟨⟨vb, _, rfl⟩, hb⟩; replace hL := hL.below hb; clear hb hF; have hF := hL.fx) | (at_builtin; refine kL ?_; clear hF hL; intro W hL hF; go_loud (refine wpList_append_end rfl _ _ 82 82 rfl (_ :: _ :: L7j) L6 (Kn.ofPerm hL (List.Perm.cons _ (List.Perm.cons _ List.perm_append_comm))) k 1 (xs.flatMap rst) (rst (⟨⟨ls, sop.data.toList, ops⟩, .slice al nl2 cl2, .slice ao2 no2 co2, sop⟩, at_)) _ _ HR6.out rfl rfl (fun ho => run_append_6 rfl (fun j u hu => by rw [Go.WideShapes.add_plain, Nat.zero_add, kn_cell hL List.mem_cons_self]; simpa [rst] using hu) (by intro u hu; simp only [rst, List.mem_cons, List.not_mem_nil, or_false] at hu; rcases hu with rfl | rfl | rfl | rfl <;> rfl) (by omega) ho) ?_); intro LPn an cpn W3 hL2 hrn; clear hL hF; have hL := (hL2.sub (List.sublist_cons_self _ _)).sub (List.sublist_cons_self _ _); clear hL2; simp only [List.append_eq] at hL; have hF := hL.facts))
                  go_roundw
                  case measure => simp [intOf]; omega
                  case rel =>
                    have hL3 : Kn (keys (L6 ++ L7)) W2 _ (LPn ++ L7j) := Kn.ofPerm hL List.perm_append_comm
                    refine ⟨k + 1, at_ + 4, LPn, L7j, xs ++ [(⟨⟨ls, sop.data.toList, ops⟩, .slice al nl2 cl2, .slice ao2 no2 co2, sop⟩, at_)], Lj, by omega, by omega, by go_num, by go_num, ?_, ?_, ?_, ?_, ?_, HB2.out.tail0 hL3⟩
                    · rw [List.flatMap_append, List.flatMap_cons, List.flatMap_nil, List.append_nil]; exact hrn
                    · rw [HNJ.out]; exact HRJ.out
                    · exact Lib.hid (by rw [List.map_append, List.map_singleton, HM.out, HY.out]; rfl)
                    · exact Lib.hid (fun x hx => by
                        rw [List.map_append] at hx
                        rcases List.mem_append.1 hx with hx | hx
                        · exact (HXN.out x hx).next hL3
                        · obtain rfl := List.mem_singleton.1 hx; exact HXW.out.next hL3)
                    · refine Lib.hid ⟨HUN.out.1, ?_, fun p hp => ?_⟩
                      · rw [HUN.out.2.1, HNLS.out, List.take_add_one, HP.out, Option.toList_some, join_app, List.length_append]
                        have h1 := HLU.out.2.1
                        have h2 := (read_sizes s.data.toList).2.2.1
                        rw [HY.out] at h2
                        have h3 : ls.length ≤ s.data.toList.length + 1 := h2
                        have h4 : (join10 [s.data.toList]).length = s.data.toList.length + 1 := by simp [join10]
                        rw [h4, ← HNLS.out]
                        omega
                      · rcases HUN.out.2.2 p hp with h | h
                        · exact HLU.out.2.2 p h
                        · omega
          | false =>
            have HFO := Lib.hid (HFN.out.2 rfl)
            cases isd with
            | true =>
              have HDNT := Lib.hid (HDN.out.1 rfl)
              have HSNE : Hid (sop.data.toList ≠ []) := Lib.hid (fun e => by have := HISD.out; rw [e] at this; cases this)
              have hse : sop.toList.isEmpty = false := by rw [Lib.toList_data]; cases hxx : sop.data.toList with | nil => exact absurd hxx HSNE.out | cons a l => rfl
              have z1 : (sop.toList == []) = false := by rw [Lib.toList_data]; exact beq_false_of_ne HSNE.out
              have HK : Hid (sop.data.toList = [] ∨ OO.find sop.data.toList ≠ none ∨ isDir sop.data.toList = true) := Lib.hid (.inr (.inr HISD.out))
              have H0 : Hid (sop.data.toList = [] → ops = []) := Lib.hid (fun e => absurd e HSNE.out)
              obtain ⟨at_, hat⟩ : ∃ z, atR ⟨ls, sop.data.toList, ops⟩ size = z := ⟨_, rfl⟩
              have HAT := Lib.hid hat
              unfold atR at hat
              by_cases hw : sop.data.toList = dWord
              · rw [if_pos (.inr hw)] at hat
                have w1 : (sop.toList == (⟨#[46, 119, 111, 114, 100]⟩ : ByteArray).toList) = true := by rw [Lib.toList_data, Lib.toList_data, hw]; rfl
                have w2 : (sop.toList == [46, 119, 111, 114, 100]) = true := by rw [Lib.toList_data, hw]; rfl
                have hat2 : ((size : Int) + 3) / 4 * 4 = (at_ : Int) := by
                  unfold aligned at hat
                  omega
                have hat3 : at_ ≤ 4099 := by omega
                clear hat hw
                go_wp2
                refine kn_wp ?_; clear hF hL; intro W hL; simp only [kfb] at hL; have hF := hL.fx
                go_loopw [7, 17] (fun o7 i wr3 => ∃ (j nlj : Nat) (L7j : List (Nat × Obj)) (Lj : Labs) (aj : Option Addr) (cj : Nat), j ≤ nl2 ∧ nlj ≤ nl + j ∧ i = .int .i64 j ∧ o7 = .slice aj nlj cj ∧ Hid (Lj.length = nlj) ∧ Hid (RowL 2 91 L7j (.slice aj nlj cj) nlj (LVL Lj)) ∧ Hid (addL L (64 + at_) (ls.take j) = .ok Lj) ∧ Kn (keys (L6 ++ L7)) W2 wr3 ((W2.heap.size, .cells #[.slice al nl2 cl2, .string sop, .slice ao2 no2 co2, .int .i64 (at_ : Int)] 85 (0, 0)) :: (L6 ++ L7j))) (fun _ i _ => nl2 - (intOf i).toNat)
                case atStart => exact ⟨0, nl, L7, L, _, _, by omega, by omega, rfl, rfl, HNL, Lib.hid (by have := HR7.out; rwa [HNL.out] at this), Lib.hid rfl, hL⟩
                case round =>
                  clear hL
                  clear hF
                  obtain ⟨j, nlj, L7j, Lj, aj, cj, hj, hnlj, rfl, rfl, HNJ, HRJ, HAJ, hL⟩ := hrel
                  have hF := hL.fx
                  by_cases hltj : j < nl2
                  · obtain ⟨z, hz⟩ : ∃ z, ls[j]? = some z := ⟨_, List.getElem?_eq_getElem (by rw [HNLS.out]; omega)⟩
                    obtain ⟨gv, ov, rfl, hg1, hg2, hg3⟩ := HVC.out j z hz
                    have hcz := kn_old hL hg3 hg1
                    have hzs := HSZL.out z (List.mem_of_getElem? hz)
                    obtain ⟨zb, rfl⟩ : ∃ s : ByteArray, z = s.data.toList := ⟨⟨z.toArray⟩, by simp⟩
                    rw [toList_mk] at hcz hg3
                    rw [szl] at hzs
                    have HZ := Lib.hid hz
                    have HG1 := Lib.hid hg1
                    have HG3 := Lib.hid hg3
                    clear hz hg3
                    cases hlk : look Lj zb.data.toList with
                    | some lv =>
                      have HHS := Lib.hid (fun W (h : LRow W (.slice aj nlj cj) Lj) => refHas_is (.slice aj nlj cj) Lj zb (by rw [HNJ.out]; omega) true (Lib.hid (by rw [hlk]; rfl)) W h)
                      have HM := Lib.hid (show measure OO (read s.data.toList) size L = .bad 5 from by rw [HY.out]; exact mB_dup (y := ⟨ls, sop.data.toList, ops⟩) HNAMED.out HK.out H0.out (by rw [HAT.out]; exact (addL_at HAJ.out HZ.out).1 (by rw [hlk]; rfl)))
                      have hB := HA.out.symm.trans (asm_bad_at HP1.out HP.out HM.out)
                      subst hB
                      clear hlk
                      go_wp2_with ((go_at_call 47; refine kc (fun W hL => HHS.out _ (RowL.lrow (by rw [HNJ.out]; exact HRJ.out) hL (fun p hp => List.mem_cons_of_mem _ (List.mem_append_right _ hp)))) ?_; clear hF hL; intro W hL hF))
                      refine bodyPost_ret (by simp [results, Tryz.results21, go_sem, *]; try rfl) rfl ?_
                      exact ⟨(HW1.out.tail0 (HB2.out.tail0 hL)).below0, rfl⟩
                    | none =>
                      have HHS := Lib.hid (fun W (h : LRow W (.slice aj nlj cj) Lj) => refHas_is (.slice aj nlj cj) Lj zb (by rw [HNJ.out]; omega) false (Lib.hid (by rw [hlk]; rfl)) W h)
                      have HAJ2 := Lib.hid ((addL_at HAJ.out HZ.out).2 hlk)
                      have HLV := Lib.hid (show LVL (Lj ++ [(zb.data.toList, 64 + at_)]) = LVL Lj ++ [.string zb, .int .i64 (64 + (at_ : Int))] from by simp [LVL, toList_mk])
                      clear hlk
                      go_wp2_with (first | (go_at_call 47; refine kc (fun W hL => HHS.out _ (RowL.lrow (by rw [HNJ.out]; exact HRJ.out) hL (fun p hp => List.mem_cons_of_mem _ (List.mem_append_right _ hp)))) ?_; clear hF hL; intro W hL hF; have hcz2 := kn_old hL HG3.out HG1.out) | (at_builtin; refine kL ?_; clear hF hL; intro W hL hF; go_loud (refine wpList_append_end rfl _ _ 83 83 rfl ((_, .cells #[.string zb, .int .i64 (64 + (at_ : Int))] 91 (0, 0)) :: _ :: L6) L7j hL nlj 1 (LVL Lj) [.string zb, .int .i64 (64 + (at_ : Int))] _ _ HRJ.out rfl rfl (fun ho => run_append_7 rfl (fun j u hu => by rw [Go.WideShapes.add_plain, Nat.zero_add, kn_cell hL List.mem_cons_self]; simpa using hu) (by intro u hu; simp only [List.mem_cons, List.not_mem_nil, or_false] at hu; rcases hu with rfl | rfl <;> rfl) (by omega) ho) ?_); intro LPn an cpn W3 hL2 hrn; clear hL hF; have hL := hL2.sub (List.sublist_cons_self _ _); clear hL2; simp only [List.append_eq] at hL; simp only [kfb] at hL; have hF := hL.fx))
                      go_roundw
                      case measure => simp [intOf]; omega
                      case rel => exact ⟨j + 1, nlj + 1, LPn, Lj ++ [(zb.data.toList, 64 + at_)], an, cpn, by omega, by omega, by go_num, rfl, Lib.hid (by rw [List.length_append, HNJ.out]; rfl), Lib.hid (by rw [HLV.out]; exact hrn), HAJ2, hL⟩
                  · obtain rfl : nl2 = j := by omega
                    have HAL := Lib.hid (show addL L (64 + at_) ls = .ok Lj from by have := HAJ.out; rwa [List.take_of_length_le (by rw [HNLS.out]; exact Nat.le_refl _)] at this)
                    cases hdir : direct OO [] ⟨ls, sop.data.toList, ops⟩ false with
                    | bad m =>
                      obtain rfl : de = m := by rw [← HDE.out]; unfold dirE; rw [show isDir (⟨ls, sop.data.toList, ops⟩ : Stm).op = true from HISD.out, if_pos rfl, hdir]; rfl
                      have HM := Lib.hid (show measure OO (read s.data.toList) size L = .bad de from by
                        rw [HY.out, m_len (size := size) (L := L) (L' := Lj) HNAMED.out HK.out H0.out (by rw [HAT.out]; exact HAL.out), HAT.out]
                        unfold lenR
                        rw [show OO.find (⟨ls, sop.data.toList, ops⟩ : Stm).op = none from HFO.out]
                        simp only
                        rw [if_neg HSNE.out, hdir]; rfl)
                      have hB := HA.out.symm.trans (asm_bad_at HP1.out HP.out HM.out)
                      subst hB
                      have hm0 : ((de : Int) != 0) = true := bne_iff_ne.2 (by have := pos_direct OO [] _ false de hdir; omega)
                      clear hdir
                      go_wp2
                      refine bodyPost_ret (by simp [results, Tryz.results21, go_sem, *]; try rfl) rfl ?_
                      exact ⟨(HW1.out.tail0 (HB2.out.tail0 hL)).below0, rfl⟩
                    | ok b =>
                    obtain rfl : de = 0 := by rw [← HDE.out]; unfold dirE; rw [show isDir (⟨ls, sop.data.toList, ops⟩ : Stm).op = true from HISD.out, if_pos rfl, hdir]; rfl
                    obtain ⟨ln, hln⟩ : ∃ ln, b.length = ln := ⟨_, rfl⟩
                    have hlnb : ln ≤ 100000 := by rw [← hln]; exact direct_bound HISD.out hdir HSZO.out hol
                    obtain rfl : dn = (ln : Int) := by rw [HDNT.out b hdir, hln]
                    have HLR := Lib.hid (show lenR ⟨ls, sop.data.toList, ops⟩ at_ = .ok ln from by
                      unfold lenR
                      rw [show OO.find (⟨ls, sop.data.toList, ops⟩ : Stm).op = none from HFO.out]
                      simp only
                      rw [if_neg HSNE.out, hdir]
                      simp only [Rs.bind, hln])
                    clear hdir hln
                    have hM := m_len (y := ⟨ls, sop.data.toList, ops⟩) (size := size) (L := L) (L' := Lj) HNAMED.out HK.out H0.out (by rw [HAT.out]; exact HAL.out)
                    rw [HAT.out, HLR.out] at hM
                    simp only [Rs.bind] at hM
                    by_cases hfull : 4096 < at_ + ln
                    · rw [if_pos hfull] at hM
                      have hB := HA.out.symm.trans (asm_bad_at HP1.out HP.out (by rw [HY.out]; exact hM))
                      subst hB
                      have q1 : decide ((4096 : Int) < (at_ : Int) + ln) = true := decide_eq_true (by omega)
                      have q2 : decide (4096 < at_ + ln) = true := decide_eq_true hfull
                      clear hM
                      go_wp2
                      refine bodyPost_ret (by simp [results, Tryz.results21, go_sem, *]; try rfl) rfl ?_
                      exact ⟨(HW1.out.tail0 (HB2.out.tail0 hL)).below0, rfl⟩
                    · rw [if_neg hfull] at hM
                      have HM := Lib.hid (pass1_add HP1.out HP.out (by rw [HY.out]; exact hM))
                      have HUN := Lib.hid (addL_un HAL.out HLU.out.1)
                      have q1 : decide ((4096 : Int) < (at_ : Int) + ln) = false := decide_eq_false (by omega)
                      have q2 : decide (4096 < at_ + ln) = false := decide_eq_false hfull
                      clear hM
                      go_wp2_with ((at_builtin; refine kL ?_; clear hF hL; intro W hL hF; go_loud (refine wpList_append_end rfl _ _ 82 82 rfl (_ :: _ :: L7j) L6 (Kn.ofPerm hL (List.Perm.cons _ (List.Perm.cons _ List.perm_append_comm))) k 1 (xs.flatMap rst) (rst (⟨⟨ls, sop.data.toList, ops⟩, .slice al nl2 cl2, .slice ao2 no2 co2, sop⟩, at_)) _ _ HR6.out rfl rfl (fun ho => run_append_6 rfl (fun j u hu => by rw [Go.WideShapes.add_plain, Nat.zero_add, kn_cell hL List.mem_cons_self]; simpa [rst] using hu) (by intro u hu; simp only [rst, List.mem_cons, List.not_mem_nil, or_false] at hu; rcases hu with rfl | rfl | rfl | rfl <;> rfl) (by omega) ho) ?_); intro LPn an cpn W3 hL2 hrn; clear hL hF; have hL := (hL2.sub (List.sublist_cons_self _ _)).sub (List.sublist_cons_self _ _); clear hL2; simp only [List.append_eq] at hL; have hF := hL.facts))
                      go_roundw
                      case measure => simp [intOf]; omega
                      case rel =>
                        have hL3 : Kn (keys (L6 ++ L7)) W2 _ (LPn ++ L7j) := Kn.ofPerm hL List.perm_append_comm
                        refine ⟨k + 1, at_ + ln, LPn, L7j, xs ++ [(⟨⟨ls, sop.data.toList, ops⟩, .slice al nl2 cl2, .slice ao2 no2 co2, sop⟩, at_)], Lj, by omega, by omega, by go_num, by go_num, ?_, ?_, ?_, ?_, ?_, HB2.out.tail0 hL3⟩
                        · rw [List.flatMap_append, List.flatMap_cons, List.flatMap_nil, List.append_nil]; exact hrn
                        · rw [HNJ.out]; exact HRJ.out
                        · exact Lib.hid (by rw [List.map_append, List.map_singleton, HM.out, HY.out]; rfl)
                        · exact Lib.hid (fun x hx => by
                            rw [List.map_append] at hx
                            rcases List.mem_append.1 hx with hx | hx
                            · exact (HXN.out x hx).next hL3
                            · obtain rfl := List.mem_singleton.1 hx; exact HXW.out.next hL3)
                        · refine Lib.hid ⟨HUN.out.1, ?_, fun p hp => ?_⟩
                          · rw [HUN.out.2.1, HNLS.out, List.take_add_one, HP.out, Option.toList_some, join_app, List.length_append]
                            have h1 := HLU.out.2.1
                            have h2 := (read_sizes s.data.toList).2.2.1
                            rw [HY.out] at h2
                            have h3 : ls.length ≤ s.data.toList.length + 1 := h2
                            have h4 : (join10 [s.data.toList]).length = s.data.toList.length + 1 := by simp [join10]
                            rw [h4, ← HNLS.out]
                            omega
                          · rcases HUN.out.2.2 p hp with h | h
                            · exact HLU.out.2.2 p h
                            · omega
              · rw [if_neg (by rintro (h | h); · rw [show OO.find (⟨ls, sop.data.toList, ops⟩ : Stm).op = none from HFO.out] at h; cases h
                               · exact hw h)] at hat
                have w1 : (sop.toList == (⟨#[46, 119, 111, 114, 100]⟩ : ByteArray).toList) = false := by rw [Lib.toList_data, Lib.toList_data]; exact beq_false_of_ne hw
                have w2 : (sop.toList == [46, 119, 111, 114, 100]) = false := by rw [Lib.toList_data]; exact beq_false_of_ne hw
                subst hat
                obtain ⟨at_, hat⟩ : ∃ z, size = z := ⟨_, rfl⟩
                have HAT := Lib.hid (HAT.out.trans hat)
                have hat2 : (size : Int) = (at_ : Int) := by omega
                have hat3 : at_ ≤ 4099 := by omega
                clear hat hw
                go_wp2
                refine kn_wp ?_; clear hF hL; intro W hL; simp only [kfb] at hL; have hF := hL.fx
                go_loopw [7, 17] (fun o7 i wr3 => ∃ (j nlj : Nat) (L7j : List (Nat × Obj)) (Lj : Labs) (aj : Option Addr) (cj : Nat), j ≤ nl2 ∧ nlj ≤ nl + j ∧ i = .int .i64 j ∧ o7 = .slice aj nlj cj ∧ Hid (Lj.length = nlj) ∧ Hid (RowL 2 91 L7j (.slice aj nlj cj) nlj (LVL Lj)) ∧ Hid (addL L (64 + at_) (ls.take j) = .ok Lj) ∧ Kn (keys (L6 ++ L7)) W2 wr3 ((W2.heap.size, .cells #[.slice al nl2 cl2, .string sop, .slice ao2 no2 co2, .int .i64 (at_ : Int)] 85 (0, 0)) :: (L6 ++ L7j))) (fun _ i _ => nl2 - (intOf i).toNat)
                case atStart => exact ⟨0, nl, L7, L, _, _, by omega, by omega, rfl, rfl, HNL, Lib.hid (by have := HR7.out; rwa [HNL.out] at this), Lib.hid rfl, hL⟩
                case round =>
                  clear hL
                  clear hF
                  obtain ⟨j, nlj, L7j, Lj, aj, cj, hj, hnlj, rfl, rfl, HNJ, HRJ, HAJ, hL⟩ := hrel
                  have hF := hL.fx
                  by_cases hltj : j < nl2
                  · obtain ⟨z, hz⟩ : ∃ z, ls[j]? = some z := ⟨_, List.getElem?_eq_getElem (by rw [HNLS.out]; omega)⟩
                    obtain ⟨gv, ov, rfl, hg1, hg2, hg3⟩ := HVC.out j z hz
                    have hcz := kn_old hL hg3 hg1
                    have hzs := HSZL.out z (List.mem_of_getElem? hz)
                    obtain ⟨zb, rfl⟩ : ∃ s : ByteArray, z = s.data.toList := ⟨⟨z.toArray⟩, by simp⟩
                    rw [toList_mk] at hcz hg3
                    rw [szl] at hzs
                    have HZ := Lib.hid hz
                    have HG1 := Lib.hid hg1
                    have HG3 := Lib.hid hg3
                    clear hz hg3
                    cases hlk : look Lj zb.data.toList with
                    | some lv =>
                      have HHS := Lib.hid (fun W (h : LRow W (.slice aj nlj cj) Lj) => refHas_is (.slice aj nlj cj) Lj zb (by rw [HNJ.out]; omega) true (Lib.hid (by rw [hlk]; rfl)) W h)
                      have HM := Lib.hid (show measure OO (read s.data.toList) size L = .bad 5 from by rw [HY.out]; exact mB_dup (y := ⟨ls, sop.data.toList, ops⟩) HNAMED.out HK.out H0.out (by rw [HAT.out]; exact (addL_at HAJ.out HZ.out).1 (by rw [hlk]; rfl)))
                      have hB := HA.out.symm.trans (asm_bad_at HP1.out HP.out HM.out)
                      subst hB
                      clear hlk
                      go_wp2_with ((go_at_call 47; refine kc (fun W hL => HHS.out _ (RowL.lrow (by rw [HNJ.out]; exact HRJ.out) hL (fun p hp => List.mem_cons_of_mem _ (List.mem_append_right _ hp)))) ?_; clear hF hL; intro W hL hF))
                      refine bodyPost_ret (by simp [results, Tryz.results21, go_sem, *]; try rfl) rfl ?_
                      exact ⟨(HW1.out.tail0 (HB2.out.tail0 hL)).below0, rfl⟩
                    | none =>
                      have HHS := Lib.hid (fun W (h : LRow W (.slice aj nlj cj) Lj) => refHas_is (.slice aj nlj cj) Lj zb (by rw [HNJ.out]; omega) false (Lib.hid (by rw [hlk]; rfl)) W h)
                      have HAJ2 := Lib.hid ((addL_at HAJ.out HZ.out).2 hlk)
                      have HLV := Lib.hid (show LVL (Lj ++ [(zb.data.toList, 64 + at_)]) = LVL Lj ++ [.string zb, .int .i64 (64 + (at_ : Int))] from by simp [LVL, toList_mk])
                      clear hlk
                      go_wp2_with (first | (go_at_call 47; refine kc (fun W hL => HHS.out _ (RowL.lrow (by rw [HNJ.out]; exact HRJ.out) hL (fun p hp => List.mem_cons_of_mem _ (List.mem_append_right _ hp)))) ?_; clear hF hL; intro W hL hF; have hcz2 := kn_old hL HG3.out HG1.out) | (at_builtin; refine kL ?_; clear hF hL; intro W hL hF; go_loud (refine wpList_append_end rfl _ _ 83 83 rfl ((_, .cells #[.string zb, .int .i64 (64 + (at_ : Int))] 91 (0, 0)) :: _ :: L6) L7j hL nlj 1 (LVL Lj) [.string zb, .int .i64 (64 + (at_ : Int))] _ _ HRJ.out rfl rfl (fun ho => run_append_7 rfl (fun j u hu => by rw [Go.WideShapes.add_plain, Nat.zero_add, kn_cell hL List.mem_cons_self]; simpa using hu) (by intro u hu; simp only [List.mem_cons, List.not_mem_nil, or_false] at hu; rcases hu with rfl | rfl <;> rfl) (by omega) ho) ?_); intro LPn an cpn W3 hL2 hrn; clear hL hF; have hL := hL2.sub (List.sublist_cons_self _ _); clear hL2; simp only [List.append_eq] at hL; simp only [kfb] at hL; have hF := hL.fx))
                      go_roundw
                      case measure => simp [intOf]; omega
                      case rel => exact ⟨j + 1, nlj + 1, LPn, Lj ++ [(zb.data.toList, 64 + at_)], an, cpn, by omega, by omega, by go_num, rfl, Lib.hid (by rw [List.length_append, HNJ.out]; rfl), Lib.hid (by rw [HLV.out]; exact hrn), HAJ2, hL⟩
                  · obtain rfl : nl2 = j := by omega
                    have HAL := Lib.hid (show addL L (64 + at_) ls = .ok Lj from by have := HAJ.out; rwa [List.take_of_length_le (by rw [HNLS.out]; exact Nat.le_refl _)] at this)
                    cases hdir : direct OO [] ⟨ls, sop.data.toList, ops⟩ false with
                    | bad m =>
                      obtain rfl : de = m := by rw [← HDE.out]; unfold dirE; rw [show isDir (⟨ls, sop.data.toList, ops⟩ : Stm).op = true from HISD.out, if_pos rfl, hdir]; rfl
                      have HM := Lib.hid (show measure OO (read s.data.toList) size L = .bad de from by
                        rw [HY.out, m_len (size := size) (L := L) (L' := Lj) HNAMED.out HK.out H0.out (by rw [HAT.out]; exact HAL.out), HAT.out]
                        unfold lenR
                        rw [show OO.find (⟨ls, sop.data.toList, ops⟩ : Stm).op = none from HFO.out]
                        simp only
                        rw [if_neg HSNE.out, hdir]; rfl)
                      have hB := HA.out.symm.trans (asm_bad_at HP1.out HP.out HM.out)
                      subst hB
                      have hm0 : ((de : Int) != 0) = true := bne_iff_ne.2 (by have := pos_direct OO [] _ false de hdir; omega)
                      clear hdir
                      go_wp2
                      refine bodyPost_ret (by simp [results, Tryz.results21, go_sem, *]; try rfl) rfl ?_
                      exact ⟨(HW1.out.tail0 (HB2.out.tail0 hL)).below0, rfl⟩
                    | ok b =>
                    obtain rfl : de = 0 := by rw [← HDE.out]; unfold dirE; rw [show isDir (⟨ls, sop.data.toList, ops⟩ : Stm).op = true from HISD.out, if_pos rfl, hdir]; rfl
                    obtain ⟨ln, hln⟩ : ∃ ln, b.length = ln := ⟨_, rfl⟩
                    have hlnb : ln ≤ 100000 := by rw [← hln]; exact direct_bound HISD.out hdir HSZO.out hol
                    obtain rfl : dn = (ln : Int) := by rw [HDNT.out b hdir, hln]
                    have HLR := Lib.hid (show lenR ⟨ls, sop.data.toList, ops⟩ at_ = .ok ln from by
                      unfold lenR
                      rw [show OO.find (⟨ls, sop.data.toList, ops⟩ : Stm).op = none from HFO.out]
                      simp only
                      rw [if_neg HSNE.out, hdir]
                      simp only [Rs.bind, hln])
                    clear hdir hln
                    have hM := m_len (y := ⟨ls, sop.data.toList, ops⟩) (size := size) (L := L) (L' := Lj) HNAMED.out HK.out H0.out (by rw [HAT.out]; exact HAL.out)
                    rw [HAT.out, HLR.out] at hM
                    simp only [Rs.bind] at hM
                    by_cases hfull : 4096 < at_ + ln
                    · rw [if_pos hfull] at hM
                      have hB := HA.out.symm.trans (asm_bad_at HP1.out HP.out (by rw [HY.out]; exact hM))
                      subst hB
                      have q1 : decide ((4096 : Int) < (at_ : Int) + ln) = true := decide_eq_true (by omega)
                      have q2 : decide (4096 < at_ + ln) = true := decide_eq_true hfull
                      clear hM
                      go_wp2
                      refine bodyPost_ret (by simp [results, Tryz.results21, go_sem, *]; try rfl) rfl ?_
                      exact ⟨(HW1.out.tail0 (HB2.out.tail0 hL)).below0, rfl⟩
                    · rw [if_neg hfull] at hM
                      have HM := Lib.hid (pass1_add HP1.out HP.out (by rw [HY.out]; exact hM))
                      have HUN := Lib.hid (addL_un HAL.out HLU.out.1)
                      have q1 : decide ((4096 : Int) < (at_ : Int) + ln) = false := decide_eq_false (by omega)
                      have q2 : decide (4096 < at_ + ln) = false := decide_eq_false hfull
                      clear hM
                      go_wp2_with ((at_builtin; refine kL ?_; clear hF hL; intro W hL hF; go_loud (refine wpList_append_end rfl _ _ 82 82 rfl (_ :: _ :: L7j) L6 (Kn.ofPerm hL (List.Perm.cons _ (List.Perm.cons _ List.perm_append_comm))) k 1 (xs.flatMap rst) (rst (⟨⟨ls, sop.data.toList, ops⟩, .slice al nl2 cl2, .slice ao2 no2 co2, sop⟩, at_)) _ _ HR6.out rfl rfl (fun ho => run_append_6 rfl (fun j u hu => by rw [Go.WideShapes.add_plain, Nat.zero_add, kn_cell hL List.mem_cons_self]; simpa [rst] using hu) (by intro u hu; simp only [rst, List.mem_cons, List.not_mem_nil, or_false] at hu; rcases hu with rfl | rfl | rfl | rfl <;> rfl) (by omega) ho) ?_); intro LPn an cpn W3 hL2 hrn; clear hL hF; have hL := (hL2.sub (List.sublist_cons_self _ _)).sub (List.sublist_cons_self _ _); clear hL2; simp only [List.append_eq] at hL; have hF := hL.facts))
                      go_roundw
                      case measure => simp [intOf]; omega
                      case rel =>
                        have hL3 : Kn (keys (L6 ++ L7)) W2 _ (LPn ++ L7j) := Kn.ofPerm hL List.perm_append_comm
                        refine ⟨k + 1, at_ + ln, LPn, L7j, xs ++ [(⟨⟨ls, sop.data.toList, ops⟩, .slice al nl2 cl2, .slice ao2 no2 co2, sop⟩, at_)], Lj, by omega, by omega, by go_num, by go_num, ?_, ?_, ?_, ?_, ?_, HB2.out.tail0 hL3⟩
                        · rw [List.flatMap_append, List.flatMap_cons, List.flatMap_nil, List.append_nil]; exact hrn
                        · rw [HNJ.out]; exact HRJ.out
                        · exact Lib.hid (by rw [List.map_append, List.map_singleton, HM.out, HY.out]; rfl)
                        · exact Lib.hid (fun x hx => by
                            rw [List.map_append] at hx
                            rcases List.mem_append.1 hx with hx | hx
                            · exact (HXN.out x hx).next hL3
                            · obtain rfl := List.mem_singleton.1 hx; exact HXW.out.next hL3)
                        · refine Lib.hid ⟨HUN.out.1, ?_, fun p hp => ?_⟩
                          · rw [HUN.out.2.1, HNLS.out, List.take_add_one, HP.out, Option.toList_some, join_app, List.length_append]
                            have h1 := HLU.out.2.1
                            have h2 := (read_sizes s.data.toList).2.2.1
                            rw [HY.out] at h2
                            have h3 : ls.length ≤ s.data.toList.length + 1 := h2
                            have h4 : (join10 [s.data.toList]).length = s.data.toList.length + 1 := by simp [join10]
                            rw [h4, ← HNLS.out]
                            omega
                          · rcases HUN.out.2.2 p hp with h | h
                            · exact HLU.out.2.2 p h
                            · omega
            | false =>
              obtain rfl : dn = 0 := HDN.out.2 rfl
              obtain rfl : de = 0 := by have h := HDE.out; unfold dirE at h; rw [show isDir (⟨ls, sop.data.toList, ops⟩ : Stm).op = false from HISD.out, if_neg (by simp)] at h; exact h.symm
              by_cases hemp : sop.data.toList = []
              · obtain rfl : sop = ⟨#[]⟩ := ba_ext hemp
                have HOPS := Lib.hid (show ops = [] from by have := read_nil s.data.toList (by rw [HY.out] <;> rfl); rw [HY.out] at this; exact this)
                have HY := Lib.hid (show read s.data.toList = ⟨ls, [], ops⟩ from HY.out)
                have HLR0 := Lib.hid (show ∀ a, lenR ⟨ls, ([] : Bytes), ops⟩ a = .ok 0 from fun a => by
                  unfold lenR
                  rw [show OO.find (⟨ls, ([] : Bytes), ops⟩ : Stm).op = none from HFO.out]
                  rfl)
                obtain ⟨at_, hat⟩ : ∃ z, size = z := ⟨_, rfl⟩
                have HAT : Hid (atR ⟨ls, ([] : Bytes), ops⟩ size = at_) := Lib.hid (by
                  unfold atR
                  rw [if_neg (by
                    rintro (h | h)
                    · rw [show OO.find (⟨ls, ([] : Bytes), ops⟩ : Stm).op = none from HFO.out] at h; cases h
                    · cases h)]
                  exact hat)
                have hat2 : (size : Int) = (at_ : Int) := by omega
                have hat3 : at_ ≤ 4096 := by omega
                have q3 : decide ((4096 : Int) < (at_ : Int)) = false := decide_eq_false (by omega)
                have q4 : decide (4096 < at_) = false := decide_eq_false (by omega)
                clear hat hemp
                go_wp2
                refine kn_wp ?_; clear hF hL; intro W hL; simp only [kfb] at hL; have hF := hL.fx
                go_loopw [7, 17] (fun o7 i wr3 => ∃ (j nlj : Nat) (L7j : List (Nat × Obj)) (Lj : Labs) (aj : Option Addr) (cj : Nat), j ≤ nl2 ∧ nlj ≤ nl + j ∧ i = .int .i64 j ∧ o7 = .slice aj nlj cj ∧ Hid (Lj.length = nlj) ∧ Hid (RowL 2 91 L7j (.slice aj nlj cj) nlj (LVL Lj)) ∧ Hid (addL L (64 + at_) (ls.take j) = .ok Lj) ∧ Kn (keys (L6 ++ L7)) W2 wr3 ((W2.heap.size, .cells #[.slice al nl2 cl2, .string ⟨#[]⟩, .slice ao2 no2 co2, .int .i64 (at_ : Int)] 85 (0, 0)) :: (L6 ++ L7j))) (fun _ i _ => nl2 - (intOf i).toNat)
                case atStart => exact ⟨0, nl, L7, L, _, _, by omega, by omega, rfl, rfl, HNL, Lib.hid (by have := HR7.out; rwa [HNL.out] at this), Lib.hid rfl, hL⟩
                case round =>
                  clear hL
                  clear hF
                  obtain ⟨j, nlj, L7j, Lj, aj, cj, hj, hnlj, rfl, rfl, HNJ, HRJ, HAJ, hL⟩ := hrel
                  have hF := hL.fx
                  by_cases hltj : j < nl2
                  · obtain ⟨z, hz⟩ : ∃ z, ls[j]? = some z := ⟨_, List.getElem?_eq_getElem (by rw [HNLS.out]; omega)⟩
                    obtain ⟨gv, ov, rfl, hg1, hg2, hg3⟩ := HVC.out j z hz
                    have hcz := kn_old hL hg3 hg1
                    have hzs := HSZL.out z (List.mem_of_getElem? hz)
                    obtain ⟨zb, rfl⟩ : ∃ s : ByteArray, z = s.data.toList := ⟨⟨z.toArray⟩, by simp⟩
                    rw [toList_mk] at hcz hg3
                    rw [szl] at hzs
                    have HZ := Lib.hid hz
                    have HG1 := Lib.hid hg1
                    have HG3 := Lib.hid hg3
                    clear hz hg3
                    cases hlk : look Lj zb.data.toList with
                    | some lv =>
                      have HHS := Lib.hid (fun W (h : LRow W (.slice aj nlj cj) Lj) => refHas_is (.slice aj nlj cj) Lj zb (by rw [HNJ.out]; omega) true (Lib.hid (by rw [hlk]; rfl)) W h)
                      have HM := Lib.hid (show measure OO (read s.data.toList) size L = .bad 5 from by rw [HY.out]; exact mB_dup (y := ⟨ls, ([] : Bytes), ops⟩) HNAMED.out (Or.inl rfl) (fun _ => HOPS.out) (by rw [HAT.out]; exact (addL_at HAJ.out HZ.out).1 (by rw [hlk]; rfl)))
                      have hB := HA.out.symm.trans (asm_bad_at HP1.out HP.out HM.out)
                      subst hB
                      clear hlk
                      go_wp2_with ((go_at_call 47; refine kc (fun W hL => HHS.out _ (RowL.lrow (by rw [HNJ.out]; exact HRJ.out) hL (fun p hp => List.mem_cons_of_mem _ (List.mem_append_right _ hp)))) ?_; clear hF hL; intro W hL hF))
                      refine bodyPost_ret (by simp [results, Tryz.results21, go_sem, *]; try rfl) rfl ?_
                      exact ⟨(HW1.out.tail0 (HB2.out.tail0 hL)).below0, rfl⟩
                    | none =>
                      have HHS := Lib.hid (fun W (h : LRow W (.slice aj nlj cj) Lj) => refHas_is (.slice aj nlj cj) Lj zb (by rw [HNJ.out]; omega) false (Lib.hid (by rw [hlk]; rfl)) W h)
                      have HAJ2 := Lib.hid ((addL_at HAJ.out HZ.out).2 hlk)
                      have HLV := Lib.hid (show LVL (Lj ++ [(zb.data.toList, 64 + at_)]) = LVL Lj ++ [.string zb, .int .i64 (64 + (at_ : Int))] from by simp [LVL, toList_mk])
                      clear hlk
                      go_wp2_with (first | (go_at_call 47; refine kc (fun W hL => HHS.out _ (RowL.lrow (by rw [HNJ.out]; exact HRJ.out) hL (fun p hp => List.mem_cons_of_mem _ (List.mem_append_right _ hp)))) ?_; clear hF hL; intro W hL hF; have hcz2 := kn_old hL HG3.out HG1.out) | (at_builtin; refine kL ?_; clear hF hL; intro W hL hF; go_loud (refine wpList_append_end rfl _ _ 83 83 rfl ((_, .cells #[.string zb, .int .i64 (64 + (at_ : Int))] 91 (0, 0)) :: _ :: L6) L7j hL nlj 1 (LVL Lj) [.string zb, .int .i64 (64 + (at_ : Int))] _ _ HRJ.out rfl rfl (fun ho => run_append_7 rfl (fun j u hu => by rw [Go.WideShapes.add_plain, Nat.zero_add, kn_cell hL List.mem_cons_self]; simpa using hu) (by intro u hu; simp only [List.mem_cons, List.not_mem_nil, or_false] at hu; rcases hu with rfl | rfl <;> rfl) (by omega) ho) ?_); intro LPn an cpn W3 hL2 hrn; clear hL hF; have hL := hL2.sub (List.sublist_cons_self _ _); clear hL2; simp only [List.append_eq] at hL; simp only [kfb] at hL; have hF := hL.fx))
                      go_roundw
                      case measure => simp [intOf]; omega
                      case rel => exact ⟨j + 1, nlj + 1, LPn, Lj ++ [(zb.data.toList, 64 + at_)], an, cpn, by omega, by omega, by go_num, rfl, Lib.hid (by rw [List.length_append, HNJ.out]; rfl), Lib.hid (by rw [HLV.out]; exact hrn), HAJ2, hL⟩
                  · obtain rfl : nl2 = j := by omega
                    have HAL := Lib.hid (show addL L (64 + at_) ls = .ok Lj from by have := HAJ.out; rwa [List.take_of_length_le (by rw [HNLS.out]; exact Nat.le_refl _)] at this)
                    have HLR := Lib.hid (HLR0.out at_)
                    have hM := m_len (y := ⟨ls, ([] : Bytes), ops⟩) (size := size) (L := L) (L' := Lj) HNAMED.out (Or.inl rfl) (fun _ => HOPS.out) (by rw [HAT.out]; exact HAL.out)
                    rw [HAT.out, HLR.out] at hM
                    simp only [Rs.bind] at hM
                    by_cases hfull : 4096 < at_ + 0
                    · exact absurd hfull (by omega)
                    · rw [if_neg hfull] at hM
                      have HM := Lib.hid (pass1_add HP1.out HP.out (by rw [HY.out]; exact hM))
                      have HUN := Lib.hid (addL_un HAL.out HLU.out.1)
                      have q1 : decide ((4096 : Int) < (at_ : Int) + 0) = false := decide_eq_false (by omega)
                      have q2 : decide (4096 < at_ + 0) = false := decide_eq_false hfull
                      clear hM
                      go_wp2_with ((at_builtin; refine kL ?_; clear hF hL; intro W hL hF; go_loud (refine wpList_append_end rfl _ _ 82 82 rfl (_ :: _ :: L7j) L6 (Kn.ofPerm hL (List.Perm.cons _ (List.Perm.cons _ List.perm_append_comm))) k 1 (xs.flatMap rst) (rst (⟨⟨ls, ([] : Bytes), ops⟩, .slice al nl2 cl2, .slice ao2 no2 co2, ⟨#[]⟩⟩, at_)) _ _ HR6.out rfl rfl (fun ho => run_append_6 rfl (fun j u hu => by rw [Go.WideShapes.add_plain, Nat.zero_add, kn_cell hL List.mem_cons_self]; simpa [rst] using hu) (by intro u hu; simp only [rst, List.mem_cons, List.not_mem_nil, or_false] at hu; rcases hu with rfl | rfl | rfl | rfl <;> rfl) (by omega) ho) ?_); intro LPn an cpn W3 hL2 hrn; clear hL hF; have hL := (hL2.sub (List.sublist_cons_self _ _)).sub (List.sublist_cons_self _ _); clear hL2; simp only [List.append_eq] at hL; have hF := hL.facts))
                      go_roundw
                      case measure => simp [intOf]; omega
                      case rel =>
                        have hL3 : Kn (keys (L6 ++ L7)) W2 _ (LPn ++ L7j) := Kn.ofPerm hL List.perm_append_comm
                        refine ⟨k + 1, at_ + 0, LPn, L7j, xs ++ [(⟨⟨ls, ([] : Bytes), ops⟩, .slice al nl2 cl2, .slice ao2 no2 co2, ⟨#[]⟩⟩, at_)], Lj, by omega, by omega, by go_num, by go_num, ?_, ?_, ?_, ?_, ?_, HB2.out.tail0 hL3⟩
                        · rw [List.flatMap_append, List.flatMap_cons, List.flatMap_nil, List.append_nil]; exact hrn
                        · rw [HNJ.out]; exact HRJ.out
                        · exact Lib.hid (by rw [List.map_append, List.map_singleton, HM.out, HY.out]; rfl)
                        · exact Lib.hid (fun x hx => by
                            rw [List.map_append] at hx
                            rcases List.mem_append.1 hx with hx | hx
                            · exact (HXN.out x hx).next hL3
                            · obtain rfl := List.mem_singleton.1 hx; exact HXW.out.next hL3)
                        · refine Lib.hid ⟨HUN.out.1, ?_, fun p hp => ?_⟩
                          · rw [HUN.out.2.1, HNLS.out, List.take_add_one, HP.out, Option.toList_some, join_app, List.length_append]
                            have h1 := HLU.out.2.1
                            have h2 := (read_sizes s.data.toList).2.2.1
                            rw [HY.out] at h2
                            have h3 : ls.length ≤ s.data.toList.length + 1 := h2
                            have h4 : (join10 [s.data.toList]).length = s.data.toList.length + 1 := by simp [join10]
                            rw [h4, ← HNLS.out]
                            omega
                          · rcases HUN.out.2.2 p hp with h | h
                            · exact HLU.out.2.2 p h
                            · omega
              · have hse : sop.toList.isEmpty = false := by rw [Lib.toList_data]; cases hxx : sop.data.toList with | nil => exact absurd hxx hemp | cons a l => rfl
                have z1 : (sop.toList == []) = false := by rw [Lib.toList_data]; exact beq_false_of_ne hemp
                have hB := HA.out.symm.trans (asm_bad_at HP1.out HP.out (by rw [HY.out]; exact mB_unk (y := ⟨ls, sop.data.toList, ops⟩) HNAMED.out hemp HFO.out HISD.out))
                subst hB
                clear hemp
                go_wp2
                refine bodyPost_ret (by simp [results, Tryz.results21, go_sem, *]; try rfl) rfl ?_
                exact ⟨(HW1.out.tail0 (HB2.out.tail0 hL)).below0, rfl⟩
    · obtain rfl : k = n := by omega
      have HP2 := Lib.hid (show pass1 OO (Ls.map read) 1 0 [] = .ok (xs.map psx, size, L) from by have := HP1.out; rwa [List.take_of_length_le (by rw [HN.out]; exact Nat.le_refl _)] at this)
      have HA2 := Lib.hid (show pass2 OO L (xs.map psx) 1 [] = A from by rw [← HA.out]; unfold asm; rw [HP2.out])
      have HXL := Lib.hid (show xs.length = k from by have := pass1_len OO _ _ _ _ _ _ _ HP2.out; rw [List.length_map, List.length_map] at this; rw [this, HN.out])
      have HCB := Lib.hid (show ∀ (i : Nat) (code : Bytes), pass2 OO L ((xs.map psx).take i) 1 [] = .ok code → code.length ≤ 4096 from fun i code hc => by
        rcases Nat.lt_or_ge (Ls.map read).length i with hi | hi
        · rw [List.take_of_length_le (by rw [List.length_map, HXL.out]; rw [List.length_map, HN.out] at hi; omega)] at hc
          have h1 := (pass_len OO OO_fine _ _ _ _ _ _ _ _ _ _ _ HP2.out rfl hc).1
          omega
        · obtain ⟨sn, Ln, h1, h2⟩ := P1.all HP2.out i hi
          have := (pass_len OO OO_fine _ _ _ _ _ _ _ _ _ _ _ h1 rfl hc).1
          have := h2.le; omega)
      clear hlt
      obtain ⟨w9, h9⟩ : ∃ x, x = wr := ⟨_, rfl⟩
      subst h9
      go_wp2
      go_loopw [18, 19] (fun o18 o19 wq => ∃ (j : Nat) (cb : ByteArray), j ≤ k ∧ o18 = .string cb ∧ o19 = .int .i64 j ∧ cb.size ≤ 4096 ∧ Hid (pass2 OO L ((xs.map psx).take j) 1 [] = .ok cb.data.toList) ∧ Kn (keys (L6 ++ L7)) w9 wq (L6 ++ L7)) (fun _ i _ => k - (intOf i).toNat)
      case atStart => exact ⟨0, ⟨#[]⟩, by omega, rfl, rfl, by decide, Lib.hid rfl, hL⟩
      case round =>
        clear hL
        clear hF
        obtain ⟨j, cb, hj, rfl, rfl, hcb, HPJ, hL⟩ := hrel
        have hF := hL.facts
        by_cases hltj : j < k
        · obtain ⟨X, hX⟩ : ∃ X, xs[j]? = some X := ⟨_, List.getElem?_eq_getElem (by rw [HXL.out]; exact hltj)⟩
          obtain ⟨⟨⟨ls, opb, ops⟩, vl, vo, sop⟩, at_⟩ := X
          have HXJ := Lib.hid (HX.out _ (List.mem_map.2 ⟨_, List.mem_of_getElem? hX, rfl⟩))
          have hop : opb = sop.data.toList := HXJ.out.op
          subst hop
          have HPX := Lib.hid (show (xs.map psx)[j]? = some (⟨ls, sop.data.toList, ops⟩, at_) from by rw [List.getElem?_map, hX]; rfl)
          obtain ⟨⟨s, hs1, hs2⟩, hat, hsx⟩ := second HP2.out HPX.out
          have hsz := read_sizes s
          rw [← hs2] at hsz
          have hsl := HLP.out s (List.mem_of_getElem? hs1)
          have hso : ∀ p ∈ ops, p.length ≤ 90000 := fun p hp => by have := hsz.2.1 p hp; omega
          have hol : ops.length ≤ 20000 := by have h9 : ops.length ≤ s.length + 1 := hsz.2.2.2.1; omega
          have hnl2 : L.length ≤ 100000 := by have h1 := HLU.out.2.1; have h2 := HJ10.out k; omega
          have HONE := Lib.hid (fun W (h1 : Row W vo (sv ops)) (h2 : LRow W (.slice ao7 nl cp7) L) => one_is vl vo (.slice ao7 nl cp7) sop ls ops at_ L hso hol hnl2 (Lib.hid fun p hp => by have := HLU.out.2.2 p hp; omega) (Lib.hid HLU.out.1) W h1 h2 (by omega) hsx)
          have HSX := Lib.hid hsx
          have H6 := HR6.out
          rcases H6 with ⟨_, _, h0, _⟩ | ⟨g6, cap6, cur6, h6b, h6a, hb6⟩
          · omega
          subst h6b
          injection h6a with h6c h6d h6e
          subst h6c h6e
          have HC0 := fun c u (hu : (rst (⟨⟨ls, sop.data.toList, ops⟩, vl, vo, sop⟩, at_))[c]? = some u) => hb6.get (flat4g (f := rst) (n := 4) (fun _ => rfl) xs j c _ u hX hu)
          have c0 : cur6[j * 4]? = some vl := HC0 0 _ rfl
          have c1 : cur6[j * 4 + 1]? = some (.string sop) := HC0 1 _ rfl
          have c2 : cur6[j * 4 + 2]? = some vo := HC0 2 _ rfl
          have c3 : cur6[j * 4 + 3]? = some (.int .i64 (at_ : Int)) := HC0 3 _ rfl
          clear HC0 hb6 hX hsx hs1 hs2 hsz hso h6d
          simp only [List.cons_append, List.nil_append] at hL HX HB HXJ
          clear hF
          have hF := hL.fx
          have hEM := emit_one (L := L) (x := ⟨ls, sop.data.toList, ops⟩) (a := at_) (code := cb.data.toList) (fun h => (HSX.out h).imp (fun h => h.1) (fun h => h.1))
          cases hr : oneR L ⟨ls, sop.data.toList, ops⟩ at_ with
          | bad e =>
            rw [hr] at HONE hEM
            unfold OneP at HONE
            simp only at HONE
            have hAB := pass2_fail HPJ.out HPX.out hEM
            have he0 := pass2_pos OO L _ _ _ _ _ hAB
            have hm0 : ((e : Int) != 0) = true := bne_iff_ne.2 (by omega)
            have hB := HA2.out.symm.trans hAB
            subst hB
            clear hEM hAB
            go_wp2_with ((go_at_call 49; refine kc (fun W hL => HONE.out _ (HXJ.out.vo.kn hL (fun y hy => .inl hy)).row (RowL.lrow HR7.out hL (fun p hp => List.mem_cons_of_mem _ hp))) ?_; clear hF hL; intro W hL hF))
            refine bodyPost_ret (by simp [results, Tryz.results21, go_sem, *]; try rfl) rfl ?_
            exact ⟨(HW1.out.tail0 (HB.out.tail0 hL)).below0, rfl⟩
          | ok b =>
            rw [hr] at HONE hEM
            unfold OneP at HONE
            simp only at HONE
            obtain ⟨bb, hbb⟩ : ∃ bb : ByteArray, bb = ⟨b.toArray⟩ := ⟨_, rfl⟩
            rw [← hbb] at HONE
            have hbl : bb.data.toList = b := by rw [hbb]
            obtain ⟨zb, hzb⟩ : ∃ zb, (sop.toList == []) = zb := ⟨_, rfl⟩
            have HZB := Lib.hid hzb
            have hzo : Hid (zb = true → b = []) := Lib.hid fun h => by
              rw [h, beq_iff_eq, Lib.toList_data] at hzb
              unfold oneR at hr
              rw [show OO.find (⟨ls, sop.data.toList, ops⟩ : Stm).op = none from by rw [show (⟨ls, sop.data.toList, ops⟩ : Stm).op = sop.data.toList from rfl, hzb]; exact OO_fine.nil] at hr
              simp only [hzb, if_true] at hr
              cases hr; rfl
            have hN := pass2_next HPJ.out HPX.out hEM
            have HN2 := Lib.hid hN
            have hNL := HCB.out _ _ hN
            have HBB := Lib.hid hbl
            have hb1 : bb.size ≤ 4096 := by
              by_cases ho : sop.data.toList = []
              · have := hzo.out (by rw [← hzb, Lib.toList_data, ho]; rfl)
                rw [← szl, hbl, this]; exact Nat.zero_le _
              · simp only [ho, if_false] at hNL
                rw [← szl, hbl]
                simp only [List.length_append] at hNL
                omega
            clear hN hNL hEM hr hbb hbl hzb
            go_wp2_with ((go_at_call 49; refine kc (fun W hL => HONE.out _ (HXJ.out.vo.kn hL (fun y hy => .inl hy)).row (RowL.lrow HR7.out hL (fun p hp => List.mem_cons_of_mem _ hp))) ?_; clear hF hL; intro W hL hF))
            go_loopg [18] (at_ - cb.size) (fun k o18 wq2 => ∃ (c : ByteArray) (z : Nat), Hid (k = at_ - c.size) ∧ o18 = .string c ∧ c.size ≤ 4096 ∧ Hid (c.data.toList = cb.data.toList ++ List.replicate z 0 ∧ (z = 0 ∨ c.size ≤ at_) ∧ (zb = true → z = 0)) ∧ Kn (keys ((g6, .cells cur6 85 (0, 0)) :: L7)) w9 wq2 ((g6, .cells cur6 85 (0, 0)) :: L7))
            case atStart => exact ⟨cb, 0, Lib.hid rfl, rfl, hcb, Lib.hid ⟨by simp, .inl rfl, fun _ => rfl⟩, hL⟩
            case round =>
              clear hL
              clear hF
              obtain ⟨c, z, HK, rfl, hcs, HC, hL⟩ := hrel
              have hF := hL.fx
              by_cases hz : zb = false ∧ c.size < at_
              · obtain ⟨rfl, hz⟩ := hz
                have hzb := HZB.out
                have d1 : decide ((c.size : Int) < (at_ : Int)) = true := decide_eq_true (by omega)
                have d2 : decide (c.size < at_) = true := decide_eq_true hz
                have d3 : ¬ IntKind.i64.max < ((c.size + 1 : Nat) : Int) := by show ¬ (9223372036854775807 : Int) < _; omega
                go_wp2
                go_roundg (at_ - (c.size + 1))
                case measure => have := HK.out; omega
                case rel =>
                  refine ⟨c ++ ⟨#[0]⟩, z + 1, Lib.hid (by rw [ByteArray.size_append]; rfl), rfl, by rw [ByteArray.size_append]; exact Nat.le_trans (show c.size + 1 ≤ at_ by omega) (by omega), Lib.hid ⟨?_, .inr (by rw [ByteArray.size_append]; exact hz), fun h => by cases h⟩, hL⟩
                  rw [show (c ++ (⟨#[0]⟩ : ByteArray)).data.toList = c.data.toList ++ [0] by simp [ByteArray.data_append], HC.out.1, List.append_assoc]
                  congr 1
                  rw [List.replicate_succ']
              · obtain ⟨d1, d2⟩ : (zb = true ∨ decide ((c.size : Int) < (at_ : Int)) = false) ∧ (zb = true ∨ decide (c.size < at_) = false) := by
                  cases zb with
                  | true => exact ⟨.inl rfl, .inl rfl⟩
                  | false =>
                    have : ¬ c.size < at_ := fun h => hz ⟨rfl, h⟩
                    exact ⟨.inr (decide_eq_false (by omega)), .inr (decide_eq_false this)⟩
                have d3 : ¬ IntKind.i64.max < ((c.size + bb.size : Nat) : Int) := by show ¬ (9223372036854775807 : Int) < _; omega
                have hzb := HZB.out
                cases zb with
                | true =>
                  clear d1 d2
                  go_wp2
                  have hfin : (c ++ bb).data.toList = (if (⟨ls, sop.data.toList, ops⟩ : Stm).op = [] then cb.data.toList else cb.data.toList ++ List.replicate (at_ - cb.data.toList.length) 0 ++ b) := by
                    rw [ByteArray.data_append, Array.toList_append, HC.out.1, HBB.out]
                    rw [beq_iff_eq, Lib.toList_data] at hzb
                    rw [if_pos hzb, HC.out.2.2 rfl, hzo.out rfl]
                    simp
                  have hn := HN2.out
                  refine ⟨⟨j + 1, c ++ bb, by omega, rfl, by go_num, ?_, Lib.hid (by rw [hfin]; exact hn), hL⟩, by simp [intOf]; omega⟩
                  have := HCB.out _ _ hn
                  rw [← hfin, szl] at this
                  exact this
                | false =>
                  have d1 := d1.resolve_left (by simp)
                  have d2 := d2.resolve_left (by simp)
                  go_wp2
                  have hfin : (c ++ bb).data.toList = (if (⟨ls, sop.data.toList, ops⟩ : Stm).op = [] then cb.data.toList else cb.data.toList ++ List.replicate (at_ - cb.data.toList.length) 0 ++ b) := by
                    rw [ByteArray.data_append, Array.toList_append, HC.out.1, HBB.out]
                    have hne : ¬ sop.data.toList = [] := fun e => by rw [Lib.toList_data, e] at hzb; cases hzb
                    rw [if_neg hne]
                    have hcl : c.size = cb.size + z := by rw [← szl c, HC.out.1, List.length_append, List.length_replicate, szl]
                    have h9 : ¬ c.size < at_ := fun h => hz ⟨rfl, h⟩
                    rw [szl, show at_ - cb.size = z by rcases HC.out.2.1 with h | h <;> omega]
                  have hn := HN2.out
                  refine ⟨⟨j + 1, c ++ bb, by omega, rfl, by go_num, ?_, Lib.hid (by rw [hfin]; exact hn), hL⟩, by simp [intOf]; omega⟩
                  have := HCB.out _ _ hn
                  rw [← hfin, szl] at this
                  exact this
        · obtain rfl : k = j := by omega
          go_wp2
          refine bodyPost_ret (by simp [results, Tryz.results21, go_sem, *]; try rfl) rfl ?_
          have hfin : A = .ok cb.data.toList := by
            rw [← HA2.out, ← HPJ.out, List.take_of_length_le (by rw [List.length_map, HXL.out]; exact Nat.le_refl _)]
          subst hfin
          exact ⟨(HW1.out.tail0 (HB.out.tail0 hL)).below0, by show _ = Ending.returned (.tuple #[.string ⟨cb.data.toList.toArray⟩, .int .i64 0, .int .i64 0]); rw [toList_mk]⟩
end Go.Proofs.YtfdlifhkeicnnaaGreatDoor
