/- Lemmas and walks for the law LawTells (part 31). -/
import Derived.Test.YtfdlifhkeicnnaaGreatDoorWPt30
import Derived.Test.YtfdlifhkeicnnaaGreatDoorProg
import Derived.WalkKit
import Derived.Handy
import Derived.Deep.Light
import Derived.WalkSmall
import Derived.StillTailTactics
import Derived.Lib.Hide
set_option maxRecDepth 20000
set_option maxHeartbeats 4000000
set_option linter.unusedVariables false
set_option linter.unusedSimpArgs false
namespace Go.Proofs.YtfdlifhkeicnnaaGreatDoor
open Go Go.RowKit
theorem cut59 (s : ByteArray) (hs : s.size ≤ 100000) (D : List Bytes) (hD : Hid (dv 59 s.size false s.data.toList = D)) (k : Nat) (hk : Hid (D.length = k)) (w : World) : Calls Tryz.prog 69 #[.string s, .int .u8 59] w (DivP D k w) := by
 have h := (refCut_is s hs 59 (by decide) (by decide) w).mono (R' := DivP (dv 59 s.size false s.data.toList) (dv 59 s.size false s.data.toList).length w) fun e w' ⟨v, L, h1, h2, h3⟩ => by
  rcases h2 with ⟨_, _, h0, _⟩ | ⟨g, cap, cur, rfl, rfl, hb⟩
  ·exact absurd (List.eq_nil_of_length_eq_zero h0) (dv_ne _ _ _ _)
  ·exact ⟨g, cap, cur, h1, hb, h3⟩
 rw [hD.out, hk.out] at h; exact h
theorem cut58 (s : ByteArray) (hs : s.size ≤ 100000) (D : List Bytes) (hD : Hid (dv 58 s.size false s.data.toList = D)) (k : Nat) (hk : Hid (D.length = k)) (w : World) : Calls Tryz.prog 69 #[.string s, .int .u8 58] w (DivP D k w) := by
 have h := (refCut_is s hs 58 (by decide) (by decide) w).mono (R' := DivP (dv 58 s.size false s.data.toList) (dv 58 s.size false s.data.toList).length w) fun e w' ⟨v, L, h1, h2, h3⟩ => by
  rcases h2 with ⟨_, _, h0, _⟩ | ⟨g, cap, cur, rfl, rfl, hb⟩
  ·exact absurd (List.eq_nil_of_length_eq_zero h0) (dv_ne _ _ _ _)
  ·exact ⟨g, cap, cur, h1, hb, h3⟩
 rw [hD.out, hk.out] at h; exact h
theorem cut44 (s : ByteArray) (hs : s.size ≤ 100000) (D : List Bytes) (hD : Hid (dv 44 s.size false s.data.toList = D)) (k : Nat) (hk : Hid (D.length = k)) (w : World) : Calls Tryz.prog 69 #[.string s, .int .u8 44] w (DivP D k w) := by
 have h := (refCut_is s hs 44 (by decide) (by decide) w).mono (R' := DivP (dv 44 s.size false s.data.toList) (dv 44 s.size false s.data.toList).length w) fun e w' ⟨v, L, h1, h2, h3⟩ => by
  rcases h2 with ⟨_, _, h0, _⟩ | ⟨g, cap, cur, rfl, rfl, hb⟩
  ·exact absurd (List.eq_nil_of_length_eq_zero h0) (dv_ne _ _ _ _)
  ·exact ⟨g, cap, cur, h1, hb, h3⟩
 rw [hD.out, hk.out] at h; exact h
theorem sv_at {D : List Bytes} {j : Nat} {p : Bytes} (h : D[j]? = some p) : ∃ s : ByteArray, p = s.data.toList ∧ (sv D)[j]? = some (.string s) := ⟨⟨p.toArray⟩, by simp, sv_get (s := ⟨p.toArray⟩) (by simpa using h)⟩
theorem take_snoc {D : List Bytes} {k : Nat} {s ts : ByteArray} (h : D[k]? = some s.data.toList) (ht : ts.data.toList = trim s.data.toList) : sv ((D.take (k + 1)).map trim) = sv ((D.take k).map trim) ++ [.string ts] := by
 rw [List.take_add_one, h, Option.toList_some, List.map_append, List.map_singleton, ← ht, sv_snoc]
theorem while_stop {r : Bytes} {k : Nat} (h : ∀ j, j < k → ∀ c, r[j]? = some c → blank c = false) (hk : k ≤ r.length) (he : k = r.length ∨ ∃ c, r[k]? = some c ∧ blank c = true) : r.takeWhile (fun c => !blank c) = r.take k := by
 induction k generalizing r with
 | zero =>
  rcases he with h0 | ⟨c, hc, hb⟩
  ·rw [List.eq_nil_of_length_eq_zero h0.symm]; rfl
  ·cases r with
   | nil => simp at hc
   | cons a t => simp at hc; subst hc; rw [List.takeWhile_cons, hb]; rfl
 | succ k ih =>
  cases r with
  | nil => simp at hk
  | cons a t =>
   rw [List.takeWhile_cons, h 0 (by omega) a rfl]
   simp only [Bool.not_false, if_true, List.take_succ_cons]
   rw [ih (fun j hj c hc => h (j + 1) (by omega) c (by simpa using hc)) (by simpa using hk) (by
    rcases he with h0 | ⟨c, hc, hb⟩
    ·left; simpa using h0
    ·right; exact ⟨c, by simpa using hc, hb⟩)]
theorem refRead_is (line : ByteArray) (hs : line.size ≤ 20000) (w : World) : Calls Tryz.prog 44 #[.string line] w (ReadP (read line.data.toList) w) := by
 obtain ⟨D0, hD0⟩ : ∃ D, dv 59 line.size false line.data.toList = D := ⟨_, rfl⟩
 obtain ⟨n0, hn0⟩ : ∃ n, D0.length = n := ⟨_, rfl⟩
 have hn0p : 0 < n0 := by rw [← hn0, ← hD0]; exact List.length_pos_iff.2 (dv_ne _ _ _ _)
 obtain ⟨p0, hp0⟩ : ∃ p, D0[0]? = some p := ⟨_, List.getElem?_eq_getElem (by rw [hn0]; exact hn0p)⟩
 obtain ⟨s0, rfl, hv0⟩ := sv_at hp0
 have hs0 : s0.size ≤ 20000 := by have := dv_mem_len (c := 59) (m := line.size) (s := line.data.toList) (p := s0.data.toList) (by rw [hD0]; exact List.mem_of_getElem? hp0); rw [szl, szl] at this; omega
 obtain ⟨D1, hD1⟩ : ∃ D, dv 58 s0.size false s0.data.toList = D := ⟨_, rfl⟩
 obtain ⟨n1, hn1⟩ : ∃ n, D1.length = n + 1 := ⟨D1.length - 1, by have : 0 < D1.length := (by rw [← hD1]; exact List.length_pos_iff.2 (dv_ne _ _ _ _)); omega⟩
 have hn1b : n1 ≤ 20000 := by have := dv_count (c := 58) (m := s0.size) (s := s0.data.toList); rw [hD1, hn1, szl] at this; omega
 have HD1L := Lib.hid (show ∀ p ∈ D1, p.length ≤ 20000 from fun p hp => by rw [← hD1] at hp; have := dv_mem_len hp; rw [szl] at this; omega)
 obtain ⟨p1, hp1⟩ : ∃ p, D1[n1]? = some p := ⟨_, List.getElem?_eq_getElem (by omega)⟩
 obtain ⟨s1, rfl, hv1⟩ := sv_at hp1
 have hs1 : s1.size ≤ 20000 := by have := HD1L.out _ (List.mem_of_getElem? hp1); rwa [szl] at this
 obtain ⟨r, hr⟩ := ba_of (trim s1.data.toList)
 have hrs : r.size ≤ 20000 := by have := trim_len s1.data.toList; rw [← hr, szl, szl] at this; omega
 have HRD := Lib.hid (show ∀ k, r.data.toList.takeWhile (fun c => !blank c) = r.data.toList.take k → k ≤ r.size → read line.data.toList = ⟨(D1.take n1).map trim, r.data.toList.take k, if r.data.toList.drop k = [] then [] else (dv 44 (r.data.toList.drop k).length false (r.data.toList.drop k)).map trim⟩ from fun k hk hkr => by
  rw [← readR_eq]
  unfold readR
  have e0 : (dv 59 line.data.toList.length false line.data.toList).headD [] = s0.data.toList := by
   rw [szl, hD0]
   cases D0 with
   | nil => simp at hp0
   | cons a l => simp at hp0; subst hp0; rfl
  rw [e0]
  simp only
  rw [szl, hD1]
  have e1 : D1.getLastD [] = s1.data.toList := by
   rw [List.getLastD_eq_getLast?, List.getLast?_eq_getElem?, hn1, Nat.add_sub_cancel, hp1]; rfl
  rw [e1, ← hr, hk, List.length_take, Nat.min_eq_left (by rw [szl]; exact hkr), List.dropLast_eq_take, hn1, Nat.add_sub_cancel])
 have HD0 := Lib.hid hD0
 have HN0 := Lib.hid hn0
 have HV0 := Lib.hid hv0
 have HD1 := Lib.hid hD1
 have HN1 := Lib.hid hn1
 have HV1 := Lib.hid hv1
 have HR := Lib.hid hr
 clear hD0 hn0 hv0 hp0 hD1 hn1 hv1 hp1 hr
 have hL : Kn [] w w [] := Kn.refl [] w; have hF := hL.fx; go_enter Tryz.func44, Tryz.ntmps44
 go_wp2_with (first | (go_at_call 69; refine kG ?_; clear hF hL; intro W hL hF; (with_reducible refine (cut59 line (by omega) D0 HD0 n0 HN0 _).mono ?_); rintro e W ⟨g0, cap0, cur0, rfl, hB0, hb⟩; replace hL := hL.join hb; clear hb hF; simp only [kfb] at hL; have hF := hL.fx; have cD0 := hB0.get HV0.out) | (go_at_call 69; refine kG ?_; clear hF hL; intro W hL hF; (with_reducible refine (cut58 s0 (by omega) D1 HD1 (n1 + 1) HN1 _).mono ?_); rintro e W ⟨g1, cap1, cur1, rfl, hB1, hb⟩; replace hL := hL.join hb; clear hb hF; simp only [kfb] at hL; have hF := hL.fx))
 go_loopw [5] (fun c wr => ∃ (k : Nat) (LLk : List (Nat × Obj)) (vk : Value), k ≤ n1 ∧ c = .int .i64 k ∧ RowL 1 9 LLk vk k (sv ((D1.take k).map trim)) ∧ Kn [] w wr ((g1, .cells cur1 9 (0, 0)) :: (w.heap.size + 1, .cells #[vk, .string ⟨#[]⟩, .slice none 0 0, .int .i64 0] 85 (0, 0)) :: (w.heap.size, .cells #[.slice none 0 0, .string ⟨#[]⟩, .slice none 0 0, .int .i64 0] 85 (0, 0)) :: LLk)) (fun c _ => n1 - (intOf c).toNat)
 case atStart => exact ⟨0, [], _, by omega, rfl, RowL.nil, hL.sub (by (repeat (first | exact List.Sublist.refl _ | apply List.Sublist.cons_cons | apply List.Sublist.cons)))⟩
 case round =>
  clear hL
  clear hF
  clear cD0
  obtain ⟨k, LLk, vk, hk, rfl, hrow, hL⟩ := hrel
  have hF := hL.fx
  have HRL := Lib.hid hrow
  obtain ⟨ao, cp, hvk⟩ : ∃ ao cp, vk = .slice ao k cp := by
   rcases hrow with ⟨_, rfl, h0, _⟩ | ⟨g2, cap2, cur2, _, rfl, _⟩
   ·exact ⟨none, 0, by rw [h0]⟩
   ·exact ⟨_, _, rfl⟩
  clear hrow
  subst hvk
  by_cases hlt : k < n1
  ·obtain ⟨p, hp⟩ : ∃ p, D1[k]? = some p := ⟨_, List.getElem?_eq_getElem (by rw [HN1.out]; omega)⟩
   have hps := HD1L.out p (List.mem_of_getElem? hp)
   obtain ⟨s, rfl, hvs⟩ := sv_at hp
   rw [szl] at hps
   have cD := hB1.get hvs
   obtain ⟨ts, hts⟩ := ba_of (trim s.data.toList)
   have HTS := Lib.hid hts
   have HP := Lib.hid hp
   clear hts hp hvs
   go_wp2_with (first | ((with_reducible refine ks ?_); clear hL; intro W hL hF) | ((with_reducible refine at_region 6 ?_); refine kW [0, 1, 2, 3, 4, 5, 6, 7, 8, 9, 10] [0, 1, 2, 3, 4, 5, 9] [8, 10] [0, 2, 3, 4, 9] ?_; clear hF hL; intro ι F hne hC hG; (repeat (first | (refine cS ?_) | (refine cF hC ?_; intro K hK; go_big_quiet_op; go_big_quiet_on) | (refine cP ?_; intro K hK; go_big_quiet_op; go_big_quiet_on) | (refine cC ?_; intro W hL; have hF := hL.fx; simp only [ka, Act.eval]; go_at_call 70; (with_reducible refine (refTrim_is s ts (by omega) HTS _).mono ?_); rintro e W ⟨rfl, hb⟩; replace hL := hL.below hb; clear hb hF; have hF := hL.fx; refine ko ?_; clear hL hF; simp only [Act.put, kT]) | (refine cN ?_; intro W hL; have hF := hL.fx; at_builtin; go_loud (refine wpList_append_end rfl _ _ 35 35 rfl [(_, .cells #[.string ts] 9 (0, 0)), (g1, .cells cur1 9 (0, 0)), (w.heap.size + 1, .cells #[.slice ao k cp, .string ⟨#[]⟩, .slice none 0 0, .int .i64 0] 85 (0, 0)), (w.heap.size, .cells #[.slice none 0 0, .string ⟨#[]⟩, .slice none 0 0, .int .i64 0] 85 (0, 0))] LLk hL k 1 (sv ((D1.take k).map trim)) [.string ts] _ _ HRL.out rfl rfl (fun ho => run_append_v rfl (fun j u hu => by rw [Go.WideShapes.add_plain, Nat.zero_add, kn_cell hL List.mem_cons_self]; simpa using hu) (by intro u hu; simp only [List.mem_singleton] at hu; subst hu; rfl) (by omega) ho) ?_); intro LPn an cpn W2 hL2 hrn; clear hL hF; have hL := hL2.sub (List.sublist_cons_self _ _); clear hL2; simp only [List.append_eq] at hL; simp only [kfb] at hL; have hF := hL.fx; go_wp2; refine kb2 ?_; clear hL hF hC hG; intro ι F hne hC hG) | (refine cN ?_; intro W hL; have hF := hL.fx; go_wp2; (first | (refine kb2 ?_; clear hL hF hC hG; intro ι F hne hC hG) | (refine ko2 ?_; clear hL hF))))); refine cwk_nil ?_; clear hC hG; intro W hL; simp only [kfb] at hL; have hF := hL.fx))
   exact ⟨⟨k + 1, LPn, _, by omega, by go_num, by rw [take_snoc HP.out HTS.out]; exact hrn, hL⟩, by simp [intOf]; omega⟩
  ·obtain rfl : k = n1 := by omega
   have cE := hB1.get HV1.out
   go_wp2_with ((go_at_call 70; refine kc (fun W hL => refTrim_is s1 r (by omega) HR _) ?_; clear hF hL; intro W hL hF))
   go_loopw [7] (fun c wr => ∃ m : Nat, m ≤ r.size ∧ c = .int .i64 m ∧ Hid (∀ j, j < m → ∀ c, r.data.toList[j]? = some c → blank c = false) ∧ Kn [] w wr ((w.heap.size + 1, .cells #[.slice ao k cp, .string ⟨#[]⟩, .slice none 0 0, .int .i64 0] 85 (0, 0)) :: (w.heap.size, .cells #[.slice none 0 0, .string ⟨#[]⟩, .slice none 0 0, .int .i64 0] 85 (0, 0)) :: LLk)) (fun c _ => r.size - (intOf c).toNat)
   case atStart => exact ⟨0, by omega, rfl, Lib.hid (fun j hj => by omega), hL.sub (List.sublist_cons_self _ _)⟩
   case round =>
    clear hL
    clear hF
    clear cE
    obtain ⟨m, hm, rfl, HM, hL⟩ := hrel
    have hF := hL.fx
    have HSTOP := Lib.hid (show (m = r.data.toList.length ∨ ∃ c, r.data.toList[m]? = some c ∧ blank c = true) → read line.data.toList = ⟨(D1.take k).map trim, r.data.toList.take m, if r.data.toList.drop m = [] then [] else (dv 44 (r.data.toList.drop m).length false (r.data.toList.drop m)).map trim⟩ from fun he => HRD.out m (while_stop HM.out (by rw [szl]; exact hm) he) hm)
    by_cases hlt2 : m < r.size
    ·obtain ⟨c0, hc0⟩ : ∃ c, r.data.toList[m]? = some c := ⟨_, List.getElem?_eq_getElem (by rw [szl]; omega)⟩
     have eb0 := byte_at hc0 (by omega)
     cases hbl : blank c0 with
     | false =>
      have HMN := Lib.hid (show ∀ j, j < m + 1 → ∀ c, r.data.toList[j]? = some c → blank c = false from fun j hj c hc => by
       by_cases hjm : j < m
       ·exact HM.out j hjm c hc
       ·obtain rfl : j = m := by omega
        rw [hc] at hc0; cases hc0; exact hbl)
      go_wp2_with ((go_at_call 71; (with_reducible refine (refBlank_is c0 false hbl _).mono ?_); rintro e w' ⟨rfl, rfl⟩))
      exact ⟨⟨m + 1, by omega, by go_num, HMN, hL⟩, by simp [intOf]; omega⟩
     | true =>
      have HRE := Lib.hid (HSTOP.out (.inr ⟨c0, hc0, hbl⟩))
      obtain ⟨u, hu⟩ : ∃ u, r.extract m r.size = u := ⟨_, rfl⟩
      have hul : u.data.toList = r.data.toList.drop m := by rw [← hu, ext_list, List.take_of_length_le (by rw [szl]; omega)]
      have hus : u.size = r.size - m := by rw [← szl, hul, List.length_drop, szl]
      obtain ⟨op, hop⟩ : ∃ u, r.extract 0 m = u := ⟨_, rfl⟩
      have hopl : op.data.toList = r.data.toList.take m := by rw [← hop, ext_list, List.drop_zero]
      obtain ⟨D2, hD2⟩ : ∃ D, dv 44 u.size false u.data.toList = D := ⟨_, rfl⟩
      obtain ⟨n2, hn2⟩ : ∃ n, D2.length = n := ⟨_, rfl⟩
      have hn2b : n2 ≤ 20001 := by have := dv_count (c := 44) (m := u.size) (s := u.data.toList); rw [hD2, hn2, szl] at this; omega
      have HD2L := Lib.hid (show ∀ p ∈ D2, p.length ≤ 20000 from fun p hp => by rw [← hD2] at hp; have := dv_mem_len hp; rw [szl] at this; omega)
      have HRE2 := Lib.hid (show read line.data.toList = ⟨(D1.take k).map trim, op.data.toList, D2.map trim⟩ from by
       rw [HRE.out, ← hopl, ← hul, if_neg (by intro h; rw [← szl, h] at hus; simp at hus; omega), szl, hD2])
      have HLE := Lib.hid (show ((D1.take k).map trim).length = k from by rw [List.length_map, List.length_take, HN1.out]; omega)
      rw [HRE2.out]
      have HD2 := Lib.hid hD2
      have HN2 := Lib.hid hn2
      clear HRE HSTOP hul hopl hD2 hn2
      have HUB := Lib.hid (show u.size ≤ 100000 from by omega)
      go_upto_region 11 with (first | (go_at_call 71; (with_reducible refine (refBlank_is c0 true hbl _).mono ?_); rintro e w' ⟨rfl, rfl⟩))
      refine kn_wp ?_; clear hF hL; intro W1 hL; have hF := hL.fx
      have HW1 := Lib.hid hL
      have hw1s := hL.size
      clear hF
      replace hL := (hL.sub (show List.Sublist [(w.heap.size + 1, .cells #[.slice ao k cp, .string ⟨#[]⟩, .slice none 0 0, .int .i64 0] 85 (0, 0)), (w.heap.size, .cells #[.slice none 0 0, .string ⟨#[]⟩, .slice none 0 0, .int .i64 0] 85 (0, 0))] _ from by repeat (first | exact List.nil_sublist _ | apply List.Sublist.cons_cons))).self0
      have hF := hL.fx
      simp only [List.map_cons, List.map_nil] at hL
      go_wp2_with (first | ((with_reducible refine ks ?_); clear hF hL; intro W hL hF) | (go_at_call 69; refine kG ?_; clear hF hL; intro W hL hF; (with_reducible refine (cut44 u HUB.out D2 HD2 n2 HN2 _).mono ?_); rintro e W ⟨g2, cap2, cur2, rfl, hB2, hb⟩; replace hL := hL.join hb; clear hb hF; simp only [kfb] at hL; have hF := hL.fx))
      go_loopw [9] (fun c wr => ∃ (x : Nat) (LOk : List (Nat × Obj)) (vo : Value), x ≤ n2 ∧ c = .int .i64 x ∧ RowL 1 9 LOk vo x (sv ((D2.take x).map trim)) ∧ Kn [w.heap.size + 1, w.heap.size] W1 wr ((g2, .cells cur2 9 (0, 0)) :: (w.heap.size + 1, .cells #[.slice ao k cp, .string op, vo, .int .i64 0] 85 (0, 0)) :: (w.heap.size, .cells #[.slice none 0 0, .string ⟨#[]⟩, .slice none 0 0, .int .i64 0] 85 (0, 0)) :: LOk)) (fun c _ => n2 - (intOf c).toNat)
      case atStart => exact ⟨0, [], _, by omega, rfl, RowL.nil, hL⟩
      case round =>
       clear hL
       obtain ⟨x, LOk, vo, hx, rfl, hrowo, hL⟩ := hrel
       have hF := hL.fx
       have HRO := Lib.hid hrowo
       obtain ⟨ao2, cp2, hvo⟩ : ∃ ao cp, vo = .slice ao x cp := by
        rcases hrowo with ⟨_, rfl, h0, _⟩ | ⟨g3, cap3, cur3, _, rfl, _⟩
        ·exact ⟨none, 0, by rw [h0]⟩
        ·exact ⟨_, _, rfl⟩
       clear hrowo
       subst hvo
       by_cases hlt3 : x < n2
       ·obtain ⟨p, hp⟩ : ∃ p, D2[x]? = some p := ⟨_, List.getElem?_eq_getElem (by rw [HN2.out]; omega)⟩
        have hps := HD2L.out p (List.mem_of_getElem? hp)
        obtain ⟨s, rfl, hvs⟩ := sv_at hp
        rw [szl] at hps
        have cD := hB2.get hvs
        obtain ⟨ts, hts⟩ := ba_of (trim s.data.toList)
        have HTS := Lib.hid hts
        have HP := Lib.hid hp
        clear hts hp hvs
        go_wp2_with (first | ((with_reducible refine ks ?_); clear hL; intro W hL hF) | ((with_reducible refine at_region 17 ?_); refine kW [0, 1, 2, 3, 4, 5, 6, 7, 8, 9, 10] [0, 1, 2, 3, 4, 5, 9] [8, 10] [0, 2, 3, 4, 9] ?_; clear hF hL; intro ι F hne hC hG; (repeat (first | (refine cS ?_) | (refine cF hC ?_; intro K hK; go_big_quiet_op; go_big_quiet_on) | (refine cP ?_; intro K hK; go_big_quiet_op; go_big_quiet_on) | (refine cC ?_; intro W hL; have hF := hL.fx; simp only [ka, Act.eval]; go_at_call 70; (with_reducible refine (refTrim_is s ts (by omega) HTS _).mono ?_); rintro e W ⟨rfl, hb⟩; replace hL := hL.below hb; clear hb hF; have hF := hL.fx; refine ko ?_; clear hL hF; simp only [Act.put, kT]) | (refine cN ?_; intro W hL; have hF := hL.fx; at_builtin; go_loud (refine wpList_append_end rfl _ _ 35 35 rfl [(_, .cells #[.string ts] 9 (0, 0)), (g2, .cells cur2 9 (0, 0)), (w.heap.size + 1, .cells #[.slice ao k cp, .string op, .slice ao2 x cp2, .int .i64 0] 85 (0, 0)), (w.heap.size, .cells #[.slice none 0 0, .string ⟨#[]⟩, .slice none 0 0, .int .i64 0] 85 (0, 0))] LOk hL x 1 (sv ((D2.take x).map trim)) [.string ts] _ _ HRO.out rfl rfl (fun ho => run_append_v rfl (fun j u hu => by rw [Go.WideShapes.add_plain, Nat.zero_add, kn_cell hL List.mem_cons_self]; simpa using hu) (by intro u hu; simp only [List.mem_singleton] at hu; subst hu; rfl) (by omega) ho) ?_); intro LPn an cpn W2 hL2 hrn; clear hL hF; have hL := hL2.sub (List.sublist_cons_self _ _); clear hL2; simp only [List.append_eq] at hL; simp only [kfb] at hL; have hF := hL.fx; go_wp2; refine kb2 ?_; clear hL hF hC hG; intro ι F hne hC hG) | (refine cN ?_; intro W hL; have hF := hL.fx; go_wp2; (first | (refine kb2 ?_; clear hL hF hC hG; intro ι F hne hC hG) | (refine ko2 ?_; clear hL hF))))); refine cwk_nil ?_; clear hC hG; intro W hL; simp only [kfb] at hL; have hF := hL.fx))
        exact ⟨⟨x + 1, LPn, _, by omega, by go_num, by rw [take_snoc HP.out HTS.out]; exact hrn, hL⟩, by simp [intOf]; omega⟩
       ·obtain rfl : x = n2 := by omega
        go_wp2
        refine bodyPost_ret (by simp [results, Tryz.results44, go_sem, *]; try rfl) rfl ?_
        refine ⟨_, _, LLk, LOk, op, rfl, ?_⟩
        rw [HRE2.out]
        refine ⟨by rw [HLE.out]; exact HRL.out, ?_, rfl, ?_⟩
        ·have := HRO.out
         rw [List.take_of_length_le (by rw [HN2.out]; omega)] at this
         rw [List.length_map, HN2.out]; exact this
        ·exact Kn.sub (Kn.joinA (P := [(w.heap.size + 1, .cells #[.slice ao k cp, .string ⟨#[]⟩, .slice none 0 0, .int .i64 0] 85 (0, 0)), (w.heap.size, .cells #[.slice none 0 0, .string ⟨#[]⟩, .slice none 0 0, .int .i64 0] 85 (0, 0))]) [] LLk HW1.out (kn_here (X := [w.heap.size + 1, w.heap.size]) (w0 := W1))) (by simp only [List.nil_append, List.cons_append]; (repeat (first | exact List.Sublist.refl _ | apply List.Sublist.cons)))
    ·obtain rfl : m = r.size := by omega
     have HRE := Lib.hid (HSTOP.out (.inl (by rw [szl])))
     have HRE2 := Lib.hid (show read line.data.toList = ⟨(D1.take k).map trim, r.data.toList, []⟩ from by
      rw [HRE.out, List.drop_of_length_le (by rw [szl]; omega), if_pos rfl, List.take_of_length_le (l := r.data.toList) (by rw [szl]; omega)])
     have HLE := Lib.hid (show ((D1.take k).map trim).length = k from by rw [List.length_map, List.length_take, HN1.out]; omega)
     rw [HRE2.out]
     clear HRE HSTOP
     go_wp2
     refine bodyPost_ret (by simp [results, Tryz.results44, go_sem, *]; try rfl) rfl ?_
     refine ⟨_, _, LLk, [], r, rfl, ?_⟩
     rw [HRE2.out]
     exact ⟨by rw [HLE.out]; exact HRL.out, RowL.nil, rfl, Kn.sub kn_here (by simp only [List.nil_append]; (repeat (first | exact List.Sublist.refl _ | apply List.Sublist.cons)))⟩
theorem smallT0 : asm OO (linesB [97, 58, 32, 46, 98, 121, 116, 101, 32, 49, 10, 98, 58, 32, 115, 101, 116, 32, 114, 49, 44, 32, 98, 10, 106, 109, 112, 32, 97, 32, 59, 32, 120]) = .ok ([1, 0, 0, 0] ++ (encS 2 1 68 0).data.toList ++ (encS 25 0 (-12) 0).data.toList) := by kernel_rfl
theorem smallT2 : asm OO (linesB [106, 109, 112, 32, 110, 111, 119, 104, 101, 114, 101]) = .bad 4 1 := by kernel_rfl
theorem smallT3 : asm OO (linesB [115, 101, 116, 32, 114, 56, 44, 32, 49]) = .bad 2 1 := by kernel_rfl
theorem smallT4 : asm OO (linesB [115, 101, 116, 32, 114, 49, 44, 32, 52, 48, 48, 48, 48]) = .bad 3 1 := by kernel_rfl
theorem smallT1 (hu : unqB [34, 97, 59, 92, 110, 34] = some [97, 59, 10]) : asm OO (linesB [46, 116, 101, 120, 116, 32, 34, 97, 59, 92, 110, 34]) = .ok [97, 59, 10] := by
 have hl : (linesB [46, 116, 101, 120, 116, 32, 34, 97, 59, 92, 110, 34]).map read = [⟨[], dText, [[34, 97, 59, 92, 110, 34]]⟩] := by kernel_rfl
 have hd : ∀ last, direct OO [] ⟨[], dText, [[34, 97, 59, 92, 110, 34]]⟩ last = .ok [97, 59, 10] := fun last => by
  have h : direct OO [] ⟨[], dText, [[34, 97, 59, 92, 110, 34]]⟩ last = (match OO.unq [34, 97, 59, 92, 110, 34] with
   | some u => .ok u
   | none => .bad 2) := by unfold direct; simp only; rw [if_neg (by decide), if_neg (by decide), if_pos trivial]; rfl
  rw [h, show OO.unq [34, 97, 59, 92, 110, 34] = some [97, 59, 10] from hu]
 have h1 : measure OO ⟨[], dText, [[34, 97, 59, 92, 110, 34]]⟩ 0 [] = .ok (3, 0, []) := by
  have h : measure OO ⟨[], dText, [[34, 97, 59, 92, 110, 34]]⟩ 0 [] = ((direct OO [] ⟨[], dText, [[34, 97, 59, 92, 110, 34]]⟩ false).bind fun b => .ok b.length).bind fun n => if 4096 < 0 + n then .bad 6 else .ok (0 + n, 0, []) := by kernel_rfl
  rw [h, hd]; rfl
 have h2 : emit OO [] ⟨[], dText, [[34, 97, 59, 92, 110, 34]]⟩ 0 [] = .ok [97, 59, 10] := by
  have h : emit OO [] ⟨[], dText, [[34, 97, 59, 92, 110, 34]]⟩ 0 [] = (direct OO [] ⟨[], dText, [[34, 97, 59, 92, 110, 34]]⟩ true).bind fun b => .ok ([] ++ b) := by kernel_rfl
  rw [h, hd]; rfl
 simp only [asm, hl, pass1, h1, pass2, h2]
theorem qb_head {c v : UInt8} {x t : Bytes} (hv : v ≠ 92) (h : qb c ++ x = v :: t) : c = v ∧ x = t := by
 unfold qb at h
 split at h
 ·simp at h; exact absurd h.1.symm hv
 ·split at h
  ·simp at h; exact absurd h.1.symm hv
  ·split at h
   ·simpa using h
   ·simp at h; exact absurd h.1.symm hv
theorem qb_lf {c : UInt8} {x t : Bytes} (h : qb c ++ x = 92 :: 110 :: t) : c = 10 ∧ x = t := by
 unfold qb at h
 split at h
 ·rename_i hc
  rcases hc with rfl | rfl <;> simp at h
 ·rename_i hn
  split at h
  ·rename_i hc; simp at h; exact ⟨hc, h⟩
  ·split at h
   ·simp at h; exact absurd (.inr h.1) hn
   ·simp at h
theorem unq_a : unqB [34, 97, 59, 92, 110, 34] = some [97, 59, 10] := unq_some (by decide) fun d hd => by
 have h : d.flatMap qb = [97, 59, 92, 110] := List.append_cancel_right (show d.flatMap qb ++ [34] = [97, 59, 92, 110] ++ [34] from by unfold quoteB at hd; injection hd)
 cases d with
 | nil => cases h
 | cons c d =>
  rw [List.flatMap_cons] at h
  obtain ⟨e, h1⟩ := qb_head (by decide) h; clear h; subst e; have h := h1; clear h1
  cases d with
  | nil => cases h
  | cons c d =>
   rw [List.flatMap_cons] at h
   obtain ⟨e, h1⟩ := qb_head (by decide) h; clear h; subst e; have h := h1; clear h1
   cases d with
   | nil => cases h
   | cons c d =>
    rw [List.flatMap_cons] at h
    obtain ⟨e, h1⟩ := qb_lf h; clear h; subst e; have h := h1; clear h1
    cases d with
    | nil => rfl
    | cons c d =>
     exfalso
     have h9 := congrArg List.length h
     have hq : 0 < (qb c).length := by unfold qb; split <;> (try split) <;> (try split) <;> simp
     rw [List.flatMap_cons, List.length_append, List.length_nil] at h9
     omega
def smallW : Bytes := [1, 0, 0, 0] ++ (encS 2 1 68 0).data.toList ++ (encS 25 0 (-12) 0).data.toList
theorem smallC0 (w : World) (hT : TabA w) : Calls Tryz.prog 11 #[.string ⟨#[97, 58, 32, 46, 98, 121, 116, 101, 32, 49, 10, 98, 58, 32, 115, 101, 116, 32, 114, 49, 44, 32, 98, 10, 106, 109, 112, 32, 97, 32, 59, 32, 120]⟩] w fun e w' => e = .returned (.tuple #[.string ⟨smallW.toArray⟩, .int .i64 0, .int .i64 0]) ∧ Below w.heap.size w w' := by
 refine (Assemble_is (Lib.hid iany) ⟨#[97, 58, 32, 46, 98, 121, 116, 101, 32, 49, 10, 98, 58, 32, 115, 101, 116, 32, 114, 49, 44, 32, 98, 10, 106, 109, 112, 32, 97, 32, 59, 32, 120]⟩ (by decide) w hT).mono ?_
 intro e w' h
 unfold AsmP at h
 rw [show asm OO (linesB (⟨#[97, 58, 32, 46, 98, 121, 116, 101, 32, 49, 10, 98, 58, 32, 115, 101, 116, 32, 114, 49, 44, 32, 98, 10, 106, 109, 112, 32, 97, 32, 59, 32, 120]⟩ : ByteArray).data.toList) = _ from smallT0] at h
 exact ⟨h.2, h.1⟩
theorem smallC1 (w : World) (hT : TabA w) : Calls Tryz.prog 11 #[.string ⟨#[46, 116, 101, 120, 116, 32, 34, 97, 59, 92, 110, 34]⟩] w fun e w' => e = .returned (.tuple #[.string ⟨#[97, 59, 10]⟩, .int .i64 0, .int .i64 0]) ∧ Below w.heap.size w w' := by
 refine (Assemble_is (Lib.hid iany) ⟨#[46, 116, 101, 120, 116, 32, 34, 97, 59, 92, 110, 34]⟩ (by decide) w hT).mono ?_
 intro e w' h
 unfold AsmP at h
 rw [show asm OO (linesB (⟨#[46, 116, 101, 120, 116, 32, 34, 97, 59, 92, 110, 34]⟩ : ByteArray).data.toList) = _ from smallT1 unq_a] at h
 exact ⟨h.2, h.1⟩
theorem smallC2 (w : World) (hT : TabA w) : Calls Tryz.prog 11 #[.string ⟨#[106, 109, 112, 32, 110, 111, 119, 104, 101, 114, 101]⟩] w fun e w' => e = .returned (.tuple #[.string ⟨#[]⟩, .int .i64 4, .int .i64 1]) ∧ Below w.heap.size w w' := by
 refine (Assemble_is (Lib.hid iany) ⟨#[106, 109, 112, 32, 110, 111, 119, 104, 101, 114, 101]⟩ (by decide) w hT).mono ?_
 intro e w' h
 unfold AsmP at h
 rw [show asm OO (linesB (⟨#[106, 109, 112, 32, 110, 111, 119, 104, 101, 114, 101]⟩ : ByteArray).data.toList) = _ from smallT2] at h
 exact ⟨h.2, h.1⟩
theorem smallC3 (w : World) (hT : TabA w) : Calls Tryz.prog 11 #[.string ⟨#[115, 101, 116, 32, 114, 56, 44, 32, 49]⟩] w fun e w' => e = .returned (.tuple #[.string ⟨#[]⟩, .int .i64 2, .int .i64 1]) ∧ Below w.heap.size w w' := by
 refine (Assemble_is (Lib.hid iany) ⟨#[115, 101, 116, 32, 114, 56, 44, 32, 49]⟩ (by decide) w hT).mono ?_
 intro e w' h
 unfold AsmP at h
 rw [show asm OO (linesB (⟨#[115, 101, 116, 32, 114, 56, 44, 32, 49]⟩ : ByteArray).data.toList) = _ from smallT3] at h
 exact ⟨h.2, h.1⟩
theorem smallC4 (w : World) (hT : TabA w) : Calls Tryz.prog 11 #[.string ⟨#[115, 101, 116, 32, 114, 49, 44, 32, 52, 48, 48, 48, 48]⟩] w fun e w' => e = .returned (.tuple #[.string ⟨#[]⟩, .int .i64 3, .int .i64 1]) ∧ Below w.heap.size w w' := by
 refine (Assemble_is (Lib.hid iany) ⟨#[115, 101, 116, 32, 114, 49, 44, 32, 52, 48, 48, 48, 48]⟩ (by decide) w hT).mono ?_
 intro e w' h
 unfold AsmP at h
 rw [show asm OO (linesB (⟨#[115, 101, 116, 32, 114, 49, 44, 32, 52, 48, 48, 48, 48]⟩ : ByteArray).data.toList) = _ from smallT4] at h
 exact ⟨h.2, h.1⟩
theorem smallW_eq : smallW = ((⟨#[1, 0, 0, 0]⟩ : ByteArray) ++ encS 2 1 68 0 ++ encS 25 0 (-12) 0).toList := by decide +kernel
theorem smallE : (encS 2 1 68 0).size = 4 ∧ (encS 25 0 (-12) 0).size = 4 ∧ ((⟨#[1, 0, 0, 0]⟩ : ByteArray) ++ encS 2 1 68 0).size = 8 ∧ ((⟨#[1, 0, 0, 0]⟩ : ByteArray) ++ encS 2 1 68 0 ++ encS 25 0 (-12) 0).size = 12 := by decide +kernel
theorem small_is (w : World) (hT : TabA w) : Calls Tryz.prog 8 #[] w fun e w' => e = .returned (.bool true) ∧ Below w.heap.size w w' := by
 obtain ⟨s1, s2, s3, s4⟩ := smallE
 have s5 := smallW_eq
 have hL : Kn [] w w [] := Kn.refl [] w; have hF := hL.fx; go_enter Tryz.func8, Tryz.ntmps8
 go_wp2_with (first | ((with_reducible refine ks ?_); clear hL; intro W hL hF) | (go_at_call 11; refine kG ?_; clear hF hL; intro W hL hF; (((first | (with_reducible refine (smallC0 _ (hT.kn hL (by simp))).mono ?_) | (with_reducible refine (smallC1 _ (hT.kn hL (by simp))).mono ?_) | (with_reducible refine (smallC2 _ (hT.kn hL (by simp))).mono ?_) | (with_reducible refine (smallC3 _ (hT.kn hL (by simp))).mono ?_) | (with_reducible refine (smallC4 _ (hT.kn hL (by simp))).mono ?_)))); rintro e W ⟨rfl, hb⟩; replace hL := hL.below hb; clear hb hF; have hF := hL.fx) | (go_at_call 20; refine kc (fun W hL => Encode_any _ _ _ _ _ ((hT.kn hL (by simp)).i)) ?_; clear hF hL; intro W hL hF))
 refine bodyPost_ret (by simp [results, Tryz.results8, go_sem, *]; try rfl) rfl ?_
 exact ⟨rfl, hL.below0⟩
def join10 (l : List Bytes) : Bytes := l.flatMap fun x => x ++ [10]
/-- A string divided at its line feeds (as split10). -/
theorem split_line : ∀ (x t : Bytes), 10 ∉ x → split10 (x ++ 10 :: t) = x :: split10 t
 | [], t, _ => by rw [List.nil_append, split10, if_pos rfl]
 | c :: x, t, h => by
  have hc : c ≠ 10 := fun e => h (by rw [e]; simp)
  rw [List.cons_append, split10, if_neg hc, split_line x t (fun hm => h (List.mem_cons_of_mem _ hm))]
theorem split_last : ∀ x : Bytes, 10 ∉ x → split10 x = [x]
 | [], _ => rfl
 | c :: x, h => by
  have hc : c ≠ 10 := fun e => h (by rw [e]; simp)
  rw [split10, if_neg hc, split_last x (fun hm => h (List.mem_cons_of_mem _ hm))]
theorem split_ne : ∀ s : Bytes, split10 s ≠ []
 | [] => by simp [split10]
 | c :: t => by
  rw [split10]
  split
  ·simp
  ·split <;> simp
theorem split_join : ∀ s : Bytes, join10 (split10 s) = s ++ [10]
 | [] => rfl
 | c :: t => by
  have ih := split_join t
  rw [split10]
  split
  ·rename_i h; subst h
   unfold join10 at ih ⊢
   rw [List.flatMap_cons, ih]; rfl
  ·split
   ·rename_i h r e
    rw [e] at ih
    unfold join10 at ih ⊢
    rw [List.flatMap_cons] at ih ⊢
    rw [List.cons_append, List.cons_append, ih]; rfl
   ·rename_i e
    exact absurd e (split_ne t)
/-- What is left without a line feed at the end. -/
def trim10 (s : Bytes) : Bytes := if s.getLast? = some 10 then s.dropLast else s
theorem trim_snoc (s : Bytes) : trim10 (s ++ [10]) = s := by unfold trim10; rw [if_pos (by simp)]; simp
theorem trim_or (s : Bytes) : (s = trim10 s ++ [10] ∧ s.getLast? = some 10) ∨ (trim10 s = s ∧ s.getLast? ≠ some 10) := by
 unfold trim10
 split
 ·rename_i h
  left
  have hne : s ≠ [] := by rintro rfl; simp at h
  have := List.dropLast_concat_getLast hne
  rw [List.getLast?_eq_some_getLast hne] at h
  injection h with h
  rw [h] at this
  exact ⟨this.symm, by rw [← this]; simp⟩
 ·rename_i h; right; exact ⟨rfl, h⟩
def lns (s : Bytes) : List Bytes := if s = [] then [] else split10 (trim10 s)
theorem lns_join (s : Bytes) : join10 (lns s) = if s = [] then [] else if s.getLast? = some 10 then s else s ++ [10] := by
 unfold lns
 split
 ·rfl
 ·rw [split_join]
  rcases trim_or s with ⟨h1, h2⟩ | ⟨h1, h2⟩
  ·rw [if_pos h2]; exact h1.symm
  ·rw [if_neg h2, h1]
/-! Fields. -/
theorem suffix10 : ∀ s : Bytes, List.isSuffixOf [10] s = (s.getLast? == some 10) := fun s => by
 rcases List.eq_nil_or_concat s with rfl | ⟨l, x, rfl⟩
 ·rfl
 ·rw [List.concat_eq_append]
  unfold List.isSuffixOf
  rw [List.reverse_append]
  simp [List.isPrefixOf]
  rcases Decidable.em (x = 10) with h | h
  ·subst h; simp
  ·rw [beq_false_of_ne h, beq_false_of_ne (Ne.symm h)]
theorem lines_lns (s : Bytes) : linesB s = lns s := by
 unfold linesB lns
 split
 ·rfl
 ·congr 1
  unfold Lib.trimSuffix trim10 Lib.hasSuffix
  rw [suffix10]
  by_cases h : s.getLast? = some 10
  ·rw [if_pos (by rw [h]; rfl), if_pos h, List.dropLast_eq_take]; rfl
  ·rw [if_neg (by simpa using h), if_neg h]
theorem ba_mk (s : ByteArray) : (⟨s.data.toList.toArray⟩ : ByteArray) = s := by cases s; simp
theorem row_owns {w : World} {base : Nat} {e : TypeId} {v : Value} {n : Nat} {xs : List Value} (h : w.ownsRow base e 1 v n xs) : Row w v xs := by
 obtain ⟨hl, ⟨rfl, rfl⟩ | ⟨g, cap, cur, rfl, _, hg, h1, _, h3, h4⟩⟩ := h
 ·have : xs = [] := List.eq_nil_of_length_eq_zero (by omega)
  subst this
  exact ⟨none, 0, rfl, fun j x hx => by simp at hx⟩
 ·refine ⟨_, cap, by rw [hl, Nat.mul_one], fun j x hx => ⟨g, 0, rfl, ?_⟩⟩
  rw [← h4, List.getElem?_take] at hx
  split at hx
  ·simp only [World.cell?, hg, Nat.zero_add]; simpa using hx
  ·cases hx
theorem beq_bytes (d c : UInt8) : ((d.toNat : Int) == (c.toNat : Int)) = (d == c) := by
 by_cases h : d = c
 ·subst h; simp
 ·rw [beq_false_of_ne h, beq_false_of_ne (fun e => h (UInt8.toNat_inj.1 (by omega)))]
theorem index_lt : ∀ (l : Bytes) (e : UInt8), Lib.indexByte l e < l.length
 | [], e => by simp [Lib.indexByte]
 | x :: l, e => by
  have ih := index_lt l e
  rw [Lib.indexByte]
  split
  ·simp only [List.length_cons]; omega
  ·split
   ·simp only [List.length_cons]; omega
   ·simp only [List.length_cons]; omega
theorem BOwn.blk {w0 w : World} {v : Value} {l : List UInt8} (h : BOwn w0 w v l) (hne : l ≠ []) : ∃ g cap cur, v = .slice (some ⟨g, 0, none⟩) l.length cap ∧ w0.heap.size ≤ g ∧ Kn [] w0 w [(g, .cells cur 5 (0, 0))] ∧ RowB 1 cur cap l.length (bc l) := by
 rcases own_blk h.1 h.2 (fun g _ hm => by simp at hm) with ⟨_, h1, _⟩ | h1
 ·exact absurd (List.eq_nil_of_length_eq_zero h1) hne
 ·exact h1
theorem BOwn.of_blk {w0 w : World} {l news : List UInt8} {g cap n : Nat} {cur : Array Value} {L : List (Nat × Obj)} (h : Kn [] w0 w ((g, .cells cur 5 (0, 0)) :: L)) (hg : w0.heap.size ≤ g) (hr : RowB 1 cur cap n (bc l ++ bc news)) (hn : n = l.length + news.length) : BOwn w0 w (.slice (some ⟨g, 0, none⟩) n cap) (l ++ news) := by
 obtain ⟨h1, _⟩ := blk_own (i := 0) h rfl hg hr
 refine ⟨h.sub (List.nil_sublist _), ?_⟩
 rw [List.length_append, ← hn]
 unfold bc at h1 ⊢
 rw [List.map_append]; exact h1
theorem refQuote_any (s : ByteArray) (hs : s.size ≤ 1000000) (w : World) : Calls Tryz.prog 110 #[.string s] w fun e w' => e = .returned (.string ⟨(quoteB s.data.toList).toArray⟩) ∧ Below w.heap.size w w' := by
 have hB := BOwn.new (Kn.refl [] w) [34] #[.int .u8 34] rfl 1 rfl (by decide)
 go_enter Tryz.func110, Tryz.ntmps110
 go_wp2
 go_loopw [3, 4] (fun o i wr => ∃ (k : Nat) (v : Value), k ≤ s.size ∧ i = .int .i64 k ∧ o = v ∧ BOwn w wr v (34 :: (s.data.toList.take k).flatMap qb)) (fun _ i _ => s.size - (intOf i).toNat)
 case atStart => exact ⟨0, _, by omega, rfl, rfl, hB⟩
 case round =>
  obtain ⟨k, v, hk, rfl, rfl, hB1⟩ := hrel
  clear hB
  have hB := hB1
  clear hB1
  have hlen : ((s.data.toList.take k).flatMap qb).length ≤ 4000000 := by
   have h1 := flat_le qb 4 (s.data.toList.take k) (fun c _ => qb_len c)
   have h2 : (s.data.toList.take k).length * 4 ≤ 1000000 * 4 := Nat.mul_le_mul_right _ (by rw [List.length_take, szl]; omega)
   omega
  by_cases hlt : k < s.size
  ·obtain ⟨c, hck⟩ : ∃ c, s.data.toList[k]? = some c := ⟨_, List.getElem?_eq_getElem (by rw [szl]; omega)⟩
   have eb := byte_at hck hlt
   have HFT := Lib.hid (flat_take qb hck)
   have hc256 := c.toNat_lt
   by_cases hA : c = 34
   ·subst hA
    go_wp2_with ((at_builtin; (first | (refine wpList_appb rfl _ _ rfl _ [92, 34] hB rfl _ rfl _ rfl rfl (by simp only [List.length_append, List.length_cons, List.length_nil]; omega) ?_)); intro v2 W2 hB2; clear hB; have hB := hB2; clear hB2))
    go_roundw
    case rel => exact ⟨k + 1, _, by omega, by go_num, rfl, by rw [HFT.out, show qb 34 = [92, 34] from rfl]; simpa using hB⟩
    case measure => simp [intOf]; omega
   by_cases hBB : c = 92
   ·subst hBB
    go_wp2_with ((at_builtin; (first | (refine wpList_appb rfl _ _ rfl _ [92, 92] hB rfl _ rfl _ rfl rfl (by simp only [List.length_append, List.length_cons, List.length_nil]; omega) ?_)); intro v2 W2 hB2; clear hB; have hB := hB2; clear hB2))
    go_roundw
    case rel => exact ⟨k + 1, _, by omega, by go_num, rfl, by rw [HFT.out, show qb 92 = [92, 92] from rfl]; simpa using hB⟩
    case measure => simp [intOf]; omega
   have f34 : ((c.toNat : Int) == 34) = false := beq_false_of_ne fun h => hA (UInt8.toNat_inj.1 (show c.toNat = 34 by omega))
   have f92 : ((c.toNat : Int) == 92) = false := beq_false_of_ne fun h => hBB (UInt8.toNat_inj.1 (show c.toNat = 92 by omega))
   by_cases hC : c = 10
   ·subst hC
    go_wp2_with ((at_builtin; (first | (refine wpList_appb rfl _ _ rfl _ [92, 110] hB rfl _ rfl _ rfl rfl (by simp only [List.length_append, List.length_cons, List.length_nil]; omega) ?_)); intro v2 W2 hB2; clear hB; have hB := hB2; clear hB2))
    go_roundw
    case rel => exact ⟨k + 1, _, by omega, by go_num, rfl, by rw [HFT.out, show qb 10 = [92, 110] from rfl]; simpa using hB⟩
    case measure => simp [intOf]; omega
   have f10 : ((c.toNat : Int) == 10) = false := beq_false_of_ne fun h => hC (UInt8.toNat_inj.1 (show c.toNat = 10 by omega))
   by_cases hD : 32 ≤ (c.toNat : Int) ∧ (c.toNat : Int) ≤ 126
   ·have hq := Lib.hid (show qb c = [c] by unfold qb; rw [if_neg (by simp [hA, hBB]), if_neg hC, if_pos (by omega)])
    obtain ⟨hD1, hD2⟩ := hD
    go_wp2_with ((at_builtin; (first | (refine wpList_appb rfl _ _ rfl _ [c] hB rfl _ rfl _ rfl rfl (by simp only [List.length_append, List.length_cons, List.length_nil]; omega) ?_)); intro v2 W2 hB2; clear hB; have hB := hB2; clear hB2))
    go_roundw
    case rel => exact ⟨k + 1, _, by omega, by go_num, rfl, by rw [HFT.out, hq.out]; simpa using hB⟩
    case measure => simp [intOf]; omega
   ·have hq := Lib.hid (show qb c = [92, 120, hexB (c.toNat / 16), hexB (c.toNat % 16)] by unfold qb; rw [if_neg (by simp [hA, hBB]), if_neg hC, if_neg (by omega)])
    obtain ⟨i0, hi, hz0, hz1, hz2⟩ := info_parts infoB8
    obtain ⟨g, cap, cur, rfl, hg, hL, hr⟩ := hB.blk (by simp)
    obtain ⟨n, hn⟩ : ∃ n, (34 :: (s.data.toList.take k).flatMap qb).length = n := ⟨_, rfl⟩
    rw [hn] at hr ⊢
    have hn2 : n ≤ 4000001 := by rw [← hn, List.length_cons]; omega
    have HN := Lib.hid hn
    clear hB hn hA hBB hC
    have hF := hL.fx
    have q1 : 0 ≤ (c.toNat : Int) / 16 := by omega
    have q2 : (c.toNat : Int) / 16 < 16 := by omega
    have q3 : ((c.toNat : Int) / 16).toNat = c.toNat / 16 := by omega
    have q4 : 0 ≤ (c.toNat : Int) % 16 := by omega
    have q5 : (c.toNat : Int) % 16 < 16 := by omega
    have q6 : ((c.toNat : Int) % 16).toNat = c.toNat % 16 := by omega
    by_cases hD1 : (c.toNat : Int) < 32
    ·go_wp2_with ((with_reducible refine at_region 11 ?_); refine kn_wp ?_; clear hF hL; intro W hL; have hF := hL.fx; refine kn_region [0, 1, 2, 3, 4, 5, 6, 7, 8, 9] [0, 1, 2, 3, 4, 5, 6, 9] [7, 8] [0, 1, 2, 3, 4, 5, 6, 9] (by kernel_rfl) (by kernel_rfl) (List.Sublist.cons _ (List.Sublist.refl _)) ?_; clear hF hL; intro ι F hne hC hFF; have hG := fun n => (hFF n).fx; clear hFF; (repeat (first | (refine cP ?_; intro K hK; go_big_quiet_op; go_big_quiet_on) | (refine cN ?_; intro W hL; have hF := hL.fx; go_wp2_with (at_builtin; refine wpList_append_blk rfl _ _ 47 rfl 5 i0 _ Tryz.underlying47 hi hz0 (by rw [hz1]; rfl) (by rw [hz1]; decide) hL 1 _ _ _ _ _ rfl hg (by rw [hz1]; exact hr) rfl _ _ _ (bc [92, 120, hexB (c.toNat / 16), hexB (c.toNat % 16)]) rfl (by rw [hz1]; rfl) (fun j u hu => by rw [Go.WideShapes.add_plain, Nat.zero_add, World.cell?, hL.has _ List.mem_cons_self]; simpa [hex_at, bc] using hu) (fun u hu => by obtain ⟨c, _, rfl⟩ := List.mem_map.1 hu; rfl) (by unfold maxLen; omega) (by rw [hz2]; omega) (by omega) ?_); intro g2 cap2 cur2 W2 hL2 hg2 hr2; clear hL; have hL := hL2; clear hL2; go_wp2; refine kb2 ?_; clear hL hF hC hG; intro ι F hne hC hG) | (refine cN ?_; intro W hL; have hF := hL.fx; go_wp2; refine kb2 ?_; clear hL hF hC hG; intro ι F hne hC hG))); refine cwk_nil ?_; clear hC hG; intro W hL; have hF := hL.fx)
     go_roundw
     case rel =>
      refine ⟨k + 1, _, by omega, by go_num, rfl, ?_⟩
      try rw [hz1] at hr2
      have hfin := BOwn.of_blk hL hg2 hr2 (by rw [HN.out]; rfl)
      rw [HFT.out, hq.out]
      simpa using hfin
     case measure => simp [intOf]; omega
    ·have hD2 : ¬ (c.toNat : Int) ≤ 126 := by omega
     go_wp2_with ((with_reducible refine at_region 11 ?_); refine kn_wp ?_; clear hF hL; intro W hL; have hF := hL.fx; refine kn_region [0, 1, 2, 3, 4, 5, 6, 7, 8, 9] [0, 1, 2, 3, 4, 5, 6, 9] [7, 8] [0, 1, 2, 3, 4, 5, 6, 9] (by kernel_rfl) (by kernel_rfl) (List.Sublist.cons _ (List.Sublist.refl _)) ?_; clear hF hL; intro ι F hne hC hFF; have hG := fun n => (hFF n).fx; clear hFF; (repeat (first | (refine cP ?_; intro K hK; go_big_quiet_op; go_big_quiet_on) | (refine cN ?_; intro W hL; have hF := hL.fx; go_wp2_with (at_builtin; refine wpList_append_blk rfl _ _ 47 rfl 5 i0 _ Tryz.underlying47 hi hz0 (by rw [hz1]; rfl) (by rw [hz1]; decide) hL 1 _ _ _ _ _ rfl hg (by rw [hz1]; exact hr) rfl _ _ _ (bc [92, 120, hexB (c.toNat / 16), hexB (c.toNat % 16)]) rfl (by rw [hz1]; rfl) (fun j u hu => by rw [Go.WideShapes.add_plain, Nat.zero_add, World.cell?, hL.has _ List.mem_cons_self]; simpa [hex_at, bc] using hu) (fun u hu => by obtain ⟨c, _, rfl⟩ := List.mem_map.1 hu; rfl) (by unfold maxLen; omega) (by rw [hz2]; omega) (by omega) ?_); intro g2 cap2 cur2 W2 hL2 hg2 hr2; clear hL; have hL := hL2; clear hL2; go_wp2; refine kb2 ?_; clear hL hF hC hG; intro ι F hne hC hG) | (refine cN ?_; intro W hL; have hF := hL.fx; go_wp2; refine kb2 ?_; clear hL hF hC hG; intro ι F hne hC hG))); refine cwk_nil ?_; clear hC hG; intro W hL; have hF := hL.fx)
     go_roundw
     case rel =>
      refine ⟨k + 1, _, by omega, by go_num, rfl, ?_⟩
      try rw [hz1] at hr2
      have hfin := BOwn.of_blk hL hg2 hr2 (by rw [HN.out]; rfl)
      rw [HFT.out, hq.out]
      simpa using hfin
     case measure => simp [intOf]; omega
  ·obtain rfl : k = s.size := by omega
   rw [List.take_of_length_le (by rw [szl]; omega)] at hB hlen
   obtain ⟨t, ht⟩ : ∃ t : ByteArray, t.data.toList = 34 :: s.data.toList.flatMap qb ++ [34] := ⟨⟨(34 :: s.data.toList.flatMap qb ++ [34]).toArray⟩, by simp⟩
   go_wp2_with ((at_builtin; (first | (refine wpList_appb rfl _ _ rfl _ [34] hB rfl _ rfl _ rfl rfl (by simp only [List.length_append, List.length_cons, List.length_nil]; omega) ?_)); intro v2 W2 hB2; clear hB; have hB := hB2; clear hB2; have hcv := conv_own hB t ht))
   refine bodyPost_ret (by simp [results, Tryz.results110, go_sem, *]; try rfl) rfl ?_
   refine ⟨?_, hB.kn.below0⟩
   congr 2
   apply ba_ext
   rw [ht]; simp [quoteB]
end Go.Proofs.YtfdlifhkeicnnaaGreatDoor
