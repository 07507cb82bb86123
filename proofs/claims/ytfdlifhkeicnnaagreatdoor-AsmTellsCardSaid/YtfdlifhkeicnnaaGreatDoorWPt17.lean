/- Lemmas and walks for the law LawTells (part 17). -/
import Derived.Test.YtfdlifhkeicnnaaGreatDoorWPt16
import Derived.Test.YtfdlifhkeicnnaaGreatDoorProg
import Derived.WalkKit
import Derived.Handy
import Derived.Deep.Light
import Derived.WalkSmall
import Derived.StillTailTactics
import Derived.Lib.Hide
set_option maxRecDepth 20000
set_option maxHeartbeats 4000000
set_option linter.unusedVariables false
set_option linter.unusedSimpArgs false
namespace Go.Proofs.YtfdlifhkeicnnaaGreatDoor
open Go Go.RowKit
theorem Kn.self0 {X : List Nat} {w0 W : World} {P : List (Nat × Obj)} (h : Kn X w0 W P) : Kn (keys P) W W P :=
 ⟨rfl, rfl, rfl, Nat.le_refl _, fun _ _ _ => rfl, fun p hp => .inr (List.mem_map.2 ⟨p, hp, rfl⟩), h.has, h.nd⟩
theorem read_is (hIA : Hid IAny) (line : ByteArray) (hs : line.size ≤ 20000) (w : World) : Calls Tryz.prog 32 #[.string line] w (ReadP (read line.data.toList) w) := by
 obtain ⟨D0, hD0⟩ : ∃ D, dv 59 1 false line.data.toList = D := ⟨_, rfl⟩
 obtain ⟨n0, hn0⟩ : ∃ n, D0.length = n := ⟨_, rfl⟩
 have hn0p : 0 < n0 := by rw [← hn0, ← hD0]; exact List.length_pos_iff.2 (dv_ne _ _ _ _)
 obtain ⟨p0, hp0⟩ : ∃ p, D0[0]? = some p := ⟨_, List.getElem?_eq_getElem (by rw [hn0]; exact hn0p)⟩
 obtain ⟨s0, rfl⟩ : ∃ s : ByteArray, p0 = s.data.toList := ⟨⟨p0.toArray⟩, by simp⟩
 have hs0 : s0.size ≤ 20000 := by have := dv_mem_len (c := 59) (m := 1) (s := line.data.toList) (p := s0.data.toList) (by rw [hD0]; exact List.mem_of_getElem? hp0); rw [szl, szl] at this; omega
 obtain ⟨r0, hr0⟩ := ba_of (trim s0.data.toList)
 have hr0s : r0.size ≤ 20000 := by have := trim_len s0.data.toList; rw [← hr0, szl, szl] at this; omega
 have hrest : rest line.data.toList = r0.data.toList := by
  unfold rest
  rw [hD0, hr0]
  cases D0 with
  | nil => simp at hp0
  | cons a l => simp at hp0; subst hp0; rfl
 obtain ⟨V, hV⟩ : ∃ V, readL ((rest line.data.toList).length + 1) (rest line.data.toList) = V := ⟨_, rfl⟩
 have HV := Lib.hid hV
 have HR0 := Lib.hid (show RdI V [] r0.data.toList from by rw [← hV, hrest]; exact rdi_start _)
 have HS0 := Lib.hid (sv_get hp0)
 have HT0 := Lib.hid hr0
 have HD0 := Lib.hid hD0
 have HN0 := Lib.hid hn0
 clear hrest hV hp0 hr0 hD0 hn0
 have hL : Kn [] w w [] := Kn.refl [] w; have hF := hL.fx; go_enter Tryz.func32, Tryz.ntmps32
 go_wp2_with (first | (go_at_call 59; refine kG ?_; clear hF hL; intro W hL hF; (with_reducible refine (div59 line (by omega) D0 HD0 n0 HN0 _).mono ?_); rintro e W ⟨g0, cap0, cur0, rfl, hB0, hb⟩; replace hL := hL.join hb; clear hb hF; simp only [kfb] at hL; have hF := hL.fx; have cD0 := hB0.get HS0.out) | (go_at_call 58; refine kc (fun W hL => Trim_eq s0 r0 (by omega) HT0 _) ?_; clear hF hL; intro W hL hF))
 go_loopg [4, 5] r0.size (fun n o4 o5 wr => ∃ (r : ByteArray) (labs : List Bytes) (LLk : List (Nat × Obj)) (vk : Value), Hid (n = r.size) ∧ o4 = .string r ∧ Hid (RdI V labs r.data.toList) ∧ r.size ≤ 20000 ∧ Hid (labs.length + r.size ≤ 20000) ∧ RowL 1 9 LLk vk labs.length (sv labs) ∧ Kn [] w wr ((w.heap.size + 1, .cells #[vk, .string ⟨#[]⟩, .slice none 0 0, .int .i64 0] 64 (0, 0)) :: (w.heap.size, .cells #[.slice none 0 0, .string ⟨#[]⟩, .slice none 0 0, .int .i64 0] 64 (0, 0)) :: LLk))
 case atStart => exact ⟨r0, [], [], _, Lib.hid rfl, rfl, HR0, by omega, Lib.hid (by simp; omega), RowL.nil, hL.sub (List.sublist_cons_self _ _)⟩
 case round =>
  clear hL
  clear hF
  clear cD0
  obtain ⟨r, labs, LLk, vk, HK, rfl, HI, hr, HLR, hrow, hL⟩ := hrel
  have hF := hL.fx
  have HRL := Lib.hid hrow
  obtain ⟨ao, cp, hvk⟩ : ∃ ao cp, vk = .slice ao labs.length cp := by
   rcases hrow with ⟨_, rfl, h0, _⟩ | ⟨g2, cap2, cur2, _, rfl, _⟩
   ·exact ⟨none, 0, by rw [h0]⟩
   ·exact ⟨_, _, rfl⟩
  clear hrow
  subst hvk
  obtain ⟨D1, hD1⟩ : ∃ D, dv 58 1 false r.data.toList = D := ⟨_, rfl⟩
  obtain ⟨n1, hn1⟩ : ∃ n, D1.length = n := ⟨_, rfl⟩
  have HD1 := Lib.hid hD1
  have HN1 := Lib.hid hn1
  by_cases h2 : n1 < 2
  ·have HVE := Lib.hid (rdi_end HI.out (by rw [hD1, hn1]; exact h2))
   have t2 : (n1 : Int) < 2 := by omega
   clear hD1 hn1
   rcases idx_blank r.data.toList with ⟨_, hi1, hi2⟩ | ⟨i, hi0, hi1, hi2⟩
   ·have HIA := Lib.hid (fun W => hIA.out r (by omega) W)
    rw [hi1] at HIA
    have HRE := Lib.hid (show read line.data.toList = ⟨labs, r.data.toList, []⟩ from by rw [read_eq _ (HV.out.trans HVE.out), hi2, List.drop_length, if_pos rfl])
    rw [HRE.out]
    clear hi1 hi2
    go_wp2_with (first | ((with_reducible refine ks ?_); clear hF hL; intro W hL hF) | (go_at_call 59; refine kG ?_; clear hF hL; intro W hL hF; (with_reducible refine (div58 r (by omega) D1 HD1 n1 HN1 _).mono ?_); rintro e W ⟨g1, cap1, cur1, rfl, hB1, hb⟩; replace hL := hL.join hb; clear hb hF; simp only [kfb] at hL; have hF := hL.fx) | (go_at_call 60; refine kc (fun W hL => HIA.out _) ?_; clear hF hL; intro W hL hF))
    refine bodyPost_ret (by simp [results, Tryz.results32, go_sem, *]; try rfl) rfl ?_
    refine ⟨_, _, LLk, [], r, rfl, ?_⟩
    rw [HRE.out]
    exact ⟨HRL.out, RowL.nil, rfl, Kn.sub kn_here (by simp only [List.nil_append]; (repeat (first | exact List.Sublist.refl _ | apply List.Sublist.cons)))⟩
   ·have HIA := Lib.hid (fun W => hIA.out r (by omega) W)
    rw [hi1] at HIA
    rw [szl] at hi0
    obtain ⟨u, hu⟩ : ∃ u, r.extract i r.size = u := ⟨_, rfl⟩
    have hul : u.data.toList = r.data.toList.drop i := by rw [← hu, ext_list, List.take_of_length_le (by rw [szl]; omega)]
    have hus : u.size = r.size - i := by rw [← szl, hul, List.length_drop, szl]
    obtain ⟨op, hop⟩ : ∃ u, r.extract 0 i = u := ⟨_, rfl⟩
    have hopl : op.data.toList = r.data.toList.take i := by rw [← hop, ext_list, List.drop_zero]
    obtain ⟨D2, hD2⟩ : ∃ D, dv 44 r.size false u.data.toList = D := ⟨_, rfl⟩
    obtain ⟨n2, hn2⟩ : ∃ n, D2.length = n := ⟨_, rfl⟩
    have hn2b : n2 ≤ 20001 := by have := dv_count (c := 44) (m := r.size) (s := u.data.toList); rw [hD2, hn2, szl] at this; omega
    have HD2L := Lib.hid (show ∀ p ∈ D2, p.length ≤ 20000 from fun p hp => by rw [← hD2] at hp; have := dv_mem_len hp; rw [szl] at this; omega)
    have HRE := Lib.hid (show read line.data.toList = ⟨labs, op.data.toList, D2.map trim⟩ from by
     rw [read_eq _ (HV.out.trans HVE.out), hi2, List.length_take, Nat.min_eq_left (by rw [szl]; omega), if_neg (by intro h; have := congrArg List.length h; rw [List.length_drop, szl] at this; simp at this; omega), ← hul, szl, hD2, hopl])
    rw [HRE.out]
    have HD2 := Lib.hid hD2
    have HN2 := Lib.hid hn2
    clear hi1 hi2 hul hopl hD2 hn2 hus
    have HUB := Lib.hid (show u.size ≤ 100000 from by rw [← hu, ByteArray.size_extract]; omega)
    have t0 : (0 : Int) ≤ (i : Int) := by omega
    have t1 : (i : Int) ≤ (r.size : Int) := by omega
    go_upto_region 9 with (first | (go_at_call 59; refine kG ?_; clear hF hL; intro W hL hF; (with_reducible refine (div58 r (by omega) D1 HD1 n1 HN1 _).mono ?_); rintro e W ⟨g1, cap1, cur1, rfl, hB1, hb⟩; replace hL := hL.join hb; clear hb hF; simp only [kfb] at hL; have hF := hL.fx) | (go_at_call 60; refine kc (fun W hL => HIA.out _) ?_; clear hF hL; intro W hL hF))
    refine kn_wp ?_; clear hF hL; intro W1 hL; have hF := hL.fx
    have hW1 : Kn [] w W1 ((w.heap.size + 1, .cells #[.slice ao labs.length cp, .string ⟨#[]⟩, .slice none 0 0, .int .i64 0] 64 (0, 0)) :: (w.heap.size, .cells #[.slice none 0 0, .string ⟨#[]⟩, .slice none 0 0, .int .i64 0] 64 (0, 0)) :: LLk) := hL.sub (by (repeat (first | exact List.Sublist.refl _ | apply List.Sublist.cons)))
    clear hL hF
    have HW1 := Lib.hid hW1
    have hw1s := hW1.size
    have hL := (hW1.sub (show List.Sublist [(w.heap.size + 1, .cells #[.slice ao labs.length cp, .string ⟨#[]⟩, .slice none 0 0, .int .i64 0] 64 (0, 0)), (w.heap.size, .cells #[.slice none 0 0, .string ⟨#[]⟩, .slice none 0 0, .int .i64 0] 64 (0, 0))] _ from by repeat (first | exact List.nil_sublist _ | apply List.Sublist.cons_cons))).self0
    have hF := hL.fx
    clear hW1
    simp only [List.map_cons, List.map_nil] at hL
    go_wp2_with ((go_at_call 59; refine kG ?_; clear hF hL; intro W hL hF; (with_reducible refine (div44 u HUB.out r.size (by omega) D2 HD2 n2 HN2 _).mono ?_); rintro e W ⟨g2, cap2, cur2, rfl, hB2, hb⟩; replace hL := hL.join hb; clear hb hF; simp only [kfb] at hL; have hF := hL.fx))
    go_loopw [8, 43] (fun o8 c wr => ∃ (k : Nat) (LOk : List (Nat × Obj)) (vo : Value), k ≤ n2 ∧ c = .int .i64 k ∧ RowL 1 9 LOk vo k (sv ((D2.take k).map trim)) ∧ Kn [w.heap.size + 1, w.heap.size] W1 wr ((g2, .cells cur2 9 (0, 0)) :: (w.heap.size + 1, .cells #[.slice ao labs.length cp, .string ⟨#[]⟩, vo, .int .i64 0] 64 (0, 0)) :: (w.heap.size, .cells #[.slice none 0 0, .string ⟨#[]⟩, .slice none 0 0, .int .i64 0] 64 (0, 0)) :: LOk)) (fun _ c _ => n2 - (intOf c).toNat)
    case atStart => exact ⟨0, [], _, by omega, rfl, RowL.nil, hL⟩
    case round =>
     clear hL
     obtain ⟨k, LOk, vo, hk, rfl, hrowo, hL⟩ := hrel
     have hF := hL.fx
     have HRO := Lib.hid hrowo
     obtain ⟨ao2, cp2, hvo⟩ : ∃ ao cp, vo = .slice ao k cp := by
      rcases hrowo with ⟨_, rfl, h0, _⟩ | ⟨g3, cap3, cur3, _, rfl, _⟩
      ·exact ⟨none, 0, by rw [h0]⟩
      ·exact ⟨_, _, rfl⟩
     clear hrowo
     subst hvo
     by_cases hlt : k < n2
     ·obtain ⟨p, hp⟩ : ∃ p, D2[k]? = some p := ⟨_, List.getElem?_eq_getElem (by rw [HN2.out]; omega)⟩
      have hps := HD2L.out p (List.mem_of_getElem? hp)
      obtain ⟨s, rfl⟩ : ∃ s : ByteArray, p = s.data.toList := ⟨⟨p.toArray⟩, by simp⟩
      rw [szl] at hps
      have cD := hB2.get (sv_get hp)
      obtain ⟨ts, hts⟩ := ba_of (trim s.data.toList)
      have HTS := Lib.hid hts
      have HP := Lib.hid hp
      clear hts hp
      go_wp2_with (first | ((with_reducible refine ks ?_); clear hL; intro W hL hF) | ((with_reducible refine at_region 12 ?_); refine kW [0, 1, 2, 3, 4, 5, 6, 7] [0, 1, 2, 6] [5, 7] [0, 2, 6] ?_; clear hF hL; intro ι F hne hC hG; (repeat (first | (refine cS ?_) | (refine cF hC ?_; intro K hK; go_big_quiet_op; go_big_quiet_on) | (refine cP ?_; intro K hK; go_big_quiet_op; go_big_quiet_on) | (refine cC ?_; intro W hL; have hF := hL.fx; simp only [ka, Act.eval]; go_at_call 58; (with_reducible refine (Trim_eq s ts (by omega) HTS _).mono ?_); rintro e W ⟨rfl, hb⟩; replace hL := hL.below hb; clear hb hF; have hF := hL.fx; refine ko ?_; clear hL hF; simp only [Act.put, kT]) | (refine cN ?_; intro W hL; have hF := hL.fx; at_builtin; go_loud (refine wpList_append_end rfl _ _ 35 35 rfl [(_, .cells #[.string ts] 9 (0, 0)), (g2, .cells cur2 9 (0, 0)), (w.heap.size + 1, .cells #[.slice ao labs.length cp, .string ⟨#[]⟩, .slice ao2 k cp2, .int .i64 0] 64 (0, 0)), (w.heap.size, .cells #[.slice none 0 0, .string ⟨#[]⟩, .slice none 0 0, .int .i64 0] 64 (0, 0))] LOk hL k 1 (sv ((D2.take k).map trim)) [.string ts] _ _ HRO.out rfl rfl (fun ho => run_append_v rfl (fun j u hu => by rw [Go.WideShapes.add_plain, Nat.zero_add, kn_cell hL List.mem_cons_self]; simpa using hu) (by intro u hu; simp only [List.mem_singleton] at hu; subst hu; rfl) (by omega) ho) ?_); intro LPn an cpn W2 hL2 hrn; clear hL hF; have hL := hL2.sub (List.sublist_cons_self _ _); clear hL2; simp only [List.append_eq] at hL; simp only [kfb] at hL; have hF := hL.fx; go_wp2; refine kb2 ?_; clear hL hF hC hG; intro ι F hne hC hG) | (refine cN ?_; intro W hL; have hF := hL.fx; go_wp2; (first | (refine kb2 ?_; clear hL hF hC hG; intro ι F hne hC hG) | (refine ko2 ?_; clear hL hF))))); refine cwk_nil ?_; clear hC hG; intro W hL; simp only [kfb] at hL; have hF := hL.fx))
      exact ⟨⟨k + 1, LPn, _, by omega, by go_num, by rw [List.take_add_one, HP.out, Option.toList_some, List.map_append, List.map_singleton, ← HTS.out, sv_snoc]; exact hrn, hL⟩, by simp [intOf]; omega⟩
     ·obtain rfl : k = n2 := by omega
      go_wp2
      refine bodyPost_ret (by simp [results, Tryz.results32, go_sem, *]; try rfl) rfl ?_
      refine ⟨_, _, LLk, LOk, op, rfl, ?_⟩
      rw [HRE.out]
      refine ⟨HRL.out, ?_, rfl, ?_⟩
      ·have := HRO.out
       rw [List.take_of_length_le (by rw [HN2.out]; omega)] at this
       rw [List.length_map, HN2.out]; exact this
      ·exact Kn.sub (Kn.joinA (P := [(w.heap.size + 1, .cells #[.slice ao labs.length cp, .string ⟨#[]⟩, .slice none 0 0, .int .i64 0] 64 (0, 0)), (w.heap.size, .cells #[.slice none 0 0, .string ⟨#[]⟩, .slice none 0 0, .int .i64 0] 64 (0, 0))]) [] LLk HW1.out (kn_here (X := [w.heap.size + 1, w.heap.size]) (w0 := W1))) (by simp only [List.nil_append, List.cons_append]; (repeat (first | exact List.Sublist.refl _ | apply List.Sublist.cons)))
  ·obtain ⟨pa, pb, tl, hab⟩ : ∃ a b t, D1 = a :: b :: t := by
    match D1, hn1 with
    | [], h => exact absurd h (by simp; omega)
    | [a], h => exact absurd h (by simp; omega)
    | a :: b :: t, _ => exact ⟨a, b, t, rfl⟩
   obtain ⟨sa, rfl⟩ : ∃ s : ByteArray, pa = s.data.toList := ⟨⟨pa.toArray⟩, by simp⟩
   obtain ⟨sb, rfl⟩ : ∃ s : ByteArray, pb = s.data.toList := ⟨⟨pb.toArray⟩, by simp⟩
   have hab2 := hD1.trans hab
   have hsa : sa.size ≤ 20000 := by have := dv_mem_len (c := 58) (m := 1) (s := r.data.toList) (p := sa.data.toList) (by rw [hab2]; simp); rw [szl, szl] at this; omega
   have hsb : sb.size < r.size := by have := dv_second hab2; rwa [szl, szl] at this
   obtain ⟨ta, hta⟩ := ba_of (trim sa.data.toList)
   obtain ⟨tb, htb⟩ := ba_of (trim sb.data.toList)
   have htbs : tb.size ≤ sb.size := by have := trim_len sb.data.toList; rwa [← htb, szl, szl] at this
   have HNX := Lib.hid (show RdI V (labs ++ [ta.data.toList]) tb.data.toList from by rw [hta, htb]; exact rdi_next HI.out hab2)
   have HTA := Lib.hid hta
   have HTB := Lib.hid htb
   have HSA := Lib.hid (show (sv D1)[0]? = some (.string sa) from by rw [hab]; exact sv_get rfl)
   have HSB := Lib.hid (show (sv D1)[1]? = some (.string sb) from by rw [hab]; exact sv_get rfl)
   have t2 : ¬ (n1 : Int) < 2 := by omega
   have hlab := HLR.out
   clear hab hab2 hta htb hD1 hn1
   go_wp2_with (first | ((with_reducible refine ks ?_); clear hL; intro W hL hF) | (go_at_call 59; refine kG ?_; clear hF hL; intro W hL hF; (with_reducible refine (div58 r (by omega) D1 HD1 n1 HN1 _).mono ?_); rintro e W ⟨g1, cap1, cur1, rfl, hB1, hb⟩; replace hL := hL.join hb; clear hb hF; simp only [kfb] at hL; have hF := hL.fx; have cA := hB1.get HSA.out; have cB := hB1.get HSB.out) | (go_at_call 58; refine kG ?_; clear hF hL; intro W hL hF; (((first | (with_reducible refine (Trim_eq sb tb (by omega) HTB _).mono ?_)))); rintro e W ⟨rfl, hb⟩; replace hL := hL.below hb; clear hb hF; have hF := hL.fx) | ((with_reducible refine at_region 5 ?_); refine kW [0, 1, 2, 3, 4, 5, 6, 7, 8, 9] [0, 1, 2, 3, 4, 8] [7, 9] [0, 2, 3, 8] ?_; clear hF hL; intro ι F hne hC hG; (repeat (first | (refine cS ?_) | (refine cF hC ?_; intro K hK; go_big_quiet_op; go_big_quiet_on) | (refine cP ?_; intro K hK; go_big_quiet_op; go_big_quiet_on) | (refine cC ?_; intro W hL; have hF := hL.fx; simp only [ka, Act.eval]; go_at_call 58; (with_reducible refine (Trim_eq sa ta (by omega) HTA _).mono ?_); rintro e W ⟨rfl, hb⟩; replace hL := hL.below hb; clear hb hF; have hF := hL.fx; refine ko ?_; clear hL hF; simp only [Act.put, kT]) | (refine cN ?_; intro W hL; have hF := hL.fx; at_builtin; go_loud (refine wpList_append_end rfl _ _ 35 35 rfl [(_, .cells #[.string ta] 9 (0, 0)), (g1, .cells cur1 9 (0, 0)), (w.heap.size + 1, .cells #[.slice ao labs.length cp, .string ⟨#[]⟩, .slice none 0 0, .int .i64 0] 64 (0, 0)), (w.heap.size, .cells #[.slice none 0 0, .string ⟨#[]⟩, .slice none 0 0, .int .i64 0] 64 (0, 0))] LLk hL labs.length 1 (sv labs) [.string ta] _ _ HRL.out rfl rfl (fun ho => run_append_v rfl (fun j u hu => by rw [Go.WideShapes.add_plain, Nat.zero_add, kn_cell hL List.mem_cons_self]; simpa using hu) (by intro u hu; simp only [List.mem_singleton] at hu; subst hu; rfl) (by omega) ho) ?_); intro LPn an cpn W2 hL2 hrn; clear hL hF; have hL := hL2.sub (List.sublist_cons_self _ _); clear hL2; simp only [List.append_eq] at hL; simp only [kfb] at hL; have hF := hL.fx; go_wp2; refine kb2 ?_; clear hL hF hC hG; intro ι F hne hC hG) | (refine cN ?_; intro W hL; have hF := hL.fx; go_wp2; (first | (refine kb2 ?_; clear hL hF hC hG; intro ι F hne hC hG) | (refine ko2 ?_; clear hL hF))))); refine cwk_nil ?_; clear hC hG; intro W hL; simp only [kfb] at hL; have hF := hL.fx))
   go_roundg tb.size
   case measure => have := HK.out; omega
   case rel => exact ⟨tb, labs ++ [ta.data.toList], LPn, _, Lib.hid rfl, rfl, HNX, by omega, Lib.hid (by rw [List.length_append, List.length_singleton]; omega), by rw [List.length_append, sv_snoc]; exact hrn, hL.sub (List.sublist_cons_self _ _)⟩
theorem measW_I (ab mb g xo n : Nat) (es : Array MapEntry) (clock : Nat) (Lb : Labs) (cur : Array Value) (x : Stm) (sop : ByteArray) (vl vo : Value) (w : World) (hL0 : Kn [mb, g] w w [(mb, .map es clock), (g, .cells cur 64 (0, 0))]) (hA : w.cell? ⟨ab, 0, none⟩ = some (.map (some mb))) (ha1 : ab ≠ mb) (ha2 : ab ≠ g) (hM : MapV Tryz.prog 9 es (lv Lb)) (hLn : ∀ p ∈ Lb, p.2 ≤ 100000) (hLl : Lb.length ≤ 1000000000000) (hS : StIn w mb g xo cur x sop vl vo) (hn : n ≤ 4096) (hT : TabA w) (h14 : ∀ y ∈ [mb, g], 14 ≤ y) (op : Nat) (hfi : findI sop = (op : Int)) : Calls Tryz.prog 34 #[.pointer (some ⟨ab, 0, none⟩), .pointer (some ⟨g, xo, none⟩), .int .i64 n] w (MeasP (measure OO x n Lb) mb g xo cur w) := by
 have HFI := Lib.hid (fun W hT => Find_eq sop op hfi W hT)
 have HDN := Lib.hid (fun W h1 => directive_no ab g xo sop (by have := hS.sp; omega) W h1 (findI_dir hfi).1)
 have hAl := aligned_is n (by omega)
 have HFS := Lib.hid (show OO.find x.op = some op from by rw [hS.op]; exact find_some hfi)
 have hne : ¬ sop.toList = [] := by rw [Lib.toList_data]; exact (findI_dir hfi).2
 have HNE := Lib.hid (show x.op ≠ [] from by rw [hS.op]; exact (findI_dir hfi).2)
 have hfi0 := Lib.hid hfi
 clear hfi
 obtain ⟨at_, hat⟩ : ∃ at_ : Nat, aligned n = at_ := ⟨_, rfl⟩
 have hat2 : at_ ≤ 4099 := by unfold aligned at hat; omega
 obtain ⟨d0, d1, d2, d3⟩ := hS.set (at_ : Int)
 obtain ⟨cur2, hc2⟩ : ∃ c, cur.setIfInBounds (xo + 3) (.int .i64 (at_ : Int)) = c := ⟨_, rfl⟩
 rw [hc2] at d0 d1 d2 d3
 have HC2 := Lib.hid hc2
 clear hc2
 have lab := cell_lt hA
 obtain ⟨c0, c1, c2, ⟨a3, c3⟩, hop, hvl, hvo, hsl, hso, hsp, hnl, hno⟩ := hS
 obtain ⟨al, cl, rfl, hlc⟩ := rowO_open hvl
 have HLC := Lib.hid hlc
 have HSL := Lib.hid hsl
 have HSO := Lib.hid hso
 have HVO := Lib.hid hvo
 have HLB := Lib.hid hLn
 have HOP := Lib.hid hop
 obtain ⟨nl, hnl2⟩ : ∃ nl, x.labels.length = nl := ⟨_, rfl⟩
 rw [hnl2] at c0 d0 hnl
 have HNL := Lib.hid hnl2
 clear hlc hsl hso hvl hvo hLn hop hnl2
 obtain ⟨R, hR⟩ : ∃ R, measure OO x n Lb = R := ⟨_, rfl⟩
 have HR := Lib.hid hR
 rw [hR]
 clear hR
 have hL := hL0
 have hF := hL.fx
 rw [hat] at hAl
 go_enter Tryz.func34, Tryz.ntmps34
 go_wp2_with (first | (go_at_call 61; refine kc (fun W hL => HFI.out _ ((hT.kn hL h14).i)) ?_; clear hF hL; intro W hL hF) | (go_at_call 62; (with_reducible refine (hAl _).mono ?_); rintro e w' ⟨rfl, rfl⟩) | (go_at_call 63; refine kc (fun W hL => HDN.out _ ((kn_cell hL (List.mem_cons_of_mem _ List.mem_cons_self) _).trans c1)) ?_; clear hF hL; intro W hL hF))
 go_loopw [11, 42] (fun a i wr => ∃ k : Nat, k ≤ nl ∧ i = .int .i64 k ∧ Hid (∀ j < k, ∀ p, x.labels[j]? = some p → named p = true) ∧ Kn [mb, g] w wr [(mb, .map es clock), (g, .cells cur 64 (0, 0))]) (fun _ i _ => nl - (intOf i).toNat)
 case atStart => exact ⟨0, by omega, rfl, Lib.hid (fun j hj => by omega), hL⟩
 case round =>
  clear hL
  obtain ⟨k, hk, rfl, HI, hL⟩ := hrel
  have hF := hL.fx
  by_cases hlt : k < nl
  ·obtain ⟨p, hp⟩ : ∃ p, x.labels[k]? = some p := ⟨_, List.getElem?_eq_getElem (by rw [HNL.out]; omega)⟩
   obtain ⟨gl, ol, rfl, hgy, hgs, hgc⟩ := HLC.out k p hp
   have hps := HSL.out p (List.mem_of_getElem? hp)
   obtain ⟨s, rfl⟩ : ∃ s : ByteArray, p = s.data.toList := ⟨⟨p.toArray⟩, by simp⟩
   rw [toList_mk] at hgc
   rw [szl] at hps
   have hg1 : ¬ gl = mb := fun e => hgy (by simp [e])
   have hg2 : ¬ gl = g := fun e => hgy (by simp [e])
   clear hgy
   have HP := Lib.hid hp
   clear hp
   cases hnm : named s.data.toList with
   | false =>
    have HB := HR.out.symm.trans (measure_bad HP.out hnm)
    subst HB
    have HN := Lib.hid hnm
    clear hnm
    go_wp2_with ((go_at_call 64; refine kc (fun W hL => named_eq s (by omega) _ HN _) ?_; clear hF hL; intro W hL hF))
    exact ⟨rfl, rfl, hL.sub (by simp)⟩
   | true =>
    have HN := Lib.hid hnm
    clear hnm
    go_wp2_with ((go_at_call 64; refine kc (fun W hL => named_eq s (by omega) _ HN _) ?_; clear hF hL; intro W hL hF))
    go_roundw
    case measure => simp [intOf]; omega
    case rel => exact ⟨k + 1, by omega, by go_num, Lib.hid (fun j hj p hp => by
     rcases Nat.lt_or_ge j k with h | h
     ·exact HI.out j h p hp
     ·obtain rfl : j = k := by omega
      rw [HP.out] at hp; cases hp; exact HN.out), hL⟩
  ·obtain rfl : k = nl := by omega
   have HAN := Lib.hid (show ∀ j < x.labels.length, ∀ p, x.labels[j]? = some p → named p = true from by rw [HNL.out]; exact HI.out)
   clear HI
   have HM := Lib.hid (HR.out.symm.trans (measure_I HAN.out HFS.out HNE.out))
   rw [hat] at HM
   go_wp2
   refine kn_wp ?_; clear hF hL; intro W hL; have hF := hL.fx
   rw [HC2.out] at hL
   go_loopw [13, 14, 15, 74] (fun a b c i wr => ∃ (j : Nat) (esk : Array MapEntry) (ckk : Nat) (Lk : Labs), j ≤ k ∧ i = .int .i64 j ∧ MapV Tryz.prog 9 esk (lv Lk) ∧ Hid (addL Lb (64 + at_) (x.labels.take j) = .ok Lk) ∧ Kn [mb, g] w wr [(mb, .map esk ckk), (g, .cells cur2 64 (0, 0))]) (fun _ _ _ i _ => k - (intOf i).toNat)
   case atStart => exact ⟨0, _, _, Lb, by omega, rfl, hM, Lib.hid rfl, hL⟩
   case round =>
    clear hL
    obtain ⟨j, esk, ckk, Lk, hj, rfl, hMk, HI, hL⟩ := hrel
    have hF := hL.fx
    by_cases hlt : j < k
    ·obtain ⟨p, hp⟩ : ∃ p, x.labels[j]? = some p := ⟨_, List.getElem?_eq_getElem (by rw [HNL.out]; omega)⟩
     obtain ⟨gl, ol, rfl, hgy, hgs, hgc⟩ := HLC.out j p hp
     have hps := HSL.out p (List.mem_of_getElem? hp)
     obtain ⟨s, rfl⟩ : ∃ s : ByteArray, p = s.data.toList := ⟨⟨p.toArray⟩, by simp⟩
     rw [toList_mk] at hgc
     rw [szl] at hps
     have hg1 : ¬ gl = mb := fun e => hgy (by simp [e])
     have hg2 : ¬ gl = g := fun e => hgy (by simp [e])
     clear hgy
     have HP := Lib.hid hp
     clear hp
     cases hlk : look Lk s.data.toList with
     | some v =>
      have HB : R = .bad 5 := by have HB := HM.out; rw [addL_fail HI.out HP.out hlk] at HB; exact HB
      subst HB
      have HH := Lib.hid (look_hit hlk)
      clear hlk
      go_wp2_with ((at_lookup; go_loud (refine wpList_hit rfl _ _ _ rfl strlaw under_labs (hL.has _ List.mem_cons_self) hMk rfl _ (.int .i64 v) rfl HH.out ?_); simp only [if_true]))
      exact ⟨rfl, rfl, hL.sub (by simp)⟩
     | none =>
      have HH := Lib.hid (look_miss hlk)
      have HN2 := Lib.hid (addL_next HI.out HP.out hlk)
      have hLkl := addL_len HI.out
      have hLkl2 : Lk.length ≤ 2000000000000 := by rw [hLkl, List.length_take]; have := HNL.out; omega
      clear hlk hLkl
      have s1 : IntKind.i64.wrap (64 + (at_ : Int)) = ((64 + at_ : Nat) : Int) := by rw [IntWalk.i64_in _ (by omega)]; omega
      go_wp2_with (first | (at_lookup; go_loud (refine wpList_miss rfl _ _ _ rfl strlaw under_labs _ zeroI (hL.has _ List.mem_cons_self) hMk rfl _ _ rfl (strkey s (by omega)) HH.out ?_); simp only [if_true]) | (at_mapUpdate; refine kL ?_; clear hF hL; intro W hL hF; go_loud (refine wpList_new rfl _ _ _ rfl strlaw under_labs hL 0 rfl hMk (by rw [lv_len]; unfold maxLen; omega) rfl _ _ _ rfl rfl (strkey s (by omega)) HH.out ?_); intro W2 es2 ck2 hL2 hM2; clear hL hF; have hL := hL2; have hM2' := Lib.hid hM2; clear hL2 hM2; simp only [kfb] at hL; have hF := hL.fx))
      go_roundw
      case measure => simp [intOf]; omega
      case rel => exact ⟨j + 1, _, _, _, by omega, by go_num, by rw [lv_snoc]; exact hM2'.out, HN2, hL⟩
    ·obtain rfl : j = k := by omega
     have HB := HM.out
     rw [List.take_of_length_le (by rw [HNL.out]; omega)] at HI
     rw [HI.out] at HB
     have HLK := Lib.hid (addL_le HI.out (b := 100000) (by exact HLB.out) (by omega))
     replace HB : R = (instrR Lk x.ops at_ op false).bind fun _ => if 4096 < at_ + 4 then .bad 6 else .ok (at_ + 4, at_, Lk) := HB
     have HIN := Lib.hid (fun W (hL : Kn [mb, g] w W [(mb, .map esk ckk), (g, .cells cur2 64 (0, 0))]) => instruction_is ab mb esk ckk Lk g xo at_ op sop vo x.ops false W (kn_old hL hA (by simp [ha1, ha2])) (hL.has _ List.mem_cons_self) hMk HLK.out ((kn_cell hL (List.mem_cons_of_mem _ List.mem_cons_self) _).trans d1) ((kn_cell hL (List.mem_cons_of_mem _ List.mem_cons_self) _).trans d2) (HVO.out.kn hL (fun y hy => .inl hy)).row ((kn_cell hL (List.mem_cons_of_mem _ List.mem_cons_self) _).trans d3) (by omega) HSO.out hno hfi0.out (hT.kn hL h14))
     have s1 : IntKind.i64.wrap ((at_ : Int) + 4) = ((at_ + 4 : Nat) : Int) := by rw [IntWalk.i64_in _ (by omega)]; omega
     obtain ⟨sz, hsz⟩ : ∃ sz : Nat, at_ + 4 = sz := ⟨_, rfl⟩
     rw [hsz] at HB s1
     cases hin : instrR Lk x.ops at_ op false with
     | bad m =>
      rw [hin] at HB HIN
      replace HB : R = .bad m := HB
      subst HB
      clear hin
      go_wp2_with ((go_at_call 65; refine kc (fun W hL => HIN.out _ hL) ?_; clear hF hL; intro W hL hF))
      exact ⟨rfl, rfl, hL.sub (by simp)⟩
     | ok i =>
      rw [hin] at HB HIN
      by_cases hbig : 4096 < sz
      ·replace HB : R = .bad 6 := HB.trans (if_pos hbig)
       subst HB
       have t1 : (4096 : Int) < (sz : Int) := by omega
       clear hin
       go_wp2_with ((go_at_call 65; refine kc (fun W hL => HIN.out _ hL) ?_; clear hF hL; intro W hL hF))
       exact ⟨rfl, rfl, hL.sub (by simp)⟩
      ·replace HB : R = .ok (sz, at_, Lk) := HB.trans (if_neg hbig)
       subst HB
       have t1 : ¬ (4096 : Int) < (sz : Int) := by omega
       clear hin
       go_wp2_with ((go_at_call 65; refine kc (fun W hL => HIN.out _ hL) ?_; clear hF hL; intro W hL hF))
       refine bodyPost_ret (by simp [results, Tryz.results34, go_sem, *]; try rfl) rfl ?_
       exact ⟨rfl, esk, ckk, hMk, by rw [HC2.out]; exact hL⟩
theorem measW_D0 (ab mb g xo n : Nat) (es : Array MapEntry) (clock : Nat) (Lb : Labs) (cur : Array Value) (x : Stm) (sop : ByteArray) (vl vo : Value) (w : World) (hL0 : Kn [mb, g] w w [(mb, .map es clock), (g, .cells cur 64 (0, 0))]) (hA : w.cell? ⟨ab, 0, none⟩ = some (.map (some mb))) (ha1 : ab ≠ mb) (ha2 : ab ≠ g) (hM : MapV Tryz.prog 9 es (lv Lb)) (hLn : ∀ p ∈ Lb, p.2 ≤ 100000) (hLl : Lb.length ≤ 1000000000000) (hS : StIn w mb g xo cur x sop vl vo) (hn : n ≤ 4096) (hT : TabA w) (h14 : ∀ y ∈ [mb, g], 14 ≤ y) (hso : sop = ⟨#[46, 98, 121, 116, 101]⟩) : Calls Tryz.prog 34 #[.pointer (some ⟨ab, 0, none⟩), .pointer (some ⟨g, xo, none⟩), .int .i64 n] w (MeasP (measure OO x n Lb) mb g xo cur w) := by
 subst hso
 have hfi : findI ⟨#[46, 98, 121, 116, 101]⟩ = -1 := find_dirs.1
 have HFI := Lib.hid (fun W hT => Find_no ⟨#[46, 98, 121, 116, 101]⟩ hfi W hT)
 have hAl := aligned_is n (by omega)
 have hfe := func_eq
 have HFS := Lib.hid (show OO.find x.op = none from by rw [hS.op]; exact find_none hfi)
 have HNE := Lib.hid (show x.op ≠ [] from by rw [hS.op]; simp)
 have HDW := Lib.hid (show n = if x.op = dWord then aligned n else n from by rw [hS.op]; rfl)
 have HDR := Lib.hid (show isDir x.op = true from by rw [hS.op]; rfl)
 clear hfi
 obtain ⟨at_, hat⟩ : ∃ at_ : Nat, n = at_ := ⟨_, rfl⟩
 have hat2 : at_ ≤ 4099 := by omega
 obtain ⟨d0, d1, d2, d3⟩ := hS.set (at_ : Int)
 obtain ⟨cur2, hc2⟩ : ∃ c, cur.setIfInBounds (xo + 3) (.int .i64 (at_ : Int)) = c := ⟨_, rfl⟩
 rw [hc2] at d0 d1 d2 d3
 have HC2 := Lib.hid hc2
 clear hc2
 have lab := cell_lt hA
 obtain ⟨c0, c1, c2, ⟨a3, c3⟩, hop, hvl, hvo, hsl, hso, hsp, hnl, hno⟩ := hS
 obtain ⟨al, cl, rfl, hlc⟩ := rowO_open hvl
 have HLC := Lib.hid hlc
 have HSL := Lib.hid hsl
 have HSO := Lib.hid hso
 have HVO := Lib.hid hvo
 have HLB := Lib.hid hLn
 have HOP := Lib.hid hop
 obtain ⟨nl, hnl2⟩ : ∃ nl, x.labels.length = nl := ⟨_, rfl⟩
 rw [hnl2] at c0 d0 hnl
 have HNL := Lib.hid hnl2
 clear hlc hsl hso hvl hvo hLn hop hnl2
 obtain ⟨R, hR⟩ : ∃ R, measure OO x n Lb = R := ⟨_, rfl⟩
 have HR := Lib.hid hR
 rw [hR]
 clear hR
 have hL := hL0
 have hF := hL.fx
 go_enter Tryz.func34, Tryz.ntmps34
 go_wp2_with (first | (go_at_call 61; refine kc (fun W hL => HFI.out _ ((hT.kn hL h14).i)) ?_; clear hF hL; intro W hL hF) | (go_at_call 63; refine kG ?_; clear hF hL; intro W hL hF; (with_reducible refine (directive_0 ab g xo _ ((kn_cell hL (List.mem_cons_of_mem _ List.mem_cons_self) _).trans c1)).mono ?_); rintro e W ⟨b6, b3, rfl, hb⟩; replace hL := hL.join hb; clear hb hF; simp only [kfb] at hL; have hF := hL.fx))
 go_loopw [11, 42] (fun a i wr => ∃ k : Nat, k ≤ nl ∧ i = .int .i64 k ∧ Hid (∀ j < k, ∀ p, x.labels[j]? = some p → named p = true) ∧ Kn [mb, g] w wr [(b6, .cells #[Value.func (.func 95) #[.pointer (some ⟨ab, 0, none⟩)] #[]] 130 (0, 0)), (b3, .cells #[.pointer (some ⟨g, xo, none⟩)] 66 (0, 0)), (mb, .map es clock), (g, .cells cur 64 (0, 0))]) (fun _ i _ => nl - (intOf i).toNat)
 case atStart => exact ⟨0, by omega, rfl, Lib.hid (fun j hj => by omega), hL⟩
 case round =>
  clear hL
  obtain ⟨k, hk, rfl, HI, hL⟩ := hrel
  have hF := hL.fx
  by_cases hlt : k < nl
  ·obtain ⟨p, hp⟩ : ∃ p, x.labels[k]? = some p := ⟨_, List.getElem?_eq_getElem (by rw [HNL.out]; omega)⟩
   obtain ⟨gl, ol, rfl, hgy, hgs, hgc⟩ := HLC.out k p hp
   have hps := HSL.out p (List.mem_of_getElem? hp)
   obtain ⟨s, rfl⟩ : ∃ s : ByteArray, p = s.data.toList := ⟨⟨p.toArray⟩, by simp⟩
   rw [toList_mk] at hgc
   rw [szl] at hps
   have hg1 : ¬ gl = mb := fun e => hgy (by simp [e])
   have hg2 : ¬ gl = g := fun e => hgy (by simp [e])
   clear hgy
   have HP := Lib.hid hp
   clear hp
   cases hnm : named s.data.toList with
   | false =>
    have HB := HR.out.symm.trans (measure_bad HP.out hnm)
    subst HB
    have HN := Lib.hid hnm
    clear hnm
    go_wp2_with ((go_at_call 64; refine kc (fun W hL => named_eq s (by omega) _ HN _) ?_; clear hF hL; intro W hL hF))
    exact ⟨rfl, rfl, hL.sub (by simp)⟩
   | true =>
    have HN := Lib.hid hnm
    clear hnm
    go_wp2_with ((go_at_call 64; refine kc (fun W hL => named_eq s (by omega) _ HN _) ?_; clear hF hL; intro W hL hF))
    go_roundw
    case measure => simp [intOf]; omega
    case rel => exact ⟨k + 1, by omega, by go_num, Lib.hid (fun j hj p hp => by
     rcases Nat.lt_or_ge j k with h | h
     ·exact HI.out j h p hp
     ·obtain rfl : j = k := by omega
      rw [HP.out] at hp; cases hp; exact HN.out), hL⟩
  ·obtain rfl : k = nl := by omega
   have HAN := Lib.hid (show ∀ j < x.labels.length, ∀ p, x.labels[j]? = some p → named p = true from by rw [HNL.out]; exact HI.out)
   clear HI
   have HM := Lib.hid (HR.out.symm.trans (measure_D HAN.out HFS.out HDR.out HNE.out HDW.out))
   rw [hat] at HM
   go_wp2
   refine kn_wp ?_; clear hF hL; intro W hL; have hF := hL.fx
   rw [HC2.out] at hL
   go_loopw [13, 14, 15, 74] (fun a b c i wr => ∃ (j : Nat) (esk : Array MapEntry) (ckk : Nat) (Lk : Labs), j ≤ k ∧ i = .int .i64 j ∧ MapV Tryz.prog 9 esk (lv Lk) ∧ Hid (addL Lb (64 + at_) (x.labels.take j) = .ok Lk) ∧ Kn [mb, g] w wr [(b6, .cells #[Value.func (.func 95) #[.pointer (some ⟨ab, 0, none⟩)] #[]] 130 (0, 0)), (b3, .cells #[.pointer (some ⟨g, xo, none⟩)] 66 (0, 0)), (mb, .map esk ckk), (g, .cells cur2 64 (0, 0))]) (fun _ _ _ i _ => k - (intOf i).toNat)
   case atStart => exact ⟨0, _, _, Lb, by omega, rfl, hM, Lib.hid rfl, hL⟩
   case round =>
    clear hL
    obtain ⟨j, esk, ckk, Lk, hj, rfl, hMk, HI, hL⟩ := hrel
    have hF := hL.fx
    by_cases hlt : j < k
    ·obtain ⟨p, hp⟩ : ∃ p, x.labels[j]? = some p := ⟨_, List.getElem?_eq_getElem (by rw [HNL.out]; omega)⟩
     obtain ⟨gl, ol, rfl, hgy, hgs, hgc⟩ := HLC.out j p hp
     have hps := HSL.out p (List.mem_of_getElem? hp)
     obtain ⟨s, rfl⟩ : ∃ s : ByteArray, p = s.data.toList := ⟨⟨p.toArray⟩, by simp⟩
     rw [toList_mk] at hgc
     rw [szl] at hps
     have hg1 : ¬ gl = mb := fun e => hgy (by simp [e])
     have hg2 : ¬ gl = g := fun e => hgy (by simp [e])
     clear hgy
     have HP := Lib.hid hp
     clear hp
     cases hlk : look Lk s.data.toList with
     | some v =>
      have HB : R = .bad 5 := by have HB := HM.out; rw [addL_fail HI.out HP.out hlk] at HB; exact HB
      subst HB
      have HH := Lib.hid (look_hit hlk)
      clear hlk
      go_wp2_with ((at_lookup; go_loud (refine wpList_hit rfl _ _ _ rfl strlaw under_labs (hL.has _ (List.mem_cons_of_mem _ (List.mem_cons_of_mem _ List.mem_cons_self))) hMk rfl _ (.int .i64 v) rfl HH.out ?_); simp only [if_true]))
      exact ⟨rfl, rfl, hL.sub (by simp)⟩
     | none =>
      have HH := Lib.hid (look_miss hlk)
      have HN2 := Lib.hid (addL_next HI.out HP.out hlk)
      have hLkl := addL_len HI.out
      have hLkl2 : Lk.length ≤ 2000000000000 := by rw [hLkl, List.length_take]; have := HNL.out; omega
      clear hlk hLkl
      have s1 : IntKind.i64.wrap (64 + (at_ : Int)) = ((64 + at_ : Nat) : Int) := by rw [IntWalk.i64_in _ (by omega)]; omega
      go_wp2_with (first | (at_lookup; go_loud (refine wpList_miss rfl _ _ _ rfl strlaw under_labs _ zeroI (hL.has _ (List.mem_cons_of_mem _ (List.mem_cons_of_mem _ List.mem_cons_self))) hMk rfl _ _ rfl (strkey s (by omega)) HH.out ?_); simp only [if_true]) | (at_mapUpdate; refine kL ?_; clear hF hL; intro W hL hF; go_loud (refine wpList_new rfl _ _ _ rfl strlaw under_labs hL 2 rfl hMk (by rw [lv_len]; unfold maxLen; omega) rfl _ _ _ rfl rfl (strkey s (by omega)) HH.out ?_); intro W2 es2 ck2 hL2 hM2; clear hL hF; have hL := hL2; have hM2' := Lib.hid hM2; clear hL2 hM2; simp only [kfb] at hL; have hF := hL.fx))
      go_roundw
      case measure => simp [intOf]; omega
      case rel => exact ⟨j + 1, _, _, _, by omega, by go_num, by rw [lv_snoc]; exact hM2'.out, HN2, hL⟩
    ·obtain rfl : j = k := by omega
     have HB := HM.out
     rw [List.take_of_length_le (by rw [HNL.out]; omega)] at HI
     rw [HI.out] at HB
     have HLK := Lib.hid (addL_le HI.out (b := 100000) (by exact HLB.out) (by omega))
     replace HB : R = (direct OO Lk x false).bind fun b => if 4096 < at_ + b.length then .bad 6 else .ok (at_ + b.length, at_, Lk) := HB
     rw [direct_b HOP.out] at HB
     have HIN := Lib.hid (fun W (hL : Kn [mb, g] w W [(b6, .cells #[Value.func (.func 95) #[.pointer (some ⟨ab, 0, none⟩)] #[]] 130 (0, 0)), (b3, .cells #[.pointer (some ⟨g, xo, none⟩)] 66 (0, 0)), (mb, .map esk ckk), (g, .cells cur2 64 (0, 0))]) => clo_0 ab g xo b6 b3 false _ W (by rw [kn_cell hL List.mem_cons_self]; rfl) (by rw [kn_cell hL (List.mem_cons_of_mem _ List.mem_cons_self)]; rfl) (Lib.hid fun W' hK => bytes_is ab g xo vo x.ops false W' (kn_old hK ((kn_cell hL (List.mem_cons_of_mem _ (List.mem_cons_of_mem _ (List.mem_cons_of_mem _ List.mem_cons_self))) _).trans d2) (by simp)) ((HVO.out.kn hL (fun y hy => .inl hy)).row.kn hK (by simp)) HSO.out hno ((hT.kn hL h14).kn hK (by simp))))
     cases hd : bytesR x.ops with
     | bad m =>
      rw [hd] at HB HIN
      replace HB : R = .bad m := HB
      subst HB
      clear hd
      go_wp2_with ((go_at_call 99; refine kc (fun W hL => HIN.out _ hL) ?_; clear hF hL; intro W hL hF))
      exact ⟨rfl, rfl, hL.sub (by simp)⟩
     | ok u =>
      rw [hd] at HB HIN
      replace HB : R = if 4096 < at_ + u.length then .bad 6 else .ok (at_ + u.length, at_, Lk) := HB
      have hul : u.length ≤ 1000000 := by have := bytesR_len hd; omega
      obtain ⟨ul, hul2⟩ : ∃ ul, u.length = ul := ⟨_, rfl⟩
      rw [hul2] at HB hul
      have s1 : IntKind.i64.wrap ((at_ : Int) + (ul : Int)) = ((at_ + ul : Nat) : Int) := by rw [IntWalk.i64_in _ (by omega)]; omega
      obtain ⟨sz, hsz⟩ : ∃ sz : Nat, at_ + ul = sz := ⟨_, rfl⟩
      rw [hsz] at HB s1
      have HIN2 := Lib.hid (fun W hL => (HIN.out W hL).mono (P := Tryz.prog) (R' := fun e w' => (∃ gu cap, e = .returned (.slice (some ⟨gu, 0, none⟩) ul cap)) ∧ Below W.heap.size W w') (fun e w' hp => by
       obtain ⟨gu, cap, cu, fu, h1, _, h2⟩ := hp
       rw [hul2] at h1
       exact ⟨⟨gu, cap, h1⟩, h2.below0⟩))
      clear HIN
      by_cases hbig : 4096 < sz
      ·replace HB : R = .bad 6 := HB.trans (if_pos hbig)
       subst HB
       have t1 : (4096 : Int) < (sz : Int) := by omega
       clear hd hul2
       go_wp2_with ((go_at_call 99; refine kG ?_; clear hF hL; intro W hL hF; (with_reducible refine (HIN2.out _ hL).mono ?_); rintro e W ⟨⟨gu, cap, rfl⟩, hb⟩; replace hL := hL.below hb; clear hb hF; have hF := hL.fx))
       exact ⟨rfl, rfl, hL.sub (by simp)⟩
      ·replace HB : R = .ok (sz, at_, Lk) := HB.trans (if_neg hbig)
       subst HB
       have t1 : ¬ (4096 : Int) < (sz : Int) := by omega
       clear hd hul2
       go_wp2_with ((go_at_call 99; refine kG ?_; clear hF hL; intro W hL hF; (with_reducible refine (HIN2.out _ hL).mono ?_); rintro e W ⟨⟨gu, cap, rfl⟩, hb⟩; replace hL := hL.below hb; clear hb hF; have hF := hL.fx))
       refine bodyPost_ret (by simp [results, Tryz.results34, go_sem, *]; try rfl) rfl ?_
       exact ⟨rfl, esk, ckk, hMk, by rw [HC2.out]; exact hL.sub (by apply List.Sublist.cons; apply List.Sublist.cons; exact List.Sublist.refl _)⟩
end Go.Proofs.YtfdlifhkeicnnaaGreatDoor
