import Derived.Test.YtflfaobbfhjmmaaDoorProg
import Derived.WalkKit
import Derived.Handy
import Derived.Deep.Light
import Derived.WalkSmall
import Derived.StillTailTactics
import Derived.Lib.Hide
import Derived.Test.YtflfaobbfhjmmaaDoorT0
import Derived.Test.YtflfaobbfhjmmaaDoorIt
import Derived.Test.YtflfaobbfhjmmaaDoorL33M
namespace Go.Proofs.YtflfaobbfhjmmaaDoor
open Go Go.RowKit
set_option linter.unusedSimpArgs false
set_option linter.unusedVariables false
set_option maxRecDepth 20000 in
set_option maxHeartbeats 4000000 in
theorem blanks_walk (s cm : ByteArray) (hs : s.size ≤ 3000) (hcm : cm.size ≤ 100) (nn : Nat) (hn1 : 1 ≤ nn) (hn2 : nn ≤ 100) (HS : Hid (∀ W, Calls Tryd.prog 7 #[] W fun e w' => e = .returned (.bool true) ∧ Below W.heap.size W w')) (w : World) : Calls Tryd.prog 5 #[.string s, .int .i64 nn, .string cm] w fun e w' => e = .returned (.bool true) ∧ Below w.heap.size w w' := by
  have q0 : decide ((3000 : Int) < (s.size : Int)) = false := decide_eq_false (by omega)
  have q1 : decide ((100 : Int) < (cm.size : Int)) = false := decide_eq_false (by omega)
  have q2 : decide ((nn : Int) < 1) = false := decide_eq_false (by omega)
  have q3 : decide ((100 : Int) < (nn : Int)) = false := decide_eq_false (by omega)
  have hscm := szl cm
  have hsl := szl s
  have hL : Kn [] w w [] := Kn.refl [] w; (try simp only [kfb] at hL); have hF := hL.facts; (try simp only [Facts, Dist, kfa, implies_true, forall_const] at hF); go_enter Tryd.func5, Tryd.ntmps5
  go_wp2_with (first | ((with_reducible refine kn_list_set ?_); (try clear hF); clear hL; intro W hL; (try simp only [kfb] at hL); have hF := hL.facts; (try simp only [Facts, Dist, kfa, implies_true, forall_const] at hF)) | (go_at_call 7; refine kn_calls ?_; (try clear hF); clear hL; intro W hL; (try simp only [kfb] at hL); have hF := hL.facts; (try simp only [Facts, Dist, kfa, implies_true, forall_const] at hF); (((with_reducible refine (HS.out _).mono ?_))); rintro e W ⟨rfl, hb⟩; replace hL := hL.below hb; clear hb; (try clear hF); (try simp only [kfb] at hL); have hF := hL.facts; (try simp only [Facts, Dist, kfa, implies_true, forall_const] at hF)))
  go_loopw [8] (fun i wr => ∃ k : Nat, k ≤ cm.size ∧ i = .int .i64 k ∧ Hid (10 ∉ cm.data.toList.take k) ∧ Kn [] w wr []) (fun i _ => cm.size - (intOf i).toNat)
  case atStart => exact ⟨0, by omega, rfl, Lib.hid (by simp), hL⟩
  case round =>
    obtain ⟨k, hk, rfl, HNO, hK⟩ := hrel
    clear hL hF
    have hL := hK
    clear hK
    (try simp only [kfb] at hL); have hF := hL.facts; (try simp only [Facts, Dist, kfa, implies_true, forall_const] at hF)
    by_cases hlt : k < cm.size
    · obtain ⟨c0, hc0⟩ : ∃ c, cm.data.toList[k]? = some c := ⟨_, List.getElem?_eq_getElem (by rw [hscm]; omega)⟩
      have eb0 := byte_at hc0 (by omega)
      have hd0 : cm.data.toList.drop (k) = c0 :: cm.data.toList.drop (k + 1) := by
        obtain ⟨h1, h2⟩ := List.getElem?_eq_some_iff.1 hc0
        rw [List.drop_eq_getElem_cons h1, h2]
      by_cases h10 : c0 = 10
      · subst h10
        go_wp2
        (try simp only [Exit.inBlock, Exit.then]); refine bodyPost_ret (by simp [results, Tryd.results5, go_sem, *]; try rfl) rfl ?_
        exact ⟨rfl, hL.below0⟩
      · have f10 : ((c0.toNat : Int) == 10) = false := beq_false_of_ne (fun h => h10 (UInt8.toNat_inj.1 (show c0.toNat = 10 by omega)))
        go_wp2
        refine ⟨⟨k + 1, by omega, by go_num, Lib.hid ?_, hL⟩, by simp [intOf]; omega⟩
        rw [List.take_add_one, hc0]
        intro hm
        rcases List.mem_append.1 hm with hm | hm
        · exact HNO.out hm
        · simp at hm; exact h10 hm.symm
    · obtain rfl : k = cm.size := by omega
      have hno := HNO.out
      rw [← hscm, List.take_length] at hno
      have HNO2 := Lib.hid hno
      clear hno HNO hlt hk
      cases hA : lex s.data.toList with
      | err full m =>
        have HX0 := Lib.hid fun W => lexErr s (by omega) full m (if full then 6 else 27) rfl hA W
        clear hA
        cases full with
        | true =>
          simp only [if_true] at HX0
          go_wp2_with (first | ((with_reducible refine kn_list_set ?_); (try clear hF); clear hL; intro W hL; (try simp only [kfb] at hL); have hF := hL.facts; (try simp only [Facts, Dist, kfa, implies_true, forall_const] at hF)) | (go_at_call 9; (((with_reducible refine (HX0.out _).mono ?_))); rintro e W ⟨hb, rfl⟩; (try replace hT0 := hT0.ext hb); (try replace hT1 := hT1.ext hb); (try replace hT2 := hT2.ext hb); (try replace hT3 := hT3.ext hb); (try replace hT4 := hT4.ext hb); (try replace hT5 := hT5.ext hb); (try replace hT6 := hT6.ext hb); (try replace hT7 := hT7.ext hb); replace hL := hL.below hb; clear hb; (try clear hF); (try simp only [kfb] at hL); have hF := hL.facts; (try simp only [Facts, Dist, kfa, implies_true, forall_const] at hF)))
          (try simp only [Exit.inBlock, Exit.then]); refine bodyPost_ret (by simp [results, Tryd.results5, go_sem, *]; try rfl) rfl ?_
          exact ⟨rfl, hL.below0⟩
        | false =>
          simp only [if_false, Bool.false_eq_true] at HX0
          go_wp2_with (first | ((with_reducible refine kn_list_set ?_); (try clear hF); clear hL; intro W hL; (try simp only [kfb] at hL); have hF := hL.facts; (try simp only [Facts, Dist, kfa, implies_true, forall_const] at hF)) | (go_at_call 9; (((with_reducible refine (HX0.out _).mono ?_))); rintro e W ⟨hb, rfl⟩; (try replace hT0 := hT0.ext hb); (try replace hT1 := hT1.ext hb); (try replace hT2 := hT2.ext hb); (try replace hT3 := hT3.ext hb); (try replace hT4 := hT4.ext hb); (try replace hT5 := hT5.ext hb); (try replace hT6 := hT6.ext hb); (try replace hT7 := hT7.ext hb); replace hL := hL.below hb; clear hb; (try clear hF); (try simp only [kfb] at hL); have hF := hL.facts; (try simp only [Facts, Dist, kfa, implies_true, forall_const] at hF)))
          (try simp only [Exit.inBlock, Exit.then]); refine bodyPost_ret (by simp [results, Tryd.results5, go_sem, *]; try rfl) rfl ?_
          exact ⟨rfl, hL.below0⟩
      | ok ta =>
        obtain ⟨xs, m, hra, hta, hxl⟩ := lim_ok (by rw [hsl]; omega) hA
        obtain ⟨nx, hnx⟩ : ∃ nx, xs.length = nx := ⟨_, rfl⟩
        have hn0 : ta.length = nx + 1 := by rw [hta, ← hnx]; simp
        obtain ⟨n0, hn0e⟩ : ∃ n0, nx + 1 = n0 := ⟨_, rfl⟩
        rw [hn0e] at hn0
        have s2 : ((n0 : Int) == 0) = false := by rw [beq_eq_false_iff_ne]; omega
        have HX0 := Lib.hid fun W => lexOk s (by omega) ta n0 hA hn0 (by omega) W
        by_cases hmany : (n0 : Int) > 1900
        · clear hA hra hta hxl hnx hn0 hn0e
          go_wp2_with (first | ((with_reducible refine kn_list_set ?_); (try clear hF); clear hL; intro W hL; (try simp only [kfb] at hL); have hF := hL.facts; (try simp only [Facts, Dist, kfa, implies_true, forall_const] at hF)) | (go_at_call 9; (((with_reducible refine (HX0.out _).mono ?_))); rintro e W ⟨hb, g0, o0, cap0, rfl, hcp0, hTn⟩; (try replace hT0 := hT0.ext hb); (try replace hT1 := hT1.ext hb); (try replace hT2 := hT2.ext hb); (try replace hT3 := hT3.ext hb); (try replace hT4 := hT4.ext hb); (try replace hT5 := hT5.ext hb); (try replace hT6 := hT6.ext hb); (try replace hT7 := hT7.ext hb); have hT0 := hTn; clear hTn; replace hL := hL.below hb; clear hb; (try clear hF); (try simp only [kfb] at hL); have hF := hL.facts; (try simp only [Facts, Dist, kfa, implies_true, forall_const] at hF)))
          (try simp only [Exit.inBlock, Exit.then]); refine bodyPost_ret (by simp [results, Tryd.results5, go_sem, *]; try rfl) rfl ?_
          exact ⟨rfl, hL.below0⟩
        · have s6 : decide ((1900 : Int) < (n0 : Int)) = false := decide_eq_false (by omega)
          have hn00 : n0 ≤ 1900 := by omega
          clear hmany
          have hsm := (rawl_small (by rw [hsl]; omega) xs m hra).1
          rw [← hta] at hsm
          have HN0 := Lib.hid hn0e
          have HRA := Lib.hid hra
          have HTA := Lib.hid hta
          have HNX := Lib.hid hnx
          have hsa := Lib.hid hsm
          clear hA hra hta hnx hn0 hn0e hsm
          rcases snoc_of s.data.toList with hs0 | ⟨i, x, hs0⟩
          · have q4 : s.toList.isEmpty = true := by rw [Lib.toList_data, hs0]; rfl
            have HE := Lib.hid (show s.data.toList.getLast? ≠ some 92 by rw [hs0]; simp)
            clear hs0
            go_wp2_with (first | ((with_reducible refine kn_list_set ?_); (try clear hF); clear hL; intro W hL; (try simp only [kfb] at hL); have hF := hL.facts; (try simp only [Facts, Dist, kfa, implies_true, forall_const] at hF)) | (go_at_call 9; (((with_reducible refine (HX0.out _).mono ?_))); rintro e W ⟨hb, g0, o0, cap0, rfl, hcp0, hTn⟩; (try replace hT0 := hT0.ext hb); (try replace hT1 := hT1.ext hb); (try replace hT2 := hT2.ext hb); (try replace hT3 := hT3.ext hb); (try replace hT4 := hT4.ext hb); (try replace hT5 := hT5.ext hb); (try replace hT6 := hT6.ext hb); (try replace hT7 := hT7.ext hb); have hT0 := hTn; clear hTn; replace hL := hL.below hb; clear hb; (try clear hF); (try simp only [kfb] at hL); have hF := hL.facts; (try simp only [Facts, Dist, kfa, implies_true, forall_const] at hF); have HL0 := Lib.hid hL; replace hL := Kn.refl [] W; (try clear hF); (try simp only [kfb] at hL); have hF := hL.facts; (try simp only [Facts, Dist, kfa, implies_true, forall_const] at hF); rename World => W0))
            go_loopw [12, 13] (fun tv i wr => ∃ (k : Nat) (u : ByteArray), k ≤ nn ∧ i = .int .i64 k ∧ tv = .string u ∧ Hid (u.size = k) ∧ Hid (∀ c ∈ u.data.toList, blank c) ∧ Kn [] W0 wr []) (fun _ i _ => nn - (intOf i).toNat)
            case atStart => exact ⟨0, ⟨#[]⟩, by omega, rfl, rfl, Lib.hid rfl, Lib.hid (by simp), hL⟩
            case round =>
              obtain ⟨k, u, hk, rfl, rfl, HU, HUB, hK⟩ := hrel
              clear hL
              have hL := hK
              clear hK
              (try simp only [kfb] at hL); have hF := hL.facts; (try simp only [Facts, Dist, kfa, implies_true, forall_const] at hF)
              by_cases hlt : k < nn
              · have hus : u.size ≤ 100 := by rw [HU.out]; omega
                have hmax : IntKind.i64.max = 9223372036854775807 := by decide
                have m1 : ¬ IntKind.i64.max < ((u.size + (⟨#[32]⟩ : ByteArray).size : Nat) : Int) := by rw [hmax, one_sz]; omega
                have m2 : ¬ IntKind.i64.max < ((u.size + (⟨#[9]⟩ : ByteArray).size : Nat) : Int) := by rw [hmax, one_sz]; omega
                clear hmax
                go_wp2
                all_goals (refine ⟨⟨k + 1, _, by omega, by go_num, rfl, Lib.hid (by rw [ByteArray.size_append, HU.out]; rfl), Lib.hid ?_, hL⟩, by simp [intOf]; omega⟩)
                all_goals (intro c hc; simp only [ByteArray.data_append, Array.toList_append, List.mem_append] at hc; rcases hc with hc | hc)
                all_goals first | exact HUB.out c hc | (simp at hc; subst hc; first | exact .inl rfl | exact .inr rfl)
              · obtain rfl : k = nn := by omega
                replace hT0 := hT0.kn0 hL
                have hus := HU.out
                have hmax : IntKind.i64.max = 9223372036854775807 := by decide
                obtain ⟨s0, hs0⟩ : ∃ x : ByteArray, u ++ s = x := ⟨_, rfl⟩
                obtain ⟨sa, hsa1⟩ : ∃ x : ByteArray, s0 ++ u = x := ⟨_, rfl⟩
                obtain ⟨sb, hsb⟩ : ∃ x : ByteArray, (⟨#[92, 10]⟩ : ByteArray) ++ s = x := ⟨_, rfl⟩
                obtain ⟨s1, hs1⟩ : ∃ x : ByteArray, s ++ u = x := ⟨_, rfl⟩
                obtain ⟨s2', hs2⟩ : ∃ x : ByteArray, s1 ++ ⟨#[35]⟩ = x := ⟨_, rfl⟩
                obtain ⟨s3, hs3⟩ : ∃ x : ByteArray, s2' ++ cm = x := ⟨_, rfl⟩
                obtain ⟨sc, hsc⟩ : ∃ x : ByteArray, s3 ++ ⟨#[10]⟩ = x := ⟨_, rfl⟩
                have hz0 : s0.size = k + s.size := by rw [← hs0, ByteArray.size_append, hus]
                have hza : sa.size = k + s.size + k := by rw [← hsa1, ByteArray.size_append, hus, hz0]
                have hz1 : s1.size = s.size + k := by rw [← hs1, ByteArray.size_append, hus]
                have hz2 : s2'.size = s.size + k + 1 := by rw [← hs2, ByteArray.size_append, hz1]; rfl
                have hz3 : s3.size = s.size + k + 1 + cm.size := by rw [← hs3, ByteArray.size_append, hz2]
                have hzc : sc.size = s.size + k + 1 + cm.size + 1 := by rw [← hsc, ByteArray.size_append, hz3]; rfl
                have hzb : sb.size = 2 + s.size := by rw [← hsb, ByteArray.size_append]; rfl
                have hla : sa.data.toList = u.data.toList ++ s.data.toList ++ u.data.toList := by rw [← hsa1, ← hs0]; simp
                have hlb : sb.data.toList = 92 :: 10 :: s.data.toList := by rw [← hsb]; simp
                have hlc : sc.data.toList = s.data.toList ++ (u.data.toList ++ 35 :: (cm.data.toList ++ [10])) := by rw [← hsc, ← hs3, ← hs2, ← hs1]; simp
                have m1 : ¬ IntKind.i64.max < ((u.size + s.size : Nat) : Int) := by rw [hmax]; omega
                have m2 : ¬ IntKind.i64.max < ((s0.size + u.size : Nat) : Int) := by rw [hmax]; omega
                have m3 : ¬ IntKind.i64.max < (((⟨#[92, 10]⟩ : ByteArray).size + s.size : Nat) : Int) := by rw [hmax, show (⟨#[92, 10]⟩ : ByteArray).size = 2 from rfl]; omega
                have m4 : ¬ IntKind.i64.max < ((s.size + u.size : Nat) : Int) := by rw [hmax]; omega
                have m5 : ¬ IntKind.i64.max < ((s1.size + (⟨#[35]⟩ : ByteArray).size : Nat) : Int) := by rw [hmax, one_sz]; omega
                have m6 : ¬ IntKind.i64.max < ((s2'.size + cm.size : Nat) : Int) := by rw [hmax]; omega
                have m7 : ¬ IntKind.i64.max < ((s3.size + (⟨#[10]⟩ : ByteArray).size : Nat) : Int) := by rw [hmax, one_sz]; omega
                have hnx := HNX.out
                have hn0 := HN0.out
                have HX1 := Lib.hid fun W => lexOk sa (by omega) ta n0 (by rw [hla, HTA.out]; exact blanks_a (by rw [← hla, szl]; omega) HUB.out HRA.out HE.out hxl) (by rw [HTA.out]; simp; omega) (by omega) W
                have HX2 := Lib.hid fun W => lexOk sb (by omega) (ta.map (Tok.up 1)) n0 (by rw [hlb, HTA.out]; exact blanks_b (by rw [← hlb, szl]; omega) HRA.out hxl) (by rw [HTA.out]; simp; omega) (by omega) W
                have HX3 := Lib.hid fun W => lexOk sc (by omega) (xs ++ [⟨3, [], [], [], -1, m⟩] ++ [endT (m + 1)]) (n0 + 1) (by rw [hlc]; exact blanks_c (by rw [← hlc, szl]; omega) HUB.out HNO2.out (by intro e; rw [← szl, e] at hus; simp at hus; omega) HRA.out HE.out (by omega)) (by simp; omega) (by omega) W
                have HZ1 : Hid ((xs ++ [⟨3, [], [], [], -1, m⟩] ++ [endT (m + 1)] : List Tok).take nx = ta.take nx) := Lib.hid (by rw [HTA.out, ← hnx]; simp)
                have HZ2 : Hid ((xs ++ [⟨3, [], [], [], -1, m⟩] ++ [endT (m + 1)] : List Tok)[nx]? = some ⟨3, [], [], [], -1, m⟩) := Lib.hid (by rw [← hnx]; simp)
                have HZ3 : Hid ((xs ++ [⟨3, [], [], [], -1, m⟩] ++ [endT (m + 1)] : List Tok)[n0]? = some (endT (m + 1))) := Lib.hid (by rw [← hn0, ← hnx]; simp)
                have t1 : IntKind.i64.wrap ((n0 : Int) + 1) = (n0 : Int) + 1 := by rw [IntWalk.i64_in _ (by omega)]
                have t2 : IntKind.i64.wrap ((n0 : Int) - 1) = (nx : Int) := by rw [IntWalk.i64_in _ (by omega)]; omega
                have hnb : nx + 1 = n0 := hn0
                have HNB := Lib.hid hnb
                have y1 : u.size ≤ 100 := by omega
                have y2 : s0.size ≤ 3100 := by omega
                have y3 : s1.size ≤ 3100 := by omega
                have y4 : s2'.size ≤ 3101 := by omega
                have y5 : s3.size ≤ 3201 := by omega
                clear hla hlb hlc hmax hz2 hz3 hzc hzb hz1 hza hus hnx hn0 hnb hz0
                go_wp2_with (first | ((with_reducible refine kn_list_set ?_); (try clear hF); clear hL; intro W hL; (try simp only [kfb] at hL); have hF := hL.facts; (try simp only [Facts, Dist, kfa, implies_true, forall_const] at hF)) | (go_at_call 9; (((with_reducible refine (HX1.out _).mono ?_))); rintro e W ⟨hb, g1, o1, cap1, rfl, hcp1, hTn⟩; (try replace hT0 := hT0.ext hb); (try replace hT1 := hT1.ext hb); (try replace hT2 := hT2.ext hb); (try replace hT3 := hT3.ext hb); (try replace hT4 := hT4.ext hb); (try replace hT5 := hT5.ext hb); (try replace hT6 := hT6.ext hb); (try replace hT7 := hT7.ext hb); have hT1 := hTn; clear hTn; replace hL := hL.below hb; clear hb; (try clear hF); (try simp only [kfb] at hL); have hF := hL.facts; (try simp only [Facts, Dist, kfa, implies_true, forall_const] at hF)) | (go_at_call 9; (((with_reducible refine (HX2.out _).mono ?_))); rintro e W ⟨hb, g2, o2, cap2, rfl, hcp2, hTn⟩; (try replace hT0 := hT0.ext hb); (try replace hT1 := hT1.ext hb); (try replace hT2 := hT2.ext hb); (try replace hT3 := hT3.ext hb); (try replace hT4 := hT4.ext hb); (try replace hT5 := hT5.ext hb); (try replace hT6 := hT6.ext hb); (try replace hT7 := hT7.ext hb); have hT2 := hTn; clear hTn; replace hL := hL.below hb; clear hb; (try clear hF); (try simp only [kfb] at hL); have hF := hL.facts; (try simp only [Facts, Dist, kfa, implies_true, forall_const] at hF)) | (go_at_call 9; (((with_reducible refine (HX3.out _).mono ?_))); rintro e W ⟨hb, g3, o3, cap3, rfl, hcp3, hTn⟩; (try replace hT0 := hT0.ext hb); (try replace hT1 := hT1.ext hb); (try replace hT2 := hT2.ext hb); (try replace hT3 := hT3.ext hb); (try replace hT4 := hT4.ext hb); (try replace hT5 := hT5.ext hb); (try replace hT6 := hT6.ext hb); (try replace hT7 := hT7.ext hb); have hT3 := hTn; clear hTn; replace hL := hL.below hb; clear hb; (try clear hF); (try simp only [kfb] at hL); have hF := hL.facts; (try simp only [Facts, Dist, kfa, implies_true, forall_const] at hF); have HL1 := Lib.hid hL; replace hL := Kn.refl [] W; (try clear hF); (try simp only [kfb] at hL); have hF := hL.facts; (try simp only [Facts, Dist, kfa, implies_true, forall_const] at hF); have hnb := HNB.out; have HS1 := Lib.hid hT0; have HS2 := Lib.hid hT1; have HS3 := Lib.hid hT2; have HS4 := Lib.hid (hT0.takes nx (by omega)); have HS5 := hT3.takes nx (by omega); rw [HZ1.out] at HS5; replace HS5 := Lib.hid HS5; obtain ⟨pv, hg3, z0, _⟩ := tok_six hT3 HZ2.out; obtain ⟨pv2, _, y0, _⟩ := tok_six hT3 HZ3.out; simp only [endT] at z0 y0; have b1 : (nx : Int) ≤ cap0 := (by omega); have b2 : (nx : Int) ≤ cap3 := (by omega); clear hT0 hT1 hT2 hT3) | ((with_reducible refine at_region 24 ?_); refine kn_wp ?_; (try clear hF); clear hL; intro W hL; (try simp only [kfb] at hL); have hF := hL.facts; (try simp only [Facts, Dist, kfa, implies_true, forall_const] at hF); refine kn_region [0, 1, 2, 3, 4, 5, 6, 7, 8, 9, 10, 11, 12, 13, 14, 15, 16, 17, 18, 19, 20, 21, 22, 23, 24, 25, 26, 27, 28, 29, 30, 31, 32, 33, 34, 35, 36, 37, 38, 39, 40, 41, 42, 43] [0, 1, 2, 3, 5, 6, 7, 8, 10, 11, 12, 13, 14, 15, 16, 17, 18, 19, 20, 21, 23, 24, 25, 26, 27, 28, 29, 30, 31, 32, 33, 34, 35, 36, 37, 38, 39, 40, 41, 42, 43] [4, 9, 22] [0, 1, 2, 3, 5, 6, 7, 8, 10, 11, 12, 13, 14, 15, 16, 17, 18, 19, 20, 21, 23, 24, 25, 26, 27, 28, 29, 30, 32, 33, 34, 35, 36, 37, 38, 39, 41, 42, 43] (by kernel_rfl) (by kernel_rfl) (List.Sublist.refl _) ?_; (try clear hF); clear hL; intro ι F hne hC hFF; have hG := fun n => (hFF n).facts; clear hFF; (try simp only [Facts, Dist, kfa, implies_true, forall_const] at hG); (repeat (first | (refine cwk_skip rfl (by rfl) ?_; (try simp only [Act.put, List.setIfInBounds_toArray, List.set_cons_zero, List.set_cons_succ])) | (refine cwk_float rfl rfl (by rfl) (by rfl) (by rfl) hC ?_; intro K hK; go_big_quiet_op; go_big_quiet_on) | (refine cwk_pure rfl rfl (by rfl) (by rfl) ?_; intro K hK; go_big_quiet_op; go_big_quiet_on) | (refine cwk_call rfl (by rfl) (by rfl) (fun _ => rfl) ?_; intro W hL; (try simp only [kfb] at hL); have hF := hL.facts; (try simp only [Facts, Dist, kfa, implies_true, forall_const] at hF); simp only [List.map_toArray, List.map_cons, List.map_nil, Array.empty_append, Array.append_empty, Act.eval, Array.getD_eq_getD_getElem?, List.getElem?_toArray, List.getElem?_cons_zero, List.getElem?_cons_succ, Option.getD_some]; go_at_call 10; (((first | (with_reducible refine (same0_is _ _ _ hsa.out _ (HS1.out.kn0 hL) (HS2.out.kn0 hL)).mono ?_) | (with_reducible refine (same1_is _ _ _ hsa.out _ (HS1.out.kn0 hL) (HS3.out.kn0 hL)).mono ?_) | (with_reducible refine (same0_is _ _ _ (hsa.out.take nx) _ (HS4.out.kn0 hL) (HS5.out.kn0 hL)).mono ?_)))); rintro e W ⟨rfl, hb⟩; replace hL := hL.below hb; clear hb; (try clear hF); (try simp only [kfb] at hL); have hF := hL.facts; (try simp only [Facts, Dist, kfa, implies_true, forall_const] at hF); refine owed_ret ?_; (first | (refine owedB _ (by rfl) ?_; clear hL; (try clear hF); clear hC hG; intro ι F hne hC hFF; have hG := fun n => (hFF n).facts; clear hFF; (try simp only [Facts, Dist, kfa, implies_true, forall_const] at hG)) | (refine owed0 _ (by repeat' (first | (with_reducible exact List.Sublist.refl _) | (with_reducible apply List.Sublist.cons_cons) | (with_reducible apply List.Sublist.cons))) ?_; clear hL; (try clear hF))); (try simp only [Act.put, List.setIfInBounds_toArray, List.set_cons_zero, List.set_cons_succ])) | (refine cwk_anch rfl rfl (by rfl) (by rfl) ?_; intro W hL; (try simp only [kfb] at hL); have hF := hL.facts; (try simp only [Facts, Dist, kfa, implies_true, forall_const] at hF); go_wp2; refine anchQ_normal ?_; (first | (refine owedB _ (by rfl) ?_; clear hL; (try clear hF); clear hC hG; intro ι F hne hC hFF; have hG := fun n => (hFF n).facts; clear hFF; (try simp only [Facts, Dist, kfa, implies_true, forall_const] at hG)) | (refine owed0 _ (by repeat' (first | (with_reducible exact List.Sublist.refl _) | (with_reducible apply List.Sublist.cons_cons) | (with_reducible apply List.Sublist.cons))) ?_; clear hL; (try clear hF)))))); refine cwk_nil ?_; clear hC hG; intro W hL; (try simp only [kfb] at hL); have hF := hL.facts; (try simp only [Facts, Dist, kfa, implies_true, forall_const] at hF)))
                (try simp only [Exit.inBlock, Exit.then]); refine bodyPost_ret (by simp [results, Tryd.results5, go_sem, *]; try rfl) rfl ?_
                exact ⟨rfl, ((HL0.out.tail0 HL1.out).tail0 hL).below0⟩
          · have haj : s.size = i.length + 1 := by rw [← hsl, hs0]; simp
            have hc0 : s.data.toList[i.length]? = some x := by rw [hs0]; simp
            have q4 : s.toList.isEmpty = false := by rw [Lib.toList_data, hs0]; simp
            obtain ⟨j, hj⟩ : ∃ j, i.length = j := ⟨_, rfl⟩
            rw [hj] at haj hc0
            have HAJ := Lib.hid haj
            have s9 : IntKind.i64.wrap ((s.size : Int) - 1) = (j : Int) := by rw [IntWalk.i64_in _ (by omega)]; omega
            have s9' : (j : Int) < s.size := by omega
            have s9'' : (0 : Int) ≤ j := by omega
            have HLT := Lib.hid (show j < s.size by omega)
            have eb0 := byte_at hc0 HLT.out
            have HE0 : x ≠ 92 → s.data.toList.getLast? ≠ some 92 := fun h => by rw [hs0]; simpa using h
            clear haj hj hs0 hc0
            by_cases h92 : x = 92
            · subst h92
              clear HE0
              go_wp2_with (first | ((with_reducible refine kn_list_set ?_); (try clear hF); clear hL; intro W hL; (try simp only [kfb] at hL); have hF := hL.facts; (try simp only [Facts, Dist, kfa, implies_true, forall_const] at hF)) | (go_at_call 9; (((with_reducible refine (HX0.out _).mono ?_))); rintro e W ⟨hb, g0, o0, cap0, rfl, hcp0, hTn⟩; (try replace hT0 := hT0.ext hb); (try replace hT1 := hT1.ext hb); (try replace hT2 := hT2.ext hb); (try replace hT3 := hT3.ext hb); (try replace hT4 := hT4.ext hb); (try replace hT5 := hT5.ext hb); (try replace hT6 := hT6.ext hb); (try replace hT7 := hT7.ext hb); have hT0 := hTn; clear hTn; replace hL := hL.below hb; clear hb; (try clear hF); (try simp only [kfb] at hL); have hF := hL.facts; (try simp only [Facts, Dist, kfa, implies_true, forall_const] at hF)))
              (try simp only [Exit.inBlock, Exit.then]); refine bodyPost_ret (by simp [results, Tryd.results5, go_sem, *]; try rfl) rfl ?_
              exact ⟨rfl, hL.below0⟩
            · have HE := Lib.hid (HE0 h92)
              have f92 : ((x.toNat : Int) == 92) = false := beq_false_of_ne (fun h => h92 (UInt8.toNat_inj.1 (show x.toNat = 92 by omega)))
              clear h92 HE0
              go_wp2_with (first | ((with_reducible refine kn_list_set ?_); (try clear hF); clear hL; intro W hL; (try simp only [kfb] at hL); have hF := hL.facts; (try simp only [Facts, Dist, kfa, implies_true, forall_const] at hF)) | (go_at_call 9; (((with_reducible refine (HX0.out _).mono ?_))); rintro e W ⟨hb, g0, o0, cap0, rfl, hcp0, hTn⟩; (try replace hT0 := hT0.ext hb); (try replace hT1 := hT1.ext hb); (try replace hT2 := hT2.ext hb); (try replace hT3 := hT3.ext hb); (try replace hT4 := hT4.ext hb); (try replace hT5 := hT5.ext hb); (try replace hT6 := hT6.ext hb); (try replace hT7 := hT7.ext hb); have hT0 := hTn; clear hTn; replace hL := hL.below hb; clear hb; (try clear hF); (try simp only [kfb] at hL); have hF := hL.facts; (try simp only [Facts, Dist, kfa, implies_true, forall_const] at hF); have HL0 := Lib.hid hL; replace hL := Kn.refl [] W; (try clear hF); (try simp only [kfb] at hL); have hF := hL.facts; (try simp only [Facts, Dist, kfa, implies_true, forall_const] at hF); rename World => W0))
              go_loopw [12, 13] (fun tv i wr => ∃ (k : Nat) (u : ByteArray), k ≤ nn ∧ i = .int .i64 k ∧ tv = .string u ∧ Hid (u.size = k) ∧ Hid (∀ c ∈ u.data.toList, blank c) ∧ Kn [] W0 wr []) (fun _ i _ => nn - (intOf i).toNat)
              case atStart => exact ⟨0, ⟨#[]⟩, by omega, rfl, rfl, Lib.hid rfl, Lib.hid (by simp), hL⟩
              case round =>
                obtain ⟨k, u, hk, rfl, rfl, HU, HUB, hK⟩ := hrel
                clear hL
                have hL := hK
                clear hK
                (try simp only [kfb] at hL); have hF := hL.facts; (try simp only [Facts, Dist, kfa, implies_true, forall_const] at hF)
                by_cases hlt : k < nn
                · have hus : u.size ≤ 100 := by rw [HU.out]; omega
                  have hmax : IntKind.i64.max = 9223372036854775807 := by decide
                  have m1 : ¬ IntKind.i64.max < ((u.size + (⟨#[32]⟩ : ByteArray).size : Nat) : Int) := by rw [hmax, one_sz]; omega
                  have m2 : ¬ IntKind.i64.max < ((u.size + (⟨#[9]⟩ : ByteArray).size : Nat) : Int) := by rw [hmax, one_sz]; omega
                  clear hmax
                  go_wp2
                  all_goals (refine ⟨⟨k + 1, _, by omega, by go_num, rfl, Lib.hid (by rw [ByteArray.size_append, HU.out]; rfl), Lib.hid ?_, hL⟩, by simp [intOf]; omega⟩)
                  all_goals (intro c hc; simp only [ByteArray.data_append, Array.toList_append, List.mem_append] at hc; rcases hc with hc | hc)
                  all_goals first | exact HUB.out c hc | (simp at hc; subst hc; first | exact .inl rfl | exact .inr rfl)
                · obtain rfl : k = nn := by omega
                  replace hT0 := hT0.kn0 hL
                  have hus := HU.out
                  have hmax : IntKind.i64.max = 9223372036854775807 := by decide
                  obtain ⟨s0, hs0⟩ : ∃ x : ByteArray, u ++ s = x := ⟨_, rfl⟩
                  obtain ⟨sa, hsa1⟩ : ∃ x : ByteArray, s0 ++ u = x := ⟨_, rfl⟩
                  obtain ⟨sb, hsb⟩ : ∃ x : ByteArray, (⟨#[92, 10]⟩ : ByteArray) ++ s = x := ⟨_, rfl⟩
                  obtain ⟨s1, hs1⟩ : ∃ x : ByteArray, s ++ u = x := ⟨_, rfl⟩
                  obtain ⟨s2', hs2⟩ : ∃ x : ByteArray, s1 ++ ⟨#[35]⟩ = x := ⟨_, rfl⟩
                  obtain ⟨s3, hs3⟩ : ∃ x : ByteArray, s2' ++ cm = x := ⟨_, rfl⟩
                  obtain ⟨sc, hsc⟩ : ∃ x : ByteArray, s3 ++ ⟨#[10]⟩ = x := ⟨_, rfl⟩
                  have hz0 : s0.size = k + s.size := by rw [← hs0, ByteArray.size_append, hus]
                  have hza : sa.size = k + s.size + k := by rw [← hsa1, ByteArray.size_append, hus, hz0]
                  have hz1 : s1.size = s.size + k := by rw [← hs1, ByteArray.size_append, hus]
                  have hz2 : s2'.size = s.size + k + 1 := by rw [← hs2, ByteArray.size_append, hz1]; rfl
                  have hz3 : s3.size = s.size + k + 1 + cm.size := by rw [← hs3, ByteArray.size_append, hz2]
                  have hzc : sc.size = s.size + k + 1 + cm.size + 1 := by rw [← hsc, ByteArray.size_append, hz3]; rfl
                  have hzb : sb.size = 2 + s.size := by rw [← hsb, ByteArray.size_append]; rfl
                  have hla : sa.data.toList = u.data.toList ++ s.data.toList ++ u.data.toList := by rw [← hsa1, ← hs0]; simp
                  have hlb : sb.data.toList = 92 :: 10 :: s.data.toList := by rw [← hsb]; simp
                  have hlc : sc.data.toList = s.data.toList ++ (u.data.toList ++ 35 :: (cm.data.toList ++ [10])) := by rw [← hsc, ← hs3, ← hs2, ← hs1]; simp
                  have m1 : ¬ IntKind.i64.max < ((u.size + s.size : Nat) : Int) := by rw [hmax]; omega
                  have m2 : ¬ IntKind.i64.max < ((s0.size + u.size : Nat) : Int) := by rw [hmax]; omega
                  have m3 : ¬ IntKind.i64.max < (((⟨#[92, 10]⟩ : ByteArray).size + s.size : Nat) : Int) := by rw [hmax, show (⟨#[92, 10]⟩ : ByteArray).size = 2 from rfl]; omega
                  have m4 : ¬ IntKind.i64.max < ((s.size + u.size : Nat) : Int) := by rw [hmax]; omega
                  have m5 : ¬ IntKind.i64.max < ((s1.size + (⟨#[35]⟩ : ByteArray).size : Nat) : Int) := by rw [hmax, one_sz]; omega
                  have m6 : ¬ IntKind.i64.max < ((s2'.size + cm.size : Nat) : Int) := by rw [hmax]; omega
                  have m7 : ¬ IntKind.i64.max < ((s3.size + (⟨#[10]⟩ : ByteArray).size : Nat) : Int) := by rw [hmax, one_sz]; omega
                  have hnx := HNX.out
                  have hn0 := HN0.out
                  have HX1 := Lib.hid fun W => lexOk sa (by omega) ta n0 (by rw [hla, HTA.out]; exact blanks_a (by rw [← hla, szl]; omega) HUB.out HRA.out HE.out hxl) (by rw [HTA.out]; simp; omega) (by omega) W
                  have HX2 := Lib.hid fun W => lexOk sb (by omega) (ta.map (Tok.up 1)) n0 (by rw [hlb, HTA.out]; exact blanks_b (by rw [← hlb, szl]; omega) HRA.out hxl) (by rw [HTA.out]; simp; omega) (by omega) W
                  have HX3 := Lib.hid fun W => lexOk sc (by omega) (xs ++ [⟨3, [], [], [], -1, m⟩] ++ [endT (m + 1)]) (n0 + 1) (by rw [hlc]; exact blanks_c (by rw [← hlc, szl]; omega) HUB.out HNO2.out (by intro e; rw [← szl, e] at hus; simp at hus; omega) HRA.out HE.out (by omega)) (by simp; omega) (by omega) W
                  have HZ1 : Hid ((xs ++ [⟨3, [], [], [], -1, m⟩] ++ [endT (m + 1)] : List Tok).take nx = ta.take nx) := Lib.hid (by rw [HTA.out, ← hnx]; simp)
                  have HZ2 : Hid ((xs ++ [⟨3, [], [], [], -1, m⟩] ++ [endT (m + 1)] : List Tok)[nx]? = some ⟨3, [], [], [], -1, m⟩) := Lib.hid (by rw [← hnx]; simp)
                  have HZ3 : Hid ((xs ++ [⟨3, [], [], [], -1, m⟩] ++ [endT (m + 1)] : List Tok)[n0]? = some (endT (m + 1))) := Lib.hid (by rw [← hn0, ← hnx]; simp)
                  have t1 : IntKind.i64.wrap ((n0 : Int) + 1) = (n0 : Int) + 1 := by rw [IntWalk.i64_in _ (by omega)]
                  have t2 : IntKind.i64.wrap ((n0 : Int) - 1) = (nx : Int) := by rw [IntWalk.i64_in _ (by omega)]; omega
                  have hnb : nx + 1 = n0 := hn0
                  have HNB := Lib.hid hnb
                  have y1 : u.size ≤ 100 := by omega
                  have y2 : s0.size ≤ 3100 := by omega
                  have y3 : s1.size ≤ 3100 := by omega
                  have y4 : s2'.size ≤ 3101 := by omega
                  have y5 : s3.size ≤ 3201 := by omega
                  clear hla hlb hlc hmax hz2 hz3 hzc hzb hz1 hza hus hnx hn0 hnb hz0
                  go_wp2_with (first | ((with_reducible refine kn_list_set ?_); (try clear hF); clear hL; intro W hL; (try simp only [kfb] at hL); have hF := hL.facts; (try simp only [Facts, Dist, kfa, implies_true, forall_const] at hF)) | (go_at_call 9; (((with_reducible refine (HX1.out _).mono ?_))); rintro e W ⟨hb, g1, o1, cap1, rfl, hcp1, hTn⟩; (try replace hT0 := hT0.ext hb); (try replace hT1 := hT1.ext hb); (try replace hT2 := hT2.ext hb); (try replace hT3 := hT3.ext hb); (try replace hT4 := hT4.ext hb); (try replace hT5 := hT5.ext hb); (try replace hT6 := hT6.ext hb); (try replace hT7 := hT7.ext hb); have hT1 := hTn; clear hTn; replace hL := hL.below hb; clear hb; (try clear hF); (try simp only [kfb] at hL); have hF := hL.facts; (try simp only [Facts, Dist, kfa, implies_true, forall_const] at hF)) | (go_at_call 9; (((with_reducible refine (HX2.out _).mono ?_))); rintro e W ⟨hb, g2, o2, cap2, rfl, hcp2, hTn⟩; (try replace hT0 := hT0.ext hb); (try replace hT1 := hT1.ext hb); (try replace hT2 := hT2.ext hb); (try replace hT3 := hT3.ext hb); (try replace hT4 := hT4.ext hb); (try replace hT5 := hT5.ext hb); (try replace hT6 := hT6.ext hb); (try replace hT7 := hT7.ext hb); have hT2 := hTn; clear hTn; replace hL := hL.below hb; clear hb; (try clear hF); (try simp only [kfb] at hL); have hF := hL.facts; (try simp only [Facts, Dist, kfa, implies_true, forall_const] at hF)) | (go_at_call 9; (((with_reducible refine (HX3.out _).mono ?_))); rintro e W ⟨hb, g3, o3, cap3, rfl, hcp3, hTn⟩; (try replace hT0 := hT0.ext hb); (try replace hT1 := hT1.ext hb); (try replace hT2 := hT2.ext hb); (try replace hT3 := hT3.ext hb); (try replace hT4 := hT4.ext hb); (try replace hT5 := hT5.ext hb); (try replace hT6 := hT6.ext hb); (try replace hT7 := hT7.ext hb); have hT3 := hTn; clear hTn; replace hL := hL.below hb; clear hb; (try clear hF); (try simp only [kfb] at hL); have hF := hL.facts; (try simp only [Facts, Dist, kfa, implies_true, forall_const] at hF); have HL1 := Lib.hid hL; replace hL := Kn.refl [] W; (try clear hF); (try simp only [kfb] at hL); have hF := hL.facts; (try simp only [Facts, Dist, kfa, implies_true, forall_const] at hF); have hnb := HNB.out; have HS1 := Lib.hid hT0; have HS2 := Lib.hid hT1; have HS3 := Lib.hid hT2; have HS4 := Lib.hid (hT0.takes nx (by omega)); have HS5 := hT3.takes nx (by omega); rw [HZ1.out] at HS5; replace HS5 := Lib.hid HS5; obtain ⟨pv, hg3, z0, _⟩ := tok_six hT3 HZ2.out; obtain ⟨pv2, _, y0, _⟩ := tok_six hT3 HZ3.out; simp only [endT] at z0 y0; have b1 : (nx : Int) ≤ cap0 := (by omega); have b2 : (nx : Int) ≤ cap3 := (by omega); clear hT0 hT1 hT2 hT3) | ((with_reducible refine at_region 24 ?_); refine kn_wp ?_; (try clear hF); clear hL; intro W hL; (try simp only [kfb] at hL); have hF := hL.facts; (try simp only [Facts, Dist, kfa, implies_true, forall_const] at hF); refine kn_region [0, 1, 2, 3, 4, 5, 6, 7, 8, 9, 10, 11, 12, 13, 14, 15, 16, 17, 18, 19, 20, 21, 22, 23, 24, 25, 26, 27, 28, 29, 30, 31, 32, 33, 34, 35, 36, 37, 38, 39, 40, 41, 42, 43] [0, 1, 2, 3, 5, 6, 7, 8, 10, 11, 12, 13, 14, 15, 16, 17, 18, 19, 20, 21, 23, 24, 25, 26, 27, 28, 29, 30, 31, 32, 33, 34, 35, 36, 37, 38, 39, 40, 41, 42, 43] [4, 9, 22] [0, 1, 2, 3, 5, 6, 7, 8, 10, 11, 12, 13, 14, 15, 16, 17, 18, 19, 20, 21, 23, 24, 25, 26, 27, 28, 29, 30, 32, 33, 34, 35, 36, 37, 38, 39, 41, 42, 43] (by kernel_rfl) (by kernel_rfl) (List.Sublist.refl _) ?_; (try clear hF); clear hL; intro ι F hne hC hFF; have hG := fun n => (hFF n).facts; clear hFF; (try simp only [Facts, Dist, kfa, implies_true, forall_const] at hG); (repeat (first | (refine cwk_skip rfl (by rfl) ?_; (try simp only [Act.put, List.setIfInBounds_toArray, List.set_cons_zero, List.set_cons_succ])) | (refine cwk_float rfl rfl (by rfl) (by rfl) (by rfl) hC ?_; intro K hK; go_big_quiet_op; go_big_quiet_on) | (refine cwk_pure rfl rfl (by rfl) (by rfl) ?_; intro K hK; go_big_quiet_op; go_big_quiet_on) | (refine cwk_call rfl (by rfl) (by rfl) (fun _ => rfl) ?_; intro W hL; (try simp only [kfb] at hL); have hF := hL.facts; (try simp only [Facts, Dist, kfa, implies_true, forall_const] at hF); simp only [List.map_toArray, List.map_cons, List.map_nil, Array.empty_append, Array.append_empty, Act.eval, Array.getD_eq_getD_getElem?, List.getElem?_toArray, List.getElem?_cons_zero, List.getElem?_cons_succ, Option.getD_some]; go_at_call 10; (((first | (with_reducible refine (same0_is _ _ _ hsa.out _ (HS1.out.kn0 hL) (HS2.out.kn0 hL)).mono ?_) | (with_reducible refine (same1_is _ _ _ hsa.out _ (HS1.out.kn0 hL) (HS3.out.kn0 hL)).mono ?_) | (with_reducible refine (same0_is _ _ _ (hsa.out.take nx) _ (HS4.out.kn0 hL) (HS5.out.kn0 hL)).mono ?_)))); rintro e W ⟨rfl, hb⟩; replace hL := hL.below hb; clear hb; (try clear hF); (try simp only [kfb] at hL); have hF := hL.facts; (try simp only [Facts, Dist, kfa, implies_true, forall_const] at hF); refine owed_ret ?_; (first | (refine owedB _ (by rfl) ?_; clear hL; (try clear hF); clear hC hG; intro ι F hne hC hFF; have hG := fun n => (hFF n).facts; clear hFF; (try simp only [Facts, Dist, kfa, implies_true, forall_const] at hG)) | (refine owed0 _ (by repeat' (first | (with_reducible exact List.Sublist.refl _) | (with_reducible apply List.Sublist.cons_cons) | (with_reducible apply List.Sublist.cons))) ?_; clear hL; (try clear hF))); (try simp only [Act.put, List.setIfInBounds_toArray, List.set_cons_zero, List.set_cons_succ])) | (refine cwk_anch rfl rfl (by rfl) (by rfl) ?_; intro W hL; (try simp only [kfb] at hL); have hF := hL.facts; (try simp only [Facts, Dist, kfa, implies_true, forall_const] at hF); go_wp2; refine anchQ_normal ?_; (first | (refine owedB _ (by rfl) ?_; clear hL; (try clear hF); clear hC hG; intro ι F hne hC hFF; have hG := fun n => (hFF n).facts; clear hFF; (try simp only [Facts, Dist, kfa, implies_true, forall_const] at hG)) | (refine owed0 _ (by repeat' (first | (with_reducible exact List.Sublist.refl _) | (with_reducible apply List.Sublist.cons_cons) | (with_reducible apply List.Sublist.cons))) ?_; clear hL; (try clear hF)))))); refine cwk_nil ?_; clear hC hG; intro W hL; (try simp only [kfb] at hL); have hF := hL.facts; (try simp only [Facts, Dist, kfa, implies_true, forall_const] at hF)))
                  (try simp only [Exit.inBlock, Exit.then]); refine bodyPost_ret (by simp [results, Tryd.results5, go_sem, *]; try rfl) rfl ?_
                  exact ⟨rfl, ((HL0.out.tail0 HL1.out).tail0 hL).below0⟩

end Go.Proofs.YtflfaobbfhjmmaaDoor

namespace Go.Proofs.YtflfaobbfhjmmaaDoor
open Go Go.RowKit
set_option linter.unusedSimpArgs false
set_option linter.unusedVariables false
set_option maxRecDepth 20000 in
set_option maxHeartbeats 4000000 in
theorem blanks_s0 (s cm : ByteArray) (n : Int) (h0 : 3000 < s.size) (HS : Hid (∀ W, Calls Tryd.prog 7 #[] W fun e w' => e = .returned (.bool true) ∧ Below W.heap.size W w')) (w : World) : Calls Tryd.prog 5 #[.string s, .int .i64 n, .string cm] w fun e w' => e = .returned (.bool true) ∧ Below w.heap.size w w' := by
  have q0 : decide ((3000 : Int) < (s.size : Int)) = true := decide_eq_true (by omega)
  clear h0
  have hL : Kn [] w w [] := Kn.refl [] w; (try simp only [kfb] at hL); have hF := hL.facts; (try simp only [Facts, Dist, kfa, implies_true, forall_const] at hF); go_enter Tryd.func5, Tryd.ntmps5
  go_wp2_with (first | ((with_reducible refine kn_list_set ?_); (try clear hF); clear hL; intro W hL; (try simp only [kfb] at hL); have hF := hL.facts; (try simp only [Facts, Dist, kfa, implies_true, forall_const] at hF)) | (go_at_call 7; refine kn_calls ?_; (try clear hF); clear hL; intro W hL; (try simp only [kfb] at hL); have hF := hL.facts; (try simp only [Facts, Dist, kfa, implies_true, forall_const] at hF); (((with_reducible refine (HS.out _).mono ?_))); rintro e W ⟨rfl, hb⟩; replace hL := hL.below hb; clear hb; (try clear hF); (try simp only [kfb] at hL); have hF := hL.facts; (try simp only [Facts, Dist, kfa, implies_true, forall_const] at hF)))
  (try simp only [Exit.inBlock, Exit.then]); refine bodyPost_ret (by simp [results, Tryd.results5, go_sem, *]; try rfl) rfl ?_
  exact ⟨rfl, hL.below0⟩
set_option maxRecDepth 20000 in
set_option maxHeartbeats 4000000 in
theorem blanks_s1 (s cm : ByteArray) (n : Int) (h0 : ¬ 3000 < s.size) (h1 : 100 < cm.size) (HS : Hid (∀ W, Calls Tryd.prog 7 #[] W fun e w' => e = .returned (.bool true) ∧ Below W.heap.size W w')) (w : World) : Calls Tryd.prog 5 #[.string s, .int .i64 n, .string cm] w fun e w' => e = .returned (.bool true) ∧ Below w.heap.size w w' := by
  have q0 : decide ((3000 : Int) < (s.size : Int)) = false := decide_eq_false (by omega)
  have q1 : decide ((100 : Int) < (cm.size : Int)) = true := decide_eq_true (by omega)
  clear h0 h1
  have hL : Kn [] w w [] := Kn.refl [] w; (try simp only [kfb] at hL); have hF := hL.facts; (try simp only [Facts, Dist, kfa, implies_true, forall_const] at hF); go_enter Tryd.func5, Tryd.ntmps5
  go_wp2_with (first | ((with_reducible refine kn_list_set ?_); (try clear hF); clear hL; intro W hL; (try simp only [kfb] at hL); have hF := hL.facts; (try simp only [Facts, Dist, kfa, implies_true, forall_const] at hF)) | (go_at_call 7; refine kn_calls ?_; (try clear hF); clear hL; intro W hL; (try simp only [kfb] at hL); have hF := hL.facts; (try simp only [Facts, Dist, kfa, implies_true, forall_const] at hF); (((with_reducible refine (HS.out _).mono ?_))); rintro e W ⟨rfl, hb⟩; replace hL := hL.below hb; clear hb; (try clear hF); (try simp only [kfb] at hL); have hF := hL.facts; (try simp only [Facts, Dist, kfa, implies_true, forall_const] at hF)))
  (try simp only [Exit.inBlock, Exit.then]); refine bodyPost_ret (by simp [results, Tryd.results5, go_sem, *]; try rfl) rfl ?_
  exact ⟨rfl, hL.below0⟩
set_option maxRecDepth 20000 in
set_option maxHeartbeats 4000000 in
theorem blanks_s2 (s cm : ByteArray) (n : Int) (h0 : ¬ 3000 < s.size) (h1 : ¬ 100 < cm.size) (h2 : n < 1) (HS : Hid (∀ W, Calls Tryd.prog 7 #[] W fun e w' => e = .returned (.bool true) ∧ Below W.heap.size W w')) (w : World) : Calls Tryd.prog 5 #[.string s, .int .i64 n, .string cm] w fun e w' => e = .returned (.bool true) ∧ Below w.heap.size w w' := by
  have q0 : decide ((3000 : Int) < (s.size : Int)) = false := decide_eq_false (by omega)
  have q1 : decide ((100 : Int) < (cm.size : Int)) = false := decide_eq_false (by omega)
  have q2 : decide (n < 1) = true := decide_eq_true (by omega)
  clear h0 h1 h2
  have hL : Kn [] w w [] := Kn.refl [] w; (try simp only [kfb] at hL); have hF := hL.facts; (try simp only [Facts, Dist, kfa, implies_true, forall_const] at hF); go_enter Tryd.func5, Tryd.ntmps5
  go_wp2_with (first | ((with_reducible refine kn_list_set ?_); (try clear hF); clear hL; intro W hL; (try simp only [kfb] at hL); have hF := hL.facts; (try simp only [Facts, Dist, kfa, implies_true, forall_const] at hF)) | (go_at_call 7; refine kn_calls ?_; (try clear hF); clear hL; intro W hL; (try simp only [kfb] at hL); have hF := hL.facts; (try simp only [Facts, Dist, kfa, implies_true, forall_const] at hF); (((with_reducible refine (HS.out _).mono ?_))); rintro e W ⟨rfl, hb⟩; replace hL := hL.below hb; clear hb; (try clear hF); (try simp only [kfb] at hL); have hF := hL.facts; (try simp only [Facts, Dist, kfa, implies_true, forall_const] at hF)))
  (try simp only [Exit.inBlock, Exit.then]); refine bodyPost_ret (by simp [results, Tryd.results5, go_sem, *]; try rfl) rfl ?_
  exact ⟨rfl, hL.below0⟩
set_option maxRecDepth 20000 in
set_option maxHeartbeats 4000000 in
theorem blanks_s3 (s cm : ByteArray) (n : Int) (h0 : ¬ 3000 < s.size) (h1 : ¬ 100 < cm.size) (h2 : ¬ n < 1) (h3 : 100 < n) (HS : Hid (∀ W, Calls Tryd.prog 7 #[] W fun e w' => e = .returned (.bool true) ∧ Below W.heap.size W w')) (w : World) : Calls Tryd.prog 5 #[.string s, .int .i64 n, .string cm] w fun e w' => e = .returned (.bool true) ∧ Below w.heap.size w w' := by
  have q0 : decide ((3000 : Int) < (s.size : Int)) = false := decide_eq_false (by omega)
  have q1 : decide ((100 : Int) < (cm.size : Int)) = false := decide_eq_false (by omega)
  have q2 : decide (n < 1) = false := decide_eq_false (by omega)
  have q3 : decide ((100 : Int) < n) = true := decide_eq_true (by omega)
  clear h0 h1 h2 h3
  have hL : Kn [] w w [] := Kn.refl [] w; (try simp only [kfb] at hL); have hF := hL.facts; (try simp only [Facts, Dist, kfa, implies_true, forall_const] at hF); go_enter Tryd.func5, Tryd.ntmps5
  go_wp2_with (first | ((with_reducible refine kn_list_set ?_); (try clear hF); clear hL; intro W hL; (try simp only [kfb] at hL); have hF := hL.facts; (try simp only [Facts, Dist, kfa, implies_true, forall_const] at hF)) | (go_at_call 7; refine kn_calls ?_; (try clear hF); clear hL; intro W hL; (try simp only [kfb] at hL); have hF := hL.facts; (try simp only [Facts, Dist, kfa, implies_true, forall_const] at hF); (((with_reducible refine (HS.out _).mono ?_))); rintro e W ⟨rfl, hb⟩; replace hL := hL.below hb; clear hb; (try clear hF); (try simp only [kfb] at hL); have hF := hL.facts; (try simp only [Facts, Dist, kfa, implies_true, forall_const] at hF)))
  (try simp only [Exit.inBlock, Exit.then]); refine bodyPost_ret (by simp [results, Tryd.results5, go_sem, *]; try rfl) rfl ?_
  exact ⟨rfl, hL.below0⟩
theorem LexBlanks_is (s cm : ByteArray) (n : Int) (w : World) : Calls Tryd.prog 5 #[.string s, .int .i64 n, .string cm] w fun e w' => e = .returned (.bool true) ∧ Below w.heap.size w w' := by
  have HS : Hid (∀ W, Calls Tryd.prog 7 #[] W fun e w' => e = .returned (.bool true) ∧ Below W.heap.size W w') := Lib.hid fun W => small_is W
  by_cases h0 : 3000 < s.size
  · exact blanks_s0 s cm n h0 HS w
  by_cases h1 : 100 < cm.size
  · exact blanks_s1 s cm n h0 h1 HS w
  by_cases h2 : n < 1
  · exact blanks_s2 s cm n h0 h1 h2 HS w
  by_cases h3 : 100 < n
  · exact blanks_s3 s cm n h0 h1 h2 h3 HS w
  obtain ⟨nn, rfl⟩ : ∃ nn : Nat, n = nn := ⟨n.toNat, by omega⟩
  exact blanks_walk s cm (by omega) (by omega) nn (by omega) (by omega) HS w

end Go.Proofs.YtflfaobbfhjmmaaDoor

