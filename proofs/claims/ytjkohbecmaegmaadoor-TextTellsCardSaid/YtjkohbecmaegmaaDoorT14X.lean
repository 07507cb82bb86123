import Derived.Test.YtjkohbecmaegmaaDoorProg
import Derived.WalkKit
import Derived.Handy
import Derived.Deep.Light
import Derived.WalkSmall
import Derived.StillTailTactics
import Derived.Lib.Hide
import Derived.Test.YtjkohbecmaegmaaDoorT0
import Derived.Test.YtjkohbecmaegmaaDoorIt
import Derived.Test.YtjkohbecmaegmaaDoorTcM
namespace Go.Proofs.YtjkohbecmaegmaaDoor
open Go Go.RowKit
set_option linter.unusedSimpArgs false
set_option linter.unusedVariables false

theorem part_drop {p : ByteArray} {i : Nat} {x : Pt} {r : Bytes} (h : part (p.data.toList.drop i) = some (x, r)) : r = p.data.toList.drop (p.size - r.length) := by
  have hs := part_suffix h
  have h2 : r <:+ p.data.toList := hs.trans (List.drop_suffix _ _)
  obtain ⟨t, ht⟩ := h2
  have hl := congrArg List.length ht
  rw [List.length_append, szl] at hl
  rw [← ht, show p.size - r.length = t.length by omega, List.drop_left]
set_option maxRecDepth 20000 in
set_option maxHeartbeats 4000000 in
theorem Pattern_is (p s : ByteArray) (hp : p.size ≤ 100000) (hs : s.size ≤ 100000) (w : World) :
    Calls Tryd.prog 13 #[.string p, .string s] w fun e w' => e = .returned (.bool (mt (parse p.data.toList) s.data.toList)) ∧ Below w.heap.size w w' := by
  obtain ⟨v, hv⟩ : ∃ v, mt (parse p.data.toList) s.data.toList = v := ⟨_, rfl⟩
  rw [hv]
  have hv := Lib.hid hv
  have hL : Kn [] w w [] := Kn.refl [] w; (try simp only [List.setIfInBounds_toArray, List.set_cons_zero, List.set_cons_succ, List.cons_append, List.nil_append] at hL); have hF := hL.facts; (try simp only [Facts, Dist, List.map_cons, List.map_nil, List.forall_mem_cons, false_implies, ne_eq, not_false_eq_true, List.not_mem_nil, not_false_eq_true, true_implies, forall_const, List.mem_cons, or_false, implies_true, and_true, true_and, Nat.le_refl, List.setIfInBounds_toArray, List.set_cons_zero, List.set_cons_succ] at hF); go_enter Tryd.func13, Tryd.ntmps13
  go_wp2; go_step3; go_wp2; go_step3; go_wp2
  go_loopw [5, 6, 7, 8] (fun i sr ag po wr => ∃ (ki kp ka : Nat) (st : Int), i = .int .i64 ki ∧ sr = .int .i64 st ∧ ag = .int .i64 ka ∧ po = .int .i64 kp ∧ ki ≤ p.size ∧ kp ≤ s.size ∧ ka ≤ kp ∧ Kn [] w wr [] ∧ st < p.size ∧ -1 ≤ st ∧
    Hid (PI (parse p.data.toList) s.data.toList (parse (p.data.toList.drop ki)) (if st < 0 then none else some (parse (p.data.toList.drop (st.toNat + 1)), ka)) kp)) (fun i _ ag _ _ => (s.size + 1 - (intOf ag).toNat) * (p.size + 1) + (p.size - (intOf i).toNat))
  case atStart => exact ⟨0, 0, 0, -1, rfl, rfl, rfl, rfl, by omega, by omega, by omega, hL, by omega, by omega, Lib.hid (PI.start _ _)⟩
  case round =>
    obtain ⟨ki, kp, ka, st, rfl, rfl, rfl, rfl, hki, hkp, hka, hK, hst1, hst2, hPI⟩ := hrel
    clear hL hF
    have hL := hK
    clear hK
    (try simp only [List.setIfInBounds_toArray, List.set_cons_zero, List.set_cons_succ, List.cons_append, List.nil_append] at hL); have hF := hL.facts; (try simp only [Facts, Dist, List.map_cons, List.map_nil, List.forall_mem_cons, false_implies, ne_eq, not_false_eq_true, List.not_mem_nil, not_false_eq_true, true_implies, forall_const, List.mem_cons, or_false, implies_true, and_true, true_and, Nat.le_refl, List.setIfInBounds_toArray, List.set_cons_zero, List.set_cons_succ] at hF)
    by_cases hi : ki < p.size
    · obtain ⟨c0, hc0⟩ : ∃ c, p.data.toList[ki]? = some c := ⟨_, List.getElem?_eq_getElem (by rw [szl]; omega)⟩
      have eb0 := byte_at hc0 hi
      have hd0 : p.data.toList.drop ki = c0 :: p.data.toList.drop (ki + 1) := by
        obtain ⟨h1, h2⟩ := List.getElem?_eq_some_iff.1 hc0
        rw [List.drop_eq_getElem_cons h1, h2]
      by_cases hst : c0 = 42
      · subst hst
        have hP2 : Hid (PI (parse p.data.toList) s.data.toList (parse (p.data.toList.drop (ki + 1))) (if (ki : Int) < 0 then none else some (parse (p.data.toList.drop ((ki : Int).toNat + 1)), kp)) kp) := by
          have h1 := hPI.out
          rw [hd0, parse_cons (show part (42 :: p.data.toList.drop (ki + 1)) = some (.star, p.data.toList.drop (ki + 1)) from rfl)] at h1
          rw [if_neg (by omega)]
          exact Lib.hid h1.star
        clear hd0 hc0 hPI
        go_wp2
        go_roundw
        case rel => exact ⟨ki + 1, kp, kp, ki, by go_num, rfl, rfl, rfl, by omega, by omega, by omega, hL, by omega, by omega, hP2⟩
        case measure =>
          simp [intOf]
          have e : (s.size + 1 - kp) * (p.size + 1) ≤ (s.size + 1 - ka) * (p.size + 1) := Nat.mul_le_mul_right _ (by omega)
          omega
      · have f42 : ((c0.toNat : Int) == 42) = false := beq_false_of_ne fun h => hst (UInt8.toNat_inj.1 (show c0.toNat = 42 by omega))
        have hine : ((ki : Int) == (p.size : Int)) = false := beq_false_of_ne (by omega)
        obtain ⟨x, r, hx⟩ := parse_part (l := p.data.toList.drop ki) (by rw [hd0]; simp)
        have hxs : x ≠ .star := by
          rintro rfl
          rw [hd0] at hx
          exact hst (part_star hx)
        have hps := parse_cons hx
        by_cases hk : kp < s.size
        · obtain ⟨c, hc⟩ : ∃ c, s.data.toList[kp]? = some c := ⟨_, List.getElem?_eq_getElem (by rw [szl]; omega)⟩
          have eb1 := byte_at hc hk
          have hone := fun W => one_is p ki c (by omega) hi x r hx hxs W
          have hrl := part_len hx
          rw [List.length_drop, szl] at hrl
          have hrd : r = p.data.toList.drop (p.size - r.length) := part_drop hx
          obtain ⟨n, hn⟩ : ∃ n, p.size - ki - r.length = n := ⟨_, rfl⟩
          rw [hn] at hone
          have hn0 : 0 < n := by omega
          have hn1 : ki + n ≤ p.size := by omega
          cases hf : fit x c
          · have hm0 : mt (parse (p.data.toList.drop ki)) (s.data.toList.drop kp) = false := by
              obtain ⟨h1, h2⟩ := List.getElem?_eq_some_iff.1 hc
              rw [hps, List.drop_eq_getElem_cons h1, h2]
              exact mt_unfit _ _ hxs hf
            rw [hf] at hone
            have ONE := Lib.hid hone
            clear hone hf hps hx hd0 hc0 hc hrd hn hxs hst
            have hm : mt (parse (p.data.toList.drop ki)) (s.data.toList.drop kp) = false := hm0
            by_cases hst : st < 0
            · have hvf : v = false := by
                have h1 := hPI.out
                rw [if_pos hst] at h1
                rw [← hv.out]; exact h1.dead hm (by simp)
              clear hm
              go_wp2_with (first | ((with_reducible refine kn_list_set ?_); (try clear hF); clear hL; intro W hL; (try simp only [List.setIfInBounds_toArray, List.set_cons_zero, List.set_cons_succ, List.cons_append, List.nil_append] at hL); have hF := hL.facts; (try simp only [Facts, Dist, List.map_cons, List.map_nil, List.forall_mem_cons, false_implies, ne_eq, not_false_eq_true, List.not_mem_nil, not_false_eq_true, true_implies, forall_const, List.mem_cons, or_false, implies_true, and_true, true_and, Nat.le_refl, List.setIfInBounds_toArray, List.set_cons_zero, List.set_cons_succ] at hF)) | (go_at_call 39; refine kn_calls ?_; (try clear hF); clear hL; intro W hL; (try simp only [List.setIfInBounds_toArray, List.set_cons_zero, List.set_cons_succ, List.cons_append, List.nil_append] at hL); have hF := hL.facts; (try simp only [Facts, Dist, List.map_cons, List.map_nil, List.forall_mem_cons, false_implies, ne_eq, not_false_eq_true, List.not_mem_nil, not_false_eq_true, true_implies, forall_const, List.mem_cons, or_false, implies_true, and_true, true_and, Nat.le_refl, List.setIfInBounds_toArray, List.set_cons_zero, List.set_cons_succ] at hF); (with_reducible refine (ONE.out _).mono ?_); rintro e W ⟨rfl, hb⟩; replace hL := hL.below hb; clear hb; (try clear hF); (try simp only [List.setIfInBounds_toArray, List.set_cons_zero, List.set_cons_succ, List.cons_append, List.nil_append] at hL); have hF := hL.facts; (try simp only [Facts, Dist, List.map_cons, List.map_nil, List.forall_mem_cons, false_implies, ne_eq, not_false_eq_true, List.not_mem_nil, not_false_eq_true, true_implies, forall_const, List.mem_cons, or_false, implies_true, and_true, true_and, Nat.le_refl, List.setIfInBounds_toArray, List.set_cons_zero, List.set_cons_succ] at hF)))
              (try rw [Exit.noGoto_ret])
              (try simp only [Exit.inBlock, Exit.then]); refine bodyPost_ret (by simp [results, Tryd.results13, go_sem, *]; try rfl) rfl ?_
              exact ⟨by first | rfl | rw [hvf], hL.below0⟩
            · by_cases hag : ka = s.size
              · have hvf : v = false := by
                  have h1 := hPI.out
                  rw [if_neg hst] at h1
                  rw [← hv.out]; exact h1.dead hm (by rintro qs a h; injection h with h; injection h with h2 h3; rw [← h3, hag, szl])
                clear hm
                subst hag
                go_wp2_with (first | ((with_reducible refine kn_list_set ?_); (try clear hF); clear hL; intro W hL; (try simp only [List.setIfInBounds_toArray, List.set_cons_zero, List.set_cons_succ, List.cons_append, List.nil_append] at hL); have hF := hL.facts; (try simp only [Facts, Dist, List.map_cons, List.map_nil, List.forall_mem_cons, false_implies, ne_eq, not_false_eq_true, List.not_mem_nil, not_false_eq_true, true_implies, forall_const, List.mem_cons, or_false, implies_true, and_true, true_and, Nat.le_refl, List.setIfInBounds_toArray, List.set_cons_zero, List.set_cons_succ] at hF)) | (go_at_call 39; refine kn_calls ?_; (try clear hF); clear hL; intro W hL; (try simp only [List.setIfInBounds_toArray, List.set_cons_zero, List.set_cons_succ, List.cons_append, List.nil_append] at hL); have hF := hL.facts; (try simp only [Facts, Dist, List.map_cons, List.map_nil, List.forall_mem_cons, false_implies, ne_eq, not_false_eq_true, List.not_mem_nil, not_false_eq_true, true_implies, forall_const, List.mem_cons, or_false, implies_true, and_true, true_and, Nat.le_refl, List.setIfInBounds_toArray, List.set_cons_zero, List.set_cons_succ] at hF); (with_reducible refine (ONE.out _).mono ?_); rintro e W ⟨rfl, hb⟩; replace hL := hL.below hb; clear hb; (try clear hF); (try simp only [List.setIfInBounds_toArray, List.set_cons_zero, List.set_cons_succ, List.cons_append, List.nil_append] at hL); have hF := hL.facts; (try simp only [Facts, Dist, List.map_cons, List.map_nil, List.forall_mem_cons, false_implies, ne_eq, not_false_eq_true, List.not_mem_nil, not_false_eq_true, true_implies, forall_const, List.mem_cons, or_false, implies_true, and_true, true_and, Nat.le_refl, List.setIfInBounds_toArray, List.set_cons_zero, List.set_cons_succ] at hF)))
                (try rw [Exit.noGoto_ret])
                (try simp only [Exit.inBlock, Exit.then]); refine bodyPost_ret (by simp [results, Tryd.results13, go_sem, *]; try rfl) rfl ?_
                exact ⟨by first | rfl | rw [hvf], hL.below0⟩
              · obtain ⟨sn, rfl⟩ := Int.eq_ofNat_of_zero_le (show 0 ≤ st by omega)
                have hsn : sn < p.size := by omega
                have hP2 : Hid (PI (parse p.data.toList) s.data.toList (parse (p.data.toList.drop (sn + 1))) (if (sn : Int) < 0 then none else some (parse (p.data.toList.drop ((sn : Int).toNat + 1)), ka + 1)) (ka + 1)) := by
                  have h1 := hPI.out
                  rw [if_neg hst] at h1
                  rw [if_neg hst]
                  exact Lib.hid (h1.back hm (by rw [szl]; omega))
                have hka2 : ka < s.size := by omega
                have hagn : ((ka : Int) == (s.size : Int)) = false := beq_false_of_ne (by omega)
                clear hm hPI hag
                go_wp2_with (first | ((with_reducible refine kn_list_set ?_); (try clear hF); clear hL; intro W hL; (try simp only [List.setIfInBounds_toArray, List.set_cons_zero, List.set_cons_succ, List.cons_append, List.nil_append] at hL); have hF := hL.facts; (try simp only [Facts, Dist, List.map_cons, List.map_nil, List.forall_mem_cons, false_implies, ne_eq, not_false_eq_true, List.not_mem_nil, not_false_eq_true, true_implies, forall_const, List.mem_cons, or_false, implies_true, and_true, true_and, Nat.le_refl, List.setIfInBounds_toArray, List.set_cons_zero, List.set_cons_succ] at hF)) | (go_at_call 39; refine kn_calls ?_; (try clear hF); clear hL; intro W hL; (try simp only [List.setIfInBounds_toArray, List.set_cons_zero, List.set_cons_succ, List.cons_append, List.nil_append] at hL); have hF := hL.facts; (try simp only [Facts, Dist, List.map_cons, List.map_nil, List.forall_mem_cons, false_implies, ne_eq, not_false_eq_true, List.not_mem_nil, not_false_eq_true, true_implies, forall_const, List.mem_cons, or_false, implies_true, and_true, true_and, Nat.le_refl, List.setIfInBounds_toArray, List.set_cons_zero, List.set_cons_succ] at hF); (with_reducible refine (ONE.out _).mono ?_); rintro e W ⟨rfl, hb⟩; replace hL := hL.below hb; clear hb; (try clear hF); (try simp only [List.setIfInBounds_toArray, List.set_cons_zero, List.set_cons_succ, List.cons_append, List.nil_append] at hL); have hF := hL.facts; (try simp only [Facts, Dist, List.map_cons, List.map_nil, List.forall_mem_cons, false_implies, ne_eq, not_false_eq_true, List.not_mem_nil, not_false_eq_true, true_implies, forall_const, List.mem_cons, or_false, implies_true, and_true, true_and, Nat.le_refl, List.setIfInBounds_toArray, List.set_cons_zero, List.set_cons_succ] at hF)))
                go_roundw
                case rel => exact ⟨sn + 1, ka + 1, ka + 1, sn, by go_num, rfl, by go_num, by go_num, by omega, by omega, by omega, hL, by omega, by omega, hP2⟩
                case measure =>
                  simp [intOf]
                  have e : (s.size + 1 - ka) = (s.size - ka) + 1 := by omega
                  rw [e, Nat.add_mul]; omega
          · have hP2 : Hid (PI (parse p.data.toList) s.data.toList (parse (p.data.toList.drop (ki + n))) (if st < 0 then none else some (parse (p.data.toList.drop (st.toNat + 1)), ka)) (kp + 1)) := by
              have h1 := hPI.out
              rw [hps] at h1
              have h2 := h1.take hxs hc hf
              rw [show ki + n = p.size - r.length by omega, ← hrd]
              exact Lib.hid h2
            rw [hf] at hone
            have ONE := Lib.hid hone
            clear hone hf hps hx hd0 hc0 hc hrd hn hxs hPI hst
            go_wp2_with (first | ((with_reducible refine kn_list_set ?_); (try clear hF); clear hL; intro W hL; (try simp only [List.setIfInBounds_toArray, List.set_cons_zero, List.set_cons_succ, List.cons_append, List.nil_append] at hL); have hF := hL.facts; (try simp only [Facts, Dist, List.map_cons, List.map_nil, List.forall_mem_cons, false_implies, ne_eq, not_false_eq_true, List.not_mem_nil, not_false_eq_true, true_implies, forall_const, List.mem_cons, or_false, implies_true, and_true, true_and, Nat.le_refl, List.setIfInBounds_toArray, List.set_cons_zero, List.set_cons_succ] at hF)) | (go_at_call 39; refine kn_calls ?_; (try clear hF); clear hL; intro W hL; (try simp only [List.setIfInBounds_toArray, List.set_cons_zero, List.set_cons_succ, List.cons_append, List.nil_append] at hL); have hF := hL.facts; (try simp only [Facts, Dist, List.map_cons, List.map_nil, List.forall_mem_cons, false_implies, ne_eq, not_false_eq_true, List.not_mem_nil, not_false_eq_true, true_implies, forall_const, List.mem_cons, or_false, implies_true, and_true, true_and, Nat.le_refl, List.setIfInBounds_toArray, List.set_cons_zero, List.set_cons_succ] at hF); (with_reducible refine (ONE.out _).mono ?_); rintro e W ⟨rfl, hb⟩; replace hL := hL.below hb; clear hb; (try clear hF); (try simp only [List.setIfInBounds_toArray, List.set_cons_zero, List.set_cons_succ, List.cons_append, List.nil_append] at hL); have hF := hL.facts; (try simp only [Facts, Dist, List.map_cons, List.map_nil, List.forall_mem_cons, false_implies, ne_eq, not_false_eq_true, List.not_mem_nil, not_false_eq_true, true_implies, forall_const, List.mem_cons, or_false, implies_true, and_true, true_and, Nat.le_refl, List.setIfInBounds_toArray, List.set_cons_zero, List.set_cons_succ] at hF)))
            go_roundw
            case rel => exact ⟨ki + n, kp + 1, ka, st, by go_num, rfl, rfl, by go_num, by omega, by omega, by omega, hL, by omega, by omega, hP2⟩
            case measure => simp [intOf]; omega
        · have hke : kp = s.size := by omega
          subst hke
          have hm0 : mt (parse (p.data.toList.drop ki)) (s.data.toList.drop s.size) = false := by
            rw [hps, List.drop_eq_nil_of_le (by rw [szl]; omega)]
            exact mt_end _ hxs
          clear hps hx hd0 hc0 hxs hst
          have hm : mt (parse (p.data.toList.drop ki)) (s.data.toList.drop s.size) = false := hm0
          by_cases hst : st < 0
          · have hvf : v = false := by
              have h1 := hPI.out
              rw [if_pos hst] at h1
              rw [← hv.out]; exact h1.dead hm (by simp)
            clear hm
            go_wp2
            (try rw [Exit.noGoto_ret])
            (try simp only [Exit.inBlock, Exit.then]); refine bodyPost_ret (by simp [results, Tryd.results13, go_sem, *]; try rfl) rfl ?_
            exact ⟨by first | rfl | rw [hvf], hL.below0⟩
          · by_cases hag : ka = s.size
            · have hvf : v = false := by
                have h1 := hPI.out
                rw [if_neg hst] at h1
                rw [← hv.out]; exact h1.dead hm (by rintro qs a h; injection h with h; injection h with h2 h3; rw [← h3, hag, szl])
              clear hm
              subst hag
              go_wp2
              (try rw [Exit.noGoto_ret])
              (try simp only [Exit.inBlock, Exit.then]); refine bodyPost_ret (by simp [results, Tryd.results13, go_sem, *]; try rfl) rfl ?_
              exact ⟨by first | rfl | rw [hvf], hL.below0⟩
            · obtain ⟨sn, rfl⟩ := Int.eq_ofNat_of_zero_le (show 0 ≤ st by omega)
              have hsn : sn < p.size := by omega
              have hP2 : Hid (PI (parse p.data.toList) s.data.toList (parse (p.data.toList.drop (sn + 1))) (if (sn : Int) < 0 then none else some (parse (p.data.toList.drop ((sn : Int).toNat + 1)), ka + 1)) (ka + 1)) := by
                have h1 := hPI.out
                rw [if_neg hst] at h1
                rw [if_neg hst]
                exact Lib.hid (h1.back hm (by rw [szl]; omega))
              have hka2 : ka < s.size := by omega
              have hagn : ((ka : Int) == (s.size : Int)) = false := beq_false_of_ne (by omega)
              clear hm hPI hag
              go_wp2
              go_roundw
              case rel => exact ⟨sn + 1, ka + 1, ka + 1, sn, by go_num, rfl, by go_num, by go_num, by omega, by omega, by omega, hL, by omega, by omega, hP2⟩
              case measure =>
                simp [intOf]
                have e : (s.size + 1 - ka) = (s.size - ka) + 1 := by omega
                rw [e, Nat.add_mul]; omega
    · obtain rfl : ki = p.size := by omega
      have hd0 : p.data.toList.drop p.size = [] := List.drop_eq_nil_of_le (by rw [szl]; omega)
      by_cases hk : kp < s.size
      · have hm0 : mt (parse (p.data.toList.drop p.size)) (s.data.toList.drop kp) = false := by
          obtain ⟨c, hc⟩ : ∃ c, s.data.toList[kp]? = some c := ⟨_, List.getElem?_eq_getElem (by rw [szl]; omega)⟩
          obtain ⟨h1, h2⟩ := List.getElem?_eq_some_iff.1 hc
          rw [hd0, List.drop_eq_getElem_cons h1, h2]
          rw [parse_nil, mt]; rfl
        have hkne : ((kp : Int) == (s.size : Int)) = false := beq_false_of_ne (by omega)
        clear hd0
        have hm : mt (parse (p.data.toList.drop p.size)) (s.data.toList.drop kp) = false := hm0
        by_cases hst : st < 0
        · have hvf : v = false := by
            have h1 := hPI.out
            rw [if_pos hst] at h1
            rw [← hv.out]; exact h1.dead hm (by simp)
          clear hm
          go_wp2
          (try rw [Exit.noGoto_ret])
          (try simp only [Exit.inBlock, Exit.then]); refine bodyPost_ret (by simp [results, Tryd.results13, go_sem, *]; try rfl) rfl ?_
          exact ⟨by first | rfl | rw [hvf], hL.below0⟩
        · by_cases hag : ka = s.size
          · have hvf : v = false := by
              have h1 := hPI.out
              rw [if_neg hst] at h1
              rw [← hv.out]; exact h1.dead hm (by rintro qs a h; injection h with h; injection h with h2 h3; rw [← h3, hag, szl])
            clear hm
            subst hag
            go_wp2
            (try rw [Exit.noGoto_ret])
            (try simp only [Exit.inBlock, Exit.then]); refine bodyPost_ret (by simp [results, Tryd.results13, go_sem, *]; try rfl) rfl ?_
            exact ⟨by first | rfl | rw [hvf], hL.below0⟩
          · obtain ⟨sn, rfl⟩ := Int.eq_ofNat_of_zero_le (show 0 ≤ st by omega)
            have hsn : sn < p.size := by omega
            have hP2 : Hid (PI (parse p.data.toList) s.data.toList (parse (p.data.toList.drop (sn + 1))) (if (sn : Int) < 0 then none else some (parse (p.data.toList.drop ((sn : Int).toNat + 1)), ka + 1)) (ka + 1)) := by
              have h1 := hPI.out
              rw [if_neg hst] at h1
              rw [if_neg hst]
              exact Lib.hid (h1.back hm (by rw [szl]; omega))
            have hka2 : ka < s.size := by omega
            have hagn : ((ka : Int) == (s.size : Int)) = false := beq_false_of_ne (by omega)
            clear hm hPI hag
            go_wp2
            go_roundw
            case rel => exact ⟨sn + 1, ka + 1, ka + 1, sn, by go_num, rfl, by go_num, by go_num, by omega, by omega, by omega, hL, by omega, by omega, hP2⟩
            case measure =>
              simp [intOf]
              have e : (s.size + 1 - ka) = (s.size - ka) + 1 := by omega
              rw [e, Nat.add_mul]; omega
      · obtain rfl : kp = s.size := by omega
        have hvt : v = true := by
          have h1 := hPI.out
          rw [hd0, parse_nil, ← szl s] at h1
          rw [← hv.out]; exact h1.done
        clear hd0
        go_wp2
        (try rw [Exit.noGoto_ret])
        (try simp only [Exit.inBlock, Exit.then]); refine bodyPost_ret (by simp [results, Tryd.results13, go_sem, *]; try rfl) rfl ?_
        exact ⟨by first | rfl | rw [hvt], hL.below0⟩

end Go.Proofs.YtjkohbecmaegmaaDoor

