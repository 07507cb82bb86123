import Derived.Test.YtjkohbecmaegmaaDoorProg
import Derived.WalkKit
import Derived.Handy
import Derived.Deep.Light
import Derived.WalkSmall
import Derived.StillTailTactics
import Derived.Lib.Hide
import Derived.Test.YtjkohbecmaegmaaDoorT0
import Derived.Test.YtjkohbecmaegmaaDoorIt
import Derived.Test.YtjkohbecmaegmaaDoorT22X
namespace Go.Proofs.YtjkohbecmaegmaaDoor
open Go Go.RowKit
set_option linter.unusedSimpArgs false
set_option linter.unusedVariables false
theorem infoS : (Tryd.prog.info? 9).map (fun i => (i.zero, i.size, i.bytes)) = some (some (.string ⟨#[]⟩), 1, 16) := by kernel_rfl
set_option maxRecDepth 20000 in
set_option maxHeartbeats 4000000 in
theorem lines_e (l : List ByteArray) (v : Value) (s : ByteArray) (w : World) (hT : Tab w) (hv : Row w v (l.map fun x => .string x)) (hl : l.length ≤ 30) (hs : (s.size : Int) ≤ 300) (P : Nat → Bool) (HP : Hid (P 0 = true ∧ ∀ k x, l[k]? = some x → P (k + 1) = (P k && x.data.toList.all (· != 10)))) (UL : (∀ x ∈ l, x.size ≤ 100) → P l.length = true → ∃ u, Hid (∀ W, Row W v (l.map fun x => .string x) → Calls Tryd.prog 11 #[v] W fun e w' => e = .returned (.string u) ∧ Below W.heap.size W w') ∧ Hid (∀ W, Tab W → Calls Tryd.prog 10 #[.string u] W fun e w' => ∃ v2, e = .returned v2 ∧ Row w' v2 (l.map fun x => .string x) ∧ Below W.heap.size W w')) (hse : (s.toList == (⟨#[]⟩ : ByteArray).toList) = true) (hse2 : s.toList.isEmpty = true) (LS : Hid (∀ W, Calls Tryd.prog 10 #[.string s] W fun e w' => e = .returned (.slice none 0 0) ∧ Below W.heap.size W w')) (UL2 : Hid (∀ W, Row W (.slice none 0 0) (strs []) → Calls Tryd.prog 11 #[.slice none 0 0] W fun e w' => e = .returned (.string s) ∧ Below W.heap.size W w')) (FS : Hid (∀ W, Calls Tryd.prog 12 #[.string s] W fun e w' => ∃ v3, e = .returned v3 ∧ Row w' v3 (strs []) ∧ Below W.heap.size W w')) : Calls Tryd.prog 3 #[v, .string s] w fun e w' => e = .returned (.bool true) ∧ Below w.heap.size w w' := by
  obtain ⟨ao, cap, rfl, _⟩ := id hv
  rw [List.length_map] at *
  skip
  have hL : Kn [] w w [] := Kn.refl [] w; (try simp only [List.setIfInBounds_toArray, List.set_cons_zero, List.set_cons_succ, List.cons_append, List.nil_append] at hL); have hF := hL.facts; (try simp only [Facts, Dist, List.map_cons, List.map_nil, List.forall_mem_cons, false_implies, ne_eq, not_false_eq_true, List.not_mem_nil, not_false_eq_true, true_implies, forall_const, List.mem_cons, or_false, implies_true, and_true, true_and, Nat.le_refl, List.setIfInBounds_toArray, List.set_cons_zero, List.set_cons_succ] at hF); go_enter Tryd.func3, Tryd.ntmps3
  go_wp2_with (first | ((with_reducible refine kn_list_set ?_); (try clear hF); clear hL; intro W hL; (try simp only [List.setIfInBounds_toArray, List.set_cons_zero, List.set_cons_succ, List.cons_append, List.nil_append] at hL); have hF := hL.facts; (try simp only [Facts, Dist, List.map_cons, List.map_nil, List.forall_mem_cons, false_implies, ne_eq, not_false_eq_true, List.not_mem_nil, not_false_eq_true, true_implies, forall_const, List.mem_cons, or_false, implies_true, and_true, true_and, Nat.le_refl, List.setIfInBounds_toArray, List.set_cons_zero, List.set_cons_succ] at hF)) | (go_at_call 8; refine kn_calls ?_; (try clear hF); clear hL; intro W hL; (try simp only [List.setIfInBounds_toArray, List.set_cons_zero, List.set_cons_succ, List.cons_append, List.nil_append] at hL); have hF := hL.facts; (try simp only [Facts, Dist, List.map_cons, List.map_nil, List.forall_mem_cons, false_implies, ne_eq, not_false_eq_true, List.not_mem_nil, not_false_eq_true, true_implies, forall_const, List.mem_cons, or_false, implies_true, and_true, true_and, Nat.le_refl, List.setIfInBounds_toArray, List.set_cons_zero, List.set_cons_succ] at hF); (with_reducible refine (small_any _ (hT.kn hL (by simp))).mono ?_); rintro e W ⟨rfl, hb⟩; replace hL := hL.below hb; clear hb; (try clear hF); (try simp only [List.setIfInBounds_toArray, List.set_cons_zero, List.set_cons_succ, List.cons_append, List.nil_append] at hL); have hF := hL.facts; (try simp only [Facts, Dist, List.map_cons, List.map_nil, List.forall_mem_cons, false_implies, ne_eq, not_false_eq_true, List.not_mem_nil, not_false_eq_true, true_implies, forall_const, List.mem_cons, or_false, implies_true, and_true, true_and, Nat.le_refl, List.setIfInBounds_toArray, List.set_cons_zero, List.set_cons_succ] at hF)))
  go_loopw [6, 7] (fun pl i wr => ∃ k : Nat, k ≤ l.length ∧ i = .int .i64 k ∧ pl = .bool (P k) ∧ Kn [] w wr [] ∧ Hid (∀ x ∈ l.take k, x.size ≤ 100)) (fun _ i _ => l.length - (intOf i).toNat)
  case atStart => exact ⟨0, by omega, rfl, by rw [HP.out.1], hL, Lib.hid (by simp)⟩
  case round =>
    obtain ⟨k, hk, rfl, rfl, hK, hsz⟩ := hrel
    clear hL hF
    have hL := hK
    clear hK
    (try simp only [List.setIfInBounds_toArray, List.set_cons_zero, List.set_cons_succ, List.cons_append, List.nil_append] at hL); have hF := hL.facts; (try simp only [Facts, Dist, List.map_cons, List.map_nil, List.forall_mem_cons, false_implies, ne_eq, not_false_eq_true, List.not_mem_nil, not_false_eq_true, true_implies, forall_const, List.mem_cons, or_false, implies_true, and_true, true_and, Nat.le_refl, List.setIfInBounds_toArray, List.set_cons_zero, List.set_cons_succ] at hF)
    by_cases hlt : k < l.length
    · obtain ⟨x, hx⟩ : ∃ x, l[k]? = some x := ⟨_, List.getElem?_eq_getElem hlt⟩
      have np := HP.out.2 k x hx
      have htk : l.take (k + 1) = l.take k ++ [x] := by rw [List.take_add_one, hx]; rfl
      have HTK := Lib.hid htk
      obtain ⟨g, o, rfl, hg, d0⟩ := row_at hv (k := k) (x := .string x) (by simp [hx])
      by_cases h100 : (x.size : Int) ≤ 100
      · obtain ⟨y, hy⟩ : ∃ b, P k = b := ⟨_, rfl⟩
        rw [hy] at np ⊢
        have NP := Lib.hid np
        clear np hy htk hx
        go_wp2
        go_loopw [6, 8] (fun pl i wr => ∃ j : Nat, j ≤ x.size ∧ i = .int .i64 j ∧ pl = .bool (y && (x.data.toList.take j).all (· != 10)) ∧ Kn [] w wr []) (fun _ i _ => x.size - (intOf i).toNat)
        case atStart => exact ⟨0, by omega, rfl, by simp, hL⟩
        case round =>
          obtain ⟨j, hj, rfl, rfl, hK⟩ := hrel
          clear hL hF
          have hL := hK
          clear hK
          (try simp only [List.setIfInBounds_toArray, List.set_cons_zero, List.set_cons_succ, List.cons_append, List.nil_append] at hL); have hF := hL.facts; (try simp only [Facts, Dist, List.map_cons, List.map_nil, List.forall_mem_cons, false_implies, ne_eq, not_false_eq_true, List.not_mem_nil, not_false_eq_true, true_implies, forall_const, List.mem_cons, or_false, implies_true, and_true, true_and, Nat.le_refl, List.setIfInBounds_toArray, List.set_cons_zero, List.set_cons_succ] at hF)
          by_cases hjt : j < x.size
          · obtain ⟨c, hcj⟩ : ∃ c, x.data.toList[j]? = some c := ⟨_, List.getElem?_eq_getElem (by rw [szl]; omega)⟩
            have eb := byte_at hcj hjt
            have hta : (x.data.toList.take (j + 1)).all (· != 10) = ((x.data.toList.take j).all (· != 10) && c != 10) := by rw [List.take_add_one, hcj, List.all_append]; simp
            have HTA := Lib.hid hta
            obtain ⟨z, hz⟩ : ∃ b, (y && (x.data.toList.take j).all (· != 10)) = b := ⟨_, rfl⟩
            have hn : Hid ((y && (x.data.toList.take (j + 1)).all (· != 10)) = (z && c != 10)) := Lib.hid (by rw [hta, ← hz, Bool.and_assoc])
            rw [hz]
            clear hz hta hcj
            cases z
            · go_wp2
              go_roundw
              case rel => exact ⟨j + 1, by omega, by go_num, by rw [hn.out]; rfl, hL⟩
              case measure => simp [intOf]; omega
            · by_cases h10 : c = 10
              · subst h10
                go_wp2
                go_roundw
                case rel => exact ⟨j + 1, by omega, by go_num, by rw [hn.out]; rfl, hL⟩
                case measure => simp [intOf]; omega
              · have f10 : ((c.toNat : Int) == 10) = false := beq_false_of_ne fun h => h10 (UInt8.toNat_inj.1 (show c.toNat = 10 by omega))
                have f10b : ((c.toNat : Int) != 10) = true := by unfold bne; rw [f10]; rfl
                have hcb : (c != 10) = true := by simpa using h10
                have hn2 : Hid ((y && (x.data.toList.take (j + 1)).all (· != 10)) = true) := Lib.hid (by rw [hn.out, hcb]; rfl)
                clear h10 hcb
                go_wp2
                go_roundw
                case rel => exact ⟨j + 1, by omega, by go_num, by rw [hn2.out], hL⟩
                case measure => simp [intOf]; omega
          · obtain rfl : j = x.size := by omega
            have hfin : Hid ((y && (x.data.toList.take x.size).all (· != 10)) = P (k + 1)) := Lib.hid (by rw [NP.out, List.take_of_length_le (by rw [szl]; omega)])
            rw [hfin.out]
            go_wp2
            go_roundw
            case rel =>
              refine ⟨k + 1, by omega, by go_num, rfl, hL, Lib.hid fun z hz => ?_⟩
              rw [HTK.out] at hz
              rcases List.mem_append.1 hz with hz | hz
              · exact hsz.out z hz
              · simp at hz; subst hz; omega
            case measure => simp [intOf]; omega
      · clear np htk hx
        go_wp2
        (try simp only [Exit.inBlock, Exit.then]); refine bodyPost_ret (by simp [results, Tryd.results3, go_sem, *]; try rfl) rfl ?_
        exact ⟨rfl, hL.below0⟩
    · obtain rfl : k = l.length := by omega
      have hsz2 : ∀ x ∈ l, x.size ≤ 100 := by have := hsz.out; rw [List.take_length] at this; exact this
      obtain ⟨y, hy⟩ : ∃ b, P l.length = b := ⟨_, rfl⟩
      cases y
      · rw [hy]
        clear UL hy
        go_wp2_with (first | ((with_reducible refine kn_list_set ?_); (try clear hF); clear hL; intro W hL; (try simp only [List.setIfInBounds_toArray, List.set_cons_zero, List.set_cons_succ, List.cons_append, List.nil_append] at hL); have hF := hL.facts; (try simp only [Facts, Dist, List.map_cons, List.map_nil, List.forall_mem_cons, false_implies, ne_eq, not_false_eq_true, List.not_mem_nil, not_false_eq_true, true_implies, forall_const, List.mem_cons, or_false, implies_true, and_true, true_and, Nat.le_refl, List.setIfInBounds_toArray, List.set_cons_zero, List.set_cons_succ] at hF)) | (go_at_call 10; refine kn_calls ?_; (try clear hF); clear hL; intro W hL; (try simp only [List.setIfInBounds_toArray, List.set_cons_zero, List.set_cons_succ, List.cons_append, List.nil_append] at hL); have hF := hL.facts; (try simp only [Facts, Dist, List.map_cons, List.map_nil, List.forall_mem_cons, false_implies, ne_eq, not_false_eq_true, List.not_mem_nil, not_false_eq_true, true_implies, forall_const, List.mem_cons, or_false, implies_true, and_true, true_and, Nat.le_refl, List.setIfInBounds_toArray, List.set_cons_zero, List.set_cons_succ] at hF); (with_reducible refine (LS.out _).mono ?_); rintro e W ⟨rfl, hb⟩; replace hL := hL.below hb; clear hb; (try clear hF); (try simp only [List.setIfInBounds_toArray, List.set_cons_zero, List.set_cons_succ, List.cons_append, List.nil_append] at hL); have hF := hL.facts; (try simp only [Facts, Dist, List.map_cons, List.map_nil, List.forall_mem_cons, false_implies, ne_eq, not_false_eq_true, List.not_mem_nil, not_false_eq_true, true_implies, forall_const, List.mem_cons, or_false, implies_true, and_true, true_and, Nat.le_refl, List.setIfInBounds_toArray, List.set_cons_zero, List.set_cons_succ] at hF)))
        go_loopw [11, 12] (fun v i wr => v = .slice none 0 0 ∧ i = .int .i64 0 ∧ Kn [] w wr []) (fun _ _ _ => 0)
        case atStart => exact ⟨rfl, rfl, hL⟩
        case round =>
          obtain ⟨rfl, rfl, hK⟩ := hrel
          clear hL hF
          have hL := hK
          clear hK
          (try simp only [List.setIfInBounds_toArray, List.set_cons_zero, List.set_cons_succ, List.cons_append, List.nil_append] at hL); have hF := hL.facts; (try simp only [Facts, Dist, List.map_cons, List.map_nil, List.forall_mem_cons, false_implies, ne_eq, not_false_eq_true, List.not_mem_nil, not_false_eq_true, true_implies, forall_const, List.mem_cons, or_false, implies_true, and_true, true_and, Nat.le_refl, List.setIfInBounds_toArray, List.set_cons_zero, List.set_cons_succ] at hF)
          go_wp2
          go_loopw [13] (fun i wr => i = .int .i64 0 ∧ Kn [] w wr []) (fun _ _ => 0)
          case atStart => exact ⟨rfl, hL⟩
          case round =>
            obtain ⟨rfl, hK⟩ := hrel
            clear hL hF
            have hL := hK
            clear hK
            (try simp only [List.setIfInBounds_toArray, List.set_cons_zero, List.set_cons_succ, List.cons_append, List.nil_append] at hL); have hF := hL.facts; (try simp only [Facts, Dist, List.map_cons, List.map_nil, List.forall_mem_cons, false_implies, ne_eq, not_false_eq_true, List.not_mem_nil, not_false_eq_true, true_implies, forall_const, List.mem_cons, or_false, implies_true, and_true, true_and, Nat.le_refl, List.setIfInBounds_toArray, List.set_cons_zero, List.set_cons_succ] at hF)
            have hbw := hL.below0
            have hrl : Row wr (.slice none 0 0) (strs []) := ⟨none, 0, rfl, fun j x hx => by simp [strs] at hx⟩
            have hrf : Row wr (.slice none 0 0) (strs []) := ⟨none, 0, rfl, fun j x hx => by simp [strs] at hx⟩
            have hst3 : Hid (∀ x ∈ strs [], ∃ s : ByteArray, x = .string s) := Lib.hid fun x hx => by simp [strs] at hx
            go_wp2_with (first | ((with_reducible refine kn_list_set ?_); (try clear hF); clear hL; intro W hL; (try simp only [List.setIfInBounds_toArray, List.set_cons_zero, List.set_cons_succ, List.cons_append, List.nil_append] at hL); have hF := hL.facts; (try simp only [Facts, Dist, List.map_cons, List.map_nil, List.forall_mem_cons, false_implies, ne_eq, not_false_eq_true, List.not_mem_nil, not_false_eq_true, true_implies, forall_const, List.mem_cons, or_false, implies_true, and_true, true_and, Nat.le_refl, List.setIfInBounds_toArray, List.set_cons_zero, List.set_cons_succ] at hF)) | (go_at_call 11; (with_reducible refine (UL2.out _ hrl).mono ?_); rintro e W2 ⟨rfl, hb2⟩; have hrf2 := hrf.ext hb2; have hb3 := hbw.trans (hb2.mono hbw.size)) | (go_at_call 12; (with_reducible refine (FS.out _).mono ?_); rintro e W3 ⟨v3, rfl, hr3, hb4⟩; have hrf3 := hrf2.ext hb4; have hb5 := hb3.trans (hb4.mono hb3.size)) | (go_at_call 9; (with_reducible refine (same_is _ hst3.out _ _ _ hr3 hrf3 (by rw [strs_len]; unfold maxLen; first | omega | simp)).mono ?_); rintro e W4 ⟨rfl, hb6⟩; have hb7 := hb5.trans (hb6.mono hb5.size)))
            (try simp only [Exit.inBlock, Exit.then]); refine bodyPost_ret (by simp [results, Tryd.results3, go_sem, *]; try rfl) rfl ?_
            exact ⟨rfl, hb7⟩
      · obtain ⟨u, UL1, LU⟩ := UL hsz2 hy
        rw [hy]
        have hst : Hid (∀ x ∈ l.map (fun x => Value.string x), ∃ s : ByteArray, x = .string s) := Lib.hid fun x hx => by
          obtain ⟨y, _, rfl⟩ := List.mem_map.1 hx
          exact ⟨_, rfl⟩
        clear UL hy
        go_upto_region 16 with (first | (go_at_call 11; refine kn_calls ?_; (try clear hF); clear hL; intro W hL; (try simp only [List.setIfInBounds_toArray, List.set_cons_zero, List.set_cons_succ, List.cons_append, List.nil_append] at hL); have hF := hL.facts; (try simp only [Facts, Dist, List.map_cons, List.map_nil, List.forall_mem_cons, false_implies, ne_eq, not_false_eq_true, List.not_mem_nil, not_false_eq_true, true_implies, forall_const, List.mem_cons, or_false, implies_true, and_true, true_and, Nat.le_refl, List.setIfInBounds_toArray, List.set_cons_zero, List.set_cons_succ] at hF); (with_reducible refine (UL1.out _ (hv.kn hL (by simp))).mono ?_); rintro e W ⟨rfl, hb⟩; replace hL := hL.below hb; clear hb; (try clear hF); (try simp only [List.setIfInBounds_toArray, List.set_cons_zero, List.set_cons_succ, List.cons_append, List.nil_append] at hL); have hF := hL.facts; (try simp only [Facts, Dist, List.map_cons, List.map_nil, List.forall_mem_cons, false_implies, ne_eq, not_false_eq_true, List.not_mem_nil, not_false_eq_true, true_implies, forall_const, List.mem_cons, or_false, implies_true, and_true, true_and, Nat.le_refl, List.setIfInBounds_toArray, List.set_cons_zero, List.set_cons_succ] at hF)) | (go_at_call 10; refine kn_calls ?_; (try clear hF); clear hL; intro W hL; (try simp only [List.setIfInBounds_toArray, List.set_cons_zero, List.set_cons_succ, List.cons_append, List.nil_append] at hL); have hF := hL.facts; (try simp only [Facts, Dist, List.map_cons, List.map_nil, List.forall_mem_cons, false_implies, ne_eq, not_false_eq_true, List.not_mem_nil, not_false_eq_true, true_implies, forall_const, List.mem_cons, or_false, implies_true, and_true, true_and, Nat.le_refl, List.setIfInBounds_toArray, List.set_cons_zero, List.set_cons_succ] at hF); (with_reducible refine (LU.out _ (hT.kn hL (by simp))).mono ?_); rintro e W ⟨v2, rfl, hr2, hb⟩; replace hL := hL.below hb; clear hb; (try clear hF); (try simp only [List.setIfInBounds_toArray, List.set_cons_zero, List.set_cons_succ, List.cons_append, List.nil_append] at hL); have hF := hL.facts; (try simp only [Facts, Dist, List.map_cons, List.map_nil, List.forall_mem_cons, false_implies, ne_eq, not_false_eq_true, List.not_mem_nil, not_false_eq_true, true_implies, forall_const, List.mem_cons, or_false, implies_true, and_true, true_and, Nat.le_refl, List.setIfInBounds_toArray, List.set_cons_zero, List.set_cons_succ] at hF)) | (go_at_call 9; (with_reducible refine (same_is _ hst.out _ _ _ hr2 (hv.kn hL (by simp)) (by rw [List.length_map]; unfold maxLen; omega)).mono ?_); rintro e W ⟨rfl, hb⟩; replace hL := hL.below hb; clear hb; (try clear hF); (try simp only [List.setIfInBounds_toArray, List.set_cons_zero, List.set_cons_succ, List.cons_append, List.nil_append] at hL); have hF := hL.facts; (try simp only [Facts, Dist, List.map_cons, List.map_nil, List.forall_mem_cons, false_implies, ne_eq, not_false_eq_true, List.not_mem_nil, not_false_eq_true, true_implies, forall_const, List.mem_cons, or_false, implies_true, and_true, true_and, Nat.le_refl, List.setIfInBounds_toArray, List.set_cons_zero, List.set_cons_succ] at hF)))
        go_wp2_with (first | ((with_reducible refine kn_list_set ?_); (try clear hF); clear hL; intro W hL; (try simp only [List.setIfInBounds_toArray, List.set_cons_zero, List.set_cons_succ, List.cons_append, List.nil_append] at hL); have hF := hL.facts; (try simp only [Facts, Dist, List.map_cons, List.map_nil, List.forall_mem_cons, false_implies, ne_eq, not_false_eq_true, List.not_mem_nil, not_false_eq_true, true_implies, forall_const, List.mem_cons, or_false, implies_true, and_true, true_and, Nat.le_refl, List.setIfInBounds_toArray, List.set_cons_zero, List.set_cons_succ] at hF)) | (go_at_call 10; refine kn_calls ?_; (try clear hF); clear hL; intro W hL; (try simp only [List.setIfInBounds_toArray, List.set_cons_zero, List.set_cons_succ, List.cons_append, List.nil_append] at hL); have hF := hL.facts; (try simp only [Facts, Dist, List.map_cons, List.map_nil, List.forall_mem_cons, false_implies, ne_eq, not_false_eq_true, List.not_mem_nil, not_false_eq_true, true_implies, forall_const, List.mem_cons, or_false, implies_true, and_true, true_and, Nat.le_refl, List.setIfInBounds_toArray, List.set_cons_zero, List.set_cons_succ] at hF); (with_reducible refine (LS.out _).mono ?_); rintro e W ⟨rfl, hb⟩; replace hL := hL.below hb; clear hb; (try clear hF); (try simp only [List.setIfInBounds_toArray, List.set_cons_zero, List.set_cons_succ, List.cons_append, List.nil_append] at hL); have hF := hL.facts; (try simp only [Facts, Dist, List.map_cons, List.map_nil, List.forall_mem_cons, false_implies, ne_eq, not_false_eq_true, List.not_mem_nil, not_false_eq_true, true_implies, forall_const, List.mem_cons, or_false, implies_true, and_true, true_and, Nat.le_refl, List.setIfInBounds_toArray, List.set_cons_zero, List.set_cons_succ] at hF)))
        go_loopw [11, 12] (fun v i wr => v = .slice none 0 0 ∧ i = .int .i64 0 ∧ Kn [] w wr []) (fun _ _ _ => 0)
        case atStart => exact ⟨rfl, rfl, hL⟩
        case round =>
          obtain ⟨rfl, rfl, hK⟩ := hrel
          clear hL hF
          have hL := hK
          clear hK
          (try simp only [List.setIfInBounds_toArray, List.set_cons_zero, List.set_cons_succ, List.cons_append, List.nil_append] at hL); have hF := hL.facts; (try simp only [Facts, Dist, List.map_cons, List.map_nil, List.forall_mem_cons, false_implies, ne_eq, not_false_eq_true, List.not_mem_nil, not_false_eq_true, true_implies, forall_const, List.mem_cons, or_false, implies_true, and_true, true_and, Nat.le_refl, List.setIfInBounds_toArray, List.set_cons_zero, List.set_cons_succ] at hF)
          go_wp2
          go_loopw [13] (fun i wr => i = .int .i64 0 ∧ Kn [] w wr []) (fun _ _ => 0)
          case atStart => exact ⟨rfl, hL⟩
          case round =>
            obtain ⟨rfl, hK⟩ := hrel
            clear hL hF
            have hL := hK
            clear hK
            (try simp only [List.setIfInBounds_toArray, List.set_cons_zero, List.set_cons_succ, List.cons_append, List.nil_append] at hL); have hF := hL.facts; (try simp only [Facts, Dist, List.map_cons, List.map_nil, List.forall_mem_cons, false_implies, ne_eq, not_false_eq_true, List.not_mem_nil, not_false_eq_true, true_implies, forall_const, List.mem_cons, or_false, implies_true, and_true, true_and, Nat.le_refl, List.setIfInBounds_toArray, List.set_cons_zero, List.set_cons_succ] at hF)
            have hbw := hL.below0
            have hrl : Row wr (.slice none 0 0) (strs []) := ⟨none, 0, rfl, fun j x hx => by simp [strs] at hx⟩
            have hrf : Row wr (.slice none 0 0) (strs []) := ⟨none, 0, rfl, fun j x hx => by simp [strs] at hx⟩
            have hst3 : Hid (∀ x ∈ strs [], ∃ s : ByteArray, x = .string s) := Lib.hid fun x hx => by simp [strs] at hx
            go_wp2_with (first | ((with_reducible refine kn_list_set ?_); (try clear hF); clear hL; intro W hL; (try simp only [List.setIfInBounds_toArray, List.set_cons_zero, List.set_cons_succ, List.cons_append, List.nil_append] at hL); have hF := hL.facts; (try simp only [Facts, Dist, List.map_cons, List.map_nil, List.forall_mem_cons, false_implies, ne_eq, not_false_eq_true, List.not_mem_nil, not_false_eq_true, true_implies, forall_const, List.mem_cons, or_false, implies_true, and_true, true_and, Nat.le_refl, List.setIfInBounds_toArray, List.set_cons_zero, List.set_cons_succ] at hF)) | (go_at_call 11; (with_reducible refine (UL2.out _ hrl).mono ?_); rintro e W2 ⟨rfl, hb2⟩; have hrf2 := hrf.ext hb2; have hb3 := hbw.trans (hb2.mono hbw.size)) | (go_at_call 12; (with_reducible refine (FS.out _).mono ?_); rintro e W3 ⟨v3, rfl, hr3, hb4⟩; have hrf3 := hrf2.ext hb4; have hb5 := hb3.trans (hb4.mono hb3.size)) | (go_at_call 9; (with_reducible refine (same_is _ hst3.out _ _ _ hr3 hrf3 (by rw [strs_len]; unfold maxLen; first | omega | simp)).mono ?_); rintro e W4 ⟨rfl, hb6⟩; have hb7 := hb5.trans (hb6.mono hb5.size)))
            (try simp only [Exit.inBlock, Exit.then]); refine bodyPost_ret (by simp [results, Tryd.results3, go_sem, *]; try rfl) rfl ?_
            exact ⟨rfl, hb7⟩

end Go.Proofs.YtjkohbecmaegmaaDoor

