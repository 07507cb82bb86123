import Derived.Test.YtjkohbecmaegmaaDoorProg
import Derived.WalkKit
import Derived.Handy
import Derived.Deep.Light
import Derived.WalkSmall
import Derived.StillTailTactics
import Derived.Lib.Hide
import Derived.Test.YtjkohbecmaegmaaDoorT0
import Derived.Test.YtjkohbecmaegmaaDoorIt
import Derived.Test.YtjkohbecmaegmaaDoorT23X
namespace Go.Proofs.YtjkohbecmaegmaaDoor
open Go Go.RowKit
set_option linter.unusedSimpArgs false
set_option linter.unusedVariables false
set_option maxRecDepth 20000 in
set_option maxHeartbeats 4000000 in
theorem lines_o (l : List ByteArray) (v : Value) (s : ByteArray) (w : World) (hT : Tab w) (hv : Row w v (l.map fun x => .string x)) (hl : l.length ≤ 30) (hs : (s.size : Int) ≤ 300) (P : Nat → Bool) (HP : Hid (P 0 = true ∧ ∀ k x, l[k]? = some x → P (k + 1) = (P k && x.data.toList.all (· != 10)))) (UL : (∀ x ∈ l, x.size ≤ 100) → P l.length = true → ∃ u, Hid (∀ W, Row W v (l.map fun x => .string x) → Calls Tryd.prog 11 #[v] W fun e w' => e = .returned (.string u) ∧ Below W.heap.size W w') ∧ Hid (∀ W, Tab W → Calls Tryd.prog 10 #[.string u] W fun e w' => ∃ v2, e = .returned v2 ∧ Row w' v2 (l.map fun x => .string x) ∧ Below W.heap.size W w')) (hse : (s.toList == (⟨#[]⟩ : ByteArray).toList) = false) (hse2 : s.toList.isEmpty = false) (hs1 : 1 ≤ s.size) (c : UInt8) (hb : ∀ h, s[s.size - 1]'h = c) (hc : ((c.toNat : Int) == 10) = false) (hc2 : ((c.toNat : Int) != 10) = true) (ls fl : List Bytes) (LS : Hid (∀ W, Tab W → Calls Tryd.prog 10 #[.string s] W fun e w' => ∃ g, e = .returned (.slice (some ⟨g, 0, none⟩) ls.length ls.length) ∧ Kn [] W w' [(g, .cells (strs ls).toArray 9 (0, 0))])) (UL2 : Hid (∀ GL W, Row W (.slice (some ⟨GL, 0, none⟩) ls.length ls.length) (strs ls) → Calls Tryd.prog 11 #[.slice (some ⟨GL, 0, none⟩) ls.length ls.length] W fun e w' => e = .returned (.string (s ++ ⟨#[10]⟩)) ∧ Below W.heap.size W w')) (FS : Hid (∀ W, Calls Tryd.prog 12 #[.string s] W fun e w' => ∃ v3, e = .returned v3 ∧ Row w' v3 (strs fl) ∧ Below W.heap.size W w')) (hlsz : ∀ x ∈ ls, x.length ≤ 1000) (htot0 : ∀ k, ((ls.take k).flatMap fieldsB).length ≤ 400) (HFL : Hid (ls.flatMap fieldsB = fl)) (hfl : ∀ f ∈ fl, f ≠ [] ∧ ∀ c ∈ f, whiteB c = false) (hflz : ∀ f ∈ fl, f.length ≤ 1000) (hll : ls.length ≤ 1000) (hfll : fl.length ≤ 1000) : Calls Tryd.prog 3 #[v, .string s] w fun e w' => e = .returned (.bool true) ∧ Below w.heap.size w w' := by
  obtain ⟨ao, cap, rfl, _⟩ := id hv
  rw [List.length_map] at *
  skip
  have hL : Kn [] w w [] := Kn.refl [] w; (try simp only [List.setIfInBounds_toArray, List.set_cons_zero, List.set_cons_succ, List.cons_append, List.nil_append] at hL); have hF := hL.facts; (try simp only [Facts, Dist, List.map_cons, List.map_nil, List.forall_mem_cons, false_implies, ne_eq, not_false_eq_true, List.not_mem_nil, not_false_eq_true, true_implies, forall_const, List.mem_cons, or_false, implies_true, and_true, true_and, Nat.le_refl, List.setIfInBounds_toArray, List.set_cons_zero, List.set_cons_succ] at hF); go_enter Tryd.func3, Tryd.ntmps3
  go_wp2_with (first | ((with_reducible refine kn_list_set ?_); (try clear hF); clear hL; intro W hL; (try simp only [List.setIfInBounds_toArray, List.set_cons_zero, List.set_cons_succ, List.cons_append, List.nil_append] at hL); have hF := hL.facts; (try simp only [Facts, Dist, List.map_cons, List.map_nil, List.forall_mem_cons, false_implies, ne_eq, not_false_eq_true, List.not_mem_nil, not_false_eq_true, true_implies, forall_const, List.mem_cons, or_false, implies_true, and_true, true_and, Nat.le_refl, List.setIfInBounds_toArray, List.set_cons_zero, List.set_cons_succ] at hF)) | (go_at_call 8; refine kn_calls ?_; (try clear hF); clear hL; intro W hL; (try simp only [List.setIfInBounds_toArray, List.set_cons_zero, List.set_cons_succ, List.cons_append, List.nil_append] at hL); have hF := hL.facts; (try simp only [Facts, Dist, List.map_cons, List.map_nil, List.forall_mem_cons, false_implies, ne_eq, not_false_eq_true, List.not_mem_nil, not_false_eq_true, true_implies, forall_const, List.mem_cons, or_false, implies_true, and_true, true_and, Nat.le_refl, List.setIfInBounds_toArray, List.set_cons_zero, List.set_cons_succ] at hF); (with_reducible refine (small_any _ (hT.kn hL (by simp))).mono ?_); rintro e W ⟨rfl, hb⟩; replace hL := hL.below hb; clear hb; (try clear hF); (try simp only [List.setIfInBounds_toArray, List.set_cons_zero, List.set_cons_succ, List.cons_append, List.nil_append] at hL); have hF := hL.facts; (try simp only [Facts, Dist, List.map_cons, List.map_nil, List.forall_mem_cons, false_implies, ne_eq, not_false_eq_true, List.not_mem_nil, not_false_eq_true, true_implies, forall_const, List.mem_cons, or_false, implies_true, and_true, true_and, Nat.le_refl, List.setIfInBounds_toArray, List.set_cons_zero, List.set_cons_succ] at hF)))
  go_loopw [6, 7] (fun pl i wr => ∃ k : Nat, k ≤ l.length ∧ i = .int .i64 k ∧ pl = .bool (P k) ∧ Kn [] w wr [] ∧ Hid (∀ x ∈ l.take k, x.size ≤ 100)) (fun _ i _ => l.length - (intOf i).toNat)
  case atStart => exact ⟨0, by omega, rfl, by rw [HP.out.1], hL, Lib.hid (by simp)⟩
  case round =>
    obtain ⟨k, hk, rfl, rfl, hK, hsz⟩ := hrel
    clear hL hF
    have hL := hK
    clear hK
    (try simp only [List.setIfInBounds_toArray, List.set_cons_zero, List.set_cons_succ, List.cons_append, List.nil_append] at hL); have hF := hL.facts; (try simp only [Facts, Dist, List.map_cons, List.map_nil, List.forall_mem_cons, false_implies, ne_eq, not_false_eq_true, List.not_mem_nil, not_false_eq_true, true_implies, forall_const, List.mem_cons, or_false, implies_true, and_true, true_and, Nat.le_refl, List.setIfInBounds_toArray, List.set_cons_zero, List.set_cons_succ] at hF)
    by_cases hlt : k < l.length
    · obtain ⟨x, hx⟩ : ∃ x, l[k]? = some x := ⟨_, List.getElem?_eq_getElem hlt⟩
      have np := HP.out.2 k x hx
      have htk : l.take (k + 1) = l.take k ++ [x] := by rw [List.take_add_one, hx]; rfl
      have HTK := Lib.hid htk
      obtain ⟨g, o, rfl, hg, d0⟩ := row_at hv (k := k) (x := .string x) (by simp [hx])
      by_cases h100 : (x.size : Int) ≤ 100
      · obtain ⟨y, hy⟩ : ∃ b, P k = b := ⟨_, rfl⟩
        rw [hy] at np ⊢
        have NP := Lib.hid np
        clear np hy htk hx
        go_wp2
        go_loopw [6, 8] (fun pl i wr => ∃ j : Nat, j ≤ x.size ∧ i = .int .i64 j ∧ pl = .bool (y && (x.data.toList.take j).all (· != 10)) ∧ Kn [] w wr []) (fun _ i _ => x.size - (intOf i).toNat)
        case atStart => exact ⟨0, by omega, rfl, by simp, hL⟩
        case round =>
          obtain ⟨j, hj, rfl, rfl, hK⟩ := hrel
          clear hL hF
          have hL := hK
          clear hK
          (try simp only [List.setIfInBounds_toArray, List.set_cons_zero, List.set_cons_succ, List.cons_append, List.nil_append] at hL); have hF := hL.facts; (try simp only [Facts, Dist, List.map_cons, List.map_nil, List.forall_mem_cons, false_implies, ne_eq, not_false_eq_true, List.not_mem_nil, not_false_eq_true, true_implies, forall_const, List.mem_cons, or_false, implies_true, and_true, true_and, Nat.le_refl, List.setIfInBounds_toArray, List.set_cons_zero, List.set_cons_succ] at hF)
          by_cases hjt : j < x.size
          · obtain ⟨c, hcj⟩ : ∃ c, x.data.toList[j]? = some c := ⟨_, List.getElem?_eq_getElem (by rw [szl]; omega)⟩
            have eb := byte_at hcj hjt
            have hta : (x.data.toList.take (j + 1)).all (· != 10) = ((x.data.toList.take j).all (· != 10) && c != 10) := by rw [List.take_add_one, hcj, List.all_append]; simp
            have HTA := Lib.hid hta
            obtain ⟨z, hz⟩ : ∃ b, (y && (x.data.toList.take j).all (· != 10)) = b := ⟨_, rfl⟩
            have hn : Hid ((y && (x.data.toList.take (j + 1)).all (· != 10)) = (z && c != 10)) := Lib.hid (by rw [hta, ← hz, Bool.and_assoc])
            rw [hz]
            clear hz hta hcj
            cases z
            · go_wp2
              go_roundw
              case rel => exact ⟨j + 1, by omega, by go_num, by rw [hn.out]; rfl, hL⟩
              case measure => simp [intOf]; omega
            · by_cases h10 : c = 10
              · subst h10
                go_wp2
                go_roundw
                case rel => exact ⟨j + 1, by omega, by go_num, by rw [hn.out]; rfl, hL⟩
                case measure => simp [intOf]; omega
              · have f10 : ((c.toNat : Int) == 10) = false := beq_false_of_ne fun h => h10 (UInt8.toNat_inj.1 (show c.toNat = 10 by omega))
                have f10b : ((c.toNat : Int) != 10) = true := by unfold bne; rw [f10]; rfl
                have hcb : (c != 10) = true := by simpa using h10
                have hn2 : Hid ((y && (x.data.toList.take (j + 1)).all (· != 10)) = true) := Lib.hid (by rw [hn.out, hcb]; rfl)
                clear h10 hcb
                go_wp2
                go_roundw
                case rel => exact ⟨j + 1, by omega, by go_num, by rw [hn2.out], hL⟩
                case measure => simp [intOf]; omega
          · obtain rfl : j = x.size := by omega
            have hfin : Hid ((y && (x.data.toList.take x.size).all (· != 10)) = P (k + 1)) := Lib.hid (by rw [NP.out, List.take_of_length_le (by rw [szl]; omega)])
            rw [hfin.out]
            go_wp2
            go_roundw
            case rel =>
              refine ⟨k + 1, by omega, by go_num, rfl, hL, Lib.hid fun z hz => ?_⟩
              rw [HTK.out] at hz
              rcases List.mem_append.1 hz with hz | hz
              · exact hsz.out z hz
              · simp at hz; subst hz; omega
            case measure => simp [intOf]; omega
      · clear np htk hx
        go_wp2
        (try simp only [Exit.inBlock, Exit.then]); refine bodyPost_ret (by simp [results, Tryd.results3, go_sem, *]; try rfl) rfl ?_
        exact ⟨rfl, hL.below0⟩
    · obtain rfl : k = l.length := by omega
      have hsz2 : ∀ x ∈ l, x.size ≤ 100 := by have := hsz.out; rw [List.take_length] at this; exact this
      obtain ⟨y, hy⟩ : ∃ b, P l.length = b := ⟨_, rfl⟩
      cases y
      · rw [hy]
        clear UL hy
        go_wp2_with (first | ((with_reducible refine kn_list_set ?_); (try clear hF); clear hL; intro W hL; (try simp only [List.setIfInBounds_toArray, List.set_cons_zero, List.set_cons_succ, List.cons_append, List.nil_append] at hL); have hF := hL.facts; (try simp only [Facts, Dist, List.map_cons, List.map_nil, List.forall_mem_cons, false_implies, ne_eq, not_false_eq_true, List.not_mem_nil, not_false_eq_true, true_implies, forall_const, List.mem_cons, or_false, implies_true, and_true, true_and, Nat.le_refl, List.setIfInBounds_toArray, List.set_cons_zero, List.set_cons_succ] at hF)) | (go_at_call 10; refine kn_calls ?_; (try clear hF); clear hL; intro W hL; (try simp only [List.setIfInBounds_toArray, List.set_cons_zero, List.set_cons_succ, List.cons_append, List.nil_append] at hL); have hF := hL.facts; (try simp only [Facts, Dist, List.map_cons, List.map_nil, List.forall_mem_cons, false_implies, ne_eq, not_false_eq_true, List.not_mem_nil, not_false_eq_true, true_implies, forall_const, List.mem_cons, or_false, implies_true, and_true, true_and, Nat.le_refl, List.setIfInBounds_toArray, List.set_cons_zero, List.set_cons_succ] at hF); (with_reducible refine (LS.out _ (hT.kn hL (by simp))).mono ?_); rintro e W ⟨gl, rfl, hb⟩; replace hL := hL.join hb; clear hb; (try clear hF); (try simp only [List.setIfInBounds_toArray, List.set_cons_zero, List.set_cons_succ, List.cons_append, List.nil_append] at hL); have hF := hL.facts; (try simp only [Facts, Dist, List.map_cons, List.map_nil, List.forall_mem_cons, false_implies, ne_eq, not_false_eq_true, List.not_mem_nil, not_false_eq_true, true_implies, forall_const, List.mem_cons, or_false, implies_true, and_true, true_and, Nat.le_refl, List.setIfInBounds_toArray, List.set_cons_zero, List.set_cons_succ] at hF)))
        go_loopw [11, 12] (fun v i wr => ∃ k : Nat, k ≤ ls.length ∧ i = .int .i64 k ∧ Kn [] w wr [(gl, .cells (strs ls).toArray 9 (0, 0))] ∧ wr.ownsRow w.heap.size 9 1 v ((ls.take k).flatMap fieldsB).length (strs ((ls.take k).flatMap fieldsB)) ∧ Fresh v [(gl, .cells (strs ls).toArray 9 (0, 0))]) (fun _ i _ => ls.length - (intOf i).toNat)
        case atStart => exact ⟨0, by omega, rfl, hL, ⟨rfl, .inl ⟨rfl, rfl⟩⟩, fun g hg => by cases hg⟩
        case round =>
          obtain ⟨k, hk, rfl, hK, hown, hfr⟩ := hrel
          clear hL hF
          have hL := hK
          clear hK
          (try simp only [List.setIfInBounds_toArray, List.set_cons_zero, List.set_cons_succ, List.cons_append, List.nil_append] at hL); have hF := hL.facts; (try simp only [Facts, Dist, List.map_cons, List.map_nil, List.forall_mem_cons, false_implies, ne_eq, not_false_eq_true, List.not_mem_nil, not_false_eq_true, true_implies, forall_const, List.mem_cons, or_false, implies_true, and_true, true_and, Nat.le_refl, List.setIfInBounds_toArray, List.set_cons_zero, List.set_cons_succ] at hF)
          by_cases hlt : k < ls.length
          · obtain ⟨x0, hx0⟩ : ∃ x, ls[k]? = some x := ⟨_, List.getElem?_eq_getElem hlt⟩
            obtain ⟨x, rfl⟩ : ∃ x : ByteArray, x.data.toList = x0 := ⟨⟨x0.toArray⟩, by simp⟩
            have hcell : (strs ls)[k]? = some (.string x) := by unfold strs; rw [List.getElem?_map, hx0]; exact congrArg some (congrArg Value.string (ba_mk x))
            have hx2 : (strs ls).toArray[k]? = some (.string x) := by rw [List.getElem?_toArray]; exact hcell
            have hft := flat_take2 fieldsB hx0
            have htot : ((ls.take k).flatMap fieldsB).length + (fieldsB x.data.toList).length ≤ 400 := by
              have := htot0 (k + 1)
              rw [hft, List.length_append] at this; exact this
            have hxs : x.size ≤ 100000000 := by
              have := hlsz _ (List.mem_of_getElem? hx0)
              rw [szl] at this; omega
            obtain ⟨i0, hi, hz0, hz1, hz2⟩ := info_parts infoS
            have FK := Lib.hid (fun W => Fields_kn x hxs W)
            have HFT := Lib.hid hft
            clear hx0 hcell hft
            go_wp2_with (first | (go_at_call 12; (with_reducible refine (FK.out _).mono ?_); rintro e W2 ⟨g2, rfl, hK2⟩; have hL2 := hL.join hK2; have hown2 := owns_below hown hK2.below0; (simp only [List.cons_append, List.nil_append] at hL2); have hg2 := new_of hK2; have hfr2 := fresh_cons (o := .cells (strs (fieldsB x.data.toList)).toArray 9 (0, 0)) hfr hown hg2; have hcs := hK2.has _ (List.mem_cons_self)) | (at_builtin; refine wpList_append_kn rfl _ _ 22 rfl 9 i0 _ Tryd.underlying22 hi hz0 (by rw [hz1]; rfl) (by rw [hz1]; decide) _ _ _ rfl hL2 (by rw [hz1]; exact hown2) hfr2 ⟨g2, 0, none⟩ (fieldsB x.data.toList).length (fieldsB x.data.toList).length (strs (fieldsB x.data.toList)) rfl (by rw [hz1, strs_len, Nat.mul_one]) ?c1 ?c2 ?c3 ?c4 ?_))
            case c1 =>
              intro j u hu
              rw [Go.WideShapes.add_plain]
              simp only [World.cell?, hcs, Nat.zero_add]
              simpa using hu
            case c2 =>
              intro u hu
              obtain ⟨y, _, rfl⟩ := List.mem_map.1 hu
              rfl
            case c3 => unfold maxLen; omega
            case c4 => rw [hz2]; omega
            intro v3 W3 hK3 hown3 hfr3
            have hL3 := hK3.sub (List.sublist_cons_self _ _)
            have hfr4 := fresh_less hfr3
            clear hL2 hown2 hfr2 hfr hown hL hK2 hK3 hF hcs
            go_wp2
            go_roundw
            case rel =>
              refine ⟨k + 1, by omega, by go_num, hL3, ?_, hfr4⟩
              rw [HFT.out, List.length_append]
              unfold strs at hown3 ⊢
              rw [List.map_append]
              have en : ((ls.take k).flatMap fieldsB).length = (List.take k (List.map (fun a => (fieldsB a).length) ls)).sum := by simp [List.length_flatMap]
              rw [en]
              exact hown3
            case measure => simp [intOf]; omega
          · obtain rfl : k = ls.length := by omega
            rw [List.take_length] at hown
            rw [HFL.out] at hown
            have hrf0 := row_owns hown
            clear hown hfr
            obtain ⟨fao, fcap, rfl, _⟩ := id hrf0
            rw [strs_len] at *
            go_wp2
            go_loopw [13] (fun i wr => ∃ k : Nat, k ≤ fl.length ∧ i = .int .i64 k ∧ Kn [] w wr [(gl, .cells (strs ls).toArray 9 (0, 0))] ∧ Row wr (.slice fao fl.length fcap) (strs fl)) (fun i _ => fl.length - (intOf i).toNat)
            case atStart => exact ⟨0, by omega, rfl, hL, hrf0⟩
            case round =>
              obtain ⟨k, hk, rfl, hK, hrf⟩ := hrel
              clear hL hF hrf0
              have hL := hK
              clear hK
              (try simp only [List.setIfInBounds_toArray, List.set_cons_zero, List.set_cons_succ, List.cons_append, List.nil_append] at hL); have hF := hL.facts; (try simp only [Facts, Dist, List.map_cons, List.map_nil, List.forall_mem_cons, false_implies, ne_eq, not_false_eq_true, List.not_mem_nil, not_false_eq_true, true_implies, forall_const, List.mem_cons, or_false, implies_true, and_true, true_and, Nat.le_refl, List.setIfInBounds_toArray, List.set_cons_zero, List.set_cons_succ] at hF)
              by_cases hlt : k < fl.length
              · obtain ⟨x0, hx0⟩ : ∃ x, fl[k]? = some x := ⟨_, List.getElem?_eq_getElem hlt⟩
                obtain ⟨x, rfl⟩ : ∃ x : ByteArray, x.data.toList = x0 := ⟨⟨x0.toArray⟩, by simp⟩
                obtain ⟨hne, hwh⟩ := hfl _ (List.mem_of_getElem? hx0)
                have hxe := str_ne (t := ⟨#[]⟩) hne
                have hxi : x.toList.isEmpty = false := by
                  rw [ByteArray.toList_eq]
                  cases hd : x.data.toList with
                  | nil => exact absurd hd hne
                  | cons => rfl
                have hxz : x.size ≤ 1000 := by
                  have := hflz _ (List.mem_of_getElem? hx0)
                  rw [szl] at this; exact this
                have HWH := Lib.hid hwh
                obtain ⟨g, o, hgo, hg, d0⟩ := row_at hrf (k := k) (x := .string x) (by unfold strs; rw [List.getElem?_map, hx0]; exact congrArg some (congrArg Value.string (ba_mk x)))
                obtain rfl := hgo
                clear hne hwh hx0
                go_wp2
                go_loopw [14] (fun i wr => ∃ j : Nat, j ≤ x.size ∧ i = .int .i64 j ∧ Kn [] w wr [(gl, .cells (strs ls).toArray 9 (0, 0))] ∧ Row wr (.slice (some ⟨g, o, none⟩) fl.length fcap) (strs fl) ∧ g < wr.heap.size ∧ wr.cell? ⟨g, o + k, none⟩ = some (.string x)) (fun i _ => x.size - (intOf i).toNat)
                case atStart => exact ⟨0, by omega, rfl, hL, hrf, hg, d0⟩
                case round =>
                  obtain ⟨j, hj, rfl, hK, hrf2, hg2, d2⟩ := hrel
                  clear hL hF hrf hg d0
                  have hL := hK
                  clear hK
                  (try simp only [List.setIfInBounds_toArray, List.set_cons_zero, List.set_cons_succ, List.cons_append, List.nil_append] at hL); have hF := hL.facts; (try simp only [Facts, Dist, List.map_cons, List.map_nil, List.forall_mem_cons, false_implies, ne_eq, not_false_eq_true, List.not_mem_nil, not_false_eq_true, true_implies, forall_const, List.mem_cons, or_false, implies_true, and_true, true_and, Nat.le_refl, List.setIfInBounds_toArray, List.set_cons_zero, List.set_cons_succ] at hF)
                  by_cases hjt : j < x.size
                  · obtain ⟨c, hcj⟩ : ∃ c, x.data.toList[j]? = some c := ⟨_, List.getElem?_eq_getElem (by rw [szl]; omega)⟩
                    have eb := byte_at hcj hjt
                    have hw := HWH.out c (List.mem_of_getElem? hcj)
                    have n32 : c ≠ 32 := by rintro rfl; revert hw; decide
                    have n9 : c ≠ 9 := by rintro rfl; revert hw; decide
                    have n10 : c ≠ 10 := by rintro rfl; revert hw; decide
                    have f32 : ((c.toNat : Int) == 32) = false := beq_false_of_ne fun h => n32 (UInt8.toNat_inj.1 (show c.toNat = 32 by omega))
                    have f9 : ((c.toNat : Int) == 9) = false := beq_false_of_ne fun h => n9 (UInt8.toNat_inj.1 (show c.toNat = 9 by omega))
                    have f10 : ((c.toNat : Int) == 10) = false := beq_false_of_ne fun h => n10 (UInt8.toNat_inj.1 (show c.toNat = 10 by omega))
                    clear hw n32 n9 n10 hcj
                    go_wp2
                    go_roundw
                    case rel => exact ⟨j + 1, by omega, by go_num, hL, hrf2, hg2, d2⟩
                    case measure => simp [intOf]; omega
                  · obtain rfl : j = x.size := by omega
                    go_wp2
                    go_roundw
                    case rel => exact ⟨k + 1, by omega, by go_num, hL, hrf2⟩
                    case measure => simp [intOf]; omega
              · obtain rfl : k = fl.length := by omega
                have hbw := hL.below0
                have hrl : Row wr (.slice (some ⟨gl, 0, none⟩) ls.length ls.length) (strs ls) := by
                  have := row_block (cap := ls.length) (hL.has _ List.mem_cons_self)
                  rw [strs_len] at this; exact this
                have hst3 : Hid (∀ x ∈ strs fl, ∃ s : ByteArray, x = .string s) := Lib.hid fun x hx => by
                  obtain ⟨y, _, rfl⟩ := List.mem_map.1 hx
                  exact ⟨_, rfl⟩
                go_wp2_with (first | ((with_reducible refine kn_list_set ?_); (try clear hF); clear hL; intro W hL; (try simp only [List.setIfInBounds_toArray, List.set_cons_zero, List.set_cons_succ, List.cons_append, List.nil_append] at hL); have hF := hL.facts; (try simp only [Facts, Dist, List.map_cons, List.map_nil, List.forall_mem_cons, false_implies, ne_eq, not_false_eq_true, List.not_mem_nil, not_false_eq_true, true_implies, forall_const, List.mem_cons, or_false, implies_true, and_true, true_and, Nat.le_refl, List.setIfInBounds_toArray, List.set_cons_zero, List.set_cons_succ] at hF)) | (go_at_call 11; (with_reducible refine (UL2.out _ _ hrl).mono ?_); rintro e W2 ⟨rfl, hb2⟩; have hrf2 := hrf.ext hb2; have hb3 := hbw.trans (hb2.mono hbw.size)) | (go_at_call 12; (with_reducible refine (FS.out _).mono ?_); rintro e W3 ⟨v3, rfl, hr3, hb4⟩; have hrf3 := hrf2.ext hb4; have hb5 := hb3.trans (hb4.mono hb3.size)) | (go_at_call 9; (with_reducible refine (same_is _ hst3.out _ _ _ hr3 hrf3 (by rw [strs_len]; unfold maxLen; first | omega | simp)).mono ?_); rintro e W4 ⟨rfl, hb6⟩; have hb7 := hb5.trans (hb6.mono hb5.size)))
                (try simp only [Exit.inBlock, Exit.then]); refine bodyPost_ret (by simp [results, Tryd.results3, go_sem, *]; try rfl) rfl ?_
                exact ⟨rfl, hb7⟩
      · obtain ⟨u, UL1, LU⟩ := UL hsz2 hy
        rw [hy]
        have hst : Hid (∀ x ∈ l.map (fun x => Value.string x), ∃ s : ByteArray, x = .string s) := Lib.hid fun x hx => by
          obtain ⟨y, _, rfl⟩ := List.mem_map.1 hx
          exact ⟨_, rfl⟩
        clear UL hy
        go_upto_region 16 with (first | (go_at_call 11; refine kn_calls ?_; (try clear hF); clear hL; intro W hL; (try simp only [List.setIfInBounds_toArray, List.set_cons_zero, List.set_cons_succ, List.cons_append, List.nil_append] at hL); have hF := hL.facts; (try simp only [Facts, Dist, List.map_cons, List.map_nil, List.forall_mem_cons, false_implies, ne_eq, not_false_eq_true, List.not_mem_nil, not_false_eq_true, true_implies, forall_const, List.mem_cons, or_false, implies_true, and_true, true_and, Nat.le_refl, List.setIfInBounds_toArray, List.set_cons_zero, List.set_cons_succ] at hF); (with_reducible refine (UL1.out _ (hv.kn hL (by simp))).mono ?_); rintro e W ⟨rfl, hb⟩; replace hL := hL.below hb; clear hb; (try clear hF); (try simp only [List.setIfInBounds_toArray, List.set_cons_zero, List.set_cons_succ, List.cons_append, List.nil_append] at hL); have hF := hL.facts; (try simp only [Facts, Dist, List.map_cons, List.map_nil, List.forall_mem_cons, false_implies, ne_eq, not_false_eq_true, List.not_mem_nil, not_false_eq_true, true_implies, forall_const, List.mem_cons, or_false, implies_true, and_true, true_and, Nat.le_refl, List.setIfInBounds_toArray, List.set_cons_zero, List.set_cons_succ] at hF)) | (go_at_call 10; refine kn_calls ?_; (try clear hF); clear hL; intro W hL; (try simp only [List.setIfInBounds_toArray, List.set_cons_zero, List.set_cons_succ, List.cons_append, List.nil_append] at hL); have hF := hL.facts; (try simp only [Facts, Dist, List.map_cons, List.map_nil, List.forall_mem_cons, false_implies, ne_eq, not_false_eq_true, List.not_mem_nil, not_false_eq_true, true_implies, forall_const, List.mem_cons, or_false, implies_true, and_true, true_and, Nat.le_refl, List.setIfInBounds_toArray, List.set_cons_zero, List.set_cons_succ] at hF); (with_reducible refine (LU.out _ (hT.kn hL (by simp))).mono ?_); rintro e W ⟨v2, rfl, hr2, hb⟩; replace hL := hL.below hb; clear hb; (try clear hF); (try simp only [List.setIfInBounds_toArray, List.set_cons_zero, List.set_cons_succ, List.cons_append, List.nil_append] at hL); have hF := hL.facts; (try simp only [Facts, Dist, List.map_cons, List.map_nil, List.forall_mem_cons, false_implies, ne_eq, not_false_eq_true, List.not_mem_nil, not_false_eq_true, true_implies, forall_const, List.mem_cons, or_false, implies_true, and_true, true_and, Nat.le_refl, List.setIfInBounds_toArray, List.set_cons_zero, List.set_cons_succ] at hF)) | (go_at_call 9; (with_reducible refine (same_is _ hst.out _ _ _ hr2 (hv.kn hL (by simp)) (by rw [List.length_map]; unfold maxLen; omega)).mono ?_); rintro e W ⟨rfl, hb⟩; replace hL := hL.below hb; clear hb; (try clear hF); (try simp only [List.setIfInBounds_toArray, List.set_cons_zero, List.set_cons_succ, List.cons_append, List.nil_append] at hL); have hF := hL.facts; (try simp only [Facts, Dist, List.map_cons, List.map_nil, List.forall_mem_cons, false_implies, ne_eq, not_false_eq_true, List.not_mem_nil, not_false_eq_true, true_implies, forall_const, List.mem_cons, or_false, implies_true, and_true, true_and, Nat.le_refl, List.setIfInBounds_toArray, List.set_cons_zero, List.set_cons_succ] at hF)))
        go_wp2_with (first | ((with_reducible refine kn_list_set ?_); (try clear hF); clear hL; intro W hL; (try simp only [List.setIfInBounds_toArray, List.set_cons_zero, List.set_cons_succ, List.cons_append, List.nil_append] at hL); have hF := hL.facts; (try simp only [Facts, Dist, List.map_cons, List.map_nil, List.forall_mem_cons, false_implies, ne_eq, not_false_eq_true, List.not_mem_nil, not_false_eq_true, true_implies, forall_const, List.mem_cons, or_false, implies_true, and_true, true_and, Nat.le_refl, List.setIfInBounds_toArray, List.set_cons_zero, List.set_cons_succ] at hF)) | (go_at_call 10; refine kn_calls ?_; (try clear hF); clear hL; intro W hL; (try simp only [List.setIfInBounds_toArray, List.set_cons_zero, List.set_cons_succ, List.cons_append, List.nil_append] at hL); have hF := hL.facts; (try simp only [Facts, Dist, List.map_cons, List.map_nil, List.forall_mem_cons, false_implies, ne_eq, not_false_eq_true, List.not_mem_nil, not_false_eq_true, true_implies, forall_const, List.mem_cons, or_false, implies_true, and_true, true_and, Nat.le_refl, List.setIfInBounds_toArray, List.set_cons_zero, List.set_cons_succ] at hF); (with_reducible refine (LS.out _ (hT.kn hL (by simp))).mono ?_); rintro e W ⟨gl, rfl, hb⟩; replace hL := hL.join hb; clear hb; (try clear hF); (try simp only [List.setIfInBounds_toArray, List.set_cons_zero, List.set_cons_succ, List.cons_append, List.nil_append] at hL); have hF := hL.facts; (try simp only [Facts, Dist, List.map_cons, List.map_nil, List.forall_mem_cons, false_implies, ne_eq, not_false_eq_true, List.not_mem_nil, not_false_eq_true, true_implies, forall_const, List.mem_cons, or_false, implies_true, and_true, true_and, Nat.le_refl, List.setIfInBounds_toArray, List.set_cons_zero, List.set_cons_succ] at hF)))
        go_loopw [11, 12] (fun v i wr => ∃ k : Nat, k ≤ ls.length ∧ i = .int .i64 k ∧ Kn [] w wr [(gl, .cells (strs ls).toArray 9 (0, 0))] ∧ wr.ownsRow w.heap.size 9 1 v ((ls.take k).flatMap fieldsB).length (strs ((ls.take k).flatMap fieldsB)) ∧ Fresh v [(gl, .cells (strs ls).toArray 9 (0, 0))]) (fun _ i _ => ls.length - (intOf i).toNat)
        case atStart => exact ⟨0, by omega, rfl, hL, ⟨rfl, .inl ⟨rfl, rfl⟩⟩, fun g hg => by cases hg⟩
        case round =>
          obtain ⟨k, hk, rfl, hK, hown, hfr⟩ := hrel
          clear hL hF
          have hL := hK
          clear hK
          (try simp only [List.setIfInBounds_toArray, List.set_cons_zero, List.set_cons_succ, List.cons_append, List.nil_append] at hL); have hF := hL.facts; (try simp only [Facts, Dist, List.map_cons, List.map_nil, List.forall_mem_cons, false_implies, ne_eq, not_false_eq_true, List.not_mem_nil, not_false_eq_true, true_implies, forall_const, List.mem_cons, or_false, implies_true, and_true, true_and, Nat.le_refl, List.setIfInBounds_toArray, List.set_cons_zero, List.set_cons_succ] at hF)
          by_cases hlt : k < ls.length
          · obtain ⟨x0, hx0⟩ : ∃ x, ls[k]? = some x := ⟨_, List.getElem?_eq_getElem hlt⟩
            obtain ⟨x, rfl⟩ : ∃ x : ByteArray, x.data.toList = x0 := ⟨⟨x0.toArray⟩, by simp⟩
            have hcell : (strs ls)[k]? = some (.string x) := by unfold strs; rw [List.getElem?_map, hx0]; exact congrArg some (congrArg Value.string (ba_mk x))
            have hx2 : (strs ls).toArray[k]? = some (.string x) := by rw [List.getElem?_toArray]; exact hcell
            have hft := flat_take2 fieldsB hx0
            have htot : ((ls.take k).flatMap fieldsB).length + (fieldsB x.data.toList).length ≤ 400 := by
              have := htot0 (k + 1)
              rw [hft, List.length_append] at this; exact this
            have hxs : x.size ≤ 100000000 := by
              have := hlsz _ (List.mem_of_getElem? hx0)
              rw [szl] at this; omega
            obtain ⟨i0, hi, hz0, hz1, hz2⟩ := info_parts infoS
            have FK := Lib.hid (fun W => Fields_kn x hxs W)
            have HFT := Lib.hid hft
            clear hx0 hcell hft
            go_wp2_with (first | (go_at_call 12; (with_reducible refine (FK.out _).mono ?_); rintro e W2 ⟨g2, rfl, hK2⟩; have hL2 := hL.join hK2; have hown2 := owns_below hown hK2.below0; (simp only [List.cons_append, List.nil_append] at hL2); have hg2 := new_of hK2; have hfr2 := fresh_cons (o := .cells (strs (fieldsB x.data.toList)).toArray 9 (0, 0)) hfr hown hg2; have hcs := hK2.has _ (List.mem_cons_self)) | (at_builtin; refine wpList_append_kn rfl _ _ 22 rfl 9 i0 _ Tryd.underlying22 hi hz0 (by rw [hz1]; rfl) (by rw [hz1]; decide) _ _ _ rfl hL2 (by rw [hz1]; exact hown2) hfr2 ⟨g2, 0, none⟩ (fieldsB x.data.toList).length (fieldsB x.data.toList).length (strs (fieldsB x.data.toList)) rfl (by rw [hz1, strs_len, Nat.mul_one]) ?c1 ?c2 ?c3 ?c4 ?_))
            case c1 =>
              intro j u hu
              rw [Go.WideShapes.add_plain]
              simp only [World.cell?, hcs, Nat.zero_add]
              simpa using hu
            case c2 =>
              intro u hu
              obtain ⟨y, _, rfl⟩ := List.mem_map.1 hu
              rfl
            case c3 => unfold maxLen; omega
            case c4 => rw [hz2]; omega
            intro v3 W3 hK3 hown3 hfr3
            have hL3 := hK3.sub (List.sublist_cons_self _ _)
            have hfr4 := fresh_less hfr3
            clear hL2 hown2 hfr2 hfr hown hL hK2 hK3 hF hcs
            go_wp2
            go_roundw
            case rel =>
              refine ⟨k + 1, by omega, by go_num, hL3, ?_, hfr4⟩
              rw [HFT.out, List.length_append]
              unfold strs at hown3 ⊢
              rw [List.map_append]
              have en : ((ls.take k).flatMap fieldsB).length = (List.take k (List.map (fun a => (fieldsB a).length) ls)).sum := by simp [List.length_flatMap]
              rw [en]
              exact hown3
            case measure => simp [intOf]; omega
          · obtain rfl : k = ls.length := by omega
            rw [List.take_length] at hown
            rw [HFL.out] at hown
            have hrf0 := row_owns hown
            clear hown hfr
            obtain ⟨fao, fcap, rfl, _⟩ := id hrf0
            rw [strs_len] at *
            go_wp2
            go_loopw [13] (fun i wr => ∃ k : Nat, k ≤ fl.length ∧ i = .int .i64 k ∧ Kn [] w wr [(gl, .cells (strs ls).toArray 9 (0, 0))] ∧ Row wr (.slice fao fl.length fcap) (strs fl)) (fun i _ => fl.length - (intOf i).toNat)
            case atStart => exact ⟨0, by omega, rfl, hL, hrf0⟩
            case round =>
              obtain ⟨k, hk, rfl, hK, hrf⟩ := hrel
              clear hL hF hrf0
              have hL := hK
              clear hK
              (try simp only [List.setIfInBounds_toArray, List.set_cons_zero, List.set_cons_succ, List.cons_append, List.nil_append] at hL); have hF := hL.facts; (try simp only [Facts, Dist, List.map_cons, List.map_nil, List.forall_mem_cons, false_implies, ne_eq, not_false_eq_true, List.not_mem_nil, not_false_eq_true, true_implies, forall_const, List.mem_cons, or_false, implies_true, and_true, true_and, Nat.le_refl, List.setIfInBounds_toArray, List.set_cons_zero, List.set_cons_succ] at hF)
              by_cases hlt : k < fl.length
              · obtain ⟨x0, hx0⟩ : ∃ x, fl[k]? = some x := ⟨_, List.getElem?_eq_getElem hlt⟩
                obtain ⟨x, rfl⟩ : ∃ x : ByteArray, x.data.toList = x0 := ⟨⟨x0.toArray⟩, by simp⟩
                obtain ⟨hne, hwh⟩ := hfl _ (List.mem_of_getElem? hx0)
                have hxe := str_ne (t := ⟨#[]⟩) hne
                have hxi : x.toList.isEmpty = false := by
                  rw [ByteArray.toList_eq]
                  cases hd : x.data.toList with
                  | nil => exact absurd hd hne
                  | cons => rfl
                have hxz : x.size ≤ 1000 := by
                  have := hflz _ (List.mem_of_getElem? hx0)
                  rw [szl] at this; exact this
                have HWH := Lib.hid hwh
                obtain ⟨g, o, hgo, hg, d0⟩ := row_at hrf (k := k) (x := .string x) (by unfold strs; rw [List.getElem?_map, hx0]; exact congrArg some (congrArg Value.string (ba_mk x)))
                obtain rfl := hgo
                clear hne hwh hx0
                go_wp2
                go_loopw [14] (fun i wr => ∃ j : Nat, j ≤ x.size ∧ i = .int .i64 j ∧ Kn [] w wr [(gl, .cells (strs ls).toArray 9 (0, 0))] ∧ Row wr (.slice (some ⟨g, o, none⟩) fl.length fcap) (strs fl) ∧ g < wr.heap.size ∧ wr.cell? ⟨g, o + k, none⟩ = some (.string x)) (fun i _ => x.size - (intOf i).toNat)
                case atStart => exact ⟨0, by omega, rfl, hL, hrf, hg, d0⟩
                case round =>
                  obtain ⟨j, hj, rfl, hK, hrf2, hg2, d2⟩ := hrel
                  clear hL hF hrf hg d0
                  have hL := hK
                  clear hK
                  (try simp only [List.setIfInBounds_toArray, List.set_cons_zero, List.set_cons_succ, List.cons_append, List.nil_append] at hL); have hF := hL.facts; (try simp only [Facts, Dist, List.map_cons, List.map_nil, List.forall_mem_cons, false_implies, ne_eq, not_false_eq_true, List.not_mem_nil, not_false_eq_true, true_implies, forall_const, List.mem_cons, or_false, implies_true, and_true, true_and, Nat.le_refl, List.setIfInBounds_toArray, List.set_cons_zero, List.set_cons_succ] at hF)
                  by_cases hjt : j < x.size
                  · obtain ⟨c, hcj⟩ : ∃ c, x.data.toList[j]? = some c := ⟨_, List.getElem?_eq_getElem (by rw [szl]; omega)⟩
                    have eb := byte_at hcj hjt
                    have hw := HWH.out c (List.mem_of_getElem? hcj)
                    have n32 : c ≠ 32 := by rintro rfl; revert hw; decide
                    have n9 : c ≠ 9 := by rintro rfl; revert hw; decide
                    have n10 : c ≠ 10 := by rintro rfl; revert hw; decide
                    have f32 : ((c.toNat : Int) == 32) = false := beq_false_of_ne fun h => n32 (UInt8.toNat_inj.1 (show c.toNat = 32 by omega))
                    have f9 : ((c.toNat : Int) == 9) = false := beq_false_of_ne fun h => n9 (UInt8.toNat_inj.1 (show c.toNat = 9 by omega))
                    have f10 : ((c.toNat : Int) == 10) = false := beq_false_of_ne fun h => n10 (UInt8.toNat_inj.1 (show c.toNat = 10 by omega))
                    clear hw n32 n9 n10 hcj
                    go_wp2
                    go_roundw
                    case rel => exact ⟨j + 1, by omega, by go_num, hL, hrf2, hg2, d2⟩
                    case measure => simp [intOf]; omega
                  · obtain rfl : j = x.size := by omega
                    go_wp2
                    go_roundw
                    case rel => exact ⟨k + 1, by omega, by go_num, hL, hrf2⟩
                    case measure => simp [intOf]; omega
              · obtain rfl : k = fl.length := by omega
                have hbw := hL.below0
                have hrl : Row wr (.slice (some ⟨gl, 0, none⟩) ls.length ls.length) (strs ls) := by
                  have := row_block (cap := ls.length) (hL.has _ List.mem_cons_self)
                  rw [strs_len] at this; exact this
                have hst3 : Hid (∀ x ∈ strs fl, ∃ s : ByteArray, x = .string s) := Lib.hid fun x hx => by
                  obtain ⟨y, _, rfl⟩ := List.mem_map.1 hx
                  exact ⟨_, rfl⟩
                go_wp2_with (first | ((with_reducible refine kn_list_set ?_); (try clear hF); clear hL; intro W hL; (try simp only [List.setIfInBounds_toArray, List.set_cons_zero, List.set_cons_succ, List.cons_append, List.nil_append] at hL); have hF := hL.facts; (try simp only [Facts, Dist, List.map_cons, List.map_nil, List.forall_mem_cons, false_implies, ne_eq, not_false_eq_true, List.not_mem_nil, not_false_eq_true, true_implies, forall_const, List.mem_cons, or_false, implies_true, and_true, true_and, Nat.le_refl, List.setIfInBounds_toArray, List.set_cons_zero, List.set_cons_succ] at hF)) | (go_at_call 11; (with_reducible refine (UL2.out _ _ hrl).mono ?_); rintro e W2 ⟨rfl, hb2⟩; have hrf2 := hrf.ext hb2; have hb3 := hbw.trans (hb2.mono hbw.size)) | (go_at_call 12; (with_reducible refine (FS.out _).mono ?_); rintro e W3 ⟨v3, rfl, hr3, hb4⟩; have hrf3 := hrf2.ext hb4; have hb5 := hb3.trans (hb4.mono hb3.size)) | (go_at_call 9; (with_reducible refine (same_is _ hst3.out _ _ _ hr3 hrf3 (by rw [strs_len]; unfold maxLen; first | omega | simp)).mono ?_); rintro e W4 ⟨rfl, hb6⟩; have hb7 := hb5.trans (hb6.mono hb5.size)))
                (try simp only [Exit.inBlock, Exit.then]); refine bodyPost_ret (by simp [results, Tryd.results3, go_sem, *]; try rfl) rfl ?_
                exact ⟨rfl, hb7⟩

end Go.Proofs.YtjkohbecmaegmaaDoor

