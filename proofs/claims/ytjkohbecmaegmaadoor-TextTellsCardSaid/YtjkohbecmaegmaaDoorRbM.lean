import Derived.Test.YtjkohbecmaegmaaDoorProg
import Derived.WalkKit
import Derived.Handy
import Derived.Deep.Light
import Derived.WalkSmall
import Derived.StillTailTactics
import Derived.Lib.Hide
import Derived.Test.YtjkohbecmaegmaaDoorT0
import Derived.Test.YtjkohbecmaegmaaDoorIt
import Derived.Test.YtjkohbecmaegmaaDoorRaM
import Derived.Test.YtjkohbecmaegmaaDoorT17X
import Derived.Deep.QuietTactic
namespace Go.Proofs.YtjkohbecmaegmaaDoor
open Go Go.RowKit
set_option linter.unusedSimpArgs false
set_option linter.unusedVariables false

def digB (c : UInt8) : Nat := if Lib.indexByte hexs c < 0 then 0 else (Lib.indexByte hexs c).toNat
theorem digB_lt (c : UInt8) : digB c < 16 := by
  unfold digB
  have := index_lt hexs c
  have e : (hexs.length : Int) = 16 := rfl
  split <;> omega
theorem hexs_at (k : Nat) (h : k < (⟨#[48, 49, 50, 51, 52, 53, 54, 55, 56, 57, 97, 98, 99, 100, 101, 102]⟩ : ByteArray).size) : (⟨#[48, 49, 50, 51, 52, 53, 54, 55, 56, 57, 97, 98, 99, 100, 101, 102]⟩ : ByteArray)[k]'h = hexs.getD k 0 := hex_at k h
theorem index_of : ∀ (l : Bytes) (c : UInt8) (k : Nat), l[k]? = some c → (∀ j, j < k → l[j]? ≠ some c) → Lib.indexByte l c = k
  | [], c, k, h, _ => by simp at h
  | x :: l, c, k, h, hn => by
    rw [Lib.indexByte]
    cases k with
    | zero =>
      have : x = c := by simpa using h
      rw [this]; simp
    | succ k =>
      have hx : x ≠ c := fun e => hn 0 (by omega) (by simp [e])
      have ih := index_of l c k (by simpa using h) (fun j hj => by have := hn (j + 1) (by omega); simpa using this)
      rw [beq_false_of_ne hx, ih]
      simp only [Bool.false_eq_true, if_false]
      have : ((k : Int) == -1) = false := beq_false_of_ne (by omega)
      rw [this]; simp
theorem index_not : ∀ (l : Bytes) (c : UInt8), (∀ j : Nat, l[j]? ≠ some c) → Lib.indexByte l c = -1
  | [], c, _ => rfl
  | x :: l, c, hn => by
    have hx : x ≠ c := fun e => hn 0 (by simp [e])
    rw [Lib.indexByte, beq_false_of_ne hx, index_not l c (fun j => by have := hn (j + 1); simpa using this)]
    rfl
set_option maxRecDepth 20000 in
set_option maxHeartbeats 4000000 in
theorem digit_is (c : UInt8) (w : World) : Calls Tryd.prog 45 #[.int .u8 c.toNat] w fun e w' => e = .returned (.int .u8 (digB c)) ∧ w' = w := by
  go_enter Tryd.func45, Tryd.ntmps45
  go_wp2
  go_loop [3] (fun i => ∃ k : Nat, k ≤ 16 ∧ i = .int .i64 k ∧ Hid (∀ j, j < k → hexs[j]? ≠ some c)) (fun i => 16 - (intOf i).toNat)
  case atStart => exact ⟨0, by omega, rfl, Lib.hid fun j hj => by omega⟩
  case round =>
    obtain ⟨k, hk, rfl, hn⟩ := hrel
    by_cases hlt : k < 16
    · have hsz : k < (⟨#[48, 49, 50, 51, 52, 53, 54, 55, 56, 57, 97, 98, 99, 100, 101, 102]⟩ : ByteArray).size := hlt
      have hat : hexs[k]? = some (hexs.getD k 0) := by
        rw [List.getD_eq_getElem?_getD, List.getElem?_eq_getElem (show k < hexs.length from hlt)]; rfl
      obtain ⟨d, hd⟩ : ∃ d, hexs.getD k 0 = d := ⟨_, rfl⟩
      have hb : ∀ h, (⟨#[48, 49, 50, 51, 52, 53, 54, 55, 56, 57, 97, 98, 99, 100, 101, 102]⟩ : ByteArray)[k]'h = d := fun h => by rw [← hd]; exact hexs_at k h
      rw [hd] at hat
      have hb2 := hb hsz
      clear hb hd
      have hlti : (k : Int) < 16 := by omega
      by_cases hc : d = c
      · subst hc
        have hv : digB d = k := by
          unfold digB
          rw [index_of hexs d k hat hn.out]
          rw [if_neg (by omega)]; rfl
        have HV := Lib.hid hv
        clear hv hat
        go_wp2
        (try simp only [Exit.inBlock, Exit.then]); refine bodyPost_ret (by simp [results, Tryd.results45, go_sem, *]; try rfl) rfl ?_
        exact ⟨by rw [HV.out], rfl⟩
      · have hcn : ((d.toNat : Int) == (c.toNat : Int)) = false := by rw [beq_bytes]; exact beq_false_of_ne hc
        have hn2 : Hid (∀ j, j < k + 1 → hexs[j]? ≠ some c) := Lib.hid fun j hj => by
          by_cases hjk : j = k
          · subst hjk; rw [hat]; simpa using hc
          · exact hn.out j (by omega)
        clear hat hc
        go_wp2
        go_round
        case rel => exact ⟨k + 1, by omega, by go_num, hn2⟩
        case measure => simp [intOf]; omega
    · obtain rfl : k = 16 := by omega
      have hv : digB c = 0 := by
        unfold digB
        rw [index_not hexs c (fun j => by
          by_cases hj : j < 16
          · exact hn.out j hj
          · rw [List.getElem?_eq_none (show hexs.length ≤ j by show 16 ≤ j; omega)]; simp)]
        decide
      have HV := Lib.hid hv
      clear hv
      go_wp2
      (try simp only [Exit.inBlock, Exit.then]); refine bodyPost_ret (by simp [results, Tryd.results45, go_sem, *]; try rfl) rfl ?_
      exact ⟨by rw [HV.out]; rfl, rfl⟩

end Go.Proofs.YtjkohbecmaegmaaDoor

namespace Go.Proofs.YtjkohbecmaegmaaDoor
open Go Go.RowKit
set_option linter.unusedSimpArgs false
set_option linter.unusedVariables false
theorem conv_all {w0 w : World} {v : Value} {l : List UInt8} (h : BOwn w0 w v l) (t : ByteArray) (ht : t.data.toList = l) : Hid (∀ W, BOwn w0 W v l → (convert 42 9 v).run Tryd.prog W = .ok (.string t) W) := Lib.hid fun W h => conv_own h t ht
set_option maxRecDepth 20000 in
set_option maxHeartbeats 4000000 in
theorem refUnquote_is (s : ByteArray) (hs : s.size ≤ 900000) (w : World) : Calls Tryd.prog 22 #[.string s] w (UnqPost s w) := by
  have hB := BOwn.nil w
  go_enter Tryd.func22, Tryd.ntmps22
  go_wp2
  go_loopw [4, 5] (fun u i wr => ∃ (k : Nat) (o : Bytes) (v : Value), 1 ≤ k ∧ k ≤ s.size + 1 ∧ o.length ≤ k ∧ i = .int .i64 k ∧ u = v ∧ BOwn w wr v o ∧ Hid (UR s.data.toList k o)) (fun _ i _ => s.size + 1 - (intOf i).toNat)
  case atStart => exact ⟨1, [], _, by omega, by omega, by simp, rfl, rfl, hB, Lib.hid (UR.start _)⟩
  case round =>
    obtain ⟨k, o, v, hk1, hk, hol, rfl, rfl, hB1, hinv⟩ := hrel
    clear hB
    have hB := hB1
    clear hB1
    have hsl := szl s
    by_cases hlt : (k : Int) < (s.size : Int) - 1
    · obtain ⟨c0, hc0⟩ : ∃ c, s.data.toList[k]? = some c := ⟨_, List.getElem?_eq_getElem (by rw [szl]; omega)⟩
      have hks : k < s.size := by omega
      have eb0 := byte_at hc0 hks
      by_cases h92 : c0 = 92
      · by_cases h2 : (k : Int) + 1 < (s.size : Int) - 1
        · have hk1s : k + 1 < s.size := by omega
          obtain ⟨c1, hc1⟩ : ∃ c, s.data.toList[k + 1]? = some c := ⟨_, List.getElem?_eq_getElem (by rw [szl]; omega)⟩
          have eb1 := byte_at hc1 hk1s
          subst h92
          by_cases h110 : c1 = 110
          · subst h110
            have hv2 : Hid (UR s.data.toList (k + 2) (o ++ [10])) := Lib.hid (hinv.out.letter (by omega) hc0 hc1)
            clear hc0 hc1 hinv hsl
            go_wp2_with (first | ((with_reducible refine kn_list_set ?_); (try clear hF); clear hL; intro W hL; (try simp only [List.setIfInBounds_toArray, List.set_cons_zero, List.set_cons_succ, List.cons_append, List.nil_append] at hL); have hF := hL.facts; (try simp only [Facts, Dist, List.map_cons, List.map_nil, List.forall_mem_cons, false_implies, ne_eq, not_false_eq_true, List.not_mem_nil, not_false_eq_true, true_implies, forall_const, List.mem_cons, or_false, implies_true, and_true, true_and, Nat.le_refl, List.setIfInBounds_toArray, List.set_cons_zero, List.set_cons_succ] at hF)) | (at_builtin; (first | (refine wpList_appb rfl _ _ rfl _ [10] hB rfl _ rfl _ rfl rfl (by (try simp only [List.length_append, List.length_cons, List.length_nil]); omega) ?_)); intro v2 W2 hB2; clear hB; have hB := hB2; clear hB2))
            go_roundw
            case rel => exact ⟨k + 2, o ++ [10], _, by omega, by omega, by simp; omega, by go_num, rfl, hB, hv2⟩
            case measure => simp [intOf]; omega
          have f110 : ((c1.toNat : Int) == 110) = false := beq_false_of_ne fun h => h110 (UInt8.toNat_inj.1 (show c1.toNat = 110 by omega))
          by_cases h120 : c1 = 120 ∧ (k : Int) + 1 + 1 + 1 < (s.size : Int) - 1
          · obtain ⟨h120, h4⟩ := h120
            subst h120
            have hk2s : k + 2 < s.size := by omega
            have hk3s : k + 3 < s.size := by omega
            obtain ⟨c2, hc2⟩ : ∃ c, s.data.toList[k + 2]? = some c := ⟨_, List.getElem?_eq_getElem (by rw [szl]; omega)⟩
            obtain ⟨c3, hc3⟩ : ∃ c, s.data.toList[k + 3]? = some c := ⟨_, List.getElem?_eq_getElem (by rw [szl]; omega)⟩
            have eb2 := byte_at hc2 hk2s
            have eb3 := byte_at hc3 hk3s
            go_wp2_with fail
            have s1 : IntKind.i64.wrap ((k : Int) + 1 + 1 + 1) = (k : Int) + 3 := by rw [IntWalk.i64_in _ (by omega)]; omega
            have s3 : 0 ≤ (k : Int) + 1 + 1 := by omega
            have s4 : (k : Int) + 1 + 1 < s.size := by omega
            have s5 : ((k : Int) + 1 + 1).toNat = k + 2 := by omega
            have s6 : 0 ≤ (k : Int) + 3 := by omega
            have s7 : (k : Int) + 3 < s.size := by omega
            have s8 : ((k : Int) + 3).toNat = k + 3 := by omega
            go_quiet ((go_at_call 45; exact Calls.quiet_of_same (digit_is _ _)))
            have hdl2 := digB_lt c2
            have hdl3 := digB_lt c3
            obtain ⟨x, hx⟩ : ∃ x : UInt8, (x.toNat : Int) = ((digB c2 : Int) * 16 % 256 + (digB c3 : Int)) % 256 := ⟨UInt8.ofNat (16 * digB c2 + digB c3), by rw [UInt8.toNat_ofNat']; omega⟩
            have hv2 : Hid (UR s.data.toList (k + 4) (o ++ [x])) := Lib.hid (hinv.out.hex (by omega) hc0 hc1 hc2 hc3 fun a b ha hb h2 h3 => by
              have e2 : digB c2 = a := by unfold digB; rw [h2, if_neg (by omega)]; rfl
              have e3 : digB c3 = b := by unfold digB; rw [h3, if_neg (by omega)]; rfl
              rw [e2, e3] at hx
              omega)
            have hxe := hx.symm
            have hB2 := hB.below (show Below wr.heap.size wr (wr.drewN nq) from ⟨rfl, rfl, rfl, Nat.le_refl _, fun _ _ => rfl⟩)
            clear hB
            generalize wr.drewN nq = W3 at hB2 ⊢
            have hB := hB2
            clear hB2 hx hdl2 hdl3 s1 s3 s4 s5 s6 s7 s8 hc0 hc1 hc2 hc3 hinv hsl
            go_wp2_with (at_builtin; (first | (refine wpList_appb rfl _ _ rfl _ [x] hB rfl _ rfl _ rfl rfl (by (try simp only [List.length_append, List.length_cons, List.length_nil]); omega) ?_)); intro v2 W2 hB2; clear hB; have hB := hB2; clear hB2)
            go_roundw
            case rel => exact ⟨k + 4, o ++ [x], _, by omega, by omega, by simp; omega, by go_num, rfl, hB, hv2⟩
            case measure => simp [intOf]; omega
          · have hor : c1 ≠ 120 ∨ ¬ k + 4 < s.data.toList.length := by
              by_cases h : c1 = 120
              · right; intro h5; exact h120 ⟨h, by omega⟩
              · exact .inl h
            have hv2 : Hid (UR s.data.toList (k + 2) (o ++ [c1])) := Lib.hid (hinv.out.other (by omega) hc0 hc1 h110 hor)
            clear hor hc0 hc1 hinv hsl
            by_cases h120b : c1 = 120
            · have h4 : ¬ (k : Int) + 1 + 1 + 1 < (s.size : Int) - 1 := fun h => h120 ⟨h120b, h⟩
              clear h120
              subst h120b
              go_wp2_with (first | ((with_reducible refine kn_list_set ?_); (try clear hF); clear hL; intro W hL; (try simp only [List.setIfInBounds_toArray, List.set_cons_zero, List.set_cons_succ, List.cons_append, List.nil_append] at hL); have hF := hL.facts; (try simp only [Facts, Dist, List.map_cons, List.map_nil, List.forall_mem_cons, false_implies, ne_eq, not_false_eq_true, List.not_mem_nil, not_false_eq_true, true_implies, forall_const, List.mem_cons, or_false, implies_true, and_true, true_and, Nat.le_refl, List.setIfInBounds_toArray, List.set_cons_zero, List.set_cons_succ] at hF)) | (at_builtin; (first | (refine wpList_appb rfl _ _ rfl _ [120] hB rfl _ rfl _ rfl rfl (by (try simp only [List.length_append, List.length_cons, List.length_nil]); omega) ?_)); intro v2 W2 hB2; clear hB; have hB := hB2; clear hB2))
              go_roundw
              case rel => exact ⟨k + 2, o ++ [120], _, by omega, by omega, by simp; omega, by go_num, rfl, hB, hv2⟩
              case measure => simp [intOf]; omega
            · have f120 : ((c1.toNat : Int) == 120) = false := beq_false_of_ne fun h => h120b (UInt8.toNat_inj.1 (show c1.toNat = 120 by omega))
              clear h120
              go_wp2_with (first | ((with_reducible refine kn_list_set ?_); (try clear hF); clear hL; intro W hL; (try simp only [List.setIfInBounds_toArray, List.set_cons_zero, List.set_cons_succ, List.cons_append, List.nil_append] at hL); have hF := hL.facts; (try simp only [Facts, Dist, List.map_cons, List.map_nil, List.forall_mem_cons, false_implies, ne_eq, not_false_eq_true, List.not_mem_nil, not_false_eq_true, true_implies, forall_const, List.mem_cons, or_false, implies_true, and_true, true_and, Nat.le_refl, List.setIfInBounds_toArray, List.set_cons_zero, List.set_cons_succ] at hF)) | (at_builtin; (first | (refine wpList_appb rfl _ _ rfl _ [c1] hB rfl _ rfl _ rfl rfl (by (try simp only [List.length_append, List.length_cons, List.length_nil]); omega) ?_)); intro v2 W2 hB2; clear hB; have hB := hB2; clear hB2))
              go_roundw
              case rel => exact ⟨k + 2, o ++ [c1], _, by omega, by omega, by simp; omega, by go_num, rfl, hB, hv2⟩
              case measure => simp [intOf]; omega
        · have hv2 : Hid (UR s.data.toList (k + 1) (o ++ [c0])) := Lib.hid (hinv.out.plain (by omega) hc0 (.inr (by omega)))
          subst h92
          clear hc0 hinv hsl
          go_wp2_with (first | ((with_reducible refine kn_list_set ?_); (try clear hF); clear hL; intro W hL; (try simp only [List.setIfInBounds_toArray, List.set_cons_zero, List.set_cons_succ, List.cons_append, List.nil_append] at hL); have hF := hL.facts; (try simp only [Facts, Dist, List.map_cons, List.map_nil, List.forall_mem_cons, false_implies, ne_eq, not_false_eq_true, List.not_mem_nil, not_false_eq_true, true_implies, forall_const, List.mem_cons, or_false, implies_true, and_true, true_and, Nat.le_refl, List.setIfInBounds_toArray, List.set_cons_zero, List.set_cons_succ] at hF)) | (at_builtin; (first | (refine wpList_appb rfl _ _ rfl _ [92] hB rfl _ rfl _ rfl rfl (by (try simp only [List.length_append, List.length_cons, List.length_nil]); omega) ?_)); intro v2 W2 hB2; clear hB; have hB := hB2; clear hB2))
          go_roundw
          case rel => exact ⟨k + 1, o ++ [92], _, by omega, by omega, by simp; omega, by go_num, rfl, hB, hv2⟩
          case measure => simp [intOf]; omega
      · have hv2 : Hid (UR s.data.toList (k + 1) (o ++ [c0])) := Lib.hid (hinv.out.plain (by omega) hc0 (.inl h92))
        have f92 : ((c0.toNat : Int) == 92) = false := beq_false_of_ne fun h => h92 (UInt8.toNat_inj.1 (show c0.toNat = 92 by omega))
        clear hc0 hinv hsl
        go_wp2_with (first | ((with_reducible refine kn_list_set ?_); (try clear hF); clear hL; intro W hL; (try simp only [List.setIfInBounds_toArray, List.set_cons_zero, List.set_cons_succ, List.cons_append, List.nil_append] at hL); have hF := hL.facts; (try simp only [Facts, Dist, List.map_cons, List.map_nil, List.forall_mem_cons, false_implies, ne_eq, not_false_eq_true, List.not_mem_nil, not_false_eq_true, true_implies, forall_const, List.mem_cons, or_false, implies_true, and_true, true_and, Nat.le_refl, List.setIfInBounds_toArray, List.set_cons_zero, List.set_cons_succ] at hF)) | (at_builtin; (first | (refine wpList_appb rfl _ _ rfl _ [c0] hB rfl _ rfl _ rfl rfl (by (try simp only [List.length_append, List.length_cons, List.length_nil]); omega) ?_)); intro v2 W2 hB2; clear hB; have hB := hB2; clear hB2))
        go_roundw
        case rel => exact ⟨k + 1, o ++ [c0], _, by omega, by omega, by simp; omega, by go_num, rfl, hB, hv2⟩
        case measure => simp [intOf]; omega
    · have hdone : ∀ d, quoteB d = s.data.toList → d = o := fun d hd => hinv.out.done (by omega) hd
      obtain ⟨t, ht⟩ : ∃ t : ByteArray, t.data.toList = o := ⟨⟨o.toArray⟩, by simp⟩
      have htz : t.size ≤ 1000000 := by rw [← szl, ht]; omega
      have hto : (⟨o.toArray⟩ : ByteArray) = t := ba_ext (by rw [← ht])
      have HCV := conv_all hB t ht
      have hcv1 := conv_own hB t ht
      by_cases hq : quoteB t.data.toList = s.data.toList
      · have hE : (⟨(quoteB t.data.toList).toArray⟩ : ByteArray) = s := ba_ext (by simpa using hq)
        have QC : Hid (∀ W, Calls Tryd.prog 24 #[.string t] W fun e w' => e = .returned (.string s) ∧ Below W.heap.size W w') := Lib.hid fun W => by
          have := refQuote_any t htz W
          rw [hE] at this; exact this
        have hfin : Hid (∃ o : Bytes, quoteB o = s.data.toList ∧ (∀ d, quoteB d = s.data.toList → d = o) ∧ Ending.returned (.tuple #[.string t, .bool true]) = Ending.returned (.tuple #[.string ⟨o.toArray⟩, .bool true])) := Lib.hid ⟨o, by rw [← ht]; exact hq, hdone, by rw [hto]⟩
        clear hdone hinv hsl hE hq hto
        go_wp2_with (first | ((with_reducible refine kn_list_set ?_); (try clear hF); clear hL; intro W hL; (try simp only [List.setIfInBounds_toArray, List.set_cons_zero, List.set_cons_succ, List.cons_append, List.nil_append] at hL); have hF := hL.facts; (try simp only [Facts, Dist, List.map_cons, List.map_nil, List.forall_mem_cons, false_implies, ne_eq, not_false_eq_true, List.not_mem_nil, not_false_eq_true, true_implies, forall_const, List.mem_cons, or_false, implies_true, and_true, true_and, Nat.le_refl, List.setIfInBounds_toArray, List.set_cons_zero, List.set_cons_succ] at hF)) | (go_at_call 24; (with_reducible refine (QC.out _).mono ?_); rintro e1 W1 ⟨rfl, hb1⟩; have hB1 := hB.below hb1; clear hB hcv1; have hB := hB1; clear hB1 hb1; have hcv1 := HCV.out _ hB))
        go_ret2
        exact ⟨.inl hfin.out, hB.kn.below0⟩
      · obtain ⟨q, hE⟩ : ∃ q : ByteArray, (⟨(quoteB t.data.toList).toArray⟩ : ByteArray) = q := ⟨_, rfl⟩
        have QC : Hid (∀ W, Calls Tryd.prog 24 #[.string t] W fun e w' => e = .returned (.string q) ∧ Below W.heap.size W w') := Lib.hid fun W => by
          have := refQuote_any t htz W
          rw [hE] at this; exact this
        have hqs : q.data.toList ≠ s.data.toList := by rw [← hE]; simpa using hq
        have hne : (q.toList == s.toList) = false := (Lib.bytes_beq_false_iff _ _).2 fun e => hqs (by rw [e])
        have hne2 : (q.toList != s.toList) = true := by unfold bne; rw [hne]; rfl
        have hfin : Hid (∀ d, quoteB d ≠ s.data.toList) := Lib.hid fun d hd => by
          have := hdone d hd
          subst this
          rw [ht] at hq; exact hq hd
        clear hdone hinv hsl hE hq hto hqs
        go_wp2_with (first | ((with_reducible refine kn_list_set ?_); (try clear hF); clear hL; intro W hL; (try simp only [List.setIfInBounds_toArray, List.set_cons_zero, List.set_cons_succ, List.cons_append, List.nil_append] at hL); have hF := hL.facts; (try simp only [Facts, Dist, List.map_cons, List.map_nil, List.forall_mem_cons, false_implies, ne_eq, not_false_eq_true, List.not_mem_nil, not_false_eq_true, true_implies, forall_const, List.mem_cons, or_false, implies_true, and_true, true_and, Nat.le_refl, List.setIfInBounds_toArray, List.set_cons_zero, List.set_cons_succ] at hF)) | (go_at_call 24; (with_reducible refine (QC.out _).mono ?_); rintro e1 W1 ⟨rfl, hb1⟩; have hB1 := hB.below hb1; clear hB hcv1; have hB := hB1; clear hB1 hb1; have hcv1 := HCV.out _ hB))
        go_ret2
        exact ⟨.inr ⟨hfin.out, rfl⟩, hB.kn.below0⟩

end Go.Proofs.YtjkohbecmaegmaaDoor

