import Derived.Test.YtjkohbecmaegmaaDoorProg
import Derived.WalkKit
import Derived.Handy
import Derived.Deep.Light
import Derived.WalkSmall
import Derived.StillTailTactics
import Derived.Lib.Hide
import Derived.Test.YtjkohbecmaegmaaDoorT0
import Derived.Test.YtjkohbecmaegmaaDoorIt
import Derived.Test.YtjkohbecmaegmaaDoorT16X
import Derived.Test.YtjkohbecmaegmaaDoorUnq
import Derived.IntWalk
namespace Go.Proofs.YtjkohbecmaegmaaDoor
open Go Go.RowKit
set_option linter.unusedSimpArgs false
set_option linter.unusedVariables false

theorem or_hex : ∀ a b : Fin 16, bits BinOp.or IntKind.i64 (wrap64 ((a.val : Int) * 16)) (b.val : Int) % 256 = ((16 * a.val + b.val : Nat) : Int) := by decide +kernel
theorem hex_byte (r2 r3 : Int) : ∃ x : UInt8, (x.toNat : Int) = bits BinOp.or IntKind.i64 (wrap64 (r2 * 16)) r3 % 256 ∧ ∀ a b : Nat, a < 16 → b < 16 → r2 = a → r3 = b → x.toNat = 16 * a + b := by
  obtain ⟨z, hz⟩ : ∃ z, bits BinOp.or IntKind.i64 (wrap64 (r2 * 16)) r3 % 256 = z := ⟨_, rfl⟩
  have h0 : 0 ≤ z ∧ z < 256 := by rw [← hz]; omega
  have hx : (UInt8.ofNat z.toNat).toNat = z.toNat := by rw [UInt8.toNat_ofNat']; omega
  refine ⟨UInt8.ofNat z.toNat, by rw [hz, hx]; omega, ?_⟩
  rintro a b ha hb rfl rfl
  have := or_hex ⟨a, ha⟩ ⟨b, hb⟩
  simp only at this
  rw [hx]; omega
theorem below_drew (w : World) : Below w.heap.size w w.drew := ⟨rfl, rfl, rfl, Nat.le_refl _, fun _ _ => rfl⟩
theorem nb110 : ((110 : UInt8).toNat : Int) = 110 := rfl
theorem nb120 : ((120 : UInt8).toNat : Int) = 120 := rfl
theorem Index_c (s : ByteArray) (c : UInt8) (r : Int) (hr : Lib.indexByte s.data.toList c = r) (w : World) :
    Calls Tryd.prog 40 #[.string s, .int .u8 (c.toNat : Int)] w fun x w' => x = .returned (.int .i64 r) ∧ w' = w :=
  Index_any s c r hr _ rfl w
def UnqPost (s : ByteArray) (w : World) (e : Ending) (w' : World) : Prop := ((∃ o : Bytes, quoteB o = s.data.toList ∧ (∀ d, quoteB d = s.data.toList → d = o) ∧ e = .returned (.tuple #[.string ⟨o.toArray⟩, .bool true])) ∨ ((∀ d, quoteB d ≠ s.data.toList) ∧ e = .returned (.tuple #[.string ⟨#[]⟩, .bool false]))) ∧ Below w.heap.size w w'
set_option maxRecDepth 20000 in
set_option maxHeartbeats 4000000 in
theorem Unquote_is (s : ByteArray) (hs : s.size ≤ 900000) (w : World) : Calls Tryd.prog 17 #[.string s] w (UnqPost s w) := by
  have hI : BIs w.heap.size w.heap.size [] (w.alloc (.cells #[.pointer none, .slice none 0 0] 44)) := BIs.fresh (heap_alloc_new w _)
  have hW : Below w.heap.size w (w.alloc (.cells #[.pointer none, .slice none 0 0] 44)) := (Below.refl _ _).alloc (Nat.le_refl _) _
  go_enter Tryd.func17, Tryd.ntmps17
  go_wp2
  go_loopw [5] (fun i wr => ∃ (k : Nat) (o : Bytes), 1 ≤ k ∧ k ≤ s.size + 1 ∧ o.length ≤ k ∧ i = .int .i64 k ∧ BIs w.heap.size w.heap.size o wr ∧ Below w.heap.size w wr ∧ Hid (UR s.data.toList k o)) (fun i _ => s.size + 1 - (intOf i).toNat)
  case atStart => exact ⟨1, [], by omega, by omega, by simp, rfl, hI, hW, Lib.hid (UR.start _)⟩
  case round =>
    obtain ⟨k, o, hk1, hk, hol, rfl, hI1, hW1, hinv⟩ := hrel
    clear hI hW
    have hI := hI1
    have hW := hW1
    clear hI1 hW1
    have hsl := szl s
    by_cases hlt : (k : Int) < (s.size : Int) - 1
    · obtain ⟨c0, hc0⟩ : ∃ c, s.data.toList[k]? = some c := ⟨_, List.getElem?_eq_getElem (by rw [szl]; omega)⟩
      have hks : k < s.size := by omega
      have eb0 := byte_at hc0 hks
      by_cases h92 : c0 = 92
      · by_cases h2 : (k : Int) + 1 < (s.size : Int) - 1
        · have h2n : ¬ ((k : Int) + 1 ≥ (s.size : Int) - 1) := by omega
          have hk1s : k + 1 < s.size := by omega
          obtain ⟨c1, hc1⟩ : ∃ c, s.data.toList[k + 1]? = some c := ⟨_, List.getElem?_eq_getElem (by rw [szl]; omega)⟩
          have eb1 := byte_at hc1 hk1s
          subst h92
          by_cases h110 : c1 = 110
          · subst h110
            have hv2 : Hid (UR s.data.toList (k + 2) (o ++ [10])) := Lib.hid (hinv.out.letter (by omega) hc0 hc1)
            clear hc0 hc1 hinv hsl
            go_wp2_with (first | ((with_reducible refine kn_list_set ?_); (try clear hF); clear hL; intro W hL; (try simp only [List.setIfInBounds_toArray, List.set_cons_zero, List.set_cons_succ, List.cons_append, List.nil_append] at hL); have hF := hL.facts; (try simp only [Facts, Dist, List.map_cons, List.map_nil, List.forall_mem_cons, false_implies, ne_eq, not_false_eq_true, List.not_mem_nil, not_false_eq_true, true_implies, forall_const, List.mem_cons, or_false, implies_true, and_true, true_and, Nat.le_refl, List.setIfInBounds_toArray, List.set_cons_zero, List.set_cons_succ] at hF)) | (go_at_call 35; (first | (with_reducible refine (WB _ _ _ 10 10 nb10 _ hI (by (try simp only [List.length_append, List.length_cons, List.length_nil]); omega) hW.size).mono ?_)); rintro e W1 ⟨rfl, hI1, hb1⟩; (try clear hb0); replace hW := hW.trans hb1; clear hb1 hI; have hI := hI1; clear hI1))
            go_roundw
            case rel => exact ⟨k + 2, o ++ [10], by omega, by omega, by simp; omega, by go_num, hI, hW, hv2⟩
            case measure => simp [intOf]; omega
          have f110 : ((c1.toNat : Int) == 110) = false := beq_false_of_ne fun h => h110 (UInt8.toNat_inj.1 (show c1.toNat = 110 by omega))
          by_cases h120 : c1 = 120 ∧ (k : Int) + 1 + 2 < (s.size : Int) - 1
          · obtain ⟨h120, h4⟩ := h120
            subst h120
            have hk2s : k + 2 < s.size := by omega
            have hk3s : k + 3 < s.size := by omega
            obtain ⟨c2, hc2⟩ : ∃ c, s.data.toList[k + 2]? = some c := ⟨_, List.getElem?_eq_getElem (by rw [szl]; omega)⟩
            obtain ⟨c3, hc3⟩ : ∃ c, s.data.toList[k + 3]? = some c := ⟨_, List.getElem?_eq_getElem (by rw [szl]; omega)⟩
            have eb2 := byte_at hc2 hk2s
            have eb3 := byte_at hc3 hk3s
            obtain ⟨r2, hr2⟩ : ∃ r, Lib.indexByte hexs c2 = r := ⟨_, rfl⟩
            obtain ⟨r3, hr3⟩ : ∃ r, Lib.indexByte hexs c3 = r := ⟨_, rfl⟩
            have HR2 := Lib.hid hr2
            have HR3 := Lib.hid hr3
            clear hr2 hr3
            go_wp2_with fail
            have s1 : IntKind.i64.wrap ((k : Int) + 1 + 1) = (k : Int) + 2 := by rw [IntWalk.i64_in _ (by omega)]; omega
            have s2 : IntKind.i64.wrap ((k : Int) + 1 + 2) = (k : Int) + 3 := by rw [IntWalk.i64_in _ (by omega)]; omega
            have s3 : 0 ≤ (k : Int) + 2 := by omega
            have s4 : (k : Int) + 2 < s.size := by omega
            have s5 : ((k : Int) + 2).toNat = k + 2 := by omega
            have s6 : 0 ≤ (k : Int) + 3 := by omega
            have s7 : (k : Int) + 3 < s.size := by omega
            have s8 : ((k : Int) + 3).toNat = k + 3 := by omega
            refine wp_region_still_tail 13 (by kernel_rfl) (by kernel_rfl) ?_
            simp only [List.take_succ_cons, List.take_zero, List.drop_succ_cons, List.drop_zero]
            repeat (first | still_step | (still_call (Index_c _ _ _ HR2.out _)) | (still_call (Index_c _ _ _ HR3.out _)))
            refine wpStill_nil ?_
            have hI2 : BIs w.heap.size w.heap.size o wr.drew := hI.ext (below_drew wr)
            have hW2 : Below w.heap.size w wr.drew := hW.trans ((below_drew wr).mono hW.size)
            clear hI hW
            change wpList _ _ _ _ _ wr.drew
            generalize wr.drew = W2 at hI2 hW2 ⊢
            have hI := hI2
            have hW := hW2
            clear hI2 hW2
            obtain ⟨x, hx, hx2⟩ := hex_byte r2 r3
            have hv2 : Hid (UR s.data.toList (k + 4) (o ++ [x])) := Lib.hid (hinv.out.hex (by omega) hc0 hc1 hc2 hc3 fun a b ha hb h2 h3 => hx2 a b ha hb (by rw [← HR2.out]; exact h2) (by rw [← HR3.out]; exact h3))
            have HX := Lib.hid hx
            clear hx hx2 s1 s2 s3 s4 s5 s6 s7 s8 hc0 hc1 hc2 hc3 hinv hsl
            go_wp2_with (first | ((with_reducible refine kn_list_set ?_); (try clear hF); clear hL; intro W hL; (try simp only [List.setIfInBounds_toArray, List.set_cons_zero, List.set_cons_succ, List.cons_append, List.nil_append] at hL); have hF := hL.facts; (try simp only [Facts, Dist, List.map_cons, List.map_nil, List.forall_mem_cons, false_implies, ne_eq, not_false_eq_true, List.not_mem_nil, not_false_eq_true, true_implies, forall_const, List.mem_cons, or_false, implies_true, and_true, true_and, Nat.le_refl, List.setIfInBounds_toArray, List.set_cons_zero, List.set_cons_succ] at hF)) | (go_at_call 35; (first | (with_reducible refine (WB _ _ _ x _ HX.out _ hI (by (try simp only [List.length_append, List.length_cons, List.length_nil]); omega) hW.size).mono ?_)); rintro e W1 ⟨rfl, hI1, hb1⟩; (try clear hb0); replace hW := hW.trans hb1; clear hb1 hI; have hI := hI1; clear hI1))
            go_roundw
            case rel => exact ⟨k + 4, o ++ [x], by omega, by omega, by simp; omega, by go_num, hI, hW, hv2⟩
            case measure => simp [intOf]; omega
          · have hor : c1 ≠ 120 ∨ ¬ k + 4 < s.data.toList.length := by
              by_cases h : c1 = 120
              · right; intro h5; exact h120 ⟨h, by omega⟩
              · exact .inl h
            have hv2 : Hid (UR s.data.toList (k + 2) (o ++ [c1])) := Lib.hid (hinv.out.other (by omega) hc0 hc1 h110 hor)
            clear hor hc0 hc1 hinv hsl
            by_cases h120b : c1 = 120
            · have h4 : ¬ (k : Int) + 1 + 2 < (s.size : Int) - 1 := fun h => h120 ⟨h120b, h⟩
              clear h120
              subst h120b
              go_wp2_with (first | ((with_reducible refine kn_list_set ?_); (try clear hF); clear hL; intro W hL; (try simp only [List.setIfInBounds_toArray, List.set_cons_zero, List.set_cons_succ, List.cons_append, List.nil_append] at hL); have hF := hL.facts; (try simp only [Facts, Dist, List.map_cons, List.map_nil, List.forall_mem_cons, false_implies, ne_eq, not_false_eq_true, List.not_mem_nil, not_false_eq_true, true_implies, forall_const, List.mem_cons, or_false, implies_true, and_true, true_and, Nat.le_refl, List.setIfInBounds_toArray, List.set_cons_zero, List.set_cons_succ] at hF)) | (go_at_call 35; (first | (with_reducible refine (WB _ _ _ 120 120 nb120 _ hI (by (try simp only [List.length_append, List.length_cons, List.length_nil]); omega) hW.size).mono ?_)); rintro e W1 ⟨rfl, hI1, hb1⟩; (try clear hb0); replace hW := hW.trans hb1; clear hb1 hI; have hI := hI1; clear hI1))
              go_roundw
              case rel => exact ⟨k + 2, o ++ [120], by omega, by omega, by simp; omega, by go_num, hI, hW, hv2⟩
              case measure => simp [intOf]; omega
            · have f120 : ((c1.toNat : Int) == 120) = false := beq_false_of_ne fun h => h120b (UInt8.toNat_inj.1 (show c1.toNat = 120 by omega))
              clear h120
              go_wp2_with (first | ((with_reducible refine kn_list_set ?_); (try clear hF); clear hL; intro W hL; (try simp only [List.setIfInBounds_toArray, List.set_cons_zero, List.set_cons_succ, List.cons_append, List.nil_append] at hL); have hF := hL.facts; (try simp only [Facts, Dist, List.map_cons, List.map_nil, List.forall_mem_cons, false_implies, ne_eq, not_false_eq_true, List.not_mem_nil, not_false_eq_true, true_implies, forall_const, List.mem_cons, or_false, implies_true, and_true, true_and, Nat.le_refl, List.setIfInBounds_toArray, List.set_cons_zero, List.set_cons_succ] at hF)) | (go_at_call 35; (first | (with_reducible refine (WB _ _ _ c1 _ rfl _ hI (by (try simp only [List.length_append, List.length_cons, List.length_nil]); omega) hW.size).mono ?_)); rintro e W1 ⟨rfl, hI1, hb1⟩; (try clear hb0); replace hW := hW.trans hb1; clear hb1 hI; have hI := hI1; clear hI1))
              go_roundw
              case rel => exact ⟨k + 2, o ++ [c1], by omega, by omega, by simp; omega, by go_num, hI, hW, hv2⟩
              case measure => simp [intOf]; omega
        · have hv2 : Hid (UR s.data.toList (k + 1) (o ++ [c0])) := Lib.hid (hinv.out.plain (by omega) hc0 (.inr (by omega)))
          have h2n : (k : Int) + 1 ≥ (s.size : Int) - 1 := by omega
          have h2b : decide ((s.size : Int) - 1 ≤ (k : Int) + 1) = true := by simp; omega
          have h2c : (s.size : Int) ≤ (k : Int) + 1 + 1 := by omega
          subst h92
          clear hc0 hinv hsl
          go_wp2_with (first | ((with_reducible refine kn_list_set ?_); (try clear hF); clear hL; intro W hL; (try simp only [List.setIfInBounds_toArray, List.set_cons_zero, List.set_cons_succ, List.cons_append, List.nil_append] at hL); have hF := hL.facts; (try simp only [Facts, Dist, List.map_cons, List.map_nil, List.forall_mem_cons, false_implies, ne_eq, not_false_eq_true, List.not_mem_nil, not_false_eq_true, true_implies, forall_const, List.mem_cons, or_false, implies_true, and_true, true_and, Nat.le_refl, List.setIfInBounds_toArray, List.set_cons_zero, List.set_cons_succ] at hF)) | (go_at_call 35; (first | (with_reducible refine (WB _ _ _ 92 92 nb92 _ hI (by (try simp only [List.length_append, List.length_cons, List.length_nil]); omega) hW.size).mono ?_)); rintro e W1 ⟨rfl, hI1, hb1⟩; (try clear hb0); replace hW := hW.trans hb1; clear hb1 hI; have hI := hI1; clear hI1))
          go_roundw
          case rel => exact ⟨k + 1, o ++ [92], by omega, by omega, by simp; omega, by go_num, hI, hW, hv2⟩
          case measure => simp [intOf]; omega
      · have hv2 : Hid (UR s.data.toList (k + 1) (o ++ [c0])) := Lib.hid (hinv.out.plain (by omega) hc0 (.inl h92))
        have f92 : ((c0.toNat : Int) == 92) = false := beq_false_of_ne fun h => h92 (UInt8.toNat_inj.1 (show c0.toNat = 92 by omega))
        have f92b : ((c0.toNat : Int) != 92) = true := by unfold bne; rw [f92]; rfl
        clear hc0 hinv hsl
        go_wp2_with (first | ((with_reducible refine kn_list_set ?_); (try clear hF); clear hL; intro W hL; (try simp only [List.setIfInBounds_toArray, List.set_cons_zero, List.set_cons_succ, List.cons_append, List.nil_append] at hL); have hF := hL.facts; (try simp only [Facts, Dist, List.map_cons, List.map_nil, List.forall_mem_cons, false_implies, ne_eq, not_false_eq_true, List.not_mem_nil, not_false_eq_true, true_implies, forall_const, List.mem_cons, or_false, implies_true, and_true, true_and, Nat.le_refl, List.setIfInBounds_toArray, List.set_cons_zero, List.set_cons_succ] at hF)) | (go_at_call 35; (first | (with_reducible refine (WB _ _ _ c0 _ rfl _ hI (by (try simp only [List.length_append, List.length_cons, List.length_nil]); omega) hW.size).mono ?_)); rintro e W1 ⟨rfl, hI1, hb1⟩; (try clear hb0); replace hW := hW.trans hb1; clear hb1 hI; have hI := hI1; clear hI1))
        go_roundw
        case rel => exact ⟨k + 1, o ++ [c0], by omega, by omega, by simp; omega, by go_num, hI, hW, hv2⟩
        case measure => simp [intOf]; omega
    · have hdone : ∀ d, quoteB d = s.data.toList → d = o := fun d hd => hinv.out.done (by omega) hd
      obtain ⟨t, ht⟩ : ∃ t : ByteArray, t.data.toList = o := ⟨⟨o.toArray⟩, by simp⟩
      have htz : t.size ≤ 1000000 := by rw [← szl, ht]; omega
      have hto : (⟨o.toArray⟩ : ByteArray) = t := ba_ext (by rw [← ht])
      by_cases hq : quoteB t.data.toList = s.data.toList
      · have hE : (⟨(quoteB t.data.toList).toArray⟩ : ByteArray) = s := ba_ext (by simpa using hq)
        have QC : Hid (∀ W, Calls Tryd.prog 18 #[.string t] W fun e w' => e = .returned (.string s) ∧ Below W.heap.size W w') := Lib.hid fun W => by
          have := Quote_any t htz W
          rw [hE] at this; exact this
        have hfin : Hid (∃ o : Bytes, quoteB o = s.data.toList ∧ (∀ d, quoteB d = s.data.toList → d = o) ∧ Ending.returned (.tuple #[.string t, .bool true]) = Ending.returned (.tuple #[.string ⟨o.toArray⟩, .bool true])) := Lib.hid ⟨o, by rw [← ht]; exact hq, hdone, by rw [hto]⟩
        clear hdone hinv hsl hE hq hto
        go_wp2_with (first | ((with_reducible refine kn_list_set ?_); (try clear hF); clear hL; intro W hL; (try simp only [List.setIfInBounds_toArray, List.set_cons_zero, List.set_cons_succ, List.cons_append, List.nil_append] at hL); have hF := hL.facts; (try simp only [Facts, Dist, List.map_cons, List.map_nil, List.forall_mem_cons, false_implies, ne_eq, not_false_eq_true, List.not_mem_nil, not_false_eq_true, true_implies, forall_const, List.mem_cons, or_false, implies_true, and_true, true_and, Nat.le_refl, List.setIfInBounds_toArray, List.set_cons_zero, List.set_cons_succ] at hF)) | (go_at_call 36; (with_reducible refine (BS _ _ _ _ hI hW.size t ht).mono ?_); rintro e W1 ⟨rfl, hI1, hb1⟩; (try clear hb0); replace hW := hW.trans hb1; clear hb1 hI; have hI := hI1; clear hI1) | (go_at_call 18; (with_reducible refine (QC.out _).mono ?_); rintro e1 W1 ⟨rfl, hb1⟩; have hI1 := hI.ext hb1; (try clear hb0); replace hW := hW.trans (hb1.mono hW.size); clear hb1 hI; have hI := hI1; clear hI1))
        go_ret2
        exact ⟨.inl hfin.out, hW⟩
      · obtain ⟨q, hE⟩ : ∃ q : ByteArray, (⟨(quoteB t.data.toList).toArray⟩ : ByteArray) = q := ⟨_, rfl⟩
        have QC : Hid (∀ W, Calls Tryd.prog 18 #[.string t] W fun e w' => e = .returned (.string q) ∧ Below W.heap.size W w') := Lib.hid fun W => by
          have := Quote_any t htz W
          rw [hE] at this; exact this
        have hqs : q.data.toList ≠ s.data.toList := by rw [← hE]; simpa using hq
        have hne : (q.toList == s.toList) = false := (Lib.bytes_beq_false_iff _ _).2 fun e => hqs (by rw [e])
        have hne2 : (q.toList != s.toList) = true := by unfold bne; rw [hne]; rfl
        have hfin : Hid (∀ d, quoteB d ≠ s.data.toList) := Lib.hid fun d hd => by
          have := hdone d hd
          subst this
          rw [ht] at hq; exact hq hd
        clear hdone hinv hsl hE hq hto hqs
        go_wp2_with (first | ((with_reducible refine kn_list_set ?_); (try clear hF); clear hL; intro W hL; (try simp only [List.setIfInBounds_toArray, List.set_cons_zero, List.set_cons_succ, List.cons_append, List.nil_append] at hL); have hF := hL.facts; (try simp only [Facts, Dist, List.map_cons, List.map_nil, List.forall_mem_cons, false_implies, ne_eq, not_false_eq_true, List.not_mem_nil, not_false_eq_true, true_implies, forall_const, List.mem_cons, or_false, implies_true, and_true, true_and, Nat.le_refl, List.setIfInBounds_toArray, List.set_cons_zero, List.set_cons_succ] at hF)) | (go_at_call 36; (with_reducible refine (BS _ _ _ _ hI hW.size t ht).mono ?_); rintro e W1 ⟨rfl, hI1, hb1⟩; (try clear hb0); replace hW := hW.trans hb1; clear hb1 hI; have hI := hI1; clear hI1) | (go_at_call 18; (with_reducible refine (QC.out _).mono ?_); rintro e1 W1 ⟨rfl, hb1⟩; have hI1 := hI.ext hb1; (try clear hb0); replace hW := hW.trans (hb1.mono hW.size); clear hb1 hI; have hI := hI1; clear hI1))
        go_ret2
        exact ⟨.inr ⟨hfin.out, rfl⟩, hW⟩

end Go.Proofs.YtjkohbecmaegmaaDoor

