/- Lemmas and walks for the law LawTells (part 7). -/
import Derived.Test.YtfdlifhkeicnnaaGreatDoorWPt6
import Derived.Test.YtfdlifhkeicnnaaGreatDoorProg
import Derived.WalkKit
import Derived.Handy
import Derived.Deep.Light
import Derived.WalkSmall
import Derived.StillTailTactics
import Derived.Lib.Hide
import Derived.IntWalk
set_option maxRecDepth 20000
set_option maxHeartbeats 4000000
set_option linter.unusedVariables false
set_option linter.unusedSimpArgs false
namespace Go.Proofs.YtfdlifhkeicnnaaGreatDoor
open Go Go.RowKit
theorem or_hex : ∀ a b : Fin 16, bits BinOp.or IntKind.i64 (wrap64 ((a.val : Int) * 16)) (b.val : Int) % 256 = ((16 * a.val + b.val : Nat) : Int) := by decide +kernel
theorem hex_byte (r2 r3 : Int) : ∃ x : UInt8, (x.toNat : Int) = bits BinOp.or IntKind.i64 (wrap64 (r2 * 16)) r3 % 256 ∧ ∀ a b : Nat, a < 16 → b < 16 → r2 = a → r3 = b → x.toNat = 16 * a + b := by
 obtain ⟨z, hz⟩ : ∃ z, bits BinOp.or IntKind.i64 (wrap64 (r2 * 16)) r3 % 256 = z := ⟨_, rfl⟩
 have h0 : 0 ≤ z ∧ z < 256 := by rw [← hz]; omega
 have hx : (UInt8.ofNat z.toNat).toNat = z.toNat := by rw [UInt8.toNat_ofNat']; omega
 refine ⟨UInt8.ofNat z.toNat, by rw [hz, hx]; omega, ?_⟩
 rintro a b ha hb rfl rfl
 have := or_hex ⟨a, ha⟩ ⟨b, hb⟩
 simp only at this
 rw [hx]; omega
theorem below_drew (w : World) : Below w.heap.size w w.drew := ⟨rfl, rfl, rfl, Nat.le_refl _, fun _ _ => rfl⟩
theorem nb120 : ((120 : UInt8).toNat : Int) = 120 := rfl
theorem Index_c (s : ByteArray) (c : UInt8) (r : Int) (hr : Lib.indexByte s.data.toList c = r) (w : World) :
  Calls Tryz.prog 122 #[.string s, .int .u8 (c.toNat : Int)] w fun x w' => x = .returned (.int .i64 r) ∧ w' = w :=
 Index_any s c r hr _ rfl w
def UnqPost (s : ByteArray) (w : World) (e : Ending) (w' : World) : Prop := ((∃ o : Bytes, quoteB o = s.data.toList ∧ (∀ d, quoteB d = s.data.toList → d = o) ∧ e = .returned (.tuple #[.string ⟨o.toArray⟩, .bool true])) ∨ ((∀ d, quoteB d ≠ s.data.toList) ∧ e = .returned (.tuple #[.string ⟨#[]⟩, .bool false]))) ∧ Below w.heap.size w w'
theorem Unquote_is (s : ByteArray) (hs : s.size ≤ 900000) (w : World) : Calls Tryz.prog 129 #[.string s] w (UnqPost s w) := by
 have hI : BIs w.heap.size w.heap.size [] (w.alloc (.cells #[.pointer none, .slice none 0 0] 49)) := BIs.fresh (heap_alloc_new w _)
 have hW : Below w.heap.size w (w.alloc (.cells #[.pointer none, .slice none 0 0] 49)) := (Below.refl _ _).alloc (Nat.le_refl _) _
 go_enter Tryz.func129, Tryz.ntmps129
 go_wp2
 go_loopw [5] (fun i wr => ∃ (k : Nat) (o : Bytes), 1 ≤ k ∧ k ≤ s.size + 1 ∧ o.length ≤ k ∧ i = .int .i64 k ∧ BIs w.heap.size w.heap.size o wr ∧ Below w.heap.size w wr ∧ Hid (UR s.data.toList k o)) (fun i _ => s.size + 1 - (intOf i).toNat)
 case atStart => exact ⟨1, [], by omega, by omega, by simp, rfl, hI, hW, Lib.hid (UR.start _)⟩
 case round =>
  obtain ⟨k, o, hk1, hk, hol, rfl, hI1, hW1, hinv⟩ := hrel
  clear hI hW
  have hI := hI1
  have hW := hW1
  clear hI1 hW1
  have hsl := szl s
  by_cases hlt : (k : Int) < (s.size : Int) - 1
  ·obtain ⟨c0, hc0⟩ : ∃ c, s.data.toList[k]? = some c := ⟨_, List.getElem?_eq_getElem (by rw [szl]; omega)⟩
   have hks : k < s.size := by omega
   have eb0 := byte_at hc0 hks
   by_cases h92 : c0 = 92
   ·by_cases h2 : (k : Int) + 1 < (s.size : Int) - 1
    ·have h2n : ¬ ((k : Int) + 1 ≥ (s.size : Int) - 1) := by omega
     have hk1s : k + 1 < s.size := by omega
     obtain ⟨c1, hc1⟩ : ∃ c, s.data.toList[k + 1]? = some c := ⟨_, List.getElem?_eq_getElem (by rw [szl]; omega)⟩
     have eb1 := byte_at hc1 hk1s
     subst h92
     by_cases h110 : c1 = 110
     ·subst h110
      have hv2 : Hid (UR s.data.toList (k + 2) (o ++ [10])) := Lib.hid (hinv.out.letter (by omega) hc0 hc1)
      clear hc0 hc1 hinv hsl
      go_wp2_with (first | ((with_reducible refine ks ?_); clear hL; intro W hL hF) | (go_at_call 27; (((first | (with_reducible refine (WB _ _ _ 10 10 nb10 _ hI (by omega) hW.size).mono ?_)))); rintro e W1 ⟨rfl, hI1, hb1⟩; replace hW := hW.trans hb1; clear hb1 hI; have hI := hI1; clear hI1))
      go_roundw
      case rel => exact ⟨k + 2, o ++ [10], by omega, by omega, by simp; omega, by go_num, hI, hW, hv2⟩
      case measure => simp [intOf]; omega
     have f110 : ((c1.toNat : Int) == 110) = false := beq_false_of_ne fun h => h110 (UInt8.toNat_inj.1 (show c1.toNat = 110 by omega))
     by_cases h120 : c1 = 120 ∧ (k : Int) + 1 + 2 < (s.size : Int) - 1
     ·obtain ⟨h120, h4⟩ := h120
      subst h120
      have hk2s : k + 2 < s.size := by omega
      have hk3s : k + 3 < s.size := by omega
      obtain ⟨c2, hc2⟩ : ∃ c, s.data.toList[k + 2]? = some c := ⟨_, List.getElem?_eq_getElem (by rw [szl]; omega)⟩
      obtain ⟨c3, hc3⟩ : ∃ c, s.data.toList[k + 3]? = some c := ⟨_, List.getElem?_eq_getElem (by rw [szl]; omega)⟩
      have eb2 := byte_at hc2 hk2s
      have eb3 := byte_at hc3 hk3s
      obtain ⟨r2, hr2⟩ : ∃ r, Lib.indexByte hexs c2 = r := ⟨_, rfl⟩
      obtain ⟨r3, hr3⟩ : ∃ r, Lib.indexByte hexs c3 = r := ⟨_, rfl⟩
      have HR2 := Lib.hid hr2
      have HR3 := Lib.hid hr3
      clear hr2 hr3
      go_wp2_with fail
      have s1 : IntKind.i64.wrap ((k : Int) + 1 + 1) = (k : Int) + 2 := by rw [IntWalk.i64_in _ (by omega)]; omega
      have s2 : IntKind.i64.wrap ((k : Int) + 1 + 2) = (k : Int) + 3 := by rw [IntWalk.i64_in _ (by omega)]; omega
      have s3 : 0 ≤ (k : Int) + 2 := by omega
      have s4 : (k : Int) + 2 < s.size := by omega
      have s5 : ((k : Int) + 2).toNat = k + 2 := by omega
      have s6 : 0 ≤ (k : Int) + 3 := by omega
      have s7 : (k : Int) + 3 < s.size := by omega
      have s8 : ((k : Int) + 3).toNat = k + 3 := by omega
      refine wp_region_still_tail 13 (by kernel_rfl) (by kernel_rfl) ?_
      simp only [List.take_succ_cons, List.take_zero, List.drop_succ_cons, List.drop_zero]
      repeat (first | still_step | (still_call (Index_c _ _ _ HR2.out _)) | (still_call (Index_c _ _ _ HR3.out _)))
      refine wpStill_nil ?_
      have hI2 : BIs w.heap.size w.heap.size o wr.drew := hI.ext (below_drew wr)
      have hW2 : Below w.heap.size w wr.drew := hW.trans ((below_drew wr).mono hW.size)
      clear hI hW
      change wpList _ _ _ _ _ wr.drew
      generalize wr.drew = W2 at hI2 hW2 ⊢
      have hI := hI2
      have hW := hW2
      clear hI2 hW2
      obtain ⟨x, hx, hx2⟩ := hex_byte r2 r3
      have hv2 : Hid (UR s.data.toList (k + 4) (o ++ [x])) := Lib.hid (hinv.out.hex (by omega) hc0 hc1 hc2 hc3 fun a b ha hb h2 h3 => hx2 a b ha hb (by rw [← HR2.out]; exact h2) (by rw [← HR3.out]; exact h3))
      have HX := Lib.hid hx
      clear hx hx2 s1 s2 s3 s4 s5 s6 s7 s8 hc0 hc1 hc2 hc3 hinv hsl
      go_wp2_with (first | ((with_reducible refine ks ?_); clear hL; intro W hL hF) | (go_at_call 27; (((first | (with_reducible refine (WB _ _ _ x _ HX.out _ hI (by omega) hW.size).mono ?_)))); rintro e W1 ⟨rfl, hI1, hb1⟩; replace hW := hW.trans hb1; clear hb1 hI; have hI := hI1; clear hI1))
      go_roundw
      case rel => exact ⟨k + 4, o ++ [x], by omega, by omega, by simp; omega, by go_num, hI, hW, hv2⟩
      case measure => simp [intOf]; omega
     ·have hor : c1 ≠ 120 ∨ ¬ k + 4 < s.data.toList.length := by
       by_cases h : c1 = 120
       ·right; intro h5; exact h120 ⟨h, by omega⟩
       ·exact .inl h
      have hv2 : Hid (UR s.data.toList (k + 2) (o ++ [c1])) := Lib.hid (hinv.out.other (by omega) hc0 hc1 h110 hor)
      clear hor hc0 hc1 hinv hsl
      by_cases h120b : c1 = 120
      ·have h4 : ¬ (k : Int) + 1 + 2 < (s.size : Int) - 1 := fun h => h120 ⟨h120b, h⟩
       clear h120
       subst h120b
       go_wp2_with (first | ((with_reducible refine ks ?_); clear hL; intro W hL hF) | (go_at_call 27; (((first | (with_reducible refine (WB _ _ _ 120 120 nb120 _ hI (by omega) hW.size).mono ?_)))); rintro e W1 ⟨rfl, hI1, hb1⟩; replace hW := hW.trans hb1; clear hb1 hI; have hI := hI1; clear hI1))
       go_roundw
       case rel => exact ⟨k + 2, o ++ [120], by omega, by omega, by simp; omega, by go_num, hI, hW, hv2⟩
       case measure => simp [intOf]; omega
      ·have f120 : ((c1.toNat : Int) == 120) = false := beq_false_of_ne fun h => h120b (UInt8.toNat_inj.1 (show c1.toNat = 120 by omega))
       clear h120
       go_wp2_with (first | ((with_reducible refine ks ?_); clear hL; intro W hL hF) | (go_at_call 27; (((first | (with_reducible refine (WB _ _ _ c1 _ rfl _ hI (by omega) hW.size).mono ?_)))); rintro e W1 ⟨rfl, hI1, hb1⟩; replace hW := hW.trans hb1; clear hb1 hI; have hI := hI1; clear hI1))
       go_roundw
       case rel => exact ⟨k + 2, o ++ [c1], by omega, by omega, by simp; omega, by go_num, hI, hW, hv2⟩
       case measure => simp [intOf]; omega
    ·have hv2 : Hid (UR s.data.toList (k + 1) (o ++ [c0])) := Lib.hid (hinv.out.plain (by omega) hc0 (.inr (by omega)))
     have h2n : (k : Int) + 1 ≥ (s.size : Int) - 1 := by omega
     have h2b : decide ((s.size : Int) - 1 ≤ (k : Int) + 1) = true := by simp; omega
     have h2c : (s.size : Int) ≤ (k : Int) + 1 + 1 := by omega
     subst h92
     clear hc0 hinv hsl
     go_wp2_with (first | ((with_reducible refine ks ?_); clear hL; intro W hL hF) | (go_at_call 27; (((first | (with_reducible refine (WB _ _ _ 92 92 nb92 _ hI (by omega) hW.size).mono ?_)))); rintro e W1 ⟨rfl, hI1, hb1⟩; replace hW := hW.trans hb1; clear hb1 hI; have hI := hI1; clear hI1))
     go_roundw
     case rel => exact ⟨k + 1, o ++ [92], by omega, by omega, by simp; omega, by go_num, hI, hW, hv2⟩
     case measure => simp [intOf]; omega
   ·have hv2 : Hid (UR s.data.toList (k + 1) (o ++ [c0])) := Lib.hid (hinv.out.plain (by omega) hc0 (.inl h92))
    have f92 : ((c0.toNat : Int) == 92) = false := beq_false_of_ne fun h => h92 (UInt8.toNat_inj.1 (show c0.toNat = 92 by omega))
    have f92b : ((c0.toNat : Int) != 92) = true := by unfold bne; rw [f92]; rfl
    clear hc0 hinv hsl
    go_wp2_with (first | ((with_reducible refine ks ?_); clear hL; intro W hL hF) | (go_at_call 27; (((first | (with_reducible refine (WB _ _ _ c0 _ rfl _ hI (by omega) hW.size).mono ?_)))); rintro e W1 ⟨rfl, hI1, hb1⟩; replace hW := hW.trans hb1; clear hb1 hI; have hI := hI1; clear hI1))
    go_roundw
    case rel => exact ⟨k + 1, o ++ [c0], by omega, by omega, by simp; omega, by go_num, hI, hW, hv2⟩
    case measure => simp [intOf]; omega
  ·have hdone : ∀ d, quoteB d = s.data.toList → d = o := fun d hd => hinv.out.done (by omega) hd
   obtain ⟨t, ht⟩ : ∃ t : ByteArray, t.data.toList = o := ⟨⟨o.toArray⟩, by simp⟩
   have htz : t.size ≤ 1000000 := by rw [← szl, ht]; omega
   have hto : (⟨o.toArray⟩ : ByteArray) = t := ba_ext (by rw [← ht])
   by_cases hq : quoteB t.data.toList = s.data.toList
   ·have hE : (⟨(quoteB t.data.toList).toArray⟩ : ByteArray) = s := ba_ext (by simpa using hq)
    have QC : Hid (∀ W, Calls Tryz.prog 9 #[.string t] W fun e w' => e = .returned (.string s) ∧ Below W.heap.size W w') := Lib.hid fun W => by
     have := Quote_any t htz W
     rw [hE] at this; exact this
    have hfin : Hid (∃ o : Bytes, quoteB o = s.data.toList ∧ (∀ d, quoteB d = s.data.toList → d = o) ∧ Ending.returned (.tuple #[.string t, .bool true]) = Ending.returned (.tuple #[.string ⟨o.toArray⟩, .bool true])) := Lib.hid ⟨o, by rw [← ht]; exact hq, hdone, by rw [hto]⟩
    clear hdone hinv hsl hE hq hto
    go_wp2_with (first | (go_at_call 29; (with_reducible refine (BS _ _ _ _ hI hW.size t ht).mono ?_); rintro e W1 ⟨rfl, hI1, hb1⟩; replace hW := hW.trans hb1; clear hb1 hI; have hI := hI1; clear hI1) | (go_at_call 9; (with_reducible refine (QC.out _).mono ?_); rintro e1 W1 ⟨rfl, hb1⟩; have hI1 := hI.ext hb1; replace hW := hW.trans (hb1.mono hW.size); clear hb1 hI; have hI := hI1; clear hI1))
    go_ret2
    exact ⟨.inl hfin.out, hW⟩
   ·obtain ⟨q, hE⟩ : ∃ q : ByteArray, (⟨(quoteB t.data.toList).toArray⟩ : ByteArray) = q := ⟨_, rfl⟩
    have QC : Hid (∀ W, Calls Tryz.prog 9 #[.string t] W fun e w' => e = .returned (.string q) ∧ Below W.heap.size W w') := Lib.hid fun W => by
     have := Quote_any t htz W
     rw [hE] at this; exact this
    have hqs : q.data.toList ≠ s.data.toList := by rw [← hE]; simpa using hq
    have hne : (q.toList == s.toList) = false := (Lib.bytes_beq_false_iff _ _).2 fun e => hqs (by rw [e])
    have hne2 : (q.toList != s.toList) = true := by unfold bne; rw [hne]; rfl
    have hfin : Hid (∀ d, quoteB d ≠ s.data.toList) := Lib.hid fun d hd => by
     have := hdone d hd
     subst this
     rw [ht] at hq; exact hq hd
    clear hdone hinv hsl hE hq hto hqs
    go_wp2_with (first | (go_at_call 29; (with_reducible refine (BS _ _ _ _ hI hW.size t ht).mono ?_); rintro e W1 ⟨rfl, hI1, hb1⟩; replace hW := hW.trans hb1; clear hb1 hI; have hI := hI1; clear hI1) | (go_at_call 9; (with_reducible refine (QC.out _).mono ?_); rintro e1 W1 ⟨rfl, hb1⟩; have hI1 := hI.ext hb1; replace hW := hW.trans (hb1.mono hW.size); clear hb1 hI; have hI := hI1; clear hI1))
    go_ret2
    exact ⟨.inr ⟨hfin.out, rfl⟩, hW⟩
def TabA (w : World) : Prop := Tab w ∧ TabI w ∧ Lib.TabIs Tryz.prog w "strings.asciiSpace" .u8 Lib.asciiSpaceTab
theorem gAsc : Tryz.prog.globalNamed "strings.asciiSpace" = some 3 := by kernel_rfl
theorem TabA.low {w w' : World} (h : TabA w) (hb : Below 14 w w') : TabA w' := by
 obtain ⟨h1, h2, h3⟩ := h
 refine ⟨h1.same hb.size fun g hg => hb.block g hg, h2.below hb (by decide), ?_⟩
 unfold Lib.TabIs at h3 ⊢
 rw [var_same gAsc (hb.block _ (by decide))]; exact h3
theorem TabA.ext {w w' : World} (h : TabA w) (hb : Below w.heap.size w w') : TabA w' := h.low ⟨hb.os, hb.tape, hb.output, hb.size, fun b hx => hb.block b (Nat.lt_of_lt_of_le hx h.1.1)⟩
theorem TabA.kn {X : List Nat} {w w' : World} {L : List (Nat × Obj)} (h : TabA w) (k : Kn X w w' L) (hx : ∀ x ∈ X, 14 ≤ x) : TabA w' :=
 h.low ⟨k.os, k.tape, k.output, k.size, fun b hb => k.block b (Nat.lt_of_lt_of_le hb h.1.1) fun hm => by have := hx b hm; omega⟩
theorem TabA.t {w : World} (h : TabA w) : Tab w := h.1
theorem TabA.i {w : World} (h : TabA w) : TabI w := h.2.1
def callL : List ByteArray := [⟨#[101, 120, 105, 116]⟩, ⟨#[102, 111, 114, 107]⟩, ⟨#[101, 120, 101, 99]⟩, ⟨#[119, 97, 105, 116]⟩, ⟨#[103, 101, 116, 112, 105, 100]⟩, ⟨#[103, 101, 116, 112, 112, 105, 100]⟩, ⟨#[107, 105, 108, 108]⟩, ⟨#[115, 105, 103, 97, 99, 116]⟩, ⟨#[115, 105, 103, 109, 97, 115, 107]⟩, ⟨#[115, 105, 103, 114, 101, 116, 117, 114, 110]⟩, ⟨#[112, 97, 117, 115, 101]⟩, ⟨#[97, 108, 97, 114, 109]⟩, ⟨#[111, 112, 101, 110]⟩, ⟨#[99, 108, 111, 115, 101]⟩, ⟨#[114, 101, 97, 100]⟩, ⟨#[119, 114, 105, 116, 101]⟩, ⟨#[115, 101, 101, 107]⟩, ⟨#[100, 117, 112, 50]⟩, ⟨#[112, 105, 112, 101]⟩, ⟨#[115, 116, 97, 116]⟩, ⟨#[109, 107, 100, 105, 114]⟩, ⟨#[114, 109, 100, 105, 114]⟩, ⟨#[117, 110, 108, 105, 110, 107]⟩, ⟨#[114, 101, 110, 97, 109, 101]⟩, ⟨#[99, 104, 100, 105, 114]⟩, ⟨#[108, 105, 115, 116]⟩, ⟨#[109, 109, 97, 112]⟩, ⟨#[109, 117, 110, 109, 97, 112]⟩, ⟨#[115, 101, 116, 112, 103, 105, 100]⟩, ⟨#[116, 99, 115, 101, 116, 112, 103, 114, 112]⟩, ⟨#[116, 105, 109, 101]⟩, ⟨#[116, 114, 117, 110, 99, 97, 116, 101]⟩, ⟨#[121, 105, 101, 108, 100]⟩]
def callV : Array Value := (callL.map Value.string).toArray
def callI (s : ByteArray) : Int := Lib.idxOfS callL s
theorem idxFromS_bd (x : ByteArray) : ∀ (zs : List ByteArray) (i : Nat), Lib.idxFromS zs x i = -1 ∨ ((i : Int) ≤ Lib.idxFromS zs x i ∧ Lib.idxFromS zs x i < i + zs.length)
 | [], i => .inl rfl
 | z :: zs, i => by
  unfold Lib.idxFromS
  split
  ·right; simp only [List.length_cons]; omega
  ·rcases idxFromS_bd x zs (i + 1) with h | h
   ·exact .inl h
   ·right; simp only [List.length_cons]; omega
theorem callI_lt (s : ByteArray) : -1 ≤ callI s ∧ callI s < 33 := by
 rcases idxFromS_bd s callL 0 with h | h
 ·rw [show callI s = -1 from h]; omega
 ·have e : (callL.length : Int) = 33 := rfl
  rw [e] at h
  exact ⟨by have := h.1; unfold callI Lib.idxOfS; omega, by have := h.2; unfold callI Lib.idxOfS; omega⟩
def callB (s : Bytes) : Option Nat := if 0 ≤ callI ⟨s.toArray⟩ then some ((callI ⟨s.toArray⟩).toNat + 1) else none
theorem fields_call : Lib.fields (⟨#[101, 120, 105, 116, 32, 102, 111, 114, 107, 32, 101, 120, 101, 99, 32, 119, 97, 105, 116, 32, 103, 101, 116, 112, 105, 100, 32, 103, 101, 116, 112, 112, 105, 100, 32, 107, 105, 108, 108, 32, 115, 105, 103, 97, 99, 116, 32, 115, 105, 103, 109, 97, 115, 107, 32, 115, 105, 103, 114, 101, 116, 117, 114, 110, 32, 112, 97, 117, 115, 101, 32, 97, 108, 97, 114, 109, 32, 111, 112, 101, 110, 32, 99, 108, 111, 115, 101, 32, 114, 101, 97, 100, 32, 119, 114, 105, 116, 101, 32, 115, 101, 101, 107, 32, 100, 117, 112, 50, 32, 112, 105, 112, 101, 32, 115, 116, 97, 116, 32, 109, 107, 100, 105, 114, 32, 114, 109, 100, 105, 114, 32, 117, 110, 108, 105, 110, 107, 32, 114, 101, 110, 97, 109, 101, 32, 99, 104, 100, 105, 114, 32, 108, 105, 115, 116, 32, 109, 109, 97, 112, 32, 109, 117, 110, 109, 97, 112, 32, 115, 101, 116, 112, 103, 105, 100, 32, 116, 99, 115, 101, 116, 112, 103, 114, 112, 32, 116, 105, 109, 101, 32, 116, 114, 117, 110, 99, 97, 116, 101, 32, 121, 105, 101, 108, 100]⟩ : ByteArray).data.toList = callL.map (·.data.toList) := by decide +kernel
theorem Fields_call (w : World) (hT : TabA w) : Calls Tryz.prog 50 #[.string ⟨#[101, 120, 105, 116, 32, 102, 111, 114, 107, 32, 101, 120, 101, 99, 32, 119, 97, 105, 116, 32, 103, 101, 116, 112, 105, 100, 32, 103, 101, 116, 112, 112, 105, 100, 32, 107, 105, 108, 108, 32, 115, 105, 103, 97, 99, 116, 32, 115, 105, 103, 109, 97, 115, 107, 32, 115, 105, 103, 114, 101, 116, 117, 114, 110, 32, 112, 97, 117, 115, 101, 32, 97, 108, 97, 114, 109, 32, 111, 112, 101, 110, 32, 99, 108, 111, 115, 101, 32, 114, 101, 97, 100, 32, 119, 114, 105, 116, 101, 32, 115, 101, 101, 107, 32, 100, 117, 112, 50, 32, 112, 105, 112, 101, 32, 115, 116, 97, 116, 32, 109, 107, 100, 105, 114, 32, 114, 109, 100, 105, 114, 32, 117, 110, 108, 105, 110, 107, 32, 114, 101, 110, 97, 109, 101, 32, 99, 104, 100, 105, 114, 32, 108, 105, 115, 116, 32, 109, 109, 97, 112, 32, 109, 117, 110, 109, 97, 112, 32, 115, 101, 116, 112, 103, 105, 100, 32, 116, 99, 115, 101, 116, 112, 103, 114, 112, 32, 116, 105, 109, 101, 32, 116, 114, 117, 110, 99, 97, 116, 101, 32, 121, 105, 101, 108, 100]⟩] w fun e w' => ∃ b, e = .returned (.slice (some ⟨b, 0, none⟩) 33 33) ∧ Kn [] w w' [(b, .cells callV 9 (0, 0))] := by
 have h := Tryz.strings_Fields_laid ⟨#[101, 120, 105, 116, 32, 102, 111, 114, 107, 32, 101, 120, 101, 99, 32, 119, 97, 105, 116, 32, 103, 101, 116, 112, 105, 100, 32, 103, 101, 116, 112, 112, 105, 100, 32, 107, 105, 108, 108, 32, 115, 105, 103, 97, 99, 116, 32, 115, 105, 103, 109, 97, 115, 107, 32, 115, 105, 103, 114, 101, 116, 117, 114, 110, 32, 112, 97, 117, 115, 101, 32, 97, 108, 97, 114, 109, 32, 111, 112, 101, 110, 32, 99, 108, 111, 115, 101, 32, 114, 101, 97, 100, 32, 119, 114, 105, 116, 101, 32, 115, 101, 101, 107, 32, 100, 117, 112, 50, 32, 112, 105, 112, 101, 32, 115, 116, 97, 116, 32, 109, 107, 100, 105, 114, 32, 114, 109, 100, 105, 114, 32, 117, 110, 108, 105, 110, 107, 32, 114, 101, 110, 97, 109, 101, 32, 99, 104, 100, 105, 114, 32, 108, 105, 115, 116, 32, 109, 109, 97, 112, 32, 109, 117, 110, 109, 97, 112, 32, 115, 101, 116, 112, 103, 105, 100, 32, 116, 99, 115, 101, 116, 112, 103, 114, 112, 32, 116, 105, 109, 101, 32, 116, 114, 117, 110, 99, 97, 116, 101, 32, 121, 105, 101, 108, 100]⟩ w (by decide +kernel) (ascii_of_all (by decide +kernel)) hT.2.2
 have e1 : (callL.map (·.data.toList)).map (fun l => Value.string ⟨l.toArray⟩) = callL.map Value.string := by
  rw [List.map_map]; exact List.map_congr_left fun s _ => by simp [toList_mk]
 rw [fields_call, e1] at h
 refine h.mono fun e w' ⟨h1, h2⟩ => ⟨w.heap.size, h1, ?_⟩
 have := Kn.refl [] w
 rw [h2]
 exact kn_here
theorem Index_call (b : Nat) (s : ByteArray) (w : World) (h : w.heap[b]? = some (.cells callV 9 (0, 0))) : Calls Tryz.prog 51 #[.slice (some ⟨b, 0, none⟩) 33 33, .string s] w fun e w' => e = .returned (.int .i64 (callI s)) ∧ w = w' := by
 refine (Tryz.slices_Index_string b 0 33 33 callL s w (by decide) (by decide) fun j hj => ?_).mono fun e w' ⟨h1, h2⟩ => ⟨h1, h2.symm⟩
 rw [World.cell?, h]
 simp only [Nat.zero_add, callV, List.getElem?_toArray, List.getElem?_map, List.getD_eq_getElem?_getD, List.getElem?_eq_getElem hj, Option.map_some, Option.getD_some, Option.isSome_none, Bool.false_eq_true, if_false]
theorem Call_is (s : ByteArray) (w : World) (hT : TabA w) : Calls Tryz.prog 22 #[.string s] w fun e w' => e = .returned (.tuple #[.int .i64 (callI s + 1), .bool (decide (0 ≤ callI s))]) ∧ Below w.heap.size w w' := by
 have hc := callI_lt s
 obtain ⟨n, hn⟩ : ∃ n, callI s = n := ⟨_, rfl⟩
 have hI := fun b w h => Index_call b s w h
 rw [hn] at hc hI ⊢
 have s1 : IntKind.i64.wrap (n + 1) = n + 1 := by rw [IntWalk.i64_in _ (by omega)]
 have hL : Kn [] w w [] := Kn.refl [] w; have hF := hL.fx; go_enter Tryz.func22, Tryz.ntmps22
 go_wp2_with (first | (go_at_call 50; refine kG ?_; clear hF hL; intro W hL hF; (with_reducible refine (Fields_call _ (hT.kn hL (by simp))).mono ?_); rintro e W ⟨b, rfl, hb⟩; replace hL := hL.join hb; clear hb hF; simp only [kfb] at hL; have hF := hL.fx) | (go_at_call 51; refine kp (fun W hL => hI _ _ (hL.has _ List.mem_cons_self)) ?_; clear hF hL; intro W hL hF))
 refine bodyPost_ret (by simp [results, Tryz.results22, go_sem, *]; try rfl) rfl ?_
 exact ⟨rfl, hL.below0⟩
noncomputable def unqB (s : Bytes) : Option Bytes := open Classical in if h : ∃ o, quoteB o = s then some h.choose else none
def findN (s : Bytes) : Option Nat := if 0 ≤ findI ⟨s.toArray⟩ then some (findI ⟨s.toArray⟩).toNat else none
noncomputable def OO : Oth := ⟨canon, unqB, findN, fun n => (form n).toNat, callB, fun n a b c => valid n a b c, fun n a b c => (encS n a b c).data.toList⟩
theorem unq_some {s o : Bytes} (h : quoteB o = s) (hu : ∀ d, quoteB d = s → d = o) : unqB s = some o := by
 unfold unqB
 rw [dif_pos ⟨o, h⟩]
 exact congrArg some (hu _ (Exists.choose_spec (⟨o, h⟩ : ∃ o, quoteB o = s)))
theorem unq_none {s : Bytes} (hu : ∀ d, quoteB d ≠ s) : unqB s = none := by
 unfold unqB
 rw [dif_neg (fun ⟨o, h⟩ => hu o h)]
end Go.Proofs.YtfdlifhkeicnnaaGreatDoor
