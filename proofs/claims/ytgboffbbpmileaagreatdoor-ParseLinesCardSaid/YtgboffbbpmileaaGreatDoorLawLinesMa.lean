/- Lemmas and walks for the law VLawLines (part 28). -/
import Derived.Test.YtgboffbbpmileaaGreatDoorPj27
import Derived.Test.YtgboffbbpmileaaGreatDoorProg
import Derived.WalkKit
import Derived.Handy
import Derived.Deep.Light
import Derived.WalkSmall
import Derived.StillTailTactics
import Derived.Lib.Hide
set_option maxRecDepth 20000
set_option maxHeartbeats 4000000
set_option linter.unusedVariables false
set_option linter.unusedSimpArgs false
namespace Go.Proofs.YtgboffbbpmileaaGreatDoor
open Go Go.RowKit
theorem Same_call {n : Nd} (hs : Sm 100000 n) (c1 c2 : List Value) (w : World) (h1 : NodeIs [] w n c1) (h2 : NodeIs [] w n c2) : Calls Tryz.prog 18 #[.agg c1.toArray, .agg c2.toArray] w fun e w' => e = .returned (.bool true) ∧ Below w.heap.size w w' := Same_is hs c1 c2 w h1 h2
theorem appl (x y : ByteArray) : (x ++ y).data.toList = x.data.toList ++ y.data.toList := by rw [ByteArray.data_append, Array.toList_append]
theorem lines_walk (src : ByteArray) (hs : src.size ≤ 1000) (nn : Nat) (hn : nn ≤ 50) (w : World) (hT : TabP w) : Calls Tryz.prog 7 #[.string src, .int .i64 (nn : Int)] w fun e w' => e = .returned (.bool true) ∧ Below w.heap.size w w' := by
 have HT := Lib.hid hT
 have hmax : IntKind.i64.max = 9223372036854775807 := rfl
 have q0 : decide ((1000 : Int) < (src.size : Int)) = false := decide_eq_false (by omega)
 have q1 : decide ((nn : Int) < 0) = false := decide_eq_false (by omega)
 have q2 : decide ((50 : Int) < (nn : Int)) = false := decide_eq_false (by omega)
 have hsl := szl src
 have HLP := Lib.hid (lines_plain (s := src.data.toList) (k := nn) (by rw [hsl]; exact hs) hn)
 clear hT
 have hL : Kn [] w w [] := Kn.refl [] w
 have hF := hL.fx
 go_enter Tryz.func7, Tryz.ntmps7
 go_wp2_with ((go_at_call 16; refine zC (fun W hL => small35 _ (HT.out.ext hL.below0)) ?_; clear hF hL; intro W hL hF))
 go_loopw [6, 7] (fun s i wr => ∃ (k : Nat) (u : ByteArray), k ≤ nn ∧ s = .string u ∧ i = .int .i64 k ∧ u.size = k ∧ Hid (u.data.toList = List.replicate k 10) ∧ Kn [] w wr []) (fun _ i _ => nn - (intOf i).toNat)
 case atStart => exact ⟨0, ⟨#[]⟩, by omega, rfl, rfl, rfl, Lib.hid rfl, kn_here⟩
 case round =>
  obtain ⟨k, u, hk, rfl, rfl, hu, HU, hK⟩ := hrel
  clear hL hF
  have hL := hK
  clear hK
  have hF := hL.fx
  by_cases hlt : k < nn
  ·have m1 : ¬ IntKind.i64.max < ((u.size + (⟨#[10]⟩ : ByteArray).size : Nat) : Int) := by rw [hmax, show (⟨#[10]⟩ : ByteArray).size = 1 from rfl]; omega
   have m2 : u.size ≤ 50 := by omega
   have HU2 := Lib.hid hu
   clear hu
   go_wp2
   exact ⟨⟨k + 1, u ++ ⟨#[10]⟩, by omega, rfl, by go_num, (by simp [ByteArray.size_append, HU2.out]; try rfl), Lib.hid (by rw [appl, HU.out, List.replicate_succ'] <;> rfl), hL⟩, by simp [intOf]; omega⟩
  ·obtain rfl : nn = k := by omega
   have m1 : ¬ IntKind.i64.max < ((u.size + src.size : Nat) : Int) := by rw [hmax]; omega
   have m2 : u.size ≤ 50 := by omega
   have hsz : (u ++ src).size ≤ 8000 := by rw [ByteArray.size_append]; omega
   have hul : (u ++ src).data.toList = List.replicate nn 10 ++ src.data.toList := by rw [appl, HU.out]
   have HWB : Hid (Kn [] w wr []) := Lib.hid hL
   rcases HLP.out with ⟨l, h1, h2⟩ | ⟨f, m, h1, h2, h3, h4⟩
   ·obtain ⟨nk, hnk⟩ : ∃ k, l.length = k := ⟨_, rfl⟩
    have HPa := Lib.hid (fun W => parse_ok_c src (by omega) l nk h1 hnk W)
    have HPb := Lib.hid (fun W => parse_ok_c (u ++ src) hsz l nk (by rw [hul]; exact h2) hnk W)
    have HSM : Hid (Sm 100000 (.mk 4 [] false [] [] [] l)) := Lib.hid (by
     obtain ⟨a1, a2⟩ := parseB_sm (by rw [hsl]; omega) h1
     exact .mk _ _ _ _ _ _ _ (Nat.zero_le _) (fun x hx => absurd hx List.not_mem_nil) (Nat.zero_le _) (fun x hx => absurd hx List.not_mem_nil) (Nat.zero_le _) (fun x hx => absurd hx List.not_mem_nil) (by omega) (fun y hy => (a2 y hy).mono (by omega)))
    clear h1 h2 hnk hul HLP HU hlt
    have hL := HWB.out.self0
    have hF := hL.fx
    go_upto_region 11 with (first | (go_at_call 13; refine zG ?_; clear hF hL; intro W hL hF; (with_reducible refine (HPa.out _ (HT.out.ext (HWB.out.tail0 hL).below0)).mono ?_); rintro e W2 ⟨aaa, caa, awa, cwa, ara, cra, aka, cka, rfl, HNY, hb⟩; have HNa := Lib.hid (HNY.out _ (keys_typed hL (by simp))); clear HNY; replace hL := hL.below hb; clear hb hF; have hF := hL.fx; have HWB2 := Lib.hid (HWB.out.tail0 hL); clear hL; clear HWB; have HWB := HWB2; clear HWB2; have hL := HWB.out.self0; clear hF; have hF := hL.fx) | (go_at_call 13; refine zG ?_; clear hF hL; intro W hL hF; (with_reducible refine (HPb.out _ (HT.out.ext (HWB.out.tail0 hL).below0)).mono ?_); rintro e W2 ⟨aab, cab, awb, cwb, arb, crb, akb, ckb, rfl, HNY, hb⟩; have HNb := Lib.hid (HNY.out _ (keys_typed hL (by simp))); clear HNY; replace HNa := Lib.hid (HNa.out.next2 hL hb); replace hL := hL.below hb; clear hb hF; have hF := hL.fx; have HWB2 := Lib.hid (HWB.out.tail0 hL); clear hL; clear HWB; have HWB := HWB2; clear HWB2; have hL := HWB.out.self0; clear hF; have hF := hL.fx))
    refine kn_wp ?_; clear hF hL; intro W hL; have hF := hL.fx
    replace HNa := Lib.hid (HNa.out.next hL)
    replace HNb := Lib.hid (HNb.out.next hL)
    have HWB2 := Lib.hid (HWB.out.tail0 hL)
    clear hL hF HWB
    have HWB := HWB2
    have hL := HWB.out.self0
    clear HWB2
    have hF := hL.fx
    go_wp2
    go_loopw [14, 15] (fun c i wr => ∃ k m9 : Nat, k ≤ src.size ∧ m9 ≤ k + 1 ∧ c = .int .i64 m9 ∧ i = .int .i64 k ∧ Hid (m9 = 1 + lf (src.data.toList.take k)) ∧ wr = W) (fun _ i _ => src.size - (intOf i).toNat)
    case atStart => exact ⟨0, 1, by omega, by omega, rfl, rfl, Lib.hid rfl, rfl⟩
    case round =>
     obtain ⟨k, m9, hk, hm9, rfl, rfl, HM9, rfl⟩ := hrel
     have hF := hL.fx
     by_cases hlt : k < src.size
     ·obtain ⟨c0, hc0⟩ : ∃ c, src.data.toList[k]? = some c := ⟨_, List.getElem?_eq_getElem (by rw [szl]; omega)⟩
      have eb0 := byte_at hc0 (by omega)
      have hd0 : src.data.toList.drop (k) = c0 :: src.data.toList.drop (k + 1) := by
       obtain ⟨h1, h2⟩ := List.getElem?_eq_some_iff.1 hc0
       rw [List.drop_eq_getElem_cons h1, h2]
      have htk : lf (src.data.toList.take (k + 1)) = lf (src.data.toList.take k) + (if c0 = 10 then 1 else 0) := by
       unfold lf
       rw [List.take_add_one, hc0, List.count_append]
       by_cases h : c0 = 10
       ·subst h; rfl
       ·rw [if_neg h]; simp [h]
      have HTK := Lib.hid htk
      by_cases h10 : c0 = 10
      ·subst h10
       clear htk hd0 hc0
       go_wp2
       exact ⟨⟨k + 1, m9 + 1, by omega, by omega, by go_num, by go_num, Lib.hid (by rw [HTK.out, HM9.out, if_pos rfl]; omega), by (trivial)⟩, by simp [intOf]; omega⟩
      ·have f10 : ((c0.toNat : Int) == 10) = false := beq_false_of_ne (fun h => h10 (UInt8.toNat_inj.1 (show c0.toNat = 10 by omega)))
       clear htk hd0 hc0
       go_wp2
       exact ⟨⟨k + 1, m9, by omega, by omega, by go_num, by go_num, Lib.hid (by rw [HTK.out, HM9.out, if_neg h10, Nat.add_zero]), by (trivial)⟩, by simp [intOf]; omega⟩
     ·obtain rfl : src.size = k := by omega
      have hm8 : m9 = 1 + lf src.data.toList := by rw [HM9.out, List.take_of_length_le (by rw [szl]; exact Nat.le_refl _)]
      clear HM9 hlt
      clear hm8
      go_wp2_with ((go_at_call 18; refine zC (fun W hL => Same_call HSM.out _ _ _ (HNa.out.kn hL (by simp)) (HNb.out.kn hL (by simp))) ?_; clear hF hL; intro W hL hF))
      refine bodyPost_ret (by simp [results, Tryz.results7, go_sem, *]; try rfl) rfl ?_
      exact ⟨rfl, (HWB.out.tail0 hL).below0⟩
   ·obtain ⟨ec, hec⟩ : ∃ z : Int, (if f = true then (6 : Int) else 27) = z := ⟨_, rfl⟩
    have hec2 : (ec == 0) = false := by rw [← hec]; cases f <;> rfl
    have HPa := Lib.hid (fun W => parse_err_c src (by omega) f m ec h1 hec W)
    have HPb := Lib.hid (fun W => parse_err_c (u ++ src) hsz f (m + nn) ec (by rw [hul]; exact h2) hec W)
    clear h1 h2 hec hul HLP HU hlt
    have hL := HWB.out.self0
    have hF := hL.fx
    go_upto_region 11 with (first | (go_at_call 13; refine zG ?_; clear hF hL; intro W hL hF; (with_reducible refine (HPa.out _ (HT.out.ext (HWB.out.tail0 hL).below0)).mono ?_); rintro e W2 ⟨rfl, hb⟩; replace hL := hL.below hb; clear hb hF; have hF := hL.fx; have HWB2 := Lib.hid (HWB.out.tail0 hL); clear hL; clear HWB; have HWB := HWB2; clear HWB2; have hL := HWB.out.self0; clear hF; have hF := hL.fx) | (go_at_call 13; refine zG ?_; clear hF hL; intro W hL hF; (with_reducible refine (HPb.out _ (HT.out.ext (HWB.out.tail0 hL).below0)).mono ?_); rintro e W2 ⟨rfl, hb⟩; replace hL := hL.below hb; clear hb hF; have hF := hL.fx; have HWB2 := Lib.hid (HWB.out.tail0 hL); clear hL; clear HWB; have HWB := HWB2; clear HWB2; have hL := HWB.out.self0; clear hF; have hF := hL.fx))
    refine kn_wp ?_; clear hF hL; intro W hL; have hF := hL.fx
    skip
    skip
    have HWB2 := Lib.hid (HWB.out.tail0 hL)
    clear hL hF HWB
    have HWB := HWB2
    have hL := HWB.out.self0
    clear HWB2
    have hF := hL.fx
    go_wp2
    go_loopw [14, 15] (fun c i wr => ∃ k m9 : Nat, k ≤ src.size ∧ m9 ≤ k + 1 ∧ c = .int .i64 m9 ∧ i = .int .i64 k ∧ Hid (m9 = 1 + lf (src.data.toList.take k)) ∧ wr = W) (fun _ i _ => src.size - (intOf i).toNat)
    case atStart => exact ⟨0, 1, by omega, by omega, rfl, rfl, Lib.hid rfl, rfl⟩
    case round =>
     obtain ⟨k, m9, hk, hm9, rfl, rfl, HM9, rfl⟩ := hrel
     have hF := hL.fx
     by_cases hlt : k < src.size
     ·obtain ⟨c0, hc0⟩ : ∃ c, src.data.toList[k]? = some c := ⟨_, List.getElem?_eq_getElem (by rw [szl]; omega)⟩
      have eb0 := byte_at hc0 (by omega)
      have hd0 : src.data.toList.drop (k) = c0 :: src.data.toList.drop (k + 1) := by
       obtain ⟨h1, h2⟩ := List.getElem?_eq_some_iff.1 hc0
       rw [List.drop_eq_getElem_cons h1, h2]
      have htk : lf (src.data.toList.take (k + 1)) = lf (src.data.toList.take k) + (if c0 = 10 then 1 else 0) := by
       unfold lf
       rw [List.take_add_one, hc0, List.count_append]
       by_cases h : c0 = 10
       ·subst h; rfl
       ·rw [if_neg h]; simp [h]
      have HTK := Lib.hid htk
      by_cases h10 : c0 = 10
      ·subst h10
       clear htk hd0 hc0
       go_wp2
       exact ⟨⟨k + 1, m9 + 1, by omega, by omega, by go_num, by go_num, Lib.hid (by rw [HTK.out, HM9.out, if_pos rfl]; omega), by (trivial)⟩, by simp [intOf]; omega⟩
      ·have f10 : ((c0.toNat : Int) == 10) = false := beq_false_of_ne (fun h => h10 (UInt8.toNat_inj.1 (show c0.toNat = 10 by omega)))
       clear htk hd0 hc0
       go_wp2
       exact ⟨⟨k + 1, m9, by omega, by omega, by go_num, by go_num, Lib.hid (by rw [HTK.out, HM9.out, if_neg h10, Nat.add_zero]), by (trivial)⟩, by simp [intOf]; omega⟩
     ·obtain rfl : src.size = k := by omega
      have hm8 : m9 = 1 + lf src.data.toList := by rw [HM9.out, List.take_of_length_le (by rw [szl]; exact Nat.le_refl _)]
      clear HM9 hlt
      have p1 : decide ((1 : Int) ≤ (m : Int)) = true := decide_eq_true (by omega)
      have p2 : decide ((m : Int) ≤ (m9 : Int)) = true := decide_eq_true (by omega)
      have p5 : decide (m ≤ m9) = true := decide_eq_true (by omega)
      have p3 : wrap64 ((m : Int) + (nn : Int)) = ((m + nn : Nat) : Int) := by rw [IntWalk.wrap64_in _ (by omega)]; omega
      clear hm8
      go_wp2
      refine bodyPost_ret (by simp [results, Tryz.results7, go_sem, *]; try rfl) rfl ?_
      exact ⟨rfl, (HWB.out.tail0 hL).below0⟩
end Go.Proofs.YtgboffbbpmileaaGreatDoor
set_option linter.unusedVariables false
set_option linter.unusedSimpArgs false
namespace Go.Proofs.YtgboffbbpmileaaGreatDoor
open Go Go.RowKit
theorem lines_big (src : ByteArray) (n : Int) (h : 1000 < src.size ∨ n < 0 ∨ 50 < n) (w : World) (hT : TabP w) : Calls Tryz.prog 7 #[.string src, .int .i64 n] w fun e w' => e = .returned (.bool true) ∧ Below w.heap.size w w' := by
  have HT := Lib.hid hT
  clear hT
  obtain ⟨k1, hk1⟩ : ∃ z : Bool, decide ((1000 : Int) < (src.size : Int)) = z := ⟨_, rfl⟩
  obtain ⟨k2, hk2⟩ : ∃ z : Bool, decide (n < 0) = z := ⟨_, rfl⟩
  obtain ⟨k3, hk3⟩ : ∃ z : Bool, decide ((50 : Int) < n) = z := ⟨_, rfl⟩
  have hk : k1 = true ∨ k2 = true ∨ k3 = true := by
    rcases h with h | h | h
    · exact .inl (by rw [← hk1]; exact decide_eq_true (by omega))
    · exact .inr (.inl (by rw [← hk2]; exact decide_eq_true h))
    · exact .inr (.inr (by rw [← hk3]; exact decide_eq_true h))
  clear h
  cases k1 <;> cases k2 <;> cases k3 <;> first
  | (exfalso; rcases hk with h | h | h <;> cases h; done)
  | (clear hk
     have hL : Kn [] w w [] := Kn.refl [] w
     have hF := hL.fx
     go_enter Tryz.func7, Tryz.ntmps7
     go_wp2_with ((go_at_call 16; refine zC (fun W hL => small35 _ (HT.out.ext hL.below0)) ?_; clear hF hL; intro W hL hF))
     refine kn_body ?_; clear hF hL; intro W hL; have hF := hL.fx
     refine bodyPost_ret (by simp [results, Tryz.results7, go_sem, *]; try rfl) rfl ?_
     exact ⟨rfl, hL.below0⟩)
theorem plines_any (src : ByteArray) (n : Int) (w : World) (hT : TabP w) : Calls Tryz.prog 7 #[.string src, .int .i64 n] w fun e w' => e = .returned (.bool true) ∧ Below w.heap.size w w' := by
 by_cases h : 1000 < src.size ∨ n < 0 ∨ 50 < n
 ·exact lines_big src n h w hT
 ·obtain ⟨nn, rfl⟩ : ∃ k : Nat, n = (k : Int) := ⟨n.toNat, by omega⟩
  exact lines_walk src (by omega) nn (by omega) w hT
end Go.Proofs.YtgboffbbpmileaaGreatDoor
