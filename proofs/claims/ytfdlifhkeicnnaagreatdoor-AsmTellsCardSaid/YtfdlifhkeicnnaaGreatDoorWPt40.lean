/- Lemmas and walks for the law LawTells (part 40). -/
import Derived.Test.YtfdlifhkeicnnaaGreatDoorWPt39
import Derived.Test.YtfdlifhkeicnnaaGreatDoorProg
import Derived.WalkKit
import Derived.Handy
import Derived.Deep.Light
import Derived.WalkSmall
import Derived.StillTailTactics
import Derived.Lib.Hide
set_option maxRecDepth 20000
set_option maxHeartbeats 4000000
set_option linter.unusedVariables false
set_option linter.unusedSimpArgs false
namespace Go.Proofs.YtfdlifhkeicnnaaGreatDoor
open Go Go.RowKit
theorem joinC_snoc (x : Bytes) : ∀ l : List Bytes, joinC (l ++ [x]) = if l = [] then x else joinC l ++ 44 :: 32 :: x
 | [] => rfl
 | [a] => rfl
 | a :: b :: l => by
  have ih := joinC_snoc x (b :: l)
  rw [if_neg (by simp)] at ih
  rw [if_neg (by simp)]
  show a ++ 44 :: 32 :: joinC ((b :: l) ++ [x]) = _
  rw [ih]
  show _ = (a ++ 44 :: 32 :: joinC (b :: l)) ++ _
  simp
theorem RefDec_some (p : ByteArray) (n : Nat) (a b c : Int) (h : decB p.data.toList = some (n, a, b, c)) (w : World) : Calls Tryz.prog 53 #[.string p] w fun e w' => e = .returned (.tuple #[.agg #[.int .i64 n, .int .i64 a, .int .i64 b, .int .i64 c], .bool true]) ∧ Below w.heap.size w w' := by
 unfold decB at h
 split at h
 ·rename_i x y z t hp
  split at h
  ·rename_i hk
   injection h with h
   injection h with h1 h
   injection h with h2 h
   injection h with h3 h4
   subst h1 h2 h3 h4
   obtain rfl : p = ⟨#[x, y, z, t]⟩ := ba_ext hp
   exact RefDecode_ok x y z t w hk
  ·cases h
 ·cases h
theorem RefDec_none (p : ByteArray) (h : decB p.data.toList = none) (w : World) : Calls Tryz.prog 53 #[.string p] w fun e w' => e = .returned (.tuple #[.agg #[.int .i64 0, .int .i64 0, .int .i64 0, .int .i64 0], .bool false]) ∧ Below w.heap.size w w' := by
 by_cases h4 : p.size = 4
 ·obtain ⟨x, y, z, t, rfl⟩ := size4 h4
  unfold decB at h
  simp only at h
  cases hk : decOk x y z t with
  | true => rw [hk] at h; cases h
  | false => exact RefDecode_no x y z t w hk
 ·exact RefDecode_short p (beq_false_of_ne (by omega)) w
theorem dgB_len (b : UInt8) : (dgB b).length ≤ 21 := by
 have := b.toNat_lt
 have := Lib.itoa_length_le (b.toNat : Int) (by omega) (by omega)
 unfold dgB; omega
theorem refDisassemble_is (code : ByteArray) (hs : code.size ≤ 400000) (w : World) : Calls Tryz.prog 25 #[.string code] w fun e w' => e = .returned (.string ⟨(disB code.data.toList).toArray⟩) ∧ Below w.heap.size w w' := by
 have hmax : IntKind.i64.max = 9223372036854775807 := by decide
 have HMX := Lib.hid hmax
 clear hmax
 have hL : Kn [] w w [] := Kn.refl [] w; have hF := hL.fx; go_enter Tryz.func25, Tryz.ntmps25
 go_wp2
 go_loopw [3, 4] (fun o v wr => ∃ (i : Nat) (zz : ByteArray), o = .string zz ∧ v = .int .i64 (4 * i : Nat) ∧ Hid (zz.data.toList ++ disB (code.data.toList.drop (4 * i)) = disB code.data.toList) ∧ zz.size ≤ 201 * i ∧ 4 * i ≤ code.size + 3 ∧ Kn [] w wr []) (fun _ v _ => code.size + 4 - (intOf v).toNat)
 case atStart => exact ⟨0, ⟨#[]⟩, rfl, rfl, Lib.hid rfl, Nat.le_refl _, Nat.zero_le _, hL⟩
 case round =>
  clear hL
  clear hF
  obtain ⟨i, zz, rfl, rfl, HO, hzl, hi, hL⟩ := hrel
  have hF := hL.fx
  by_cases hlt : 4 * i < code.size
  ·obtain ⟨p, hp⟩ : ∃ p : ByteArray, code.extract (4 * i) (min (4 * (i : Int) + 4) (code.size : Int)).toNat = p := ⟨_, rfl⟩
   have hpl : p.data.toList = (code.data.toList.drop (4 * i)).take 4 := by
    rw [← hp]
    have := szl code
    simp only [ByteArray.data_extract, Array.toList_extract, List.extract_eq_take_drop]
    rcases Nat.lt_or_ge (4 * i + 4) code.size with h | h
    ·rw [show (min (4 * (i : Int) + 4) (code.size : Int)).toNat - 4 * i = 4 by omega]
    ·rw [List.take_of_length_le (by rw [List.length_drop]; omega), List.take_of_length_le (by rw [List.length_drop]; omega)]
   have HPL := Lib.hid hpl
   have hne : code.data.toList.drop (4 * i) ≠ [] := by
    intro h0
    have := congrArg List.length h0
    rw [List.length_drop, szl] at this
    simp at this; omega
   have HS := Lib.hid (disB_step hne)
   have hp4 : p.size ≤ 4 := by rw [← szl, hpl, List.length_take]; omega
   have hm1 : min code.size (4 * i + 4) ≤ code.size := Nat.min_le_left _ _
   have hm2 : 4 * i ≤ min code.size (4 * i + 4) := by omega
   have HLB := Lib.hid (lineB_len p.data.toList (by rw [szl]; exact hp4))
   clear hne
   cases hd : decB p.data.toList with
   | some z =>
    obtain ⟨op, a, b, c⟩ := z
    have HLN := Lib.hid (show lineB p.data.toList = (printS op a b c).data.toList from by
     obtain ⟨b1, b2, b3, b4⟩ := OO_back.ok p.data.toList op a b c hd
     have hv : valid op a b c = true := b3
     rw [printS_line hv op rfl]
     unfold lineB
     rw [hd])
    have HDC := Lib.hid (fun W => RefDec_some p op a b c hd W)
    have HPR := Lib.hid (fun W => refPrint_any (op : Int) a b c W)
    obtain ⟨pr, hpr⟩ : ∃ pr, printS op a b c = pr := ⟨_, rfl⟩
    rw [hpr] at HLN HPR
    have hps : pr.size ≤ 200 := by rw [← szl, ← HLN.out]; exact HLB.out
    obtain ⟨z1, ez1⟩ : ∃ x, zz ++ pr = x := ⟨_, rfl⟩
    have hz1 : z1.size = zz.size + pr.size := by rw [← ez1, ByteArray.size_append]
    have m1 : ¬ IntKind.i64.max < ((zz.size + pr.size : Nat) : Int) := by rw [HMX.out]; omega
    have m2 : ¬ IntKind.i64.max < ((z1.size + (⟨#[10]⟩ : ByteArray).size : Nat) : Int) := by rw [HMX.out, show (⟨#[10]⟩ : ByteArray).size = 1 from rfl]; omega
    clear hd hpl hpr
    go_wp2_with (first | (go_at_call 53; refine kc (fun W hL => HDC.out _) ?_; clear hF hL; intro W hL hF) | (go_at_call 54; refine kc (fun W hL => HPR.out _) ?_; clear hF hL; intro W hL hF))
    go_roundw
    case measure => simp [intOf]; omega
    case rel => exact ⟨i + 1, z1 ++ ⟨#[10]⟩, by (rfl), by rw [show 4 * (i : Int) + 4 = ((4 * (i + 1) : Nat) : Int) by omega], Lib.hid (by rw [← HO.out, HS.out, ← HPL.out, HLN.out, cat_list, ← ez1, cat_list, List.drop_drop, show 4 * (i + 1) = 4 * i + 4 from rfl]; simp), by rw [ByteArray.size_append, hz1, show (⟨#[10]⟩ : ByteArray).size = 1 from rfl]; omega, by omega, Kn.sub kn_here (List.nil_sublist _)⟩
   | none =>
    have HLN := Lib.hid (show lineB p.data.toList = dByte ++ 32 :: joinC (p.data.toList.map dgB) from by
     unfold lineB; rw [hd]
     simp only
     unfold printed
     rw [if_neg (by
      intro h
      have := congrArg List.length h
      rw [List.length_map, hpl, List.length_take, List.length_drop, szl] at this
      simp at this; omega)]
     rfl)
    have HDC := Lib.hid (fun W => RefDec_none p hd W)
    obtain ⟨z1, ez1⟩ : ∃ x, zz ++ ⟨#[46, 98, 121, 116, 101, 32]⟩ = x := ⟨_, rfl⟩
    have hz1 : z1.size = zz.size + 6 := by rw [← ez1, ByteArray.size_append]; rfl
    have m1 : ¬ IntKind.i64.max < ((zz.size + (⟨#[46, 98, 121, 116, 101, 32]⟩ : ByteArray).size : Nat) : Int) := by rw [HMX.out, show (⟨#[46, 98, 121, 116, 101, 32]⟩ : ByteArray).size = 6 from rfl]; omega
    clear hd hpl
    go_wp2_with ((go_at_call 53; refine kc (fun W hL => HDC.out _) ?_; clear hF hL; intro W hL hF))
    go_loopw [3, 8] (fun o v wr2 => ∃ (k : Nat) (y : ByteArray), k ≤ p.size ∧ o = .string y ∧ v = .int .i64 k ∧ y.size ≤ z1.size + 23 * k ∧ Hid (y.data.toList = z1.data.toList ++ joinC ((p.data.toList.take k).map dgB)) ∧ Kn [] w wr2 []) (fun _ v _ => p.size - (intOf v).toNat)
    case atStart => exact ⟨0, z1, by omega, rfl, rfl, by omega, Lib.hid (by simp [joinC]), Kn.sub kn_here (List.nil_sublist _)⟩
    case round =>
     clear hL
     clear hF
     obtain ⟨k, y, hk, rfl, rfl, hyl, HY, hL⟩ := hrel
     have hF := hL.fx
     by_cases hlt2 : k < p.size
     ·obtain ⟨c0, hc0⟩ : ∃ c, p.data.toList[k]? = some c := ⟨_, List.getElem?_eq_getElem (by rw [szl]; omega)⟩
      have eb0 := byte_at hc0 (by omega)
      have hb := c0.toNat_lt
      obtain ⟨d, hd⟩ := ba_of (dgB c0)
      have hdl := dgB_len c0
      rw [← hd, szl] at hdl
      have HDE := Lib.hid (fun W => (refDecimal_any (c0.toNat : Int) (by omega) W).mono (R' := fun e w' => e = .returned (.string d) ∧ Below W.heap.size W w') fun e w' h => ⟨by rw [h.1]; congr 2; apply ba_ext; rw [hd]; rfl, h.2⟩)
      have hw0 : wrap64 ((c0.toNat : Int)) = (c0.toNat : Int) := IntWalk.wrap64_in _ (by omega)
      have HD := Lib.hid hd
      clear hd
      rcases Nat.eq_zero_or_pos k with hk0 | hk0
      ·subst hk0
       have m2 : ¬ IntKind.i64.max < ((y.size + d.size : Nat) : Int) := by rw [HMX.out]; omega
       have HNX := Lib.hid (show (y ++ d).data.toList = z1.data.toList ++ joinC ((p.data.toList.take (0 + 1)).map dgB) from by
        rw [cat_list, HY.out, List.take_add_one, hc0, HD.out]; simp [joinC])
       go_wp2_with ((go_at_call 55; refine kc (fun W hL => HDE.out _) ?_; clear hF hL; intro W hL hF))
       go_roundw
       case measure => simp [intOf]; omega
       case rel => exact ⟨0 + 1, y ++ d, by omega, by (rfl), by go_num, by rw [ByteArray.size_append]; omega, HNX, hL⟩
      ·have q1 : decide ((0 : Int) < (k : Int)) = true := decide_eq_true (by omega)
       have q2 : decide (0 < k) = true := decide_eq_true hk0
       obtain ⟨y1, ey1⟩ : ∃ x, y ++ ⟨#[44, 32]⟩ = x := ⟨_, rfl⟩
       have hy1 : y1.size = y.size + 2 := by rw [← ey1, ByteArray.size_append]; rfl
       have m2 : ¬ IntKind.i64.max < ((y.size + (⟨#[44, 32]⟩ : ByteArray).size : Nat) : Int) := by rw [HMX.out, show (⟨#[44, 32]⟩ : ByteArray).size = 2 from rfl]; omega
       have m3 : ¬ IntKind.i64.max < ((y1.size + d.size : Nat) : Int) := by rw [HMX.out]; omega
       have HNX := Lib.hid (show (y1 ++ d).data.toList = z1.data.toList ++ joinC ((p.data.toList.take (k + 1)).map dgB) from by
        rw [cat_list, ← ey1, cat_list, HY.out, List.take_add_one, hc0, HD.out, Option.toList_some, List.map_append, List.map_singleton, joinC_snoc, if_neg (by
         intro h
         have := congrArg List.length h
         rw [List.length_map, List.length_take, szl] at this
         have h9 : min k p.size = 0 := this
         omega)]
        simp)
       go_wp2_with ((go_at_call 55; refine kc (fun W hL => HDE.out _) ?_; clear hF hL; intro W hL hF))
       go_roundw
       case measure => (show p.size - ((k : Int) + 1).toNat < p.size - ((k : Int)).toNat; omega)
       case rel => exact ⟨k + 1, y1 ++ d, by omega, by (rfl), by go_num, by rw [ByteArray.size_append]; omega, HNX, hL⟩
     ·obtain rfl : k = p.size := by omega
      have HY2 := Lib.hid (show y.data.toList ++ [10] = zz.data.toList ++ lineB p.data.toList ++ [10] from by
       rw [HY.out, HLN.out, List.take_of_length_le (by rw [szl]; omega), ← ez1, cat_list]; simp [dByte])
      have m4 : ¬ IntKind.i64.max < ((y.size + (⟨#[10]⟩ : ByteArray).size : Nat) : Int) := by rw [HMX.out, show (⟨#[10]⟩ : ByteArray).size = 1 from rfl]; omega
      go_wp2
      go_roundw
      case measure => simp [intOf]; omega
      case rel => exact ⟨i + 1, y ++ ⟨#[10]⟩, by (rfl), by rw [show 4 * (i : Int) + 4 = ((4 * (i + 1) : Nat) : Int) by omega], Lib.hid (by rw [← HO.out, HS.out, ← HPL.out, cat_list, show (⟨#[10]⟩ : ByteArray).data.toList = [10] from rfl, HY2.out, List.drop_drop, show 4 * (i + 1) = 4 * i + 4 from rfl]; simp), by rw [ByteArray.size_append, show (⟨#[10]⟩ : ByteArray).size = 1 from rfl]; omega, by omega, hL⟩
  ·have HF := Lib.hid (show zz = ⟨(disB code.data.toList).toArray⟩ from ba_ext (by
    have := HO.out
    rw [List.drop_of_length_le (by rw [szl]; omega)] at this
    rw [← this]; simp [disB, chunks]))
   go_wp2
   refine bodyPost_ret (by simp [results, Tryz.results25, go_sem, *]; try rfl) rfl ?_
   exact ⟨by rw [HF.out], kn_here.below0⟩
theorem tells_long (src code name : ByteArray) (h : 2000 < src.size ∨ 2000 < code.size ∨ 100 < name.size) (w : World) (hT : TabA w) : Calls Tryz.prog 6 #[.string src, .string code, .string name] w fun e w' => e = .returned (.bool true) ∧ Below w.heap.size w w' := by
 have HSM := Lib.hid (fun W (h : TabA W) => small_is W h)
 obtain ⟨k1, hk1⟩ : ∃ k, decide ((2000 : Int) < (src.size : Int)) = k := ⟨_, rfl⟩
 obtain ⟨k2, hk2⟩ : ∃ k, decide ((2000 : Int) < (code.size : Int)) = k := ⟨_, rfl⟩
 obtain ⟨k3, hk3⟩ : ∃ k, decide ((100 : Int) < (name.size : Int)) = k := ⟨_, rfl⟩
 have l1 : decide (2000 < src.size) = k1 := by rw [← hk1]; exact decide_eq_decide.2 (by omega)
 have l2 : decide (2000 < code.size) = k2 := by rw [← hk2]; exact decide_eq_decide.2 (by omega)
 have l3 : decide (100 < name.size) = k3 := by rw [← hk3]; exact decide_eq_decide.2 (by omega)
 have hk : k1 = true ∨ k2 = true ∨ k3 = true := by
  rcases h with h | h | h
  ·left; rw [← l1]; exact decide_eq_true h
  ·right; left; rw [← l2]; exact decide_eq_true h
  ·right; right; rw [← l3]; exact decide_eq_true h
 clear h
 cases k1 <;> cases k2 <;> cases k3 <;> (first | (exfalso; revert hk; decide) | (
  clear hk
  have hL : Kn [] w w [] := Kn.refl [] w; have hF := hL.fx; go_enter Tryz.func6, Tryz.ntmps6
  go_wp2_with ((go_at_call 8; refine kc (fun W hL => HSM.out _ (hT.kn hL (by simp))) ?_; clear hF hL; intro W hL hF))
  refine bodyPost_ret (by simp [results, Tryz.results6, go_sem, *]; try rfl) rfl ?_
  exact ⟨rfl, hL.below0⟩))
theorem call_same (s : ByteArray) : ∃ (cn : Int) (cb : Bool), (∀ W, TabA W → Calls Tryz.prog 22 #[.string s] W fun e w' => e = .returned (.tuple #[.int .i64 cn, .bool cb]) ∧ Below W.heap.size W w') ∧ ∀ W, Calls Tryz.prog 23 #[.string s] W fun e w' => e = .returned (.tuple #[.int .i64 cn, .bool cb]) ∧ Below W.heap.size W w' := by
 refine ⟨callI s + 1, decide (0 ≤ callI s), fun W h => Call_is s W h, fun W => (refCall_is s W).mono fun e w' h => ⟨?_, h.2⟩⟩
 rw [h.1]
 unfold callB
 rw [toList_mk]
 by_cases h0 : 0 ≤ callI s
 ·rw [if_pos h0, decide_eq_true h0]
  simp only
  rw [show (((callI s).toNat + 1 : Nat) : Int) = callI s + 1 by omega]
 ·have h1 : callI s = -1 := by
   have := (callI_lt s).1
   omega
  rw [if_neg h0, decide_eq_false h0, h1]
  rfl
theorem tells_some (src code name : ByteArray) (h1 : src.size ≤ 2000) (h2 : code.size ≤ 2000) (h3 : name.size ≤ 100) (w : World) (hT : TabA w) : Calls Tryz.prog 6 #[.string src, .string code, .string name] w fun e w' => e = .returned (.bool true) ∧ Below w.heap.size w w' := by
 have HSM := Lib.hid (fun W (h : TabA W) => small_is W h)
 obtain ⟨cn, cb, hca, hrc⟩ := call_same name
 have HCA := Lib.hid hca
 have HRC := Lib.hid hrc
 obtain ⟨dis, hdis⟩ : ∃ d : ByteArray, d = ⟨(disB code.data.toList).toArray⟩ := ⟨_, rfl⟩
 have HDI := Lib.hid (fun W (h : TabA W) => by have := Disassemble_is code (by omega) W h; rw [← hdis] at this; exact this)
 have HRD := Lib.hid (fun W => by have := refDisassemble_is code (by omega) W; rw [← hdis] at this; exact this)
 obtain ⟨ac, ae, al, has, hra⟩ : ∃ (ac : ByteArray) (ae al : Int), (∀ W, TabA W → Calls Tryz.prog 11 #[.string src] W fun e w' => e = .returned (.tuple #[.string ac, .int .i64 ae, .int .i64 al]) ∧ Below W.heap.size W w') ∧ ∀ W, Calls Tryz.prog 21 #[.string src] W fun e w' => e = .returned (.tuple #[.string ac, .int .i64 ae, .int .i64 al]) ∧ Below W.heap.size W w' := by
  have ha := fun W (h : TabA W) => Assemble_is (Lib.hid iany) src (by omega) W h
  have hr := fun W => refAssemble_is src h1 W
  cases hA : asm OO (linesB src.data.toList) with
  | ok c =>
   rw [hA] at ha hr
   exact ⟨_, _, _, fun W h => (ha W h).mono fun e w' h => ⟨h.2, h.1⟩, fun W => (hr W).mono fun e w' h => ⟨h.2, h.1⟩⟩
  | bad m k =>
   rw [hA] at ha hr
   exact ⟨_, _, _, fun W h => (ha W h).mono fun e w' h => ⟨h.2, h.1⟩, fun W => (hr W).mono fun e w' h => ⟨h.2, h.1⟩⟩
 have HAS := Lib.hid has
 have HRA := Lib.hid hra
 clear hca hrc has hra hdis
 have k1 : decide ((2000 : Int) < (src.size : Int)) = false := decide_eq_false (by omega)
 have k2 : decide ((2000 : Int) < (code.size : Int)) = false := decide_eq_false (by omega)
 have k3 : decide ((100 : Int) < (name.size : Int)) = false := decide_eq_false (by omega)
 have l1 : decide (2000 < src.size) = false := decide_eq_false (by omega)
 have l2 : decide (2000 < code.size) = false := decide_eq_false (by omega)
 have l3 : decide (100 < name.size) = false := decide_eq_false (by omega)
 have hL : Kn [] w w [] := Kn.refl [] w; have hF := hL.fx; go_enter Tryz.func6, Tryz.ntmps6
 go_wp2_with (first | (go_at_call 8; refine kc (fun W hL => HSM.out _ (hT.kn hL (by simp))) ?_; clear hF hL; intro W hL hF) | (go_at_call 11; refine kc (fun W hL => HAS.out _ (hT.kn hL (by simp))) ?_; clear hF hL; intro W hL hF) | (go_at_call 21; refine kc (fun W hL => HRA.out _) ?_; clear hF hL; intro W hL hF) | (go_at_call 22; refine kc (fun W hL => HCA.out _ (hT.kn hL (by simp))) ?_; clear hF hL; intro W hL hF) | (go_at_call 23; refine kc (fun W hL => HRC.out _) ?_; clear hF hL; intro W hL hF) | (go_at_call 24; refine kc (fun W hL => HDI.out _ (hT.kn hL (by simp))) ?_; clear hF hL; intro W hL hF) | (go_at_call 25; refine kc (fun W hL => HRD.out _) ?_; clear hF hL; intro W hL hF))
 refine bodyPost_ret (by simp [results, Tryz.results6, go_sem, *]; try rfl) rfl ?_
 exact ⟨rfl, hL.below0⟩
theorem tells_any (src code name : ByteArray) (w : World) (hT : TabA w) : Calls Tryz.prog 6 #[.string src, .string code, .string name] w fun e w' => e = .returned (.bool true) ∧ Below w.heap.size w w' := by
 by_cases h : 2000 < src.size ∨ 2000 < code.size ∨ 100 < name.size
 ·exact tells_long src code name h w hT
 ·exact tells_some src code name (by omega) (by omega) (by omega) w hT
end Go.Proofs.YtfdlifhkeicnnaaGreatDoor
