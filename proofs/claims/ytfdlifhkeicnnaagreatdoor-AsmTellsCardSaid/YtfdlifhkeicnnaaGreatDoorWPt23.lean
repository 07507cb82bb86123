/- Lemmas and walks for the law LawTells (part 23). -/
import Derived.Test.YtfdlifhkeicnnaaGreatDoorWPt22
import Derived.Test.YtfdlifhkeicnnaaGreatDoorProg
import Derived.WalkKit
import Derived.Handy
import Derived.Deep.Light
import Derived.WalkSmall
import Derived.StillTailTactics
import Derived.Lib.Hide
import Derived.Laws.Runes
import Derived.Deep.LoopGhost
import Derived.Lib.ItoaLen
import Derived.Lib.Join
set_option maxRecDepth 20000
set_option maxHeartbeats 4000000
set_option linter.unusedVariables false
set_option linter.unusedSimpArgs false
namespace Go.Proofs.YtfdlifhkeicnnaaGreatDoor
open Go Go.RowKit
theorem decode_hi (s : ByteArray) (i : Nat) (hi : i < s.size) (hb : 128 ≤ (s.get! i).toNat) :
    128 ≤ (Utf8.decode s i).1 ∧ 1 ≤ (Utf8.decode s i).2 ∧ i + (Utf8.decode s i).2 ≤ s.size ∧ ∀ k, k < (Utf8.decode s i).2 → 128 ≤ (s.get! (i + k)).toNat := by
  have one : ∀ k, k < 1 → 128 ≤ (s.get! (i + k)).toNat := fun k hk => by obtain rfl : k = 0 := by omega
                                                                         simpa using hb
  have hr : 128 ≤ Utf8.runeError := by unfold Utf8.runeError; omega
  unfold Utf8.decode
  simp only [Nat.add_zero]
  rw [if_neg (by omega)]
  split
  · rename_i h
    simp only [Bool.and_eq_true, decide_eq_true_eq, beq_iff_eq] at h
    split
    · refine ⟨by assumption, by simp, by simp only; omega, fun k hk => ?_⟩
      simp only at hk
      have : k = 0 ∨ k = 1 := by omega
      rcases this with rfl | rfl
      · simpa using hb
      · omega
    · exact ⟨hr, by simp, by simp only; omega, one⟩
  · split
    · rename_i h
      simp only [Bool.and_eq_true, decide_eq_true_eq, beq_iff_eq] at h
      split
      · rename_i h2
        simp only [Bool.and_eq_true, decide_eq_true_eq, ge_iff_le] at h2
        refine ⟨by simp only; omega, by simp, by simp only; omega, fun k hk => ?_⟩
        simp only at hk
        have : k = 0 ∨ k = 1 ∨ k = 2 := by omega
        rcases this with rfl | rfl | rfl
        · simpa using hb
        · omega
        · omega
      · exact ⟨hr, by simp, by simp only; omega, one⟩
    · split
      · rename_i h
        simp only [Bool.and_eq_true, decide_eq_true_eq, beq_iff_eq] at h
        split
        · rename_i h2
          simp only [Bool.and_eq_true, decide_eq_true_eq, ge_iff_le] at h2
          refine ⟨by simp only; omega, by simp, by simp only; omega, fun k hk => ?_⟩
          simp only at hk
          have : k = 0 ∨ k = 1 ∨ k = 2 ∨ k = 3 := by omega
          rcases this with rfl | rfl | rfl | rfl
          · simpa using hb
          · omega
          · omega
          · omega
        · exact ⟨hr, by simp, by simp only; omega, one⟩
      · exact ⟨hr, by simp, by simp only; omega, one⟩
theorem valid_rune (r : Int) (b : Bool) (h : Lib.validRune r = b) (w : World) : Calls Tryz.prog 123 #[.int .i32 r] w fun e w' => e = .returned (.bool b) ∧ w = w' := by
 have := Tryz.utf8_ValidRune r w
 rw [h] at this
 exact this.mono fun e w' h => ⟨h.1, h.2.symm⟩
theorem rune_error (w : World) : Calls Tryz.prog 92 #[.string ⟨#[32, 9]⟩, .int .i32 65533] w fun e w' => e = .returned (.int .i64 (-1)) ∧ Below w.heap.size w w' := by
 have hL : Kn [] w w [] := Kn.refl [] w; have hF := hL.fx; go_enter Tryz.func92, Tryz.ntmps92
 go_wp2
 refine kn_wp ?_; clear hF hL; intro W hL; have hF := hL.fx
 go_loopg [5, 6] 2 (fun n o5 o6 wr => ∃ p : Nat, n = 2 - p ∧ p ≤ 2 ∧ Kn [] w wr [(w.heap.size, .stringIter ⟨#[32, 9]⟩ p)])
 case atStart => exact ⟨0, rfl, by omega, hL⟩
 case round =>
  clear hL
  obtain ⟨p, hp, hp2, hL⟩ := hrel
  have hF := hL.fx
  have hpp : p = 0 ∨ p = 1 ∨ p = 2 := by omega
  rcases hpp with rfl | rfl | rfl
  ·have hnx := next_in (P := Tryz.prog) hL List.mem_cons_self 32 rfl (by decide)
   go_wp2
   go_roundg 1
   case measure => omega
   case rel => exact ⟨1, rfl, by omega, kn_here⟩
  ·have hnx := next_in (P := Tryz.prog) hL List.mem_cons_self 9 rfl (by decide)
   go_wp2
   go_roundg 0
   case measure => omega
   case rel => exact ⟨2, rfl, by omega, kn_here⟩
  ·have hnx := next_out (P := Tryz.prog) hL List.mem_cons_self (by decide)
   go_wp2
   refine bodyPost_ret (by simp [results, Tryz.results92, go_sem, *]; try rfl) rfl ?_
   exact ⟨rfl, hL.below0⟩
theorem rune_bad (r : Int) (h : 128 ≤ r) (he : r ≠ 65533) (hv : Lib.validRune r = false) (w : World) : Calls Tryz.prog 92 #[.string ⟨#[32, 9]⟩, .int .i32 r] w fun e w' => e = .returned (.int .i64 (-1)) ∧ Below w.heap.size w w' := by
 have t1 : (0 : Int) ≤ r := by omega
 have t2 : ¬ r < 128 := by omega
 have t3 : (r == 65533) = false := beq_false_of_ne he
 have HV := Lib.hid (fun W => valid_rune r _ hv W)
 clear he
 have hL : Kn [] w w [] := Kn.refl [] w; have hF := hL.fx; go_enter Tryz.func92, Tryz.ntmps92
 go_wp2_with ((go_at_call 123; (with_reducible refine (HV.out _).mono ?_); rintro e w' ⟨rfl, rfl⟩))
 refine bodyPost_ret (by simp [results, Tryz.results92, go_sem, *]; try rfl) rfl ?_
 exact ⟨rfl, hL.below0⟩
theorem rune_long (r : Int) (h : 128 ≤ r) (he : r ≠ 65533) (hv : Lib.validRune r = true) (u : ByteArray) (hu : Utf8.encode r = u) (m : Nat) (hm : u.size = m) (h3 : 3 ≤ m) (h4 : m ≤ 4) (w : World) : Calls Tryz.prog 92 #[.string ⟨#[32, 9]⟩, .int .i32 r] w fun e w' => e = .returned (.int .i64 (-1)) ∧ Below w.heap.size w w' := by
 have t1 : (0 : Int) ≤ r := by omega
 have t2 : ¬ r < 128 := by omega
 have t3 : (r == 65533) = false := beq_false_of_ne he
 have HV := Lib.hid (fun W => valid_rune r _ hv W)
 have s1 : IntKind.i64.wrap ((m : Int) - 1) = ((m - 1 : Nat) : Int) := by rw [IntWalk.i64_in _ (by omega)]; omega
 have t4 : ¬ ((m - 1 : Nat) : Int) < 2 := by omega
 clear he
 have hL : Kn [] w w [] := Kn.refl [] w; have hF := hL.fx; go_enter Tryz.func92, Tryz.ntmps92
 go_wp2_with ((go_at_call 123; (with_reducible refine (HV.out _).mono ?_); rintro e w' ⟨rfl, rfl⟩))
 go_step3
 go_wp2
 go_loopw [9] (fun o9 wr => o9 = .int .i64 ((m - 1 : Nat) : Int) ∧ Kn [] w wr []) (fun _ _ => 0)
 case atStart => exact ⟨rfl, hL⟩
 case round =>
  clear hL
  obtain ⟨rfl, hL⟩ := hrel
  have hF := hL.fx
  go_wp2
  rw [Exit.noGoto_ret]
  simp only [Exit.inBlock, Exit.then]; refine bodyPost_ret (by simp [results, Tryz.results92, go_sem, *]; try rfl) rfl ?_
  exact ⟨rfl, hL.below0⟩
theorem rune_two (r : Int) (h : 128 ≤ r) (he : r ≠ 65533) (hv : Lib.validRune r = true) (u : ByteArray) (hu : Utf8.encode r = u) (hm : u.size = 2) (c : UInt8) (hc : u.data.toList[1]? = some c) (hc1 : 128 ≤ c.toNat) (w : World) : Calls Tryz.prog 92 #[.string ⟨#[32, 9]⟩, .int .i32 r] w fun e w' => e = .returned (.int .i64 (-1)) ∧ Below w.heap.size w w' := by
 have t1 : (0 : Int) ≤ r := by omega
 have t2 : ¬ r < 128 := by omega
 have t3 : (r == 65533) = false := beq_false_of_ne he
 have HV := Lib.hid (fun W => valid_rune r _ hv W)
 have eb := byte_at hc (by omega)
 have HI := Lib.hid (fun W => (Index_any ByteArray.empty c (-1) rfl c.toNat rfl W).mono (P := Tryz.prog) (R' := fun e w' => e = .returned (.int .i64 (-1)) ∧ W = w') (fun e w' h => ⟨h.1, h.2.symm⟩))
 have hne : ((9 : Int) == (c.toNat : Int)) = false := beq_false_of_ne (by omega)
 have hne2 : ((9 : Int) != (c.toNat : Int)) = true := bne_iff_ne.2 (by omega)
 have hex : (⟨#[32, 9]⟩ : ByteArray).extract 2 2 = ByteArray.empty := by decide +kernel
 have hne3 : ((((⟨#[32, 9]⟩ : ByteArray)[1]'(by decide)).toNat : Int) != (c.toNat : Int)) = true := hne2
 clear he
 have hL : Kn [] w w [] := Kn.refl [] w; have hF := hL.fx; go_enter Tryz.func92, Tryz.ntmps92
 go_wp2_with ((go_at_call 123; (with_reducible refine (HV.out _).mono ?_); rintro e w' ⟨rfl, rfl⟩))
 go_step3
 go_wp2
 go_loopw [9] (fun o9 wr => o9 = .int .i64 1 ∧ Kn [] w wr []) (fun _ _ => 0)
 case atStart => exact ⟨rfl, hL⟩
 case round =>
  clear hL
  obtain ⟨rfl, hL⟩ := hrel
  have hF := hL.fx
  go_wp2_with (first | ((with_reducible refine ks ?_); clear hL; intro W hL hF) | ((with_reducible refine at_region 6 ?_); refine kW [0, 1, 2, 3, 4, 5, 6] [0, 1, 2, 3, 4, 5, 6] [] [0, 1, 2, 3, 4, 5, 6] ?_; clear hL; intro ι F hne hC hG; (repeat ((refine cS ?_))); refine cwk_nil ?_; clear hC hG; intro W hL; have hF := hL.facts) | ((with_reducible refine at_region 7 ?_); refine kW [0, 1, 2, 3, 4, 5, 6, 7, 8] [0, 1, 2, 3, 4, 5, 6, 8] [7] [0, 1, 2, 3, 4, 5, 6, 8] ?_; clear hL; intro ι F hne hC hG; (repeat (first | (refine cS ?_) | (refine cF hC ?_; intro K hK; go_big_quiet_op; go_big_quiet_on) | (refine cP ?_; intro K hK; go_big_quiet_op; go_big_quiet_on) | (refine cC ?_; intro W hL; have hF := hL.facts; simp only [ka, Act.eval]; go_at_call 122; (with_reducible refine (HI.out _).mono ?_); rintro e W' ⟨rfl, rfl⟩; refine kb ?_; clear hL hC hG; intro ι F hne hC hG) | (refine cN ?_; intro W hL; have hF := hL.facts; go_wp2; refine kb2 ?_; clear hL hC hG; intro ι F hne hC hG))); refine cwk_nil ?_; clear hC hG; intro W hL; have hF := hL.facts))
  go_step3
  go_wp2_with (first | ((with_reducible refine ks ?_); clear hL; intro W hL hF) | ((with_reducible refine at_region 6 ?_); refine kW [0, 1, 2, 3, 4, 5, 6] [0, 1, 2, 3, 4, 5, 6] [] [0, 1, 2, 3, 4, 5, 6] ?_; clear hF hL; intro ι F hne hC hG; (repeat ((refine cP ?_; intro K hK; go_big_quiet_op; go_big_quiet_on))); refine cwk_nil ?_; clear hC hG; intro W hL; have hF := hL.fx) | ((with_reducible refine at_region 7 ?_); refine kW [0, 1, 2, 3, 4, 5, 6, 7, 8] [0, 1, 2, 3, 4, 5, 6, 8] [7] [0, 1, 2, 3, 4, 5, 6, 8] ?_; clear hF hL; intro ι F hne hC hG; (repeat (first | (refine cS ?_) | (refine cF hC ?_; intro K hK; go_big_quiet_op; go_big_quiet_on) | (refine cP ?_; intro K hK; go_big_quiet_op; go_big_quiet_on) | (refine cC ?_; intro W hL; have hF := hL.fx; simp only [ka, Act.eval]; go_at_call 122; (with_reducible refine (HI.out _).mono ?_); rintro e W' ⟨rfl, rfl⟩; refine kb ?_; clear hL hF hC hG; intro ι F hne hC hG; simp only [Act.put, kT]) | (refine cN ?_; intro W hL; have hF := hL.facts; go_wp2; refine kb2 ?_; clear hL hC hG; intro ι F hne hC hG))); refine cwk_nil ?_; clear hC hG; intro W hL; have hF := hL.fx))
  rw [Exit.noGoto_ret]
  simp only [Exit.inBlock]
  change Exit.noGoto _ Exit.ret _ _
  rw [Exit.noGoto_ret]
  simp only [Exit.inBlock, Exit.then]
  rw [Exit.noGoto_ret]
  simp only [Exit.inBlock, Exit.then]; refine bodyPost_ret (by simp [results, Tryz.results92, go_sem, *]; try rfl) rfl ?_
  exact ⟨rfl, hL.below0⟩
theorem rune_high (r : Int) (h : 128 ≤ r) (h2 : r ≤ 2147483647) (w : World) : Calls Tryz.prog 92 #[.string ⟨#[32, 9]⟩, .int .i32 r] w fun e w' => e = .returned (.int .i64 (-1)) ∧ Below w.heap.size w w' := by
 by_cases he : r = 65533
 ·subst he; exact rune_error w
 ·cases hv : Lib.validRune r with
  | false => exact rune_bad r h he hv w
  | true =>
   have hv2 : Utf8.valid r = true := by
    unfold Lib.validRune at hv
    unfold Utf8.valid
    simp only [decide_eq_true_eq] at hv
    simp only [Bool.or_eq_true, Bool.and_eq_true, decide_eq_true_eq]
    omega
   obtain ⟨f1, f2, f3⟩ := encode_facts r hv2 h
   by_cases hm : (Utf8.encode r).size = 2
   ·obtain ⟨c, hc⟩ : ∃ c, (Utf8.encode r).data.toList[1]? = some c := ⟨_, List.getElem?_eq_getElem (by rw [szl]; omega)⟩
    refine rune_two r h he hv _ rfl hm c hc ?_ w
    have h5 := f3 (by omega)
    have eb := byte_at hc (by omega)
    have e1 : (Utf8.encode r)[(Utf8.encode r).size - 1]'(by omega) = c := by
     rw [← eb]; congr 1; omega
    rw [e1] at h5; exact h5
   ·exact rune_long r h he hv _ rfl _ rfl (by omega) f2 w
theorem any_short (s : ByteArray) (h8 : s.size ≤ 8) (w : World) : Calls Tryz.prog 60 #[.string s, .string ⟨#[32, 9]⟩] w fun e w' => e = .returned (.int .i64 (Lib.indexAny s.data.toList [32, 9])) ∧ Below w.heap.size w w' := by
 have h8z : decide ((8 : Int) < (s.size : Int)) = false := decide_eq_false (by omega)
 obtain ⟨V, hV⟩ : ∃ V, Lib.indexAny s.data.toList [32, 9] = V := ⟨_, rfl⟩
 have HV := Lib.hid hV
 rw [hV]
 clear hV
 have h8b : ¬ (8 : Int) < (s.size : Int) := by omega
 have hL : Kn [] w w [] := Kn.refl [] w; have hF := hL.fx; go_enter Tryz.func60, Tryz.ntmps60
 go_wp2
 refine kn_wp ?_; clear hF hL; intro W hL; have hF := hL.fx
 go_loopg [9, 10] s.size (fun n o9 o10 wr => ∃ p : Nat, Hid (n = s.size - p) ∧ p ≤ s.size ∧ Hid (Lib.NoAny s.data.toList [32, 9] p) ∧ Kn [] w wr [(w.heap.size, .stringIter s p)])
 case atStart => exact ⟨0, Lib.hid rfl, by omega, Lib.hid (Lib.NoAny.zero _ _), hL⟩
 case round =>
  clear hL
  obtain ⟨p, HP, hp, HN, hL⟩ := hrel
  have hF := hL.fx
  by_cases hlt : p < s.size
  ·obtain ⟨c, hc⟩ : ∃ c, s.data.toList[p]? = some c := ⟨_, List.getElem?_eq_getElem (by rw [szl]; exact hlt)⟩
   have eb := byte_at hc hlt
   have hget : s.get! p = c := by
    have : s.get! p = s[p]'hlt := by simp [ByteArray.get!, hlt, getElem!_def]; rfl
    rw [this, eb]
   by_cases hlow : c.toNat < 128
   ·have hnx := fun ty => Lib.run_next_ascii_at (P := Tryz.prog) wr w.heap.size s p ty (hL.has _ List.mem_cons_self) hlt (by rw [eb]; exact hlow)
    rw [eb] at hnx
    have HI := Lib.hid (fun W => (Tryz.strings_IndexRune_ascii ⟨#[32, 9]⟩ (c.toNat : Int) W (by omega) (by omega)).mono (P := Tryz.prog) (R' := fun e w' => e = .returned (.int .i64 (Lib.indexByte [32, 9] c)) ∧ W = w') (fun e w' h => ⟨by rw [h.1]; simp, h.2.symm⟩))
    have hb := blank_contains c
    have hci := Lib.contains_iff_indexByte [32, 9] c
    cases hbl : blank c with
    | true =>
     rw [hbl] at hb
     rw [hb] at hci
     have hge : (0 : Int) ≤ Lib.indexByte [32, 9] c := of_decide_eq_true hci.symm
     have HVV := Lib.hid (HV.out.symm.trans (Lib.indexAny_hit HN.out hc hb))
     clear hci hb hbl
     go_wp2_with ((go_at_call 92; (with_reducible refine (HI.out _).mono ?_); rintro e w' ⟨rfl, rfl⟩))
     refine bodyPost_ret (by simp [results, Tryz.results60, go_sem, *]; try rfl) rfl ?_
     exact ⟨by rw [HVV.out], (kn_here (X := []) (w0 := w)).below0⟩
    | false =>
     rw [hbl] at hb
     rw [hb] at hci
     have hge : ¬ (0 : Int) ≤ Lib.indexByte [32, 9] c := of_decide_eq_false hci.symm
     have HNX := Lib.hid (HN.out.succ hc hb)
     clear hci hb hbl
     go_wp2_with ((go_at_call 92; (with_reducible refine (HI.out _).mono ?_); rintro e w' ⟨rfl, rfl⟩))
     go_roundg (s.size - (p + 1))
     case measure => have := HP.out; omega
     case rel => exact ⟨p + 1, Lib.hid rfl, by omega, HNX, kn_here⟩
   ·obtain ⟨d1, d2, d3, d4⟩ := decode_hi s p hlt (by rw [hget]; omega)
    have d5 := decode_le s p
    have hnx := fun ty => Lib.run_next_any_at (P := Tryz.prog) wr w.heap.size s p ty (hL.has _ List.mem_cons_self) hlt
    obtain ⟨r, n, hrn⟩ : ∃ r n, Utf8.decode s p = (r, n) := ⟨_, _, rfl⟩
    rw [hrn] at d1 d2 d3 d4 d5 hnx
    simp only at d1 d2 d3 d4 d5 hnx
    have HI := Lib.hid (fun W => rune_high (r : Int) (by omega) (by omega) W)
    have HNX := Lib.hid (show Lib.NoAny s.data.toList [32, 9] (p + n) from fun j b hj hb => by
     rcases Nat.lt_or_ge j p with h | h
     ·exact HN.out j b h hb
     ·obtain ⟨i, rfl⟩ : ∃ i, j = p + i := ⟨j - p, by omega⟩
      have h1 := d4 i (by omega)
      have h2 : p + i < s.size := by omega
      have h3 : s.get! (p + i) = b := by
       have e1 : s.get! (p + i) = s[p + i]'h2 := by simp [ByteArray.get!, h2, getElem!_def]; rfl
       rw [e1, byte_at hb h2]
      rw [h3] at h1
      rw [blank_contains]
      unfold blank
      have g1 : (b == 32) = false := beq_false_of_ne (fun e => by subst e; revert h1; decide)
      have g2 : (b == 9) = false := beq_false_of_ne (fun e => by subst e; revert h1; decide)
      rw [g1, g2]; rfl)
    clear d1 d4 d5 hrn hget
    go_wp2_with ((go_at_call 92; refine kc (fun W hL => HI.out _) ?_; clear hF hL; intro W hL hF))
    go_roundg (s.size - (p + n))
    case measure => have := HP.out; omega
    case rel => exact ⟨p + n, Lib.hid rfl, by omega, HNX, hL⟩
  ·have hnx := next_out (P := Tryz.prog) hL List.mem_cons_self hlt
   have hpe : p = s.data.toList.length := by rw [szl]; omega
   have HVV := Lib.hid (HV.out.symm.trans (Lib.indexAny_none (by rw [← hpe]; exact HN.out)))
   clear hpe
   go_wp2
   refine bodyPost_ret (by simp [results, Tryz.results60, go_sem, *]; try rfl) rfl ?_
   exact ⟨by rw [HVV.out], hL.below0⟩
theorem iany : IAny := fun s hs w => by
 by_cases h8 : 8 < s.size
 ·exact IndexAny_any s hs (.inl h8) w
 ·exact any_short s (by omega) w
theorem below_growI (w : World) (k : Nat) (os : Array Obj) : Below w.heap.size w (Go.Sort.grow (w.drewN k) os) :=
 ⟨rfl, rfl, rfl, (by show w.heap.size ≤ (w.heap ++ os).size; simp), fun b hb => (by show (w.heap ++ os)[b]? = w.heap[b]?; rw [Array.getElem?_append_left hb])⟩
theorem Itoa_isa (n : Int) (h0 : -9223372036854775808 ≤ n) (h1 : n ≤ 9223372036854775807) (w : World) (hT : TabI w) :
  Calls Tryz.prog 30 #[.int .i64 n] w fun e w' => e = .returned (.string ⟨(Lib.itoa n).toArray⟩) ∧ Below w.heap.size w w' :=
 (Tryz.strconv_Itoa n h0 h1 w hT.2.2.2.2).mono fun e w' ⟨he, k, os, hw⟩ => ⟨he, by rw [hw]; exact below_growI w k os⟩
theorem Decimal_isa (n : Int) (h0 : -9223372036854775808 ≤ n) (h1 : n ≤ 9223372036854775807) (w : World) (hT : TabI w) :
  Calls Tryz.prog 10 #[.int .i64 n] w fun e w' => e = .returned (.string ⟨(Lib.itoa n).toArray⟩) ∧ Below w.heap.size w w' := by
 have hL : Kn [] w w [] := Kn.refl [] w; have hF := hL.fx; go_enter Tryz.func10, Tryz.ntmps10
 go_wp2_with ((go_at_call 30; refine kc (fun W hL => Itoa_isa n h0 h1 _ (hT.ext hL.below0)) ?_; clear hF hL; intro W hL hF))
 refine bodyPost_ret (by simp [results, Tryz.results10, go_sem, *]; try rfl) rfl ?_
 exact ⟨rfl, kn_here.below0⟩
theorem list_0 (op  : Int) (w : World) (hT : TabI w) (hf : form op = 0) :
  Calls Tryz.prog 40 #[.agg #[.int .i64 op, .int .i64 0, .int .i64 0, .int .i64 0]] w fun e w' => ∃ lb, e = .returned (.tuple #[.slice (some ⟨lb, 0, none⟩) 0 3, .bool true]) ∧ Kn [] w w' [(lb, .cells #[.int .i64 0, .int .i64 0, .int .i64 0] 3 (0, 0))] := by
 have hop : w.cell? ⟨0, 0, none⟩ = some (.string ⟨#[]⟩) := hT.2.2.1 0 (by decide)
 have hs0 : 0 < w.heap.size := Nat.lt_of_lt_of_le (by decide) hT.1
 have hL : Kn [] w w [] := Kn.refl [] w; have hF := hL.fx; go_enter Tryz.func40, Tryz.ntmps40
 go_wp2_with ((go_at_call 39; refine kp (fun W hL => Form_any _ _ (hT.ext hL.below0)) ?_; clear hF hL; intro W hL hF))
 refine wp_loop_rounds 4 ?_
 repeat any_goals (rw [rounds_succ]; go_wp2_with ((with_reducible refine ks ?_); clear hL; intro W hL hF))
 refine bodyPost_ret (by simp [results, Tryz.results40, go_sem, *]; try rfl) rfl ?_
 exact ⟨_, rfl, kn_here.sub (List.Sublist.cons_cons _ (List.nil_sublist _))⟩
theorem list_1 (op a : Int) (w : World) (hT : TabI w) (hf : form op = 1) :
  Calls Tryz.prog 40 #[.agg #[.int .i64 op, .int .i64 a, .int .i64 0, .int .i64 0]] w fun e w' => ∃ lb, e = .returned (.tuple #[.slice (some ⟨lb, 0, none⟩) 1 3, .bool true]) ∧ Kn [] w w' [(lb, .cells #[.int .i64 a, .int .i64 0, .int .i64 0] 3 (0, 0))] := by
 have hop : w.cell? ⟨0, 1, none⟩ = some (.string ⟨#[114]⟩) := hT.2.2.1 1 (by decide)
 have hs0 : 0 < w.heap.size := Nat.lt_of_lt_of_le (by decide) hT.1
 have hL : Kn [] w w [] := Kn.refl [] w; have hF := hL.fx; go_enter Tryz.func40, Tryz.ntmps40
 go_wp2_with ((go_at_call 39; refine kp (fun W hL => Form_any _ _ (hT.ext hL.below0)) ?_; clear hF hL; intro W hL hF))
 refine wp_loop_rounds 3 ?_
 repeat any_goals (rw [rounds_succ]; go_wp2_with ((with_reducible refine ks ?_); clear hL; intro W hL hF))
 refine bodyPost_ret (by simp [results, Tryz.results40, go_sem, *]; try rfl) rfl ?_
 exact ⟨_, rfl, kn_here.sub (List.Sublist.cons_cons _ (List.nil_sublist _))⟩
theorem list_2 (op a b : Int) (w : World) (hT : TabI w) (hf : form op = 2) :
  Calls Tryz.prog 40 #[.agg #[.int .i64 op, .int .i64 a, .int .i64 b, .int .i64 0]] w fun e w' => ∃ lb, e = .returned (.tuple #[.slice (some ⟨lb, 0, none⟩) 2 3, .bool true]) ∧ Kn [] w w' [(lb, .cells #[.int .i64 a, .int .i64 b, .int .i64 0] 3 (0, 0))] := by
 have hop : w.cell? ⟨0, 2, none⟩ = some (.string ⟨#[114, 114]⟩) := hT.2.2.1 2 (by decide)
 have hs0 : 0 < w.heap.size := Nat.lt_of_lt_of_le (by decide) hT.1
 have hL : Kn [] w w [] := Kn.refl [] w; have hF := hL.fx; go_enter Tryz.func40, Tryz.ntmps40
 go_wp2_with ((go_at_call 39; refine kp (fun W hL => Form_any _ _ (hT.ext hL.below0)) ?_; clear hF hL; intro W hL hF))
 refine wp_loop_rounds 2 ?_
 repeat any_goals (rw [rounds_succ]; go_wp2_with ((with_reducible refine ks ?_); clear hL; intro W hL hF))
 refine bodyPost_ret (by simp [results, Tryz.results40, go_sem, *]; try rfl) rfl ?_
 exact ⟨_, rfl, kn_here.sub (List.Sublist.cons_cons _ (List.nil_sublist _))⟩
theorem list_3 (op a b c : Int) (w : World) (hT : TabI w) (hf : form op = 3) :
  Calls Tryz.prog 40 #[.agg #[.int .i64 op, .int .i64 a, .int .i64 b, .int .i64 c]] w fun e w' => ∃ lb, e = .returned (.tuple #[.slice (some ⟨lb, 0, none⟩) 3 3, .bool true]) ∧ Kn [] w w' [(lb, .cells #[.int .i64 a, .int .i64 b, .int .i64 c] 3 (0, 0))] := by
 have hop : w.cell? ⟨0, 3, none⟩ = some (.string ⟨#[114, 114, 114]⟩) := hT.2.2.1 3 (by decide)
 have hs0 : 0 < w.heap.size := Nat.lt_of_lt_of_le (by decide) hT.1
 have hL : Kn [] w w [] := Kn.refl [] w; have hF := hL.fx; go_enter Tryz.func40, Tryz.ntmps40
 go_wp2_with ((go_at_call 39; refine kp (fun W hL => Form_any _ _ (hT.ext hL.below0)) ?_; clear hF hL; intro W hL hF))
 refine wp_loop_rounds 1 ?_
 repeat any_goals (rw [rounds_succ]; go_wp2_with ((with_reducible refine ks ?_); clear hL; intro W hL hF))
 refine bodyPost_ret (by simp [results, Tryz.results40, go_sem, *]; try rfl) rfl ?_
 exact ⟨_, rfl, kn_here.sub (List.Sublist.cons_cons _ (List.nil_sublist _))⟩
theorem list_4 (op a b c : Int) (w : World) (hT : TabI w) (hf : form op = 4) :
  Calls Tryz.prog 40 #[.agg #[.int .i64 op, .int .i64 a, .int .i64 b, .int .i64 c]] w fun e w' => ∃ lb, e = .returned (.tuple #[.slice (some ⟨lb, 0, none⟩) 3 3, .bool true]) ∧ Kn [] w w' [(lb, .cells #[.int .i64 a, .int .i64 b, .int .i64 c] 3 (0, 0))] := by
 have hop : w.cell? ⟨0, 4, none⟩ = some (.string ⟨#[114, 114, 111]⟩) := hT.2.2.1 4 (by decide)
 have hs0 : 0 < w.heap.size := Nat.lt_of_lt_of_le (by decide) hT.1
 have hL : Kn [] w w [] := Kn.refl [] w; have hF := hL.fx; go_enter Tryz.func40, Tryz.ntmps40
 go_wp2_with ((go_at_call 39; refine kp (fun W hL => Form_any _ _ (hT.ext hL.below0)) ?_; clear hF hL; intro W hL hF))
 refine wp_loop_rounds 1 ?_
 repeat any_goals (rw [rounds_succ]; go_wp2_with ((with_reducible refine ks ?_); clear hL; intro W hL hF))
 refine bodyPost_ret (by simp [results, Tryz.results40, go_sem, *]; try rfl) rfl ?_
 exact ⟨_, rfl, kn_here.sub (List.Sublist.cons_cons _ (List.nil_sublist _))⟩
theorem list_5 (op a b : Int) (w : World) (hT : TabI w) (hf : form op = 5) :
  Calls Tryz.prog 40 #[.agg #[.int .i64 op, .int .i64 a, .int .i64 b, .int .i64 0]] w fun e w' => ∃ lb, e = .returned (.tuple #[.slice (some ⟨lb, 0, none⟩) 2 3, .bool true]) ∧ Kn [] w w' [(lb, .cells #[.int .i64 a, .int .i64 b, .int .i64 0] 3 (0, 0))] := by
 have hop : w.cell? ⟨0, 5, none⟩ = some (.string ⟨#[114, 110]⟩) := hT.2.2.1 5 (by decide)
 have hs0 : 0 < w.heap.size := Nat.lt_of_lt_of_le (by decide) hT.1
 have hL : Kn [] w w [] := Kn.refl [] w; have hF := hL.fx; go_enter Tryz.func40, Tryz.ntmps40
 go_wp2_with ((go_at_call 39; refine kp (fun W hL => Form_any _ _ (hT.ext hL.below0)) ?_; clear hF hL; intro W hL hF))
 refine wp_loop_rounds 2 ?_
 repeat any_goals (rw [rounds_succ]; go_wp2_with ((with_reducible refine ks ?_); clear hL; intro W hL hF))
 refine bodyPost_ret (by simp [results, Tryz.results40, go_sem, *]; try rfl) rfl ?_
 exact ⟨_, rfl, kn_here.sub (List.Sublist.cons_cons _ (List.nil_sublist _))⟩
theorem list_6 (op b : Int) (w : World) (hT : TabI w) (hf : form op = 6) :
  Calls Tryz.prog 40 #[.agg #[.int .i64 op, .int .i64 0, .int .i64 b, .int .i64 0]] w fun e w' => ∃ lb, e = .returned (.tuple #[.slice (some ⟨lb, 0, none⟩) 1 1, .bool true]) ∧ Kn [] w w' [(lb, .cells #[.int .i64 b] 3 (0, 0))] := by
 have hop : w.cell? ⟨0, 6, none⟩ = some (.string ⟨#[110]⟩) := hT.2.2.1 6 (by decide)
 have hs0 : 0 < w.heap.size := Nat.lt_of_lt_of_le (by decide) hT.1
 have hL : Kn [] w w [] := Kn.refl [] w; have hF := hL.fx; go_enter Tryz.func40, Tryz.ntmps40
 go_wp2_with (first | (go_at_call 39; refine kp (fun W hL => Form_any _ _ (hT.ext hL.below0)) ?_; clear hF hL; intro W hL hF) | ((with_reducible refine at_region 12 ?_); refine kW [0, 1, 3, 4, 5, 6, 7, 8, 9, 10, 2, 11, 12] [0, 1, 3, 4, 5, 6, 7, 8, 9, 10, 11, 12] [] [0, 3, 5, 6, 7, 9, 10, 11, 12] ?_; clear hF hL; intro ι F hne hC hG; (repeat (first | (refine cF hC ?_; intro K hK; go_big_quiet_op; go_big_quiet_on) | (refine cP ?_; intro K hK; go_big_quiet_op; go_big_quiet_on) | (refine cN ?_; intro W hL; have hF := hL.fx; go_wp2; refine ko2 ?_; clear hL hF))); refine cwk_nil ?_; clear hC hG; intro W hL; have hF := hL.fx))
 refine bodyPost_ret (by simp [results, Tryz.results40, go_sem, *]; try rfl) rfl ?_
 exact ⟨_, rfl, kn_here.sub (List.Sublist.cons_cons _ (List.nil_sublist _))⟩
def nameB (op : Int) : ByteArray := namesB.getD op.toNat ByteArray.empty
def regB (n : Int) : ByteArray := (⟨#[114]⟩ : ByteArray) ++ ⟨(Lib.itoa n).toArray⟩
def numI (n : Int) : ByteArray := ⟨(Lib.itoa n).toArray⟩
def joinB (xs : List ByteArray) : ByteArray := ⟨(Lib.join (xs.map (·.data.toList)) [44, 32]).toArray⟩
theorem nameB_size (op : Int) : (nameB op).size ≤ 4 := by
 unfold nameB
 rcases Nat.lt_or_ge op.toNat 32 with h | h
 ·have : ∀ k : Fin 32, (namesB.getD k.val ByteArray.empty).size ≤ 4 := by decide +kernel
  exact this ⟨op.toNat, h⟩
 ·have e : namesB[op.toNat]? = none := List.getElem?_eq_none (by simpa [namesB] using h)
  rw [List.getD_eq_getElem?_getD, e]; decide
theorem join_length (sep : List UInt8) (m : Nat) : ∀ (xs : List (List UInt8)), (∀ x ∈ xs, x.length ≤ m) → (Lib.join xs sep).length ≤ xs.length * (m + sep.length)
 | [], _ => by simp [Lib.join]
 | [x], h => by have := h x (by simp); simp [Lib.join, List.intercalate]; omega
 | x :: y :: r, h => by
  have h1 := h x (by simp)
  have h2 := join_length sep m (y :: r) (fun z hz => h z (List.mem_cons_of_mem _ hz))
  have e : Lib.join (x :: y :: r) sep = x ++ sep ++ Lib.join (y :: r) sep := by simp [Lib.join, List.intercalate, List.intersperse]
  rw [e, List.length_append, List.length_append]
  simp only [List.length_cons, Nat.add_mul] at h2 ⊢
  omega
theorem num_size (n : Int) (h : -9223372036854775808 ≤ n ∧ n ≤ 9223372036854775807) : (numI n).data.toList.length ≤ 22 := by
 have := Lib.itoa_length_le n h.1 h.2; simp [numI]; omega
theorem num_sz (n : Int) (h : -9223372036854775808 ≤ n ∧ n ≤ 9223372036854775807) : (numI n).size ≤ 22 := by
 have := num_size n h
 rw [Array.length_toList] at this
 exact this
theorem reg_size (n : Int) (h : -9223372036854775808 ≤ n ∧ n ≤ 9223372036854775807) : (regB n).data.toList.length ≤ 22 := by
 have := Lib.itoa_length_le n h.1 h.2; simp [regB]; omega
theorem joinB_size {xs : List ByteArray} (h : ∀ x ∈ xs, x.data.toList.length ≤ 22) (h3 : xs.length ≤ 3) : (joinB xs).size ≤ 100 := by
 have := join_length [44, 32] 22 (xs.map (·.data.toList)) (fun x hx => by obtain ⟨y, hy, rfl⟩ := List.mem_map.1 hx; exact h y hy)
 simp only [List.length_map, List.length_cons, List.length_nil] at this
 show (Lib.join (xs.map (·.data.toList)) [44, 32]).toArray.size ≤ 100
 rw [List.size_toArray]
 have := Nat.mul_le_mul_right 24 h3
 omega
theorem join_any (xs : List ByteArray) (n : Nat) (hn : xs.length = n) (hx : ∀ x ∈ xs, x.data.toList.length ≤ 22) (h3 : xs.length ≤ 3) {X : List Nat} {w0 W : World} {L : List (Nat × Obj)} {b : Nat} (h : Kn X w0 W L) (hm : (b, Obj.cells (xs.map Value.string).toArray 9 (0, 0)) ∈ L) :
  Calls Tryz.prog 41 #[.slice (some ⟨b, 0, none⟩) n n, .string ⟨#[44, 32]⟩] W fun e w' => e = .returned (.string (joinB xs)) ∧ Below W.heap.size W w' := by
 subst hn
 have hl := joinB_size hx h3
 have hl2 : (Lib.join (xs.map (·.data.toList)) [44, 32]).length ≤ 100 := by have := hl; simpa [joinB, ByteArray.size] using this
 exact Tryz.strings_Join b 0 xs.length xs ⟨#[44, 32]⟩ W (fun j x hj => by
  have := h.has _ hm
  simp only at this
  simp [World.cell?, this, hj]) (h.lt hm) (by omega) (Nat.le_refl _) (by simpa using Nat.le_trans hl2 (by decide))
end Go.Proofs.YtfdlifhkeicnnaaGreatDoor
