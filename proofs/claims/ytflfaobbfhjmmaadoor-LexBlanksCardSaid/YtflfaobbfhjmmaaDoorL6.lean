import Derived.Test.YtflfaobbfhjmmaaDoorProg
import Derived.WalkKit
import Derived.Handy
import Derived.Deep.Light
import Derived.WalkSmall
import Derived.StillTailTactics
import Derived.Lib.Hide
import Derived.Test.YtflfaobbfhjmmaaDoorT0
import Derived.Test.YtflfaobbfhjmmaaDoorIt
import Derived.Test.YtflfaobbfhjmmaaDoorL5
namespace Go.Proofs.YtflfaobbfhjmmaaDoor
open Go Go.RowKit
set_option linter.unusedSimpArgs false
set_option linter.unusedVariables false

theorem Index_any (s : ByteArray) (c : UInt8) (r : Int) (hr : Lib.indexByte s.data.toList c = r) (n : Int) (hn : (c.toNat : Int) = n) (w : World) :
    Calls Tryd.prog 17 #[.string s, .int .u8 n] w fun x w' => x = .returned (.int .i64 r) ∧ w' = w :=
  (Tryd.strings_IndexByte s n w).mono fun x w' ⟨h1, h2⟩ => ⟨by rw [h1, ← hr, ← hn]; congr 3; simp, h2⟩
theorem all_bytes {p : UInt8 → Bool} (h : ∀ n < 256, p (UInt8.ofNat n) = true) (c : UInt8) : p c = true := by
  have := h c.toNat c.toNat_lt
  simpa using this
theorem spec_ix (c : UInt8) : (decide (0 ≤ Lib.indexByte [48, 49, 50, 51, 52, 53, 54, 55, 56, 57, 35, 63, 36, 33, 64, 42] c) == special c) = true := all_bytes (p := fun c => decide (0 ≤ Lib.indexByte [48, 49, 50, 51, 52, 53, 54, 55, 56, 57, 35, 63, 36, 33, 64, 42] c) == special c) (by decide +kernel) c
theorem ends_ix (c : UInt8) : (decide (Lib.indexByte [32, 9, 10, 124, 38, 59, 40, 41, 60, 62] c < 0) == !ends c) = true := all_bytes (p := fun c => decide (Lib.indexByte [32, 9, 10, 124, 38, 59, 40, 41, 60, 62] c < 0) == !ends c) (by decide +kernel) c
theorem esc_ix (c : UInt8) : (decide (0 ≤ Lib.indexByte [34, 36, 92] c) == esc c) = true := all_bytes (p := fun c => decide (0 ≤ Lib.indexByte [34, 36, 92] c) == esc c) (by decide +kernel) c
set_option maxRecDepth 20000 in
set_option maxHeartbeats 4000000 in
theorem param_is (s : ByteArray) (hs : s.size ≤ 1000000) (w : World) : Calls Tryd.prog 41 #[.string s] w fun e w' => e = .returned (.int .i64 (param s.data.toList)) ∧ Below w.heap.size w w' := by
  obtain ⟨V, hV⟩ : ∃ V, param s.data.toList = V := ⟨_, rfl⟩
  obtain ⟨k, hk⟩ : ∃ k, named s.data.toList = k := ⟨_, rfl⟩
  rw [hV]
  have HV := Lib.hid hV
  have hsl := szl s
  have hN : Hid (∀ W, Calls Tryd.prog 55 #[.string s] W fun e w' => e = .returned (.int .i64 k) ∧ Below W.heap.size W w') := Lib.hid fun W => by rw [← hk]; exact named_is s hs W
  by_cases hk0 : 0 < k
  · have q0 : (k : Int) > 0 := by omega
    have hVk : V = k := by rw [← hV]; unfold param; rw [hk]; cases k with
      | zero => omega
      | succ n => rfl
    clear hV hk
    have hL : Kn [] w w [] := Kn.refl [] w; (try simp only [kfb] at hL); have hF := hL.facts; (try simp only [Facts, Dist, kfa, implies_true, forall_const] at hF); go_enter Tryd.func41, Tryd.ntmps41
    go_wp2_with (first | ((with_reducible refine kn_list_set ?_); (try clear hF); clear hL; intro W hL; (try simp only [kfb] at hL); have hF := hL.facts; (try simp only [Facts, Dist, kfa, implies_true, forall_const] at hF)) | (go_at_call 55; refine kn_calls ?_; (try clear hF); clear hL; intro W hL; (try simp only [kfb] at hL); have hF := hL.facts; (try simp only [Facts, Dist, kfa, implies_true, forall_const] at hF); (((with_reducible refine (hN.out _).mono ?_))); rintro e W ⟨rfl, hb⟩; replace hL := hL.below hb; clear hb; (try clear hF); (try simp only [kfb] at hL); have hF := hL.facts; (try simp only [Facts, Dist, kfa, implies_true, forall_const] at hF)))
    (try simp only [Exit.inBlock, Exit.then]); refine bodyPost_ret (by simp [results, Tryd.results41, go_sem, *]; try rfl) rfl ?_
    exact ⟨by rw [hVk], hL.below0⟩
  · obtain rfl : k = 0 := by omega
    cases hl : s.data.toList with
    | nil =>
      have he : s = ⟨#[]⟩ := by apply ByteArray.ext; apply Array.ext'; simpa using hl
      have q1 : (s == ⟨#[]⟩) = true := by rw [he]; rfl
      have hV0 : V = 0 := by rw [← hV, hl]; rfl
      clear hV hk
      subst he
      have hL : Kn [] w w [] := Kn.refl [] w; (try simp only [kfb] at hL); have hF := hL.facts; (try simp only [Facts, Dist, kfa, implies_true, forall_const] at hF); go_enter Tryd.func41, Tryd.ntmps41
      go_wp2_with (first | ((with_reducible refine kn_list_set ?_); (try clear hF); clear hL; intro W hL; (try simp only [kfb] at hL); have hF := hL.facts; (try simp only [Facts, Dist, kfa, implies_true, forall_const] at hF)) | (go_at_call 55; refine kn_calls ?_; (try clear hF); clear hL; intro W hL; (try simp only [kfb] at hL); have hF := hL.facts; (try simp only [Facts, Dist, kfa, implies_true, forall_const] at hF); (((with_reducible refine (hN.out _).mono ?_))); rintro e W ⟨rfl, hb⟩; replace hL := hL.below hb; clear hb; (try clear hF); (try simp only [kfb] at hL); have hF := hL.facts; (try simp only [Facts, Dist, kfa, implies_true, forall_const] at hF)))
      (try simp only [Exit.inBlock, Exit.then]); refine bodyPost_ret (by simp [results, Tryd.results41, go_sem, *]; try rfl) rfl ?_
      exact ⟨by rw [hV0]; rfl, hL.below0⟩
    | cons c0 tl =>
      have hsz : 0 < s.size := by rw [hl] at hsl; simp at hsl; omega
      have hc0 : s.data.toList[0]? = some c0 := by rw [hl]; rfl
      have eb0 := byte_at hc0 hsz
      have q2 : (s.data.toList == []) = false := by rw [hl]; rfl
      have q3 : s.toList.isEmpty = false := by rw [Lib.toList_data, hl]; rfl
      have q4 : s.data.toList.isEmpty = false := by rw [hl]; rfl
      have q5 : s.data.isEmpty = false := by
        cases h : s.data.isEmpty with
        | false => rfl
        | true => simp at h; simp [h] at hl
      obtain ⟨r, hr⟩ : ∃ r, Lib.indexByte [48, 49, 50, 51, 52, 53, 54, 55, 56, 57, 35, 63, 36, 33, 64, 42] c0 = r := ⟨_, rfl⟩
      have hI : Hid (∀ W, Calls Tryd.prog 17 #[.string ⟨#[48, 49, 50, 51, 52, 53, 54, 55, 56, 57, 35, 63, 36, 33, 64, 42]⟩, .int .u8 c0.toNat] W fun x w' => x = .returned (.int .i64 r) ∧ w' = W) := Lib.hid fun W => Index_any _ c0 r hr _ rfl W
      have hsp := spec_ix c0
      rw [hr] at hsp
      have hVs : V = if special c0 then 1 else 0 := by rw [← hV]; rw [hl] at hk ⊢; unfold param; rw [hk]
      clear hV hk hr hl
      by_cases h0 : 0 ≤ r
      · have q6 : r ≥ 0 := h0
        have hs1 : special c0 = true := by simpa [h0] using hsp
        rw [hs1] at hVs
        clear hsp
        have hL : Kn [] w w [] := Kn.refl [] w; (try simp only [kfb] at hL); have hF := hL.facts; (try simp only [Facts, Dist, kfa, implies_true, forall_const] at hF); go_enter Tryd.func41, Tryd.ntmps41
        go_wp2_with (first | ((with_reducible refine kn_list_set ?_); (try clear hF); clear hL; intro W hL; (try simp only [kfb] at hL); have hF := hL.facts; (try simp only [Facts, Dist, kfa, implies_true, forall_const] at hF)) | (go_at_call 55; refine kn_calls ?_; (try clear hF); clear hL; intro W hL; (try simp only [kfb] at hL); have hF := hL.facts; (try simp only [Facts, Dist, kfa, implies_true, forall_const] at hF); (((with_reducible refine (hN.out _).mono ?_))); rintro e W ⟨rfl, hb⟩; replace hL := hL.below hb; clear hb; (try clear hF); (try simp only [kfb] at hL); have hF := hL.facts; (try simp only [Facts, Dist, kfa, implies_true, forall_const] at hF)) | (go_at_call 17; (((with_reducible refine (hI.out _).mono ?_))); rintro e w' ⟨rfl, rfl⟩))
        (try simp only [Exit.inBlock, Exit.then]); refine bodyPost_ret (by simp [results, Tryd.results41, go_sem, *]; try rfl) rfl ?_
        exact ⟨by rw [hVs]; rfl, hL.below0⟩
      · have q6 : ¬ r ≥ 0 := h0
        have hs1 : special c0 = false := by simpa [h0] using hsp
        rw [hs1] at hVs
        clear hsp
        have hL : Kn [] w w [] := Kn.refl [] w; (try simp only [kfb] at hL); have hF := hL.facts; (try simp only [Facts, Dist, kfa, implies_true, forall_const] at hF); go_enter Tryd.func41, Tryd.ntmps41
        go_wp2_with (first | ((with_reducible refine kn_list_set ?_); (try clear hF); clear hL; intro W hL; (try simp only [kfb] at hL); have hF := hL.facts; (try simp only [Facts, Dist, kfa, implies_true, forall_const] at hF)) | (go_at_call 55; refine kn_calls ?_; (try clear hF); clear hL; intro W hL; (try simp only [kfb] at hL); have hF := hL.facts; (try simp only [Facts, Dist, kfa, implies_true, forall_const] at hF); (((with_reducible refine (hN.out _).mono ?_))); rintro e W ⟨rfl, hb⟩; replace hL := hL.below hb; clear hb; (try clear hF); (try simp only [kfb] at hL); have hF := hL.facts; (try simp only [Facts, Dist, kfa, implies_true, forall_const] at hF)) | (go_at_call 17; (((with_reducible refine (hI.out _).mono ?_))); rintro e w' ⟨rfl, rfl⟩))
        (try simp only [Exit.inBlock, Exit.then]); refine bodyPost_ret (by simp [results, Tryd.results41, go_sem, *]; try rfl) rfl ?_
        exact ⟨by rw [hVs]; rfl, hL.below0⟩

end Go.Proofs.YtflfaobbfhjmmaaDoor
