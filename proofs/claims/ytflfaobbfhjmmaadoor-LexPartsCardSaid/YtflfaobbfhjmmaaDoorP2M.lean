import Derived.Test.YtflfaobbfhjmmaaDoorProg
import Derived.WalkKit
import Derived.Handy
import Derived.Deep.Light
import Derived.WalkSmall
import Derived.StillTailTactics
import Derived.Lib.Hide
import Derived.Test.YtflfaobbfhjmmaaDoorT0
import Derived.Test.YtflfaobbfhjmmaaDoorIt
import Derived.Test.YtflfaobbfhjmmaaDoorL28
import Derived.Test.YtflfaobbfhjmmaaDoorLxF
import Derived.Test.YtflfaobbfhjmmaaDoorL33M
namespace Go.Proofs.YtflfaobbfhjmmaaDoor
open Go Go.RowKit
set_option linter.unusedSimpArgs false
set_option linter.unusedVariables false
set_option maxRecDepth 20000 in
set_option maxHeartbeats 4000000 in
theorem bare_is (s : ByteArray) (hs : s.size ≤ 100000) (h : bare s.data.toList) (w : World) : Calls Tryd.prog 15 #[.string s] w fun e w' => e = .returned (.bool true) ∧ Below w.heap.size w w' := by
  have q3 : s.toList.isEmpty = false := by
    rw [Lib.toList_data]
    cases hl : s.data.toList with
    | nil => exact absurd hl h.1
    | cons c t => rfl
  have HB := Lib.hid h.2
  have hsl := szl s
  clear h
  have hL : Kn [] w w [] := Kn.refl [] w; (try simp only [kfb] at hL); have hF := hL.facts; (try simp only [Facts, Dist, kfa, implies_true, forall_const] at hF); go_enter Tryd.func15, Tryd.ntmps15
  go_wp2
  go_loopw [3, 4] (fun i c wr => ∃ k : Nat, k ≤ s.size ∧ i = .int .i64 k ∧ Kn [] w wr []) (fun i _ _ => s.size - (intOf i).toNat)
  case atStart => exact ⟨0, by omega, rfl, hL⟩
  case round =>
    obtain ⟨k, hk, rfl, hK⟩ := hrel
    clear hL hF
    have hL := hK
    clear hK
    (try simp only [kfb] at hL); have hF := hL.facts; (try simp only [Facts, Dist, kfa, implies_true, forall_const] at hF)
    by_cases hlt : k < s.size
    · obtain ⟨c0, hc0⟩ : ∃ c, s.data.toList[k]? = some c := ⟨_, List.getElem?_eq_getElem (by rw [szl]; omega)⟩
      have eb0 := byte_at hc0 (by omega)
      have hd0 : s.data.toList.drop (k) = c0 :: s.data.toList.drop (k + 1) := by
        obtain ⟨h1, h2⟩ := List.getElem?_eq_some_iff.1 hc0
        rw [List.drop_eq_getElem_cons h1, h2]
      have hb := HB.out c0 (List.mem_of_getElem? hc0)
      have h32 : c0 ≠ 32 := by rintro rfl; exact absurd hb (by decide)
      have h9 : c0 ≠ 9 := by rintro rfl; exact absurd hb (by decide)
      have h10 : c0 ≠ 10 := by rintro rfl; exact absurd hb (by decide)
      have h124 : c0 ≠ 124 := by rintro rfl; exact absurd hb (by decide)
      have h38 : c0 ≠ 38 := by rintro rfl; exact absurd hb (by decide)
      have h59 : c0 ≠ 59 := by rintro rfl; exact absurd hb (by decide)
      have h40 : c0 ≠ 40 := by rintro rfl; exact absurd hb (by decide)
      have h41 : c0 ≠ 41 := by rintro rfl; exact absurd hb (by decide)
      have h60 : c0 ≠ 60 := by rintro rfl; exact absurd hb (by decide)
      have h62 : c0 ≠ 62 := by rintro rfl; exact absurd hb (by decide)
      have h34 : c0 ≠ 34 := by rintro rfl; exact absurd hb (by decide)
      have h39 : c0 ≠ 39 := by rintro rfl; exact absurd hb (by decide)
      have h36 : c0 ≠ 36 := by rintro rfl; exact absurd hb (by decide)
      have h92 : c0 ≠ 92 := by rintro rfl; exact absurd hb (by decide)
      have f32 : ((c0.toNat : Int) == 32) = false := beq_false_of_ne (fun h => h32 (UInt8.toNat_inj.1 (show c0.toNat = 32 by omega)))
      have f9 : ((c0.toNat : Int) == 9) = false := beq_false_of_ne (fun h => h9 (UInt8.toNat_inj.1 (show c0.toNat = 9 by omega)))
      have f10 : ((c0.toNat : Int) == 10) = false := beq_false_of_ne (fun h => h10 (UInt8.toNat_inj.1 (show c0.toNat = 10 by omega)))
      have f124 : ((c0.toNat : Int) == 124) = false := beq_false_of_ne (fun h => h124 (UInt8.toNat_inj.1 (show c0.toNat = 124 by omega)))
      have f38 : ((c0.toNat : Int) == 38) = false := beq_false_of_ne (fun h => h38 (UInt8.toNat_inj.1 (show c0.toNat = 38 by omega)))
      have f59 : ((c0.toNat : Int) == 59) = false := beq_false_of_ne (fun h => h59 (UInt8.toNat_inj.1 (show c0.toNat = 59 by omega)))
      have f40 : ((c0.toNat : Int) == 40) = false := beq_false_of_ne (fun h => h40 (UInt8.toNat_inj.1 (show c0.toNat = 40 by omega)))
      have f41 : ((c0.toNat : Int) == 41) = false := beq_false_of_ne (fun h => h41 (UInt8.toNat_inj.1 (show c0.toNat = 41 by omega)))
      have f60 : ((c0.toNat : Int) == 60) = false := beq_false_of_ne (fun h => h60 (UInt8.toNat_inj.1 (show c0.toNat = 60 by omega)))
      have f62 : ((c0.toNat : Int) == 62) = false := beq_false_of_ne (fun h => h62 (UInt8.toNat_inj.1 (show c0.toNat = 62 by omega)))
      have f34 : ((c0.toNat : Int) == 34) = false := beq_false_of_ne (fun h => h34 (UInt8.toNat_inj.1 (show c0.toNat = 34 by omega)))
      have f39 : ((c0.toNat : Int) == 39) = false := beq_false_of_ne (fun h => h39 (UInt8.toNat_inj.1 (show c0.toNat = 39 by omega)))
      have f36 : ((c0.toNat : Int) == 36) = false := beq_false_of_ne (fun h => h36 (UInt8.toNat_inj.1 (show c0.toNat = 36 by omega)))
      have f92 : ((c0.toNat : Int) == 92) = false := beq_false_of_ne (fun h => h92 (UInt8.toNat_inj.1 (show c0.toNat = 92 by omega)))
      clear hd0 hc0 hb h32 h9 h10 h124 h38 h59 h40 h41 h60 h62 h34 h39 h36 h92
      go_wp2
      exact ⟨⟨k + 1, by omega, by go_num, hL⟩, by simp [intOf]; omega⟩
    · go_wp2
      (try simp only [Exit.inBlock, Exit.then]); refine bodyPost_ret (by simp [results, Tryd.results15, go_sem, *]; try rfl) rfl ?_
      exact ⟨rfl, hL.below0⟩

end Go.Proofs.YtflfaobbfhjmmaaDoor

namespace Go.Proofs.YtflfaobbfhjmmaaDoor
open Go Go.RowKit
set_option linter.unusedSimpArgs false
set_option linter.unusedVariables false
set_option maxRecDepth 20000 in
set_option maxHeartbeats 4000000 in
theorem wordLaw_is (t : Tok) (ht : WordOK t) (x1 x2 : ByteArray) (hx2 : bs t.plain = .string x2) (pv : Value) (i1 i3 i2 : Int) (w : World) (hp : RowK 3 w pv (t.parts.map ptc)) : Calls Tryd.prog 11 #[.agg #[.int .i64 i1, .string x1, .string x2, pv, .int .i64 i3, .int .i64 i2]] w fun e w' => e = .returned (.bool true) ∧ Below w.heap.size w w' := by
  obtain ⟨hwf, hpl, hsz⟩ := ht
  obtain ⟨ap, cp, rfl, _⟩ := id hp
  rw [List.length_map] at hp ⊢
  obtain ⟨n, hn1⟩ : ∃ n, t.parts.length = n := ⟨_, rfl⟩
  rw [hn1] at hp ⊢
  have hn : n ≤ 6000 := by rw [← hn1]; exact Nat.le_trans (Nat.le_add_right _ _) hsz
  have HWF := Lib.hid hwf
  have HN1 := Lib.hid hn1
  have HP := Lib.hid hp
  have HX2 := Lib.hid hx2
  have HPL := Lib.hid hpl
  have HSZ := Lib.hid hsz
  clear hwf hn1 hx2 hpl hsz hp
  have hL : Kn [] w w [] := Kn.refl [] w; (try simp only [kfb] at hL); have hF := hL.facts; (try simp only [Facts, Dist, kfa, implies_true, forall_const] at hF); go_enter Tryd.func11, Tryd.ntmps11
  go_wp2
  refine kn_wp ?_; (try clear hF); clear hL; intro W hL; (try simp only [kfb] at hL); have hF := hL.facts; (try simp only [Facts, Dist, kfa, implies_true, forall_const] at hF)
  clear hF
  generalize w.heap.size = b at hL ⊢
  go_loopw [4, 5, 6, 7, 8, 9] (fun i _ _ _ _ _ wr => ∃ k : Nat, k ≤ n ∧ i = .int .i64 k ∧ Kn [] w wr [(b, .cells #[.int .i64 i1, .string x1, .string x2, .slice ap n cp, .int .i64 i3, .int .i64 i2] 31 (0, 0))]) (fun i _ _ _ _ _ _ => n - (intOf i).toNat)
  case atStart => exact ⟨0, by omega, rfl, hL⟩
  case round =>
    obtain ⟨k, hk1, rfl, hK⟩ := hrel
    clear hL
    have hL := hK
    clear hK
    (try simp only [kfb] at hL); have hF := hL.facts; (try simp only [Facts, Dist, kfa, implies_true, forall_const] at hF)
    by_cases hlt : k < n
    · obtain ⟨p, hpk⟩ : ∃ p, t.parts[k]? = some p := ⟨_, List.getElem?_eq_getElem (by rw [HN1.out]; omega)⟩
      obtain ⟨g, o, rfl, hg, c10, c11, c12⟩ := prow_at HP.out hpk
      obtain ⟨u, hu⟩ : ∃ u : ByteArray, bs p.t = .string u := ⟨_, rfl⟩
      have hul : u.data.toList = p.t := by
        simp only [bs, Value.string.injEq] at hu
        rw [← hu]
      have hus : u.size ≤ 100000 := by
        have h1 := sz_part (List.mem_of_getElem? hpk)
        have h2 := HSZ.out
        rw [← szl, hul]; omega
      have hus2 : u.size ≤ 6000 := by
        have h1 := sz_part (List.mem_of_getElem? hpk)
        have h2 := HSZ.out
        rw [← szl, hul]; omega
      rw [hu] at c11
      rcases HWF.out.1 p (List.mem_of_getElem? hpk) with ⟨hk, hq⟩ | ⟨hk, hv⟩ | ⟨hk, hs⟩
      · rw [hk] at c10
        cases hpq : p.q with
        | true =>
          rw [hpq] at c12
          clear hq hul hu
          rcases Nat.eq_zero_or_pos k with hk0 | hk0
          · have s5 : decide (0 < k) = false := decide_eq_false (by omega)
            clear hk0
            go_wp2_with (first | ((with_reducible refine kn_list_set ?_); (try clear hF); clear hL; intro W hL; (try simp only [kfb] at hL); have hF := hL.facts; (try simp only [Facts, Dist, kfa, implies_true, forall_const] at hF)) | ((with_reducible refine at_region 6 ?_); refine kn_wp ?_; (try clear hF); clear hL; intro W hL; (try simp only [kfb] at hL); have hF := hL.facts; (try simp only [Facts, Dist, kfa, implies_true, forall_const] at hF); refine kn_region [0, 1, 2, 3, 4, 5, 6, 7, 8, 9, 10, 11, 12, 13, 14, 15, 16, 17, 18, 19, 20, 21, 22, 23, 24, 25, 26, 27, 28, 29, 30, 31, 32, 33, 34, 35, 36, 37, 38, 39, 40, 41] [0, 1, 2, 3, 4, 5, 6, 7, 8, 9, 10, 11, 12, 13, 14, 15, 16, 17, 18, 19, 20, 21, 22, 23, 24, 25, 26, 27, 28, 29, 30, 31, 32, 33, 34, 35, 36, 37, 39, 40, 41] [38] [0, 1, 2, 3, 4, 5, 6, 7, 9, 10, 11, 12, 13, 14, 15, 16, 18, 19, 20, 21, 23, 24, 25, 26, 27, 28, 29, 31, 32, 33, 34, 35, 36, 39, 40, 41] (by kernel_rfl) (by kernel_rfl) (List.Sublist.refl _) ?_; (try clear hF); clear hL; intro ι F hne hC hFF; have hG := fun n => (hFF n).facts; clear hFF; (try simp only [Facts, Dist, kfa, implies_true, forall_const] at hG); (repeat (first | (refine cwk_skip rfl (by rfl) ?_; (try simp only [Act.put, List.setIfInBounds_toArray, List.set_cons_zero, List.set_cons_succ])) | (refine cwk_float rfl rfl (by rfl) (by rfl) (by rfl) hC ?_; intro K hK; go_big_quiet_op; go_big_quiet_on) | (refine cwk_pure rfl rfl (by rfl) (by rfl) ?_; intro K hK; go_big_quiet_op; go_big_quiet_on) | (refine cwk_anch rfl rfl (by rfl) (by rfl) ?_; intro W hL; (try simp only [kfb] at hL); have hF := hL.facts; (try simp only [Facts, Dist, kfa, implies_true, forall_const] at hF); go_wp2; refine anchQ_normal ?_; (first | (refine owedB _ (by rfl) ?_; clear hL; (try clear hF); clear hC hG; intro ι F hne hC hFF; have hG := fun n => (hFF n).facts; clear hFF; (try simp only [Facts, Dist, kfa, implies_true, forall_const] at hG)) | (refine owed0 _ (by repeat' (first | (with_reducible exact List.Sublist.refl _) | (with_reducible apply List.Sublist.cons_cons) | (with_reducible apply List.Sublist.cons))) ?_; clear hL; (try clear hF)))))); refine cwk_nil ?_; clear hC hG; intro W hL; (try simp only [kfb] at hL); have hF := hL.facts; (try simp only [Facts, Dist, kfa, implies_true, forall_const] at hF)))
            exact (by
          refine ⟨⟨k + 1, by omega, by go_num, hL.sub (by repeat' (first | (exact List.Sublist.refl _) | (apply List.Sublist.cons_cons) | (apply List.Sublist.cons)))⟩, ?_⟩
          simp [intOf]; omega)
          · obtain ⟨j, hj⟩ : ∃ j, k = j + 1 := ⟨k - 1, by omega⟩
            have s5 : decide (0 < k) = true := decide_eq_true (by omega)
            have s1 : IntKind.i64.wrap ((k : Int) - 1) = (j : Int) := by rw [IntWalk.i64_in _ (by omega)]; omega
            have s2 : (0 : Int) ≤ (j : Int) := by omega
            have s3 : (j : Int) < (n : Int) := by omega
            obtain ⟨p0, hp0⟩ : ∃ p0, t.parts[j]? = some p0 := ⟨_, List.getElem?_eq_getElem (by rw [HN1.out]; omega)⟩
            have had := adj_at HWF.out.2 hp0 (by rw [← hj]; exact hpk)
            obtain ⟨g', o', e4, hg', d10, d11, d12⟩ := prow_at HP.out hp0
            injection e4 with e4
            injection e4 with e5 e6
            subst e5; subst e6
            have HJ := Lib.hid hj
            clear hj hk0 hp0 hg'
            by_cases h0 : p0.k = 0
            · rw [h0] at d10
              have h1 : (p0.q == true) = false := by rw [beq_eq_false_iff_ne]; intro h; exact had ⟨h0, hk, by rw [h, hpq]⟩
              clear had h0
              go_wp2_with (first | ((with_reducible refine kn_list_set ?_); (try clear hF); clear hL; intro W hL; (try simp only [kfb] at hL); have hF := hL.facts; (try simp only [Facts, Dist, kfa, implies_true, forall_const] at hF)) | ((with_reducible refine at_region 6 ?_); refine kn_wp ?_; (try clear hF); clear hL; intro W hL; (try simp only [kfb] at hL); have hF := hL.facts; (try simp only [Facts, Dist, kfa, implies_true, forall_const] at hF); refine kn_region [0, 1, 2, 3, 4, 5, 6, 7, 8, 9, 10, 11, 12, 13, 14, 15, 16, 17, 18, 19, 20, 21, 22, 23, 24, 25, 26, 27, 28, 29, 30, 31, 32, 33, 34, 35, 36, 37, 38, 39, 40, 41] [0, 1, 2, 3, 4, 5, 6, 7, 8, 9, 10, 11, 12, 13, 14, 15, 16, 17, 18, 19, 20, 21, 22, 23, 24, 25, 26, 27, 28, 29, 30, 31, 32, 33, 34, 35, 36, 37, 39, 40, 41] [38] [0, 1, 2, 3, 4, 5, 6, 7, 9, 10, 11, 12, 13, 14, 15, 16, 18, 19, 20, 21, 23, 24, 25, 26, 27, 28, 29, 31, 32, 33, 34, 35, 36, 39, 40, 41] (by kernel_rfl) (by kernel_rfl) (List.Sublist.refl _) ?_; (try clear hF); clear hL; intro ι F hne hC hFF; have hG := fun n => (hFF n).facts; clear hFF; (try simp only [Facts, Dist, kfa, implies_true, forall_const] at hG); (repeat (first | (refine cwk_skip rfl (by rfl) ?_; (try simp only [Act.put, List.setIfInBounds_toArray, List.set_cons_zero, List.set_cons_succ])) | (refine cwk_float rfl rfl (by rfl) (by rfl) (by rfl) hC ?_; intro K hK; go_big_quiet_op; go_big_quiet_on) | (refine cwk_pure rfl rfl (by rfl) (by rfl) ?_; intro K hK; go_big_quiet_op; go_big_quiet_on) | (refine cwk_anch rfl rfl (by rfl) (by rfl) ?_; intro W hL; (try simp only [kfb] at hL); have hF := hL.facts; (try simp only [Facts, Dist, kfa, implies_true, forall_const] at hF); go_wp2; refine anchQ_normal ?_; (first | (refine owedB _ (by rfl) ?_; clear hL; (try clear hF); clear hC hG; intro ι F hne hC hFF; have hG := fun n => (hFF n).facts; clear hFF; (try simp only [Facts, Dist, kfa, implies_true, forall_const] at hG)) | (refine owed0 _ (by repeat' (first | (with_reducible exact List.Sublist.refl _) | (with_reducible apply List.Sublist.cons_cons) | (with_reducible apply List.Sublist.cons))) ?_; clear hL; (try clear hF)))))); refine cwk_nil ?_; clear hC hG; intro W hL; (try simp only [kfb] at hL); have hF := hL.facts; (try simp only [Facts, Dist, kfa, implies_true, forall_const] at hF)))
              exact (by
          refine ⟨⟨k + 1, by omega, by go_num, hL.sub (by repeat' (first | (exact List.Sublist.refl _) | (apply List.Sublist.cons_cons) | (apply List.Sublist.cons)))⟩, ?_⟩
          simp [intOf]; omega)
            · have h1 : ((p0.k : Int) == 0) = false := by rw [beq_eq_false_iff_ne]; omega
              clear had h0
              go_wp2_with (first | ((with_reducible refine kn_list_set ?_); (try clear hF); clear hL; intro W hL; (try simp only [kfb] at hL); have hF := hL.facts; (try simp only [Facts, Dist, kfa, implies_true, forall_const] at hF)) | ((with_reducible refine at_region 6 ?_); refine kn_wp ?_; (try clear hF); clear hL; intro W hL; (try simp only [kfb] at hL); have hF := hL.facts; (try simp only [Facts, Dist, kfa, implies_true, forall_const] at hF); refine kn_region [0, 1, 2, 3, 4, 5, 6, 7, 8, 9, 10, 11, 12, 13, 14, 15, 16, 17, 18, 19, 20, 21, 22, 23, 24, 25, 26, 27, 28, 29, 30, 31, 32, 33, 34, 35, 36, 37, 38, 39, 40, 41] [0, 1, 2, 3, 4, 5, 6, 7, 8, 9, 10, 11, 12, 13, 14, 15, 16, 17, 18, 19, 20, 21, 22, 23, 24, 25, 26, 27, 28, 29, 30, 31, 32, 33, 34, 35, 36, 37, 39, 40, 41] [38] [0, 1, 2, 3, 4, 5, 6, 7, 9, 10, 11, 12, 13, 14, 15, 16, 18, 19, 20, 21, 23, 24, 25, 26, 27, 28, 29, 31, 32, 33, 34, 35, 36, 39, 40, 41] (by kernel_rfl) (by kernel_rfl) (List.Sublist.refl _) ?_; (try clear hF); clear hL; intro ι F hne hC hFF; have hG := fun n => (hFF n).facts; clear hFF; (try simp only [Facts, Dist, kfa, implies_true, forall_const] at hG); (repeat (first | (refine cwk_skip rfl (by rfl) ?_; (try simp only [Act.put, List.setIfInBounds_toArray, List.set_cons_zero, List.set_cons_succ])) | (refine cwk_float rfl rfl (by rfl) (by rfl) (by rfl) hC ?_; intro K hK; go_big_quiet_op; go_big_quiet_on) | (refine cwk_pure rfl rfl (by rfl) (by rfl) ?_; intro K hK; go_big_quiet_op; go_big_quiet_on) | (refine cwk_anch rfl rfl (by rfl) (by rfl) ?_; intro W hL; (try simp only [kfb] at hL); have hF := hL.facts; (try simp only [Facts, Dist, kfa, implies_true, forall_const] at hF); go_wp2; refine anchQ_normal ?_; (first | (refine owedB _ (by rfl) ?_; clear hL; (try clear hF); clear hC hG; intro ι F hne hC hFF; have hG := fun n => (hFF n).facts; clear hFF; (try simp only [Facts, Dist, kfa, implies_true, forall_const] at hG)) | (refine owed0 _ (by repeat' (first | (with_reducible exact List.Sublist.refl _) | (with_reducible apply List.Sublist.cons_cons) | (with_reducible apply List.Sublist.cons))) ?_; clear hL; (try clear hF)))))); refine cwk_nil ?_; clear hC hG; intro W hL; (try simp only [kfb] at hL); have hF := hL.facts; (try simp only [Facts, Dist, kfa, implies_true, forall_const] at hF)))
              exact (by
          refine ⟨⟨k + 1, by omega, by go_num, hL.sub (by repeat' (first | (exact List.Sublist.refl _) | (apply List.Sublist.cons_cons) | (apply List.Sublist.cons)))⟩, ?_⟩
          simp [intOf]; omega)
        | false =>
          rw [hpq] at c12
          have HBR := Lib.hid (hq hpq)
          rw [← hul] at HBR
          clear hq hul hu
          rcases Nat.eq_zero_or_pos k with hk0 | hk0
          · have s5 : decide (0 < k) = false := decide_eq_false (by omega)
            clear hk0
            go_wp2_with (first | ((with_reducible refine kn_list_set ?_); (try clear hF); clear hL; intro W hL; (try simp only [kfb] at hL); have hF := hL.facts; (try simp only [Facts, Dist, kfa, implies_true, forall_const] at hF)) | ((with_reducible refine at_region 6 ?_); refine kn_wp ?_; (try clear hF); clear hL; intro W hL; (try simp only [kfb] at hL); have hF := hL.facts; (try simp only [Facts, Dist, kfa, implies_true, forall_const] at hF); refine kn_region [0, 1, 2, 3, 4, 5, 6, 7, 8, 9, 10, 11, 12, 13, 14, 15, 16, 17, 18, 19, 20, 21, 22, 23, 24, 25, 26, 27, 28, 29, 30, 31, 32, 33, 34, 35, 36, 37, 38, 39, 40, 41] [0, 1, 2, 3, 4, 5, 6, 7, 8, 9, 10, 11, 12, 13, 14, 15, 16, 17, 18, 19, 20, 21, 22, 23, 24, 25, 26, 27, 28, 29, 30, 31, 32, 33, 34, 35, 36, 37, 39, 40, 41] [38] [0, 1, 2, 3, 4, 5, 6, 7, 9, 10, 11, 12, 13, 14, 15, 16, 18, 19, 20, 21, 23, 24, 25, 26, 27, 28, 29, 31, 32, 33, 34, 35, 36, 39, 40, 41] (by kernel_rfl) (by kernel_rfl) (List.Sublist.refl _) ?_; (try clear hF); clear hL; intro ι F hne hC hFF; have hG := fun n => (hFF n).facts; clear hFF; (try simp only [Facts, Dist, kfa, implies_true, forall_const] at hG); (repeat (first | (refine cwk_skip rfl (by rfl) ?_; (try simp only [Act.put, List.setIfInBounds_toArray, List.set_cons_zero, List.set_cons_succ])) | (refine cwk_float rfl rfl (by rfl) (by rfl) (by rfl) hC ?_; intro K hK; go_big_quiet_op; go_big_quiet_on) | (refine cwk_pure rfl rfl (by rfl) (by rfl) ?_; intro K hK; go_big_quiet_op; go_big_quiet_on) | (refine cwk_call rfl (by rfl) (by rfl) (fun _ => rfl) ?_; intro W hL; (try simp only [kfb] at hL); have hF := hL.facts; (try simp only [Facts, Dist, kfa, implies_true, forall_const] at hF); simp only [List.map_toArray, List.map_cons, List.map_nil, Array.empty_append, Array.append_empty, Act.eval, Array.getD_eq_getD_getElem?, List.getElem?_toArray, List.getElem?_cons_zero, List.getElem?_cons_succ, Option.getD_some]; go_at_call 15; (((with_reducible refine (bare_is _ hus HBR.out _).mono ?_))); rintro e W ⟨rfl, hb⟩; replace hL := hL.below hb; clear hb; (try clear hF); (try simp only [kfb] at hL); have hF := hL.facts; (try simp only [Facts, Dist, kfa, implies_true, forall_const] at hF); refine owed_ret ?_; (first | (refine owedB _ (by rfl) ?_; clear hL; (try clear hF); clear hC hG; intro ι F hne hC hFF; have hG := fun n => (hFF n).facts; clear hFF; (try simp only [Facts, Dist, kfa, implies_true, forall_const] at hG)) | (refine owed0 _ (by repeat' (first | (with_reducible exact List.Sublist.refl _) | (with_reducible apply List.Sublist.cons_cons) | (with_reducible apply List.Sublist.cons))) ?_; clear hL; (try clear hF))); (try simp only [Act.put, List.setIfInBounds_toArray, List.set_cons_zero, List.set_cons_succ])) | (refine cwk_anch rfl rfl (by rfl) (by rfl) ?_; intro W hL; (try simp only [kfb] at hL); have hF := hL.facts; (try simp only [Facts, Dist, kfa, implies_true, forall_const] at hF); go_wp2; refine anchQ_normal ?_; (first | (refine owedB _ (by rfl) ?_; clear hL; (try clear hF); clear hC hG; intro ι F hne hC hFF; have hG := fun n => (hFF n).facts; clear hFF; (try simp only [Facts, Dist, kfa, implies_true, forall_const] at hG)) | (refine owed0 _ (by repeat' (first | (with_reducible exact List.Sublist.refl _) | (with_reducible apply List.Sublist.cons_cons) | (with_reducible apply List.Sublist.cons))) ?_; clear hL; (try clear hF)))))); refine cwk_nil ?_; clear hC hG; intro W hL; (try simp only [kfb] at hL); have hF := hL.facts; (try simp only [Facts, Dist, kfa, implies_true, forall_const] at hF)))
            exact (by
          refine ⟨⟨k + 1, by omega, by go_num, hL.sub (by repeat' (first | (exact List.Sublist.refl _) | (apply List.Sublist.cons_cons) | (apply List.Sublist.cons)))⟩, ?_⟩
          simp [intOf]; omega)
          · obtain ⟨j, hj⟩ : ∃ j, k = j + 1 := ⟨k - 1, by omega⟩
            have s5 : decide (0 < k) = true := decide_eq_true (by omega)
            have s1 : IntKind.i64.wrap ((k : Int) - 1) = (j : Int) := by rw [IntWalk.i64_in _ (by omega)]; omega
            have s2 : (0 : Int) ≤ (j : Int) := by omega
            have s3 : (j : Int) < (n : Int) := by omega
            obtain ⟨p0, hp0⟩ : ∃ p0, t.parts[j]? = some p0 := ⟨_, List.getElem?_eq_getElem (by rw [HN1.out]; omega)⟩
            have had := adj_at HWF.out.2 hp0 (by rw [← hj]; exact hpk)
            obtain ⟨g', o', e4, hg', d10, d11, d12⟩ := prow_at HP.out hp0
            injection e4 with e4
            injection e4 with e5 e6
            subst e5; subst e6
            have HJ := Lib.hid hj
            clear hj hk0 hp0 hg'
            by_cases h0 : p0.k = 0
            · rw [h0] at d10
              have h1 : (p0.q == false) = false := by rw [beq_eq_false_iff_ne]; intro h; exact had ⟨h0, hk, by rw [h, hpq]⟩
              clear had h0
              go_wp2_with (first | ((with_reducible refine kn_list_set ?_); (try clear hF); clear hL; intro W hL; (try simp only [kfb] at hL); have hF := hL.facts; (try simp only [Facts, Dist, kfa, implies_true, forall_const] at hF)) | ((with_reducible refine at_region 6 ?_); refine kn_wp ?_; (try clear hF); clear hL; intro W hL; (try simp only [kfb] at hL); have hF := hL.facts; (try simp only [Facts, Dist, kfa, implies_true, forall_const] at hF); refine kn_region [0, 1, 2, 3, 4, 5, 6, 7, 8, 9, 10, 11, 12, 13, 14, 15, 16, 17, 18, 19, 20, 21, 22, 23, 24, 25, 26, 27, 28, 29, 30, 31, 32, 33, 34, 35, 36, 37, 38, 39, 40, 41] [0, 1, 2, 3, 4, 5, 6, 7, 8, 9, 10, 11, 12, 13, 14, 15, 16, 17, 18, 19, 20, 21, 22, 23, 24, 25, 26, 27, 28, 29, 30, 31, 32, 33, 34, 35, 36, 37, 39, 40, 41] [38] [0, 1, 2, 3, 4, 5, 6, 7, 9, 10, 11, 12, 13, 14, 15, 16, 18, 19, 20, 21, 23, 24, 25, 26, 27, 28, 29, 31, 32, 33, 34, 35, 36, 39, 40, 41] (by kernel_rfl) (by kernel_rfl) (List.Sublist.refl _) ?_; (try clear hF); clear hL; intro ι F hne hC hFF; have hG := fun n => (hFF n).facts; clear hFF; (try simp only [Facts, Dist, kfa, implies_true, forall_const] at hG); (repeat (first | (refine cwk_skip rfl (by rfl) ?_; (try simp only [Act.put, List.setIfInBounds_toArray, List.set_cons_zero, List.set_cons_succ])) | (refine cwk_float rfl rfl (by rfl) (by rfl) (by rfl) hC ?_; intro K hK; go_big_quiet_op; go_big_quiet_on) | (refine cwk_pure rfl rfl (by rfl) (by rfl) ?_; intro K hK; go_big_quiet_op; go_big_quiet_on) | (refine cwk_call rfl (by rfl) (by rfl) (fun _ => rfl) ?_; intro W hL; (try simp only [kfb] at hL); have hF := hL.facts; (try simp only [Facts, Dist, kfa, implies_true, forall_const] at hF); simp only [List.map_toArray, List.map_cons, List.map_nil, Array.empty_append, Array.append_empty, Act.eval, Array.getD_eq_getD_getElem?, List.getElem?_toArray, List.getElem?_cons_zero, List.getElem?_cons_succ, Option.getD_some]; go_at_call 15; (((with_reducible refine (bare_is _ hus HBR.out _).mono ?_))); rintro e W ⟨rfl, hb⟩; replace hL := hL.below hb; clear hb; (try clear hF); (try simp only [kfb] at hL); have hF := hL.facts; (try simp only [Facts, Dist, kfa, implies_true, forall_const] at hF); refine owed_ret ?_; (first | (refine owedB _ (by rfl) ?_; clear hL; (try clear hF); clear hC hG; intro ι F hne hC hFF; have hG := fun n => (hFF n).facts; clear hFF; (try simp only [Facts, Dist, kfa, implies_true, forall_const] at hG)) | (refine owed0 _ (by repeat' (first | (with_reducible exact List.Sublist.refl _) | (with_reducible apply List.Sublist.cons_cons) | (with_reducible apply List.Sublist.cons))) ?_; clear hL; (try clear hF))); (try simp only [Act.put, List.setIfInBounds_toArray, List.set_cons_zero, List.set_cons_succ])) | (refine cwk_anch rfl rfl (by rfl) (by rfl) ?_; intro W hL; (try simp only [kfb] at hL); have hF := hL.facts; (try simp only [Facts, Dist, kfa, implies_true, forall_const] at hF); go_wp2; refine anchQ_normal ?_; (first | (refine owedB _ (by rfl) ?_; clear hL; (try clear hF); clear hC hG; intro ι F hne hC hFF; have hG := fun n => (hFF n).facts; clear hFF; (try simp only [Facts, Dist, kfa, implies_true, forall_const] at hG)) | (refine owed0 _ (by repeat' (first | (with_reducible exact List.Sublist.refl _) | (with_reducible apply List.Sublist.cons_cons) | (with_reducible apply List.Sublist.cons))) ?_; clear hL; (try clear hF)))))); refine cwk_nil ?_; clear hC hG; intro W hL; (try simp only [kfb] at hL); have hF := hL.facts; (try simp only [Facts, Dist, kfa, implies_true, forall_const] at hF)))
              exact (by
          refine ⟨⟨k + 1, by omega, by go_num, hL.sub (by repeat' (first | (exact List.Sublist.refl _) | (apply List.Sublist.cons_cons) | (apply List.Sublist.cons)))⟩, ?_⟩
          simp [intOf]; omega)
            · have h1 : ((p0.k : Int) == 0) = false := by rw [beq_eq_false_iff_ne]; omega
              clear had h0
              go_wp2_with (first | ((with_reducible refine kn_list_set ?_); (try clear hF); clear hL; intro W hL; (try simp only [kfb] at hL); have hF := hL.facts; (try simp only [Facts, Dist, kfa, implies_true, forall_const] at hF)) | ((with_reducible refine at_region 6 ?_); refine kn_wp ?_; (try clear hF); clear hL; intro W hL; (try simp only [kfb] at hL); have hF := hL.facts; (try simp only [Facts, Dist, kfa, implies_true, forall_const] at hF); refine kn_region [0, 1, 2, 3, 4, 5, 6, 7, 8, 9, 10, 11, 12, 13, 14, 15, 16, 17, 18, 19, 20, 21, 22, 23, 24, 25, 26, 27, 28, 29, 30, 31, 32, 33, 34, 35, 36, 37, 38, 39, 40, 41] [0, 1, 2, 3, 4, 5, 6, 7, 8, 9, 10, 11, 12, 13, 14, 15, 16, 17, 18, 19, 20, 21, 22, 23, 24, 25, 26, 27, 28, 29, 30, 31, 32, 33, 34, 35, 36, 37, 39, 40, 41] [38] [0, 1, 2, 3, 4, 5, 6, 7, 9, 10, 11, 12, 13, 14, 15, 16, 18, 19, 20, 21, 23, 24, 25, 26, 27, 28, 29, 31, 32, 33, 34, 35, 36, 39, 40, 41] (by kernel_rfl) (by kernel_rfl) (List.Sublist.refl _) ?_; (try clear hF); clear hL; intro ι F hne hC hFF; have hG := fun n => (hFF n).facts; clear hFF; (try simp only [Facts, Dist, kfa, implies_true, forall_const] at hG); (repeat (first | (refine cwk_skip rfl (by rfl) ?_; (try simp only [Act.put, List.setIfInBounds_toArray, List.set_cons_zero, List.set_cons_succ])) | (refine cwk_float rfl rfl (by rfl) (by rfl) (by rfl) hC ?_; intro K hK; go_big_quiet_op; go_big_quiet_on) | (refine cwk_pure rfl rfl (by rfl) (by rfl) ?_; intro K hK; go_big_quiet_op; go_big_quiet_on) | (refine cwk_call rfl (by rfl) (by rfl) (fun _ => rfl) ?_; intro W hL; (try simp only [kfb] at hL); have hF := hL.facts; (try simp only [Facts, Dist, kfa, implies_true, forall_const] at hF); simp only [List.map_toArray, List.map_cons, List.map_nil, Array.empty_append, Array.append_empty, Act.eval, Array.getD_eq_getD_getElem?, List.getElem?_toArray, List.getElem?_cons_zero, List.getElem?_cons_succ, Option.getD_some]; go_at_call 15; (((with_reducible refine (bare_is _ hus HBR.out _).mono ?_))); rintro e W ⟨rfl, hb⟩; replace hL := hL.below hb; clear hb; (try clear hF); (try simp only [kfb] at hL); have hF := hL.facts; (try simp only [Facts, Dist, kfa, implies_true, forall_const] at hF); refine owed_ret ?_; (first | (refine owedB _ (by rfl) ?_; clear hL; (try clear hF); clear hC hG; intro ι F hne hC hFF; have hG := fun n => (hFF n).facts; clear hFF; (try simp only [Facts, Dist, kfa, implies_true, forall_const] at hG)) | (refine owed0 _ (by repeat' (first | (with_reducible exact List.Sublist.refl _) | (with_reducible apply List.Sublist.cons_cons) | (with_reducible apply List.Sublist.cons))) ?_; clear hL; (try clear hF))); (try simp only [Act.put, List.setIfInBounds_toArray, List.set_cons_zero, List.set_cons_succ])) | (refine cwk_anch rfl rfl (by rfl) (by rfl) ?_; intro W hL; (try simp only [kfb] at hL); have hF := hL.facts; (try simp only [Facts, Dist, kfa, implies_true, forall_const] at hF); go_wp2; refine anchQ_normal ?_; (first | (refine owedB _ (by rfl) ?_; clear hL; (try clear hF); clear hC hG; intro ι F hne hC hFF; have hG := fun n => (hFF n).facts; clear hFF; (try simp only [Facts, Dist, kfa, implies_true, forall_const] at hG)) | (refine owed0 _ (by repeat' (first | (with_reducible exact List.Sublist.refl _) | (with_reducible apply List.Sublist.cons_cons) | (with_reducible apply List.Sublist.cons))) ?_; clear hL; (try clear hF)))))); refine cwk_nil ?_; clear hC hG; intro W hL; (try simp only [kfb] at hL); have hF := hL.facts; (try simp only [Facts, Dist, kfa, implies_true, forall_const] at hF)))
              exact (by
          refine ⟨⟨k + 1, by omega, by go_num, hL.sub (by repeat' (first | (exact List.Sublist.refl _) | (apply List.Sublist.cons_cons) | (apply List.Sublist.cons)))⟩, ?_⟩
          simp [intOf]; omega)
      · rw [hk] at c10
        have hmax : IntKind.i64.max = 9223372036854775807 := by decide
        obtain ⟨sv, hsv⟩ : ∃ x : ByteArray, (⟨#[36, 123]⟩ : ByteArray) ++ u ++ ⟨#[125]⟩ = x := ⟨_, rfl⟩
        have msv1 : ¬ IntKind.i64.max < (((⟨#[36, 123]⟩ : ByteArray).size + u.size : Nat) : Int) := by rw [hmax, show (⟨#[36, 123]⟩ : ByteArray).size = 2 from rfl]; omega
        have msv2 : ¬ IntKind.i64.max < ((((⟨#[36, 123]⟩ : ByteArray) ++ u).size + (⟨#[125]⟩ : ByteArray).size : Nat) : Int) := by rw [hmax, ByteArray.size_append, show (⟨#[36, 123]⟩ : ByteArray).size = 2 from rfl, one_sz]; omega
        skip
        have hl1 : sv.data.toList = 36 ::  123 :: (p.t ++ [125]) := by rw [← hsv]; simp [hul]
        have hs1 : sv.size ≤ 8000 := by rw [← szl, hl1]; simp; rw [← hul, szl]; omega
        have HX0 := Lib.hid fun W => lexOk sv hs1 [wordT [⟨1, p.t, false⟩] 1, endT 1] 2 (by
          have := lim_of (s := sv.data.toList) (by rw [szl]; exact hs1) (by rw [hl1]; exact rawl_var hv 1) (by simp)
          exact this) rfl (by omega) W
        clear hmax hl1 hs1 hul
        go_wp2_with (first | ((with_reducible refine kn_list_set ?_); (try clear hF); clear hL; intro W hL; (try simp only [kfb] at hL); have hF := hL.facts; (try simp only [Facts, Dist, kfa, implies_true, forall_const] at hF)) | (go_at_call 9; (((with_reducible refine (HX0.out _).mono ?_))); rintro e W ⟨hb, g0, o0, cap0, rfl, hcp0, hTn⟩; (try replace hT0 := hT0.ext hb); (try replace hT1 := hT1.ext hb); (try replace hT2 := hT2.ext hb); (try replace hT3 := hT3.ext hb); (try replace hT4 := hT4.ext hb); (try replace hT5 := hT5.ext hb); (try replace hT6 := hT6.ext hb); (try replace hT7 := hT7.ext hb); have hT0 := hTn; clear hTn; replace hL := hL.below hb; clear hb; (try clear hF); (try simp only [kfb] at hL); have hF := hL.facts; (try simp only [Facts, Dist, kfa, implies_true, forall_const] at hF); obtain ⟨pv0, hg9, z0, z1, z2, z3, z4, z5, hq9⟩ := tok_six hT0 (k := 0) rfl; simp only [wordT, Nat.zero_mul, Nat.add_zero] at z0 z1 z2 z3 z4 z5; obtain ⟨g9, o9, c9, hv9, hc9⟩ := rowk_open hq9 (by simp [wordT]); simp only [wordT, List.map_cons, List.map_nil, List.length_cons, List.length_nil, Nat.zero_add] at hv9; subst hv9; have d0 := hc9 0 _ rfl 0 _ rfl; have d1 := hc9 0 _ rfl 1 _ rfl; have d2 := hc9 0 _ rfl 2 _ rfl; rw [hu] at d1; simp only [Nat.zero_mul, Nat.add_zero] at d0 d1 d2; clear hc9 hq9 hT0) | ((with_reducible refine at_region 15 ?_); refine kn_wp ?_; (try clear hF); clear hL; intro W hL; (try simp only [kfb] at hL); have hF := hL.facts; (try simp only [Facts, Dist, kfa, implies_true, forall_const] at hF); refine kn_region [0, 1, 2, 3, 4, 5, 6, 7, 8, 9, 10, 11, 12, 13, 14, 15, 16, 17, 18, 19, 20, 21] [0, 1, 2, 3, 4, 5, 6, 7, 8, 9, 10, 11, 12, 13, 14, 15, 16, 17, 18, 19, 20, 21] [] [0, 2, 3, 4, 5, 7, 8, 9, 11, 12, 13, 14, 16, 17, 18, 19, 21] (by kernel_rfl) (by kernel_rfl) (List.Sublist.refl _) ?_; (try clear hF); clear hL; intro ι F hne hC hFF; have hG := fun n => (hFF n).facts; clear hFF; (try simp only [Facts, Dist, kfa, implies_true, forall_const] at hG); (repeat (first | (refine cwk_skip rfl (by rfl) ?_; (try simp only [Act.put, List.setIfInBounds_toArray, List.set_cons_zero, List.set_cons_succ])) | (refine cwk_float rfl rfl (by rfl) (by rfl) (by rfl) hC ?_; intro K hK; go_big_quiet_op; go_big_quiet_on) | (refine cwk_pure rfl rfl (by rfl) (by rfl) ?_; intro K hK; go_big_quiet_op; go_big_quiet_on) | (refine cwk_anch rfl rfl (by rfl) (by rfl) ?_; intro W hL; (try simp only [kfb] at hL); have hF := hL.facts; (try simp only [Facts, Dist, kfa, implies_true, forall_const] at hF); go_wp2; refine anchQ_normal ?_; (first | (refine owedB _ (by rfl) ?_; clear hL; (try clear hF); clear hC hG; intro ι F hne hC hFF; have hG := fun n => (hFF n).facts; clear hFF; (try simp only [Facts, Dist, kfa, implies_true, forall_const] at hG)) | (refine owed0 _ (by repeat' (first | (with_reducible exact List.Sublist.refl _) | (with_reducible apply List.Sublist.cons_cons) | (with_reducible apply List.Sublist.cons))) ?_; clear hL; (try clear hF)))))); refine cwk_nil ?_; clear hC hG; intro W hL; (try simp only [kfb] at hL); have hF := hL.facts; (try simp only [Facts, Dist, kfa, implies_true, forall_const] at hF)))
        exact (by
          refine ⟨⟨k + 1, by omega, by go_num, hL.sub (by repeat' (first | (exact List.Sublist.refl _) | (apply List.Sublist.cons_cons) | (apply List.Sublist.cons)))⟩, ?_⟩
          simp [intOf]; omega)
      · rw [hk] at c10
        have hmax : IntKind.i64.max = 9223372036854775807 := by decide
        obtain ⟨sv, hsv⟩ : ∃ x : ByteArray, (⟨#[36, 123]⟩ : ByteArray) ++ u ++ ⟨#[125]⟩ = x := ⟨_, rfl⟩
        have msv1 : ¬ IntKind.i64.max < (((⟨#[36, 123]⟩ : ByteArray).size + u.size : Nat) : Int) := by rw [hmax, show (⟨#[36, 123]⟩ : ByteArray).size = 2 from rfl]; omega
        have msv2 : ¬ IntKind.i64.max < ((((⟨#[36, 123]⟩ : ByteArray) ++ u).size + (⟨#[125]⟩ : ByteArray).size : Nat) : Int) := by rw [hmax, ByteArray.size_append, show (⟨#[36, 123]⟩ : ByteArray).size = 2 from rfl, one_sz]; omega
        obtain ⟨sw, hsw⟩ : ∃ x : ByteArray, (⟨#[36, 40]⟩ : ByteArray) ++ u ++ ⟨#[41]⟩ = x := ⟨_, rfl⟩
        have msw1 : ¬ IntKind.i64.max < (((⟨#[36, 40]⟩ : ByteArray).size + u.size : Nat) : Int) := by rw [hmax, show (⟨#[36, 40]⟩ : ByteArray).size = 2 from rfl]; omega
        have msw2 : ¬ IntKind.i64.max < ((((⟨#[36, 40]⟩ : ByteArray) ++ u).size + (⟨#[41]⟩ : ByteArray).size : Nat) : Int) := by rw [hmax, ByteArray.size_append, show (⟨#[36, 40]⟩ : ByteArray).size = 2 from rfl, one_sz]; omega
        have hl1 : sw.data.toList = 36 ::  40 :: (p.t ++ [41]) := by rw [← hsw]; simp [hul]
        have hs1 : sw.size ≤ 8000 := by rw [← szl, hl1]; simp; rw [← hul, szl]; omega
        have HX0 := Lib.hid fun W => lexOk sw hs1 [wordT [⟨2, p.t, false⟩] 1, endT (1 + lf p.t)] 2 (by
          have := lim_of (s := sw.data.toList) (by rw [szl]; exact hs1) (by rw [hl1]; exact rawl_sub hs 1) (by simp)
          exact this) rfl (by omega) W
        clear hmax hl1 hs1 hul
        go_wp2_with (first | ((with_reducible refine kn_list_set ?_); (try clear hF); clear hL; intro W hL; (try simp only [kfb] at hL); have hF := hL.facts; (try simp only [Facts, Dist, kfa, implies_true, forall_const] at hF)) | (go_at_call 9; (((with_reducible refine (HX0.out _).mono ?_))); rintro e W ⟨hb, g0, o0, cap0, rfl, hcp0, hTn⟩; (try replace hT0 := hT0.ext hb); (try replace hT1 := hT1.ext hb); (try replace hT2 := hT2.ext hb); (try replace hT3 := hT3.ext hb); (try replace hT4 := hT4.ext hb); (try replace hT5 := hT5.ext hb); (try replace hT6 := hT6.ext hb); (try replace hT7 := hT7.ext hb); have hT0 := hTn; clear hTn; replace hL := hL.below hb; clear hb; (try clear hF); (try simp only [kfb] at hL); have hF := hL.facts; (try simp only [Facts, Dist, kfa, implies_true, forall_const] at hF); obtain ⟨pv0, hg9, z0, z1, z2, z3, z4, z5, hq9⟩ := tok_six hT0 (k := 0) rfl; simp only [wordT, Nat.zero_mul, Nat.add_zero] at z0 z1 z2 z3 z4 z5; obtain ⟨g9, o9, c9, hv9, hc9⟩ := rowk_open hq9 (by simp [wordT]); simp only [wordT, List.map_cons, List.map_nil, List.length_cons, List.length_nil, Nat.zero_add] at hv9; subst hv9; have d0 := hc9 0 _ rfl 0 _ rfl; have d1 := hc9 0 _ rfl 1 _ rfl; have d2 := hc9 0 _ rfl 2 _ rfl; rw [hu] at d1; simp only [Nat.zero_mul, Nat.add_zero] at d0 d1 d2; clear hc9 hq9 hT0) | ((with_reducible refine at_region 15 ?_); refine kn_wp ?_; (try clear hF); clear hL; intro W hL; (try simp only [kfb] at hL); have hF := hL.facts; (try simp only [Facts, Dist, kfa, implies_true, forall_const] at hF); refine kn_region [0, 1, 2, 3, 4, 5, 6, 7, 8, 9, 10, 11, 12, 13, 14, 15, 16, 17, 18, 19, 20, 21] [0, 1, 2, 3, 4, 5, 6, 7, 8, 9, 10, 11, 12, 13, 14, 15, 16, 17, 18, 19, 20, 21] [] [0, 2, 3, 4, 5, 7, 8, 9, 11, 12, 13, 14, 16, 17, 18, 19, 21] (by kernel_rfl) (by kernel_rfl) (List.Sublist.refl _) ?_; (try clear hF); clear hL; intro ι F hne hC hFF; have hG := fun n => (hFF n).facts; clear hFF; (try simp only [Facts, Dist, kfa, implies_true, forall_const] at hG); (repeat (first | (refine cwk_skip rfl (by rfl) ?_; (try simp only [Act.put, List.setIfInBounds_toArray, List.set_cons_zero, List.set_cons_succ])) | (refine cwk_float rfl rfl (by rfl) (by rfl) (by rfl) hC ?_; intro K hK; go_big_quiet_op; go_big_quiet_on) | (refine cwk_pure rfl rfl (by rfl) (by rfl) ?_; intro K hK; go_big_quiet_op; go_big_quiet_on) | (refine cwk_anch rfl rfl (by rfl) (by rfl) ?_; intro W hL; (try simp only [kfb] at hL); have hF := hL.facts; (try simp only [Facts, Dist, kfa, implies_true, forall_const] at hF); go_wp2; refine anchQ_normal ?_; (first | (refine owedB _ (by rfl) ?_; clear hL; (try clear hF); clear hC hG; intro ι F hne hC hFF; have hG := fun n => (hFF n).facts; clear hFF; (try simp only [Facts, Dist, kfa, implies_true, forall_const] at hG)) | (refine owed0 _ (by repeat' (first | (with_reducible exact List.Sublist.refl _) | (with_reducible apply List.Sublist.cons_cons) | (with_reducible apply List.Sublist.cons))) ?_; clear hL; (try clear hF)))))); refine cwk_nil ?_; clear hC hG; intro W hL; (try simp only [kfb] at hL); have hF := hL.facts; (try simp only [Facts, Dist, kfa, implies_true, forall_const] at hF)))
        exact (by
          refine ⟨⟨k + 1, by omega, by go_num, hL.sub (by repeat' (first | (exact List.Sublist.refl _) | (apply List.Sublist.cons_cons) | (apply List.Sublist.cons)))⟩, ?_⟩
          simp [intOf]; omega)
    · obtain rfl : k = n := by omega
      clear hlt hk1
      have hpl2 : bs (plainOf t.parts) = .string x2 := by rw [← HPL.out]; exact HX2.out
      have emp : plainOf t.parts = [] → x2.toList.isEmpty = true := fun h => by
        rw [h] at hpl2
        simp only [bs, Value.string.injEq] at hpl2
        rw [← hpl2, Lib.toList_data]; rfl
      have hnn := HN1.out
      rcases hps : t.parts with _ | ⟨p, _ | ⟨p2, r⟩⟩
      · rw [hps] at hnn
        obtain rfl : k = 0 := hnn.symm
        have q3 := emp (by rw [hps]; rfl)
        clear emp hpl2 hnn hps
        go_wp2
        (try simp only [Exit.inBlock, Exit.then]); refine bodyPost_ret (by simp [results, Tryd.results11, go_sem, *]; try rfl) rfl ?_
        exact ⟨by first | rfl | rw [q3], hL.below0⟩
      · have hp0 : t.parts[0]? = some p := by rw [hps]; rfl
        obtain ⟨g, o, rfl, hg, c10, c11, c12⟩ := prow_at HP.out hp0
        simp only [Nat.zero_mul, Nat.add_zero] at c10 c11 c12
        obtain ⟨u, hu⟩ : ∃ u : ByteArray, bs p.t = .string u := ⟨_, rfl⟩
        rw [hu] at c11
        rw [hps] at hnn hpl2 emp
        obtain rfl : k = 1 := hnn.symm
        by_cases hk : p.k = 0
        · rw [hk] at c10
          cases hq : p.q with
          | true =>
            rw [hq] at c12
            have q3 := emp (by show (if p.k = 0 ∧ p.q = false then p.t else []) = []; rw [if_neg (by simp [hq])])
            clear emp hpl2 hnn hps hu hq hk hp0
            go_wp2
            (try simp only [Exit.inBlock, Exit.then]); refine bodyPost_ret (by simp [results, Tryd.results11, go_sem, *]; try rfl) rfl ?_
            exact ⟨by first | rfl | rw [q3], hL.below0⟩
          | false =>
            rw [hq] at c12
            have e : x2 = u := by
              have h5 : plainOf [p] = p.t := by
                show (if p.k = 0 ∧ p.q = false then p.t else []) = p.t
                rw [if_pos ⟨hk, hq⟩]
              rw [h5, hu] at hpl2
              injection hpl2 with e; exact e.symm
            subst e
            clear emp hpl2 hnn hps hu hq hk hp0
            go_wp2
            (try simp only [Exit.inBlock, Exit.then]); refine bodyPost_ret (by simp [results, Tryd.results11, go_sem, *]; try rfl) rfl ?_
            exact ⟨rfl, hL.below0⟩
        · have e1 : ((p.k : Int) == 0) = false := by rw [beq_eq_false_iff_ne]; omega
          have q3 := emp (by show (if p.k = 0 ∧ p.q = false then p.t else []) = []; rw [if_neg (by simp [hk])])
          clear emp hpl2 hnn hps hu hk hp0
          go_wp2
          (try simp only [Exit.inBlock, Exit.then]); refine bodyPost_ret (by simp [results, Tryd.results11, go_sem, *]; try rfl) rfl ?_
          exact ⟨by first | rfl | rw [q3], hL.below0⟩
      · rw [hps] at hnn
        have hk2 : 2 ≤ k := by rw [← hnn]; simp
        have e1 : ((k : Int) == 1) = false := by rw [beq_eq_false_iff_ne]; omega
        have q3 := emp (by rw [hps]; rfl)
        clear emp hpl2 hnn hps
        go_wp2
        (try simp only [Exit.inBlock, Exit.then]); refine bodyPost_ret (by simp [results, Tryd.results11, go_sem, *]; try rfl) rfl ?_
        exact ⟨by first | rfl | rw [q3], hL.below0⟩

end Go.Proofs.YtflfaobbfhjmmaaDoor

namespace Go.Proofs.YtflfaobbfhjmmaaDoor
open Go Go.RowKit
set_option linter.unusedSimpArgs false
set_option linter.unusedVariables false
set_option maxRecDepth 20000 in
set_option maxHeartbeats 4000000 in
theorem parts_walk (s : ByteArray) (hs : s.size ≤ 3000) (HS : Hid (∀ W, Calls Tryd.prog 7 #[] W fun e w' => e = .returned (.bool true) ∧ Below W.heap.size W w')) (n0 nx m : Nat) (HN0 : Hid (n0 = nx + 1)) (hnx : nx ≤ 2000) (ts xs : List Tok) (HTS : Hid (ts = xs ++ [endT m])) (HXL : Hid (xs.length = nx)) (HLI : Hid (Lines 1 xs m)) (HOK : Hid (∀ t ∈ xs, TokOK t ∧ WordOK t)) (HX0 : Hid (∀ W, Calls Tryd.prog 9 #[.string s] W fun e w' => Below W.heap.size W w' ∧ ∃ g o cap, e = .returned (.tuple #[.slice (some ⟨g, o, none⟩) n0 cap, .int .i64 0, .int .i64 0]) ∧ n0 ≤ cap ∧ TokRow w' (.slice (some ⟨g, o, none⟩) n0 cap) (ts))) (w : World) : Calls Tryd.prog 6 #[.string s] w fun e w' => e = .returned (.bool true) ∧ Below w.heap.size w w' := by
  have q0 : ¬ (s.size : Int) > 3000 := by omega
  have s9n : decide (0 < n0) = true := decide_eq_true (by have := HN0.out; omega)
  have s1 : IntKind.i64.wrap ((n0 : Int) - 1) = (nx : Int) := by have := HN0.out; rw [IntWalk.i64_in _ (by omega)]; omega
  have hn0 : n0 ≤ 2001 := by have := HN0.out; omega
  have hL : Kn [] w w [] := Kn.refl [] w; (try simp only [kfb] at hL); have hF := hL.facts; (try simp only [Facts, Dist, kfa, implies_true, forall_const] at hF); go_enter Tryd.func6, Tryd.ntmps6
  go_wp2_with (first | ((with_reducible refine kn_list_set ?_); (try clear hF); clear hL; intro W hL; (try simp only [kfb] at hL); have hF := hL.facts; (try simp only [Facts, Dist, kfa, implies_true, forall_const] at hF)) | (go_at_call 7; refine kn_calls ?_; (try clear hF); clear hL; intro W hL; (try simp only [kfb] at hL); have hF := hL.facts; (try simp only [Facts, Dist, kfa, implies_true, forall_const] at hF); (((with_reducible refine (HS.out _).mono ?_))); rintro e W ⟨rfl, hb⟩; replace hL := hL.below hb; clear hb; (try clear hF); (try simp only [kfb] at hL); have hF := hL.facts; (try simp only [Facts, Dist, kfa, implies_true, forall_const] at hF)) | (go_at_call 9; (((with_reducible refine (HX0.out _).mono ?_))); rintro e W ⟨hb, g0, o0, cap0, rfl, hcp0, hTn⟩; (try replace hT0 := hT0.ext hb); (try replace hT1 := hT1.ext hb); (try replace hT2 := hT2.ext hb); (try replace hT3 := hT3.ext hb); (try replace hT4 := hT4.ext hb); (try replace hT5 := hT5.ext hb); (try replace hT6 := hT6.ext hb); (try replace hT7 := hT7.ext hb); have hT0 := hTn; clear hTn; replace hL := hL.below hb; clear hb; (try clear hF); (try simp only [kfb] at hL); have hF := hL.facts; (try simp only [Facts, Dist, kfa, implies_true, forall_const] at hF); have HL0 := Lib.hid hL; replace hL := Kn.refl [] W; (try clear hF); (try simp only [kfb] at hL); have hF := hL.facts; (try simp only [Facts, Dist, kfa, implies_true, forall_const] at hF); rename World => W0))
  go_loopw [7, 8, 9] (fun l i _ wr => ∃ k L : Nat, k ≤ n0 ∧ i = .int .i64 k ∧ l = .int .i64 L ∧ (∀ t, ts[k]? = some t → L ≤ t.line) ∧ Kn [] W0 wr []) (fun _ i _ _ => n0 - (intOf i).toNat)
  case atStart =>
    refine ⟨0, 1, by omega, rfl, rfl, fun t ht => ?_, hL⟩
    have h1 := HLI.out
    rw [HTS.out] at ht
    cases xs with
    | nil => simp at ht; subst ht; exact h1
    | cons y ys => simp at ht; subst ht; exact h1.1
  case round =>
    obtain ⟨k, L, hk1, rfl, rfl, hLL, hK⟩ := hrel
    clear hL
    have hL := hK
    clear hK
    have HLL := Lib.hid hLL
    clear hLL
    (try simp only [kfb] at hL); have hF := hL.facts; (try simp only [Facts, Dist, kfa, implies_true, forall_const] at hF)
    by_cases hlt : k < n0
    · obtain ⟨t, htk⟩ : ∃ t, ts[k]? = some t := ⟨_, List.getElem?_eq_getElem (by rw [HTS.out]; simp; have := HXL.out; have := HN0.out; omega)⟩
      obtain ⟨pv, hg, c0, c1, c2, c3, c4, c5, hq⟩ := tok_six hT0 htk
      obtain ⟨x1, hx1⟩ : ∃ u : ByteArray, bs t.text = .string u := ⟨_, rfl⟩
      obtain ⟨x2, hx2⟩ : ∃ u : ByteArray, bs t.plain = .string u := ⟨_, rfl⟩
      rw [hx1] at c1
      rw [hx2] at c2
      have HX2 := Lib.hid hx2
      have e1 : decide (t.line < L) = false := decide_eq_false (by have := HLL.out t htk; omega)
      have e1i : decide ((t.line : Int) < (L : Int)) = false := decide_eq_false (by have := HLL.out t htk; omega)
      have HNX : Hid (∀ u, ts[k + 1]? = some u → t.line ≤ u.line) := Lib.hid fun u hu => by
        rw [HTS.out] at hu htk
        have hkx : k < xs.length := by
          have := (List.getElem?_eq_some_iff.1 hu).1
          simp at this; omega
        rw [List.getElem?_append_left hkx] at htk
        exact lines_at HLI.out htk hu
      obtain ⟨ap, cp, rfl, _⟩ := id hq
      rw [List.length_map] at hq c3
      obtain ⟨np, hnp⟩ : ∃ np, t.parts.length = np := ⟨_, rfl⟩
      rw [hnp] at hq c3
      have HQ := Lib.hid hq
      have htk2 := htk
      rw [HTS.out] at htk2
      clear hq hx1 hx2
      by_cases hkx : k < nx
      · have hmem : t ∈ xs := by
          rw [List.getElem?_append_left (by rw [HXL.out]; exact hkx)] at htk2
          exact List.mem_of_getElem? htk2
        obtain ⟨⟨o1, o2, o3, o4⟩, hwo⟩ := HOK.out t hmem
        have HWO := Lib.hid hwo
        have e4 : ((k : Int) == (nx : Int)) = false := by rw [beq_eq_false_iff_ne]; omega
        have e5 : ((t.kind : Int) == 4) = false := by rw [beq_eq_false_iff_ne]; omega
        clear hwo htk htk2 hmem
        by_cases hk0 : t.kind = 0
        · have e6 : decide ((0 : Int) < (np : Int)) = true := decide_eq_true (by have := (o2 hk0).2.1; rw [← hnp]; cases hps : t.parts with | nil => exact absurd hps this | cons _ _ => simp)
          have e6n : decide (0 < np) = true := decide_eq_true (by have := (o2 hk0).2.1; rw [← hnp]; cases hps : t.parts with | nil => exact absurd hps this | cons _ _ => simp)
          have e7 : (t.fd != -1) = false := by rw [o4 (by omega)]; rfl
          rw [hk0] at c0 e5
          clear o1 o2 o3 o4 hnp
          go_wp2_with (first | ((with_reducible refine kn_list_set ?_); (try clear hF); clear hL; intro W hL; (try simp only [kfb] at hL); have hF := hL.facts; (try simp only [Facts, Dist, kfa, implies_true, forall_const] at hF)) | (go_at_call 11; refine kn_calls ?_; (try clear hF); clear hL; intro W hL; (try simp only [kfb] at hL); have hF := hL.facts; (try simp only [Facts, Dist, kfa, implies_true, forall_const] at hF); (((with_reducible refine (wordLaw_is t HWO.out x1 x2 HX2.out _ _ _ _ _ (HQ.out.kn hL (by simp))).mono ?_))); rintro e W ⟨rfl, hb⟩; replace hL := hL.below hb; clear hb; (try clear hF); (try simp only [kfb] at hL); have hF := hL.facts; (try simp only [Facts, Dist, kfa, implies_true, forall_const] at hF)))
          exact ⟨⟨k + 1, t.line, by omega, by go_num, rfl, HNX.out, hL.sub (by repeat' (first | (exact List.Sublist.refl _) | (apply List.Sublist.cons_cons) | (apply List.Sublist.cons)))⟩, by simp [intOf]; omega⟩
        · have hpe := (o3 hk0).1
          obtain rfl : np = 0 := by rw [← hnp, hpe]; rfl
          have hk3 : t.kind = 1 ∨ t.kind = 2 ∨ t.kind = 3 := by omega
          rcases hk3 with hk | hk | hk
          · have e7 : (t.fd != -1) = false := by rw [o4 (by omega)]; rfl
            rw [hk] at c0 e5
            clear o1 o2 o3 o4 hnp hk0 hpe
            go_wp2_with (first | ((with_reducible refine kn_list_set ?_); (try clear hF); clear hL; intro W hL; (try simp only [kfb] at hL); have hF := hL.facts; (try simp only [Facts, Dist, kfa, implies_true, forall_const] at hF)) | (go_at_call 11; refine kn_calls ?_; (try clear hF); clear hL; intro W hL; (try simp only [kfb] at hL); have hF := hL.facts; (try simp only [Facts, Dist, kfa, implies_true, forall_const] at hF); (((with_reducible refine (wordLaw_is t HWO.out x1 x2 HX2.out _ _ _ _ _ (HQ.out.kn hL (by simp))).mono ?_))); rintro e W ⟨rfl, hb⟩; replace hL := hL.below hb; clear hb; (try clear hF); (try simp only [kfb] at hL); have hF := hL.facts; (try simp only [Facts, Dist, kfa, implies_true, forall_const] at hF)))
            exact ⟨⟨k + 1, t.line, by omega, by go_num, rfl, HNX.out, hL.sub (by repeat' (first | (exact List.Sublist.refl _) | (apply List.Sublist.cons_cons) | (apply List.Sublist.cons)))⟩, by simp [intOf]; omega⟩
          · rw [hk] at c0 e5
            clear o1 o2 o3 o4 hnp hk0 hpe
            go_wp2_with (first | ((with_reducible refine kn_list_set ?_); (try clear hF); clear hL; intro W hL; (try simp only [kfb] at hL); have hF := hL.facts; (try simp only [Facts, Dist, kfa, implies_true, forall_const] at hF)) | (go_at_call 11; refine kn_calls ?_; (try clear hF); clear hL; intro W hL; (try simp only [kfb] at hL); have hF := hL.facts; (try simp only [Facts, Dist, kfa, implies_true, forall_const] at hF); (((with_reducible refine (wordLaw_is t HWO.out x1 x2 HX2.out _ _ _ _ _ (HQ.out.kn hL (by simp))).mono ?_))); rintro e W ⟨rfl, hb⟩; replace hL := hL.below hb; clear hb; (try clear hF); (try simp only [kfb] at hL); have hF := hL.facts; (try simp only [Facts, Dist, kfa, implies_true, forall_const] at hF)))
            exact ⟨⟨k + 1, t.line, by omega, by go_num, rfl, HNX.out, hL.sub (by repeat' (first | (exact List.Sublist.refl _) | (apply List.Sublist.cons_cons) | (apply List.Sublist.cons)))⟩, by simp [intOf]; omega⟩
          · have e7 : (t.fd != -1) = false := by rw [o4 (by omega)]; rfl
            rw [hk] at c0 e5
            clear o1 o2 o3 o4 hnp hk0 hpe
            go_wp2_with (first | ((with_reducible refine kn_list_set ?_); (try clear hF); clear hL; intro W hL; (try simp only [kfb] at hL); have hF := hL.facts; (try simp only [Facts, Dist, kfa, implies_true, forall_const] at hF)) | (go_at_call 11; refine kn_calls ?_; (try clear hF); clear hL; intro W hL; (try simp only [kfb] at hL); have hF := hL.facts; (try simp only [Facts, Dist, kfa, implies_true, forall_const] at hF); (((with_reducible refine (wordLaw_is t HWO.out x1 x2 HX2.out _ _ _ _ _ (HQ.out.kn hL (by simp))).mono ?_))); rintro e W ⟨rfl, hb⟩; replace hL := hL.below hb; clear hb; (try clear hF); (try simp only [kfb] at hL); have hF := hL.facts; (try simp only [Facts, Dist, kfa, implies_true, forall_const] at hF)))
            exact ⟨⟨k + 1, t.line, by omega, by go_num, rfl, HNX.out, hL.sub (by repeat' (first | (exact List.Sublist.refl _) | (apply List.Sublist.cons_cons) | (apply List.Sublist.cons)))⟩, by simp [intOf]; omega⟩
      · obtain rfl : k = nx := by have := HN0.out; omega
        have hte : t = endT m := by
          rw [List.getElem?_append_right (by rw [HXL.out]; omega)] at htk2
          simp [HXL.out] at htk2
          exact htk2.symm
        have HWO := Lib.hid (show WordOK t by rw [hte]; exact ⟨wf_nil, rfl, Nat.zero_le _⟩)
        obtain rfl : np = 0 := by rw [← hnp, hte]; rfl
        have hk4 : t.kind = 4 := by rw [hte]; rfl
        have e7 : (t.fd != -1) = false := by rw [hte]; rfl
        rw [hk4] at c0
        clear hte htk htk2 hnp hk4
        go_wp2_with (first | ((with_reducible refine kn_list_set ?_); (try clear hF); clear hL; intro W hL; (try simp only [kfb] at hL); have hF := hL.facts; (try simp only [Facts, Dist, kfa, implies_true, forall_const] at hF)) | (go_at_call 11; refine kn_calls ?_; (try clear hF); clear hL; intro W hL; (try simp only [kfb] at hL); have hF := hL.facts; (try simp only [Facts, Dist, kfa, implies_true, forall_const] at hF); (((with_reducible refine (wordLaw_is t HWO.out x1 x2 HX2.out _ _ _ _ _ (HQ.out.kn hL (by simp))).mono ?_))); rintro e W ⟨rfl, hb⟩; replace hL := hL.below hb; clear hb; (try clear hF); (try simp only [kfb] at hL); have hF := hL.facts; (try simp only [Facts, Dist, kfa, implies_true, forall_const] at hF)))
        exact ⟨⟨k + 1, t.line, by omega, by go_num, rfl, HNX.out, hL.sub (by repeat' (first | (exact List.Sublist.refl _) | (apply List.Sublist.cons_cons) | (apply List.Sublist.cons)))⟩, by simp [intOf]; omega⟩
    · obtain rfl : k = n0 := by omega
      go_wp2
      (try simp only [Exit.inBlock, Exit.then]); refine bodyPost_ret (by simp [results, Tryd.results6, go_sem, *]; try rfl) rfl ?_
      exact ⟨by first | rfl | rw [s9n], (HL0.out.tail0 hL).below0⟩

end Go.Proofs.YtflfaobbfhjmmaaDoor

namespace Go.Proofs.YtflfaobbfhjmmaaDoor
open Go Go.RowKit
set_option linter.unusedSimpArgs false
set_option linter.unusedVariables false
set_option maxRecDepth 20000 in
set_option maxHeartbeats 4000000 in
theorem parts_long (s : ByteArray) (hs : 3000 < s.size) (HS : Hid (∀ W, Calls Tryd.prog 7 #[] W fun e w' => e = .returned (.bool true) ∧ Below W.heap.size W w')) (w : World) : Calls Tryd.prog 6 #[.string s] w fun e w' => e = .returned (.bool true) ∧ Below w.heap.size w w' := by
  have q0 : (s.size : Int) > 3000 := by omega
  clear hs
  have hL : Kn [] w w [] := Kn.refl [] w; (try simp only [kfb] at hL); have hF := hL.facts; (try simp only [Facts, Dist, kfa, implies_true, forall_const] at hF); go_enter Tryd.func6, Tryd.ntmps6
  go_wp2_with (first | ((with_reducible refine kn_list_set ?_); (try clear hF); clear hL; intro W hL; (try simp only [kfb] at hL); have hF := hL.facts; (try simp only [Facts, Dist, kfa, implies_true, forall_const] at hF)) | (go_at_call 7; refine kn_calls ?_; (try clear hF); clear hL; intro W hL; (try simp only [kfb] at hL); have hF := hL.facts; (try simp only [Facts, Dist, kfa, implies_true, forall_const] at hF); (((with_reducible refine (HS.out _).mono ?_))); rintro e W ⟨rfl, hb⟩; replace hL := hL.below hb; clear hb; (try clear hF); (try simp only [kfb] at hL); have hF := hL.facts; (try simp only [Facts, Dist, kfa, implies_true, forall_const] at hF)))
  (try simp only [Exit.inBlock, Exit.then]); refine bodyPost_ret (by simp [results, Tryd.results6, go_sem, *]; try rfl) rfl ?_
  exact ⟨rfl, hL.below0⟩
set_option maxRecDepth 20000 in
set_option maxHeartbeats 4000000 in
theorem parts_err (s : ByteArray) (hs : s.size ≤ 3000) (HS : Hid (∀ W, Calls Tryd.prog 7 #[] W fun e w' => e = .returned (.bool true) ∧ Below W.heap.size W w')) (er em : Int) (her : (er != 0) = true) (HX0 : Hid (∀ W, Calls Tryd.prog 9 #[.string s] W fun e w' => Below W.heap.size W w' ∧ e = .returned (.tuple #[.slice none 0 0, .int .i64 er, .int .i64 em]))) (w : World) : Calls Tryd.prog 6 #[.string s] w fun e w' => e = .returned (.bool true) ∧ Below w.heap.size w w' := by
  have q0 : ¬ (s.size : Int) > 3000 := by omega
  have hL : Kn [] w w [] := Kn.refl [] w; (try simp only [kfb] at hL); have hF := hL.facts; (try simp only [Facts, Dist, kfa, implies_true, forall_const] at hF); go_enter Tryd.func6, Tryd.ntmps6
  go_wp2_with (first | ((with_reducible refine kn_list_set ?_); (try clear hF); clear hL; intro W hL; (try simp only [kfb] at hL); have hF := hL.facts; (try simp only [Facts, Dist, kfa, implies_true, forall_const] at hF)) | (go_at_call 7; refine kn_calls ?_; (try clear hF); clear hL; intro W hL; (try simp only [kfb] at hL); have hF := hL.facts; (try simp only [Facts, Dist, kfa, implies_true, forall_const] at hF); (((with_reducible refine (HS.out _).mono ?_))); rintro e W ⟨rfl, hb⟩; replace hL := hL.below hb; clear hb; (try clear hF); (try simp only [kfb] at hL); have hF := hL.facts; (try simp only [Facts, Dist, kfa, implies_true, forall_const] at hF)) | (go_at_call 9; (((with_reducible refine (HX0.out _).mono ?_))); rintro e W ⟨hb, rfl⟩; (try replace hT0 := hT0.ext hb); (try replace hT1 := hT1.ext hb); (try replace hT2 := hT2.ext hb); (try replace hT3 := hT3.ext hb); (try replace hT4 := hT4.ext hb); (try replace hT5 := hT5.ext hb); (try replace hT6 := hT6.ext hb); (try replace hT7 := hT7.ext hb); replace hL := hL.below hb; clear hb; (try clear hF); (try simp only [kfb] at hL); have hF := hL.facts; (try simp only [Facts, Dist, kfa, implies_true, forall_const] at hF)))
  (try simp only [Exit.inBlock, Exit.then]); refine bodyPost_ret (by simp [results, Tryd.results6, go_sem, *]; try rfl) rfl ?_
  exact ⟨rfl, hL.below0⟩
theorem LexParts_is (s : ByteArray) (w : World) : Calls Tryd.prog 6 #[.string s] w fun e w' => e = .returned (.bool true) ∧ Below w.heap.size w w' := by
  have HS : Hid (∀ W, Calls Tryd.prog 7 #[] W fun e w' => e = .returned (.bool true) ∧ Below W.heap.size W w') := Lib.hid fun W => small_is W
  by_cases hs : s.size ≤ 3000
  · cases hA : lex s.data.toList with
    | err full m => exact parts_err s hs HS (if full then 6 else 27) m (by cases full <;> rfl) (Lib.hid fun W => lexErr s (by omega) full m _ rfl hA W) w
    | ok ts =>
      obtain ⟨xs, m, hra, hta, hxl⟩ := lim_ok (by rw [szl]; omega) hA
      obtain ⟨hall, hli⟩ := parts_all (by rw [szl]; omega) hra
      exact parts_walk s hs HS (xs.length + 1) xs.length m (Lib.hid rfl) hxl ts xs (Lib.hid hta) (Lib.hid rfl) (Lib.hid hli) (Lib.hid hall) (Lib.hid fun W => lexOk s (by omega) ts (xs.length + 1) hA (by rw [hta]; simp) (by omega) W) w
  · exact parts_long s (by omega) HS w

end Go.Proofs.YtflfaobbfhjmmaaDoor

