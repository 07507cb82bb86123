import Derived.Test.YtbmonkhnmaamnaaDoorProg
import Derived.WalkKit
import Derived.Handy
import Derived.Deep.Light
import Derived.WalkSmall
import Derived.StillTailTactics
import Derived.Lib.Hide
import Derived.Test.YtbmonkhnmaamnaaDoorReg
import Derived.Test.YtbmonkhnmaamnaaDoorIsa0
import Derived.Test.YtbmonkhnmaamnaaDoorIsa9
import Derived.Test.YtbmonkhnmaamnaaDoorIt
import Derived.Deep.Cut
namespace Go.Proofs.YtbmonkhnmaamnaaDoor
open Go Go.RowKit
set_option linter.unusedSimpArgs false
set_option linter.unusedVariables false

theorem idx_hit {s : ByteArray} {k : Nat} (hk : k < 32) (h : namesB.getD k ByteArray.empty = s) (hn : ∀ j, j < k → namesB.getD j ByteArray.empty ≠ s) : findI s = k := by
  have := Lib.idxFromS_hit s namesB k 0 (by rw [namesB_len]; exact hk) h hn
  unfold findI Lib.idxOfS; rw [this]; simp
theorem refNames2 (w : World) : Calls Tryd.prog 29 #[] w fun e w' =>
    ∃ b cur, e = .returned (.slice (some ⟨b, 0, none⟩) 32 32) ∧ Kn [] w w' [(b, .cells cur 9 (0, 0))] ∧ ∀ k : Nat, k < 32 → cur[k]? = some (.string (namesB.getD k ByteArray.empty)) :=
  (refNames_any w).mono fun e w' ⟨b, h1, h2⟩ => ⟨b, #[.string ⟨#[110, 111, 112]⟩, .string ⟨#[109, 111, 118]⟩, .string ⟨#[115, 101, 116]⟩, .string ⟨#[104, 105, 103, 104]⟩, .string ⟨#[97, 100, 100]⟩, .string ⟨#[115, 117, 98]⟩, .string ⟨#[109, 117, 108]⟩, .string ⟨#[100, 105, 118]⟩, .string ⟨#[109, 111, 100]⟩, .string ⟨#[97, 110, 100]⟩, .string ⟨#[111, 114]⟩, .string ⟨#[120, 111, 114]⟩, .string ⟨#[115, 104, 108]⟩, .string ⟨#[115, 104, 114]⟩, .string ⟨#[101, 113]⟩, .string ⟨#[110, 101]⟩, .string ⟨#[108, 116]⟩, .string ⟨#[108, 101]⟩, .string ⟨#[97, 100, 100, 105]⟩, .string ⟨#[108, 100, 98]⟩, .string ⟨#[108, 100, 119]⟩, .string ⟨#[115, 116, 98]⟩, .string ⟨#[115, 116, 119]⟩, .string ⟨#[112, 117, 115, 104]⟩, .string ⟨#[112, 111, 112]⟩, .string ⟨#[106, 109, 112]⟩, .string ⟨#[106, 122]⟩, .string ⟨#[106, 110, 122]⟩, .string ⟨#[108, 105, 110, 107]⟩, .string ⟨#[106, 114]⟩, .string ⟨#[97, 100, 100, 114]⟩, .string ⟨#[99, 97, 108, 108]⟩], h1, h2, fun k hk => by
    have : ∀ k : Fin 32, (#[.string ⟨#[110, 111, 112]⟩, .string ⟨#[109, 111, 118]⟩, .string ⟨#[115, 101, 116]⟩, .string ⟨#[104, 105, 103, 104]⟩, .string ⟨#[97, 100, 100]⟩, .string ⟨#[115, 117, 98]⟩, .string ⟨#[109, 117, 108]⟩, .string ⟨#[100, 105, 118]⟩, .string ⟨#[109, 111, 100]⟩, .string ⟨#[97, 110, 100]⟩, .string ⟨#[111, 114]⟩, .string ⟨#[120, 111, 114]⟩, .string ⟨#[115, 104, 108]⟩, .string ⟨#[115, 104, 114]⟩, .string ⟨#[101, 113]⟩, .string ⟨#[110, 101]⟩, .string ⟨#[108, 116]⟩, .string ⟨#[108, 101]⟩, .string ⟨#[97, 100, 100, 105]⟩, .string ⟨#[108, 100, 98]⟩, .string ⟨#[108, 100, 119]⟩, .string ⟨#[115, 116, 98]⟩, .string ⟨#[115, 116, 119]⟩, .string ⟨#[112, 117, 115, 104]⟩, .string ⟨#[112, 111, 112]⟩, .string ⟨#[106, 109, 112]⟩, .string ⟨#[106, 122]⟩, .string ⟨#[106, 110, 122]⟩, .string ⟨#[108, 105, 110, 107]⟩, .string ⟨#[106, 114]⟩, .string ⟨#[97, 100, 100, 114]⟩, .string ⟨#[99, 97, 108, 108]⟩] : Array Value)[k.val]? = some (.string (namesB.getD k.val ByteArray.empty)) := by
      intro k
      have e : (#[.string ⟨#[110, 111, 112]⟩, .string ⟨#[109, 111, 118]⟩, .string ⟨#[115, 101, 116]⟩, .string ⟨#[104, 105, 103, 104]⟩, .string ⟨#[97, 100, 100]⟩, .string ⟨#[115, 117, 98]⟩, .string ⟨#[109, 117, 108]⟩, .string ⟨#[100, 105, 118]⟩, .string ⟨#[109, 111, 100]⟩, .string ⟨#[97, 110, 100]⟩, .string ⟨#[111, 114]⟩, .string ⟨#[120, 111, 114]⟩, .string ⟨#[115, 104, 108]⟩, .string ⟨#[115, 104, 114]⟩, .string ⟨#[101, 113]⟩, .string ⟨#[110, 101]⟩, .string ⟨#[108, 116]⟩, .string ⟨#[108, 101]⟩, .string ⟨#[97, 100, 100, 105]⟩, .string ⟨#[108, 100, 98]⟩, .string ⟨#[108, 100, 119]⟩, .string ⟨#[115, 116, 98]⟩, .string ⟨#[115, 116, 119]⟩, .string ⟨#[112, 117, 115, 104]⟩, .string ⟨#[112, 111, 112]⟩, .string ⟨#[106, 109, 112]⟩, .string ⟨#[106, 122]⟩, .string ⟨#[106, 110, 122]⟩, .string ⟨#[108, 105, 110, 107]⟩, .string ⟨#[106, 114]⟩, .string ⟨#[97, 100, 100, 114]⟩, .string ⟨#[99, 97, 108, 108]⟩] : Array Value) = (namesB.map Value.string).toArray := rfl
      rw [e, List.getElem?_toArray, List.getElem?_map, List.getElem?_eq_getElem (by rw [namesB_len]; exact k.isLt), List.getD_eq_getElem?_getD, List.getElem?_eq_getElem (by rw [namesB_len]; exact k.isLt)]
      rfl
    exact this ⟨k, hk⟩⟩
set_option maxRecDepth 20000 in
set_option maxHeartbeats 2000000 in
theorem refFind_any (s : ByteArray) (w : World) :
    Calls Tryd.prog 16 #[.string s] w fun e w' => e = .returned (.tuple #[.int .i64 (max (findI s) 0), .bool (decide (0 ≤ findI s))]) ∧ Below w.heap.size w w' := by
  have hL : Kn [] w w [] := Kn.refl [] w; (try simp only [List.setIfInBounds_toArray, List.set_cons_zero, List.set_cons_succ, List.cons_append, List.nil_append] at hL); have hF := hL.facts; (try simp only [Facts, Dist, List.map_cons, List.map_nil, List.forall_mem_cons, false_implies, ne_eq, not_false_eq_true, List.not_mem_nil, not_false_eq_true, true_implies, forall_const, List.mem_cons, or_false, implies_true, and_true, true_and, Nat.le_refl, List.setIfInBounds_toArray, List.set_cons_zero, List.set_cons_succ] at hF); go_enter Tryd.func16, Tryd.ntmps16
  go_wp2_with (first | ((with_reducible refine kn_list_set ?_); (try clear hF); clear hL; intro W hL; (try simp only [List.setIfInBounds_toArray, List.set_cons_zero, List.set_cons_succ, List.cons_append, List.nil_append] at hL); have hF := hL.facts; (try simp only [Facts, Dist, List.map_cons, List.map_nil, List.forall_mem_cons, false_implies, ne_eq, not_false_eq_true, List.not_mem_nil, not_false_eq_true, true_implies, forall_const, List.mem_cons, or_false, implies_true, and_true, true_and, Nat.le_refl, List.setIfInBounds_toArray, List.set_cons_zero, List.set_cons_succ] at hF)) | (go_at_call 29; refine kn_calls ?_; (try clear hF); clear hL; intro W hL; (try simp only [List.setIfInBounds_toArray, List.set_cons_zero, List.set_cons_succ, List.cons_append, List.nil_append] at hL); have hF := hL.facts; (try simp only [Facts, Dist, List.map_cons, List.map_nil, List.forall_mem_cons, false_implies, ne_eq, not_false_eq_true, List.not_mem_nil, not_false_eq_true, true_implies, forall_const, List.mem_cons, or_false, implies_true, and_true, true_and, Nat.le_refl, List.setIfInBounds_toArray, List.set_cons_zero, List.set_cons_succ] at hF); (with_reducible refine (refNames2 _).mono ?_); rintro e W ⟨nb, cur, rfl, hb, hcur⟩; replace hL := hL.join hb; clear hb; (try clear hF); (try simp only [List.setIfInBounds_toArray, List.set_cons_zero, List.set_cons_succ, List.cons_append, List.nil_append] at hL); have hF := hL.facts; (try simp only [Facts, Dist, List.map_cons, List.map_nil, List.forall_mem_cons, false_implies, ne_eq, not_false_eq_true, List.not_mem_nil, not_false_eq_true, true_implies, forall_const, List.mem_cons, or_false, implies_true, and_true, true_and, Nat.le_refl, List.setIfInBounds_toArray, List.set_cons_zero, List.set_cons_succ] at hF)))
  go_loop [5] (fun i => ∃ k : Nat, k ≤ 32 ∧ i = .int .i64 k ∧ ∀ j, j < k → namesB.getD j ByteArray.empty ≠ s) (fun i => 32 - (intOf i).toNat)
  case atStart => exact ⟨0, by omega, rfl, fun j hj => by omega⟩
  case round =>
    obtain ⟨k, hk, rfl, hno⟩ := hrel
    have HN := Lib.hid hno
    clear hno
    by_cases hlt : k < 32
    · have hck := hcur k hlt
      clear hcur
      obtain ⟨z, hz⟩ : ∃ z, namesB.getD k ByteArray.empty = z := ⟨_, rfl⟩
      rw [hz] at hck
      have HZ := Lib.hid hz
      clear hz
      cases hq : (z.toList == s.toList)
      · go_wp2
        go_round
        case rel =>
          refine ⟨k + 1, by omega, by go_num, fun j hj => ?_⟩
          rcases Nat.lt_or_ge j k with h | h
          · exact HN.out j h
          · obtain rfl : j = k := by omega
            rw [HZ.out]; exact (Lib.bytes_beq_false_iff _ _).1 hq
        case measure => simp [intOf]; omega
      · go_wp2
        (try simp only [Exit.inBlock, Exit.then]); refine bodyPost_ret (by simp [results, Tryd.results16, go_sem, *]; try rfl) rfl ?_
        have e := idx_hit hlt (HZ.out.trans ((Lib.bytes_beq_iff _ _).1 hq)) HN.out
        refine ⟨?_, kn_here.below0⟩
        rw [e]
        have e1 : max (k : Int) 0 = k := by omega
        have e2 : decide (0 ≤ (k : Int)) = true := by simp
        rw [e1, e2]
    · go_wp2
      (try simp only [Exit.inBlock, Exit.then]); refine bodyPost_ret (by simp [results, Tryd.results16, go_sem, *]; try rfl) rfl ?_
      have e : findI s = -1 := by
        have h0 := findI_lt s
        apply Classical.byContradiction
        intro hn
        have hp : 0 ≤ Lib.idxOfS namesB s := by unfold findI at *; omega
        have hm := (Lib.idxOfS_nonneg_iff _ _).1 hp
        obtain ⟨j, hj, he⟩ := List.mem_iff_getElem.1 hm
        rw [namesB_len] at hj
        refine HN.out j (by omega) ?_
        rw [List.getD_eq_getElem?_getD, List.getElem?_eq_getElem (by rw [namesB_len]; exact hj), he]; rfl
      refine ⟨?_, kn_here.below0⟩
      rw [e]
      rfl

end Go.Proofs.YtbmonkhnmaamnaaDoor
