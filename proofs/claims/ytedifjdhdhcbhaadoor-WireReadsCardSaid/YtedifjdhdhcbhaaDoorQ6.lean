import Derived.Test.YtedifjdhdhcbhaaDoorProg
import Derived.WalkKit
import Derived.Handy
import Derived.Deep.Light
import Derived.WalkSmall
import Derived.StillTailTactics
import Derived.Lib.Hide
import Derived.Test.YtedifjdhdhcbhaaDoorW0
import Derived.Test.YtedifjdhdhcbhaaDoorIt
import Derived.Test.YtedifjdhdhcbhaaDoorQ5
namespace Go.Proofs.YtedifjdhdhcbhaaDoor
open Go Go.RowKit
set_option linter.unusedSimpArgs false
set_option linter.unusedVariables false

theorem index_none : ∀ (l : Bytes) (e : UInt8), Lib.indexByte l e < 0 → ∀ x ∈ l, x ≠ e
  | [], e, _ => by simp
  | x :: l, e, h => by
    rw [Lib.indexByte] at h
    split at h
    · omega
    · rename_i hx
      split at h
      · rename_i h2
        intro y hy
        rcases List.mem_cons.1 hy with rfl | hy
        · simpa using hx
        · exact index_none l e (by simp at h2; omega) y hy
      · rename_i h2
        exfalso
        have := Lib.indexByte_ge l e
        simp at h2; omega
theorem szl (x : ByteArray) : x.data.toList.length = x.size := by simp
theorem refahead_q (b : Nat) (s : ByteArray) (bd : Bool) (e : UInt8) (en : Int) (hen : (e.toNat : Int) = en) (w : World) (hs : w.heap[b]? = some (.cells #[.string s, .bool bd] 61 (0, 0))) (n : Int) (rs : ByteArray) (bd1 : Bool) (hq : numR e minInt ⟨s.data.toList, bd⟩ = (n, ⟨rs.data.toList, bd1⟩)) :
    Calls Tryd.prog 55 #[.pointer (some ⟨b, 0, none⟩), .int .u8 en] w fun en w' => en = .returned (.int .i64 n) ∧ Kn [b] w w' [(b, .cells #[.string rs, .bool bd1] 61 (0, 0))] := by
  subst hen
  have hsl := szl s
  have hfail : ∀ (h : numR e minInt ⟨s.data.toList, bd⟩ = (0, failR)), n = 0 ∧ rs = ⟨#[]⟩ ∧ bd1 = true := fun h => by
    rw [h] at hq
    injection hq with h1 h2
    unfold failR at h2
    injection h2 with h2 h3
    exact ⟨h1.symm, ba_ext h2.symm, h3.symm⟩
  by_cases hi : Lib.indexByte (s.data.toList.take 21) e < 0
  · have hr : numR e minInt ⟨s.data.toList, bd⟩ = (0, failR) := by unfold numR; simp only; rw [if_pos hi]
    obtain ⟨rfl, rfl, rfl⟩ := hfail hr
    have hno := index_none _ e hi
    have hKn : ∀ (i : Nat) c, i < min 21 s.size → s.data.toList[i]? = some c → c ≠ e := fun i c hi hc => hno c (by
      apply List.mem_of_getElem? (i := i)
      rw [List.getElem?_take, if_pos (by omega)]; exact hc)
    by_cases hs21 : s.size ≤ 21
    · exact ahead_a b s bd e w hs (min 21 s.size) (by omega) (by omega) hKn (by omega)
    · rw [Nat.min_eq_left (by omega)] at hKn
      obtain ⟨c, hc⟩ : ∃ c, s.data.toList[21]? = some c := ⟨_, List.getElem?_eq_getElem (by omega)⟩
      by_cases hce : (c.toNat : Int) = (e.toNat : Int)
      · have hul : (s.extract 0 21).data.toList = s.data.toList.take 21 := by rw [ext_list, List.drop_zero]
        have hus : (s.extract 0 21).size = 21 := by rw [← szl, hul, List.length_take]; omega
        exact ahead_c b s bd e w hs 21 (by omega) (by omega) hKn (by omega) c hc hce (Nat.le_refl _) _ rfl (by omega) (by
          cases hcn : canon (s.extract 0 21).data.toList with
          | none => rfl
          | some m => have := canon_len hcn; rw [szl] at this; omega)
      · exact ahead_b b s bd e w hs 21 (by omega) (by omega) hKn (by omega) c hc hce (Nat.le_refl _)
  · obtain ⟨k, hk⟩ := Int.eq_ofNat_of_zero_le (show 0 ≤ Lib.indexByte (s.data.toList.take 21) e by omega)
    have hlt := index_lt (s.data.toList.take 21) e
    obtain ⟨a1, a2⟩ := index_at _ e k hk
    rw [hk] at hlt
    have hk2 : k < 21 ∧ k < s.size := by rw [List.length_take] at hlt; omega
    have hce0 : s.data.toList[k]? = some e := by
      have h1 := congrArg (·[k]?) a1
      simp only [List.getElem?_take_of_lt hk2.1] at h1
      rw [h1, List.getElem?_append_right (by rw [List.length_take]; omega), List.length_take, List.length_take]
      rw [show k - min k (min 21 s.data.toList.length) = 0 by omega]
      simp
    have hKn : ∀ (i : Nat) c, i < k → s.data.toList[i]? = some c → c ≠ e := fun i c hi hc => a2 c (by
      apply List.mem_of_getElem? (i := i)
      rw [List.getElem?_take, if_pos (by omega), List.getElem?_take, if_pos (by omega)]; exact hc)
    have hul : (s.extract 0 k).data.toList = s.data.toList.take k := by rw [ext_list, List.drop_zero]
    have hus : (s.extract 0 k).size ≤ 21 := by rw [← szl, hul, List.length_take]; omega
    have hun : numR e minInt ⟨s.data.toList, bd⟩ = (match canon (s.data.toList.take k) with | some n => if n < minInt then (0, failR) else (n, ⟨s.data.toList.drop (k + 1), bd⟩) | none => (0, failR)) := by
      unfold numR; simp only; rw [if_neg hi, hk]; simp only [Int.toNat_natCast]; rfl
    cases hcan : canon (s.data.toList.take k) with
    | none =>
      rw [hcan] at hun
      obtain ⟨rfl, rfl, rfl⟩ := hfail hun
      exact ahead_e b s bd e w hs k (by omega) (by omega) hKn hk2.2 e hce0 rfl hk2.1 _ rfl hus (by rw [hul]; exact hcan)
    | some m =>
      have hm := (canon_some hcan).2.1
      rw [hcan] at hun
      simp only at hun
      rw [if_neg (by unfold minInt; omega)] at hun
      rw [hun] at hq
      injection hq with h1 h2
      injection h2 with h2 h3
      subst h1; subst h3
      have hrs : s.extract (k + 1) s.size = rs := by
        apply ba_ext
        rw [ext_list, List.take_of_length_le (by omega)]; exact h2
      exact ahead_d b s bd e w hs k (by omega) (by omega) hKn hk2.2 e hce0 rfl hk2.1 _ rfl hus m (by rw [hul]; exact hcan) rs hrs
theorem num_zero (e : UInt8) (r : Rd) : numR e 0 r = if (numR e minInt r).1 < 0 then (0, failR) else numR e minInt r := by
  unfold numR
  split
  · simp
  · split
    · rename_i n hn
      have := (canon_some hn).2.1
      have e1 : ¬ n < minInt := by unfold minInt; omega
      simp only [e1, if_false]
    · simp
theorem refnumber_q (b : Nat) (s : ByteArray) (bd : Bool) (e : UInt8) (en : Int) (hen : (e.toNat : Int) = en) (w : World) (hs : w.heap[b]? = some (.cells #[.string s, .bool bd] 61 (0, 0))) (n : Int) (rs : ByteArray) (bd1 : Bool) (hq : numR e 0 ⟨s.data.toList, bd⟩ = (n, ⟨rs.data.toList, bd1⟩)) :
    Calls Tryd.prog 54 #[.pointer (some ⟨b, 0, none⟩), .int .u8 en] w fun en w' => en = .returned (.int .i64 n) ∧ Kn [b] w w' [(b, .cells #[.string rs, .bool bd1] 61 (0, 0))] := by
  obtain ⟨m, r, hm⟩ : ∃ m r, numR e minInt ⟨s.data.toList, bd⟩ = (m, r) := ⟨_, _, rfl⟩
  obtain ⟨z, bz, rfl⟩ := rd_eq r
  rw [num_zero, hm] at hq
  simp only at hq
  have hL : Kn [b] w w [(b, .cells #[.string s, .bool bd] 61 (0, 0))] := Kn.one hs; (try simp only [List.setIfInBounds_toArray, List.set_cons_zero, List.set_cons_succ, List.cons_append, List.nil_append] at hL); have hF := hL.facts; (try simp only [Facts, Dist, List.map_cons, List.map_nil, List.forall_mem_cons, false_implies, ne_eq, not_false_eq_true, List.not_mem_nil, not_false_eq_true, true_implies, forall_const, List.mem_cons, or_false, implies_true, and_true, true_and, Nat.le_refl, List.setIfInBounds_toArray, List.set_cons_zero, List.set_cons_succ] at hF)
  by_cases h0 : m < 0
  · rw [if_pos h0] at hq
    unfold failR at hq
    injection hq with h1 h2
    injection h2 with h2 h3
    obtain rfl : rs = ⟨#[]⟩ := ba_ext h2.symm
    subst h1; subst h3
    go_enter Tryd.func54, Tryd.ntmps54
    go_wp2_with (first | ((with_reducible refine kn_list_set ?_); (try clear hF); clear hL; intro W hL; (try simp only [List.setIfInBounds_toArray, List.set_cons_zero, List.set_cons_succ, List.cons_append, List.nil_append] at hL); have hF := hL.facts; (try simp only [Facts, Dist, List.map_cons, List.map_nil, List.forall_mem_cons, false_implies, ne_eq, not_false_eq_true, List.not_mem_nil, not_false_eq_true, true_implies, forall_const, List.mem_cons, or_false, implies_true, and_true, true_and, Nat.le_refl, List.setIfInBounds_toArray, List.set_cons_zero, List.set_cons_succ] at hF)) | (go_at_call 55; refine kn_calls ?_; (try clear hF); clear hL; intro W hL; (try simp only [List.setIfInBounds_toArray, List.set_cons_zero, List.set_cons_succ, List.cons_append, List.nil_append] at hL); have hF := hL.facts; (try simp only [Facts, Dist, List.map_cons, List.map_nil, List.forall_mem_cons, false_implies, ne_eq, not_false_eq_true, List.not_mem_nil, not_false_eq_true, true_implies, forall_const, List.mem_cons, or_false, implies_true, and_true, true_and, Nat.le_refl, List.setIfInBounds_toArray, List.set_cons_zero, List.set_cons_succ] at hF); (with_reducible refine (refahead_q _ _ _ e en hen _ (by first | exact hL.has _ List.mem_cons_self | exact hL.has _ (List.mem_cons_of_mem _ List.mem_cons_self) | exact hL.has _ (List.mem_cons_of_mem _ (List.mem_cons_of_mem _ List.mem_cons_self)) | exact hL.has _ (List.mem_cons_of_mem _ (List.mem_cons_of_mem _ (List.mem_cons_of_mem _ List.mem_cons_self))) | exact hL.has _ (List.mem_cons_of_mem _ (List.mem_cons_of_mem _ (List.mem_cons_of_mem _ (List.mem_cons_of_mem _ List.mem_cons_self)))) | exact hL.has _ (List.mem_cons_of_mem _ (List.mem_cons_of_mem _ (List.mem_cons_of_mem _ (List.mem_cons_of_mem _ (List.mem_cons_of_mem _ List.mem_cons_self)))))) m z bz hm).mono ?_); rintro e W ⟨rfl, hb⟩; (first | (replace hL := hL.join1 0 rfl hb) | (replace hL := hL.join1 1 rfl hb) | (replace hL := hL.join1 2 rfl hb) | (replace hL := hL.join1 3 rfl hb) | (replace hL := hL.join1 4 rfl hb) | (replace hL := hL.join1 5 rfl hb) | (replace hL := hL.join1 6 rfl hb) | (replace hL := hL.join1 7 rfl hb)); clear hb; (try clear hF); (try simp only [List.eraseIdx_cons_zero, List.eraseIdx_cons_succ, List.cons_append, List.nil_append] at hL); (try simp only [List.setIfInBounds_toArray, List.set_cons_zero, List.set_cons_succ, List.cons_append, List.nil_append] at hL); have hF := hL.facts; (try simp only [Facts, Dist, List.map_cons, List.map_nil, List.forall_mem_cons, false_implies, ne_eq, not_false_eq_true, List.not_mem_nil, not_false_eq_true, true_implies, forall_const, List.mem_cons, or_false, implies_true, and_true, true_and, Nat.le_refl, List.setIfInBounds_toArray, List.set_cons_zero, List.set_cons_succ] at hF)) | (go_at_call 56; refine kn_calls ?_; (try clear hF); clear hL; intro W hL; (try simp only [List.setIfInBounds_toArray, List.set_cons_zero, List.set_cons_succ, List.cons_append, List.nil_append] at hL); have hF := hL.facts; (try simp only [Facts, Dist, List.map_cons, List.map_nil, List.forall_mem_cons, false_implies, ne_eq, not_false_eq_true, List.not_mem_nil, not_false_eq_true, true_implies, forall_const, List.mem_cons, or_false, implies_true, and_true, true_and, Nat.le_refl, List.setIfInBounds_toArray, List.set_cons_zero, List.set_cons_succ] at hF); (with_reducible refine (reffail_any _ _ _ _ (by first | exact hL.has _ List.mem_cons_self | exact hL.has _ (List.mem_cons_of_mem _ List.mem_cons_self) | exact hL.has _ (List.mem_cons_of_mem _ (List.mem_cons_of_mem _ List.mem_cons_self)) | exact hL.has _ (List.mem_cons_of_mem _ (List.mem_cons_of_mem _ (List.mem_cons_of_mem _ List.mem_cons_self))) | exact hL.has _ (List.mem_cons_of_mem _ (List.mem_cons_of_mem _ (List.mem_cons_of_mem _ (List.mem_cons_of_mem _ List.mem_cons_self)))) | exact hL.has _ (List.mem_cons_of_mem _ (List.mem_cons_of_mem _ (List.mem_cons_of_mem _ (List.mem_cons_of_mem _ (List.mem_cons_of_mem _ List.mem_cons_self))))))).mono ?_); rintro e W ⟨rfl, hb⟩; (first | (replace hL := hL.join1 0 rfl hb) | (replace hL := hL.join1 1 rfl hb) | (replace hL := hL.join1 2 rfl hb) | (replace hL := hL.join1 3 rfl hb) | (replace hL := hL.join1 4 rfl hb) | (replace hL := hL.join1 5 rfl hb) | (replace hL := hL.join1 6 rfl hb) | (replace hL := hL.join1 7 rfl hb)); clear hb; (try clear hF); (try simp only [List.eraseIdx_cons_zero, List.eraseIdx_cons_succ, List.cons_append, List.nil_append] at hL); (try simp only [List.setIfInBounds_toArray, List.set_cons_zero, List.set_cons_succ, List.cons_append, List.nil_append] at hL); have hF := hL.facts; (try simp only [Facts, Dist, List.map_cons, List.map_nil, List.forall_mem_cons, false_implies, ne_eq, not_false_eq_true, List.not_mem_nil, not_false_eq_true, true_implies, forall_const, List.mem_cons, or_false, implies_true, and_true, true_and, Nat.le_refl, List.setIfInBounds_toArray, List.set_cons_zero, List.set_cons_succ] at hF)))
    (try simp only [Exit.inBlock, Exit.then]); refine bodyPost_ret (by simp [results, Tryd.results54, go_sem, *]; try rfl) rfl ?_
    exact ⟨rfl, kn_here⟩
  · rw [if_neg h0] at hq
    injection hq with h1 h2
    injection h2 with h2 h3
    obtain rfl := ba_ext h2
    subst h1; subst h3
    go_enter Tryd.func54, Tryd.ntmps54
    go_wp2_with (first | ((with_reducible refine kn_list_set ?_); (try clear hF); clear hL; intro W hL; (try simp only [List.setIfInBounds_toArray, List.set_cons_zero, List.set_cons_succ, List.cons_append, List.nil_append] at hL); have hF := hL.facts; (try simp only [Facts, Dist, List.map_cons, List.map_nil, List.forall_mem_cons, false_implies, ne_eq, not_false_eq_true, List.not_mem_nil, not_false_eq_true, true_implies, forall_const, List.mem_cons, or_false, implies_true, and_true, true_and, Nat.le_refl, List.setIfInBounds_toArray, List.set_cons_zero, List.set_cons_succ] at hF)) | (go_at_call 55; refine kn_calls ?_; (try clear hF); clear hL; intro W hL; (try simp only [List.setIfInBounds_toArray, List.set_cons_zero, List.set_cons_succ, List.cons_append, List.nil_append] at hL); have hF := hL.facts; (try simp only [Facts, Dist, List.map_cons, List.map_nil, List.forall_mem_cons, false_implies, ne_eq, not_false_eq_true, List.not_mem_nil, not_false_eq_true, true_implies, forall_const, List.mem_cons, or_false, implies_true, and_true, true_and, Nat.le_refl, List.setIfInBounds_toArray, List.set_cons_zero, List.set_cons_succ] at hF); (with_reducible refine (refahead_q _ _ _ e en hen _ (by first | exact hL.has _ List.mem_cons_self | exact hL.has _ (List.mem_cons_of_mem _ List.mem_cons_self) | exact hL.has _ (List.mem_cons_of_mem _ (List.mem_cons_of_mem _ List.mem_cons_self)) | exact hL.has _ (List.mem_cons_of_mem _ (List.mem_cons_of_mem _ (List.mem_cons_of_mem _ List.mem_cons_self))) | exact hL.has _ (List.mem_cons_of_mem _ (List.mem_cons_of_mem _ (List.mem_cons_of_mem _ (List.mem_cons_of_mem _ List.mem_cons_self)))) | exact hL.has _ (List.mem_cons_of_mem _ (List.mem_cons_of_mem _ (List.mem_cons_of_mem _ (List.mem_cons_of_mem _ (List.mem_cons_of_mem _ List.mem_cons_self)))))) m z bz hm).mono ?_); rintro e W ⟨rfl, hb⟩; (first | (replace hL := hL.join1 0 rfl hb) | (replace hL := hL.join1 1 rfl hb) | (replace hL := hL.join1 2 rfl hb) | (replace hL := hL.join1 3 rfl hb) | (replace hL := hL.join1 4 rfl hb) | (replace hL := hL.join1 5 rfl hb) | (replace hL := hL.join1 6 rfl hb) | (replace hL := hL.join1 7 rfl hb)); clear hb; (try clear hF); (try simp only [List.eraseIdx_cons_zero, List.eraseIdx_cons_succ, List.cons_append, List.nil_append] at hL); (try simp only [List.setIfInBounds_toArray, List.set_cons_zero, List.set_cons_succ, List.cons_append, List.nil_append] at hL); have hF := hL.facts; (try simp only [Facts, Dist, List.map_cons, List.map_nil, List.forall_mem_cons, false_implies, ne_eq, not_false_eq_true, List.not_mem_nil, not_false_eq_true, true_implies, forall_const, List.mem_cons, or_false, implies_true, and_true, true_and, Nat.le_refl, List.setIfInBounds_toArray, List.set_cons_zero, List.set_cons_succ] at hF)) | (go_at_call 56; refine kn_calls ?_; (try clear hF); clear hL; intro W hL; (try simp only [List.setIfInBounds_toArray, List.set_cons_zero, List.set_cons_succ, List.cons_append, List.nil_append] at hL); have hF := hL.facts; (try simp only [Facts, Dist, List.map_cons, List.map_nil, List.forall_mem_cons, false_implies, ne_eq, not_false_eq_true, List.not_mem_nil, not_false_eq_true, true_implies, forall_const, List.mem_cons, or_false, implies_true, and_true, true_and, Nat.le_refl, List.setIfInBounds_toArray, List.set_cons_zero, List.set_cons_succ] at hF); (with_reducible refine (reffail_any _ _ _ _ (by first | exact hL.has _ List.mem_cons_self | exact hL.has _ (List.mem_cons_of_mem _ List.mem_cons_self) | exact hL.has _ (List.mem_cons_of_mem _ (List.mem_cons_of_mem _ List.mem_cons_self)) | exact hL.has _ (List.mem_cons_of_mem _ (List.mem_cons_of_mem _ (List.mem_cons_of_mem _ List.mem_cons_self))) | exact hL.has _ (List.mem_cons_of_mem _ (List.mem_cons_of_mem _ (List.mem_cons_of_mem _ (List.mem_cons_of_mem _ List.mem_cons_self)))) | exact hL.has _ (List.mem_cons_of_mem _ (List.mem_cons_of_mem _ (List.mem_cons_of_mem _ (List.mem_cons_of_mem _ (List.mem_cons_of_mem _ List.mem_cons_self))))))).mono ?_); rintro e W ⟨rfl, hb⟩; (first | (replace hL := hL.join1 0 rfl hb) | (replace hL := hL.join1 1 rfl hb) | (replace hL := hL.join1 2 rfl hb) | (replace hL := hL.join1 3 rfl hb) | (replace hL := hL.join1 4 rfl hb) | (replace hL := hL.join1 5 rfl hb) | (replace hL := hL.join1 6 rfl hb) | (replace hL := hL.join1 7 rfl hb)); clear hb; (try clear hF); (try simp only [List.eraseIdx_cons_zero, List.eraseIdx_cons_succ, List.cons_append, List.nil_append] at hL); (try simp only [List.setIfInBounds_toArray, List.set_cons_zero, List.set_cons_succ, List.cons_append, List.nil_append] at hL); have hF := hL.facts; (try simp only [Facts, Dist, List.map_cons, List.map_nil, List.forall_mem_cons, false_implies, ne_eq, not_false_eq_true, List.not_mem_nil, not_false_eq_true, true_implies, forall_const, List.mem_cons, or_false, implies_true, and_true, true_and, Nat.le_refl, List.setIfInBounds_toArray, List.set_cons_zero, List.set_cons_succ] at hF)))
    (try simp only [Exit.inBlock, Exit.then]); refine bodyPost_ret (by simp [results, Tryd.results54, go_sem, *]; try rfl) rfl ?_
    exact ⟨rfl, kn_here⟩

end Go.Proofs.YtedifjdhdhcbhaaDoor
