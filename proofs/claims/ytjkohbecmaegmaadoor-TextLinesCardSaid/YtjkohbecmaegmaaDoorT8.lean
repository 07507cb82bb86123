import Derived.Test.YtjkohbecmaegmaaDoorProg
import Derived.WalkKit
import Derived.Handy
import Derived.Deep.Light
import Derived.WalkSmall
import Derived.StillTailTactics
import Derived.Lib.Hide
import Derived.Test.YtjkohbecmaegmaaDoorT0
import Derived.Test.YtjkohbecmaegmaaDoorIt
import Derived.Test.YtjkohbecmaegmaaDoorT7
import Derived.Test.YtjkohbecmaegmaaDoorPat5
namespace Go.Proofs.YtjkohbecmaegmaaDoor
open Go Go.RowKit
set_option linter.unusedSimpArgs false
set_option linter.unusedVariables false

theorem nb93 : ((93 : UInt8).toNat : Int) = 93 := rfl
theorem Index_93 (s : ByteArray) (r : Int) (hr : Lib.indexByte s.data.toList 93 = r) (w : World) :
    Calls Tryd.prog 40 #[.string s, .int .u8 93] w fun x w' => x = .returned (.int .i64 r) ∧ w' = w := Index_any s 93 r hr 93 nb93 w
theorem closing_short (p : ByteArray) (first : Nat) (h : ((first : Int) + 1 > p.size)) (hf : first ≤ 200000000) (w : World) :
    Calls Tryd.prog 57 #[.string p, .int .i64 first] w fun e w' => e = .returned (.int .i64 (-1)) ∧ w' = w := by
  go_enter Tryd.func57, Tryd.ntmps57
  go_wp2
  (try simp only [Exit.inBlock, Exit.then]); refine bodyPost_ret (by simp [results, Tryd.results57, go_sem, *]; try rfl) rfl ?_
  exact ⟨rfl, rfl⟩
theorem closing_walk (p : ByteArray) (first : Nat) (h : ¬ ((first : Int) + 1 > p.size)) (hp : p.size ≤ 100000000) (u : ByteArray) (hu : p.extract (min ((first : Int) + 1) p.size).toNat p.size = u) (r : Int) (hr : Lib.indexByte u.data.toList 93 = r) (hr0 : r < 0) (w : World) :
    Calls Tryd.prog 57 #[.string p, .int .i64 first] w fun e w' => e = .returned (.int .i64 (-1)) ∧ w' = w := by
  go_enter Tryd.func57, Tryd.ntmps57
  go_wp2_with (first | ((with_reducible refine kn_list_set ?_); (try clear hF); clear hL; intro W hL; (try simp only [List.setIfInBounds_toArray, List.set_cons_zero, List.set_cons_succ, List.cons_append, List.nil_append] at hL); have hF := hL.facts; (try simp only [Facts, Dist, List.map_cons, List.map_nil, List.forall_mem_cons, false_implies, ne_eq, not_false_eq_true, List.not_mem_nil, not_false_eq_true, true_implies, forall_const, List.mem_cons, or_false, implies_true, and_true, true_and, Nat.le_refl, List.setIfInBounds_toArray, List.set_cons_zero, List.set_cons_succ] at hF)) | (go_at_call 40; (with_reducible refine (Index_93 u r hr _).mono ?_); rintro e w' ⟨rfl, rfl⟩))
  (try simp only [Exit.inBlock, Exit.then]); refine bodyPost_ret (by simp [results, Tryd.results57, go_sem, *]; try rfl) rfl ?_
  exact ⟨rfl, rfl⟩
theorem closing_hit (p : ByteArray) (first : Nat) (h : ¬ ((first : Int) + 1 > p.size)) (hp : p.size ≤ 100000000) (u : ByteArray) (hu : p.extract (min ((first : Int) + 1) p.size).toNat p.size = u) (n : Nat) (hr : Lib.indexByte u.data.toList 93 = (n : Int)) (hn : n ≤ 100000000) (w : World) :
    Calls Tryd.prog 57 #[.string p, .int .i64 first] w fun e w' => e = .returned (.int .i64 ((first + 1 + n : Nat) : Int)) ∧ w' = w := by
  go_enter Tryd.func57, Tryd.ntmps57
  go_wp2_with (first | ((with_reducible refine kn_list_set ?_); (try clear hF); clear hL; intro W hL; (try simp only [List.setIfInBounds_toArray, List.set_cons_zero, List.set_cons_succ, List.cons_append, List.nil_append] at hL); have hF := hL.facts; (try simp only [Facts, Dist, List.map_cons, List.map_nil, List.forall_mem_cons, false_implies, ne_eq, not_false_eq_true, List.not_mem_nil, not_false_eq_true, true_implies, forall_const, List.mem_cons, or_false, implies_true, and_true, true_and, Nat.le_refl, List.setIfInBounds_toArray, List.set_cons_zero, List.set_cons_succ] at hF)) | (go_at_call 40; (with_reducible refine (Index_93 u n hr _).mono ?_); rintro e w' ⟨rfl, rfl⟩))
  (try simp only [Exit.inBlock, Exit.then]); refine bodyPost_ret (by simp [results, Tryd.results57, go_sem, *]; try rfl) rfl ?_
  exact ⟨by simp, rfl⟩
/-- Where the class that begins here ends: behind its set. -/
theorem closing_is (p : ByteArray) (first : Nat) (hp : p.size ≤ 100000000) (hf : first ≤ 100000002) (w : World) :
    Calls Tryd.prog 57 #[.string p, .int .i64 first] w fun e w' => e = .returned (.int .i64 (match setOf (p.data.toList.drop first) with | some (a, _) => (first : Int) + a.length | none => -1)) ∧ w' = w := by
  have hpl := szl p
  by_cases h : ((first : Int) + 1 > p.size)
  · have e : setOf (p.data.toList.drop first) = none := by unfold setOf; rw [if_pos (List.drop_eq_nil_of_le (by omega))]
    rw [e]
    exact closing_short p first h (by omega) w
  · have hne : p.data.toList.drop first ≠ [] := fun e => by
      have := congrArg List.length e
      rw [List.length_drop] at this
      simp only [List.length_nil] at this; omega
    obtain ⟨u, hu⟩ : ∃ u, p.extract (min ((first : Int) + 1) p.size).toNat p.size = u := ⟨_, rfl⟩
    have hul : u.data.toList = (p.data.toList.drop first).drop 1 := by
      rw [← hu, ext_list, List.take_of_length_le (by omega), List.drop_drop]
      congr 1; omega
    have hlt := index_lt ((p.data.toList.drop first).drop 1) 93
    rw [List.length_drop, List.length_drop] at hlt
    by_cases hi : Lib.indexByte ((p.data.toList.drop first).drop 1) 93 < 0
    · have e : setOf (p.data.toList.drop first) = none := by unfold setOf; rw [if_neg hne, if_pos hi]
      rw [e]
      exact closing_walk p first h hp u hu _ (by rw [hul]) hi w
    · obtain ⟨n, hn⟩ := Int.eq_ofNat_of_zero_le (show 0 ≤ Lib.indexByte ((p.data.toList.drop first).drop 1) 93 by omega)
      have e : setOf (p.data.toList.drop first) = some ((p.data.toList.drop first).take (n + 1), (p.data.toList.drop first).drop (n + 2)) := by
        unfold setOf; rw [if_neg hne, if_neg hi, hn]; rfl
      rw [e]
      rw [hn] at hlt
      refine (closing_hit p first h hp u hu n (by rw [hul]; exact hn) (by omega) w).mono ?_
      rintro x w' ⟨rfl, h2⟩
      refine ⟨?_, h2⟩
      congr 2
      simp only [List.length_take, List.length_drop]
      omega

end Go.Proofs.YtjkohbecmaegmaaDoor
