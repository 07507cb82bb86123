import Derived.Test.YtedifjdhdhcbhaaDoorProg
import Derived.WalkKit
import Derived.Handy
import Derived.Deep.Light
import Derived.WalkSmall
import Derived.StillTailTactics
import Derived.Lib.Hide
import Derived.Test.YtedifjdhdhcbhaaDoorW0
import Derived.Test.YtedifjdhdhcbhaaDoorIt
import Derived.Test.YtedifjdhdhcbhaaDoorW9
namespace Go.Proofs.YtedifjdhdhcbhaaDoor
open Go Go.RowKit
set_option linter.unusedSimpArgs false
set_option linter.unusedVariables false

def kindI (k : Int) : Int := if k.tmod 5 < 0 then k.tmod 5 + 5 else k.tmod 5
theorem kind_any (k n : Int) (s : ByteArray) (lv tv : Value) (hk : -9223372036854775808 ≤ k ∧ k ≤ 9223372036854775807) (hl : lv.oneCell' = true) (ht : tv.oneCell' = true) (w : World) :
    Calls Tryd.prog 22 #[.agg #[.int .i64 k, .int .i64 n, .string s, lv, tv]] w fun e w' => e = .returned (.int .i64 (kindI k)) ∧ Below w.heap.size w w' := by
  have hr : -5 < k.tmod 5 ∧ k.tmod 5 < 5 := ⟨Int.lt_tmod_of_pos k (by decide), Int.tmod_lt_of_pos k (by decide)⟩
  unfold kindI
  by_cases hn : k.tmod 5 < 0
  · rw [if_pos hn]
    have hL : Kn [] w w [] := Kn.refl [] w; (try simp only [List.setIfInBounds_toArray, List.set_cons_zero, List.set_cons_succ, List.cons_append, List.nil_append] at hL); have hF := hL.facts; (try simp only [Facts, Dist, List.map_cons, List.map_nil, List.forall_mem_cons, false_implies, ne_eq, not_false_eq_true, List.not_mem_nil, not_false_eq_true, true_implies, forall_const, List.mem_cons, or_false, implies_true, and_true, true_and, Nat.le_refl, List.setIfInBounds_toArray, List.set_cons_zero, List.set_cons_succ] at hF); go_enter Tryd.func22, Tryd.ntmps22
    go_wp2
    (try simp only [Exit.inBlock, Exit.then]); refine bodyPost_ret (by simp [results, Tryd.results22, go_sem, *]; try rfl) rfl ?_
    exact ⟨rfl, (Below.refl _ _).alloc (Nat.le_refl _) _⟩
  · rw [if_neg hn]
    have hL : Kn [] w w [] := Kn.refl [] w; (try simp only [List.setIfInBounds_toArray, List.set_cons_zero, List.set_cons_succ, List.cons_append, List.nil_append] at hL); have hF := hL.facts; (try simp only [Facts, Dist, List.map_cons, List.map_nil, List.forall_mem_cons, false_implies, ne_eq, not_false_eq_true, List.not_mem_nil, not_false_eq_true, true_implies, forall_const, List.mem_cons, or_false, implies_true, and_true, true_and, Nat.le_refl, List.setIfInBounds_toArray, List.set_cons_zero, List.set_cons_succ] at hF); go_enter Tryd.func22, Tryd.ntmps22
    go_wp2
    (try simp only [Exit.inBlock, Exit.then]); refine bodyPost_ret (by simp [results, Tryd.results22, go_sem, *]; try rfl) rfl ?_
    exact ⟨rfl, (Below.refl _ _).alloc (Nat.le_refl _) _⟩

end Go.Proofs.YtedifjdhdhcbhaaDoor
