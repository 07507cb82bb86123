import Derived.Test.YtedifjdhdhcbhaaDoorProg
import Derived.WalkKit
import Derived.Handy
import Derived.Deep.Light
import Derived.WalkSmall
import Derived.StillTailTactics
import Derived.Lib.Hide
import Derived.Test.YtedifjdhdhcbhaaDoorW0
import Derived.Test.YtedifjdhdhcbhaaDoorIt
import Derived.Test.YtedifjdhdhcbhaaDoorQ3
namespace Go.Proofs.YtedifjdhdhcbhaaDoor
open Go Go.RowKit
set_option linter.unusedSimpArgs false
set_option linter.unusedVariables false

theorem back_any (s : ByteArray) (hs : s.size ≤ 21) (w : World) : Calls Tryd.prog 64 #[.string s] w fun e w' => BackSays s.data.toList e ∧ Below w.heap.size w w' := by
  by_cases h : s.data.toList.head? = some 45
  · exact back_1 s hs 45 (by rw [← List.head?_eq_getElem?]; exact h) rfl w
  · exact back_0 s hs h w
theorem Back_ok (s : ByteArray) (hs : s.size ≤ 21) (n : Int) (hc : canon s.data.toList = some n) (w : World) : Calls Tryd.prog 64 #[.string s] w fun e w' => e = .returned (.tuple #[.int .i64 n, .bool true]) ∧ Below w.heap.size w w' := by
  refine (back_any s hs w).mono ?_
  rintro e w' ⟨⟨m, ok, rfl, h1, h2⟩, hb⟩
  cases ok
  · rw [h2 rfl] at hc; cases hc
  · rw [h1 rfl] at hc; obtain rfl := Option.some.inj hc; exact ⟨rfl, hb⟩
theorem Back_bad (s : ByteArray) (hs : s.size ≤ 21) (hc : canon s.data.toList = none) (w : World) : Calls Tryd.prog 64 #[.string s] w fun e w' => ∃ x : Int, e = .returned (.tuple #[.int .i64 x, .bool false]) ∧ Below w.heap.size w w' := by
  refine (back_any s hs w).mono ?_
  rintro e w' ⟨⟨m, ok, rfl, h1, h2⟩, hb⟩
  cases ok
  · exact ⟨m, rfl, hb⟩
  · rw [h1 rfl] at hc; cases hc
theorem reffail_any (b : Nat) (s : ByteArray) (bd : Bool) (w : World) (hs : w.heap[b]? = some (.cells #[.string s, .bool bd] 61 (0, 0))) :
    Calls Tryd.prog 56 #[.pointer (some ⟨b, 0, none⟩)] w fun e w' => e = .returned (.int .i64 0) ∧ Kn [b] w w' [(b, .cells #[.string ⟨#[]⟩, .bool true] 61 (0, 0))] := by
  have hL : Kn [b] w w [(b, .cells #[.string s, .bool bd] 61 (0, 0))] := Kn.one hs; (try simp only [List.setIfInBounds_toArray, List.set_cons_zero, List.set_cons_succ, List.cons_append, List.nil_append] at hL); have hF := hL.facts; (try simp only [Facts, Dist, List.map_cons, List.map_nil, List.forall_mem_cons, false_implies, ne_eq, not_false_eq_true, List.not_mem_nil, not_false_eq_true, true_implies, forall_const, List.mem_cons, or_false, implies_true, and_true, true_and, Nat.le_refl, List.setIfInBounds_toArray, List.set_cons_zero, List.set_cons_succ] at hF); go_enter Tryd.func56, Tryd.ntmps56
  go_wp2
  (try simp only [Exit.inBlock, Exit.then]); refine bodyPost_ret (by simp [results, Tryd.results56, go_sem, *]; try rfl) rfl ?_
  exact ⟨rfl, kn_here⟩

end Go.Proofs.YtedifjdhdhcbhaaDoor
