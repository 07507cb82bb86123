import Derived.Test.YtedifjdhdhcbhaaDoorProg
import Derived.WalkKit
import Derived.Handy
import Derived.Deep.Light
import Derived.WalkSmall
import Derived.StillTailTactics
import Derived.Lib.Hide
import Derived.Test.YtedifjdhdhcbhaaDoorW0
import Derived.Test.YtedifjdhdhcbhaaDoorIt
import Derived.Test.YtedifjdhdhcbhaaDoorW8
namespace Go.Proofs.YtedifjdhdhcbhaaDoor
open Go Go.RowKit
set_option linter.unusedSimpArgs false
set_option linter.unusedVariables false

theorem row_of {w : World} {base : Nat} {e : TypeId} {v : Value} {n : Nat} {xs : List Value} (h : w.ownsRow base e 1 v n xs) : Row w v xs := by
  have hl := h.1
  obtain ⟨_, ⟨rfl, rfl⟩ | ⟨g, cap, cur, rfl, _⟩⟩ := id h
  · obtain rfl : xs = [] := List.eq_nil_of_length_eq_zero (by omega)
    exact ⟨none, 0, rfl, fun j x hx => by simp at hx⟩
  · refine ⟨some ⟨g, 0, none⟩, cap, by rw [hl]; simp, fun j x hx => ⟨g, 0, rfl, ?_⟩⟩
    have := h.cells (g := g) rfl j x hx
    rcases Nat.eq_zero_or_pos j with rfl | hj
    · simpa [Addr.add] using this
    · simpa [Addr.add, Nat.ne_of_gt hj] using this
set_option maxRecDepth 20000 in
theorem Nums_enc (l : List Int) (hin : ∀ n ∈ l, minInt ≤ n ∧ n ≤ maxInt) (v : Value) (w : World) (hT : Tab w) (hv : Row w v (l.map fun x => .int .i64 x)) (hlen : l.length ≤ 1000) (hbytes : (l.flatMap encInt).length ≤ 100000000) :
    Calls Tryd.prog 17 #[v] w fun e w' => e = .returned (.string ⟨(encNums l).toArray⟩) ∧ Below w.heap.size w w' := by
  obtain ⟨ao, cap, rfl, hcell⟩ := id hv
  rw [List.length_map] at hv ⊢
  go_enter Tryd.func17, Tryd.ntmps17
  go_wp2_with (go_at_call 46; refine (list_Int l hin _ w hT hv hlen hbytes).mono ?_)
  rintro e W ⟨rfl, hb⟩
  go_wp2
  (try simp only [Exit.inBlock, Exit.then]); refine bodyPost_ret (by simp [results, Tryd.results17, go_sem, *]; try rfl) rfl ?_
  exact ⟨rfl, hb⟩
set_option maxRecDepth 20000 in
theorem Texts_enc (l : List ByteArray) (hin : ∀ s ∈ l, s.size ≤ 100000000) (v : Value) (w : World) (hT : Tab w) (hv : Row w v (l.map fun x => .string x)) (hlen : l.length ≤ 1000) (hbytes : (l.flatMap encT).length ≤ 100000000) :
    Calls Tryd.prog 19 #[v] w fun e w' => e = .returned (.string ⟨(Lib.itoa l.length ++ 91 :: (l.flatMap encT ++ [93])).toArray⟩) ∧ Below w.heap.size w w' := by
  obtain ⟨ao, cap, rfl, hcell⟩ := id hv
  rw [List.length_map] at hv ⊢
  go_enter Tryd.func19, Tryd.ntmps19
  go_wp2_with (go_at_call 47; refine (list_Text l hin _ w hT hv hlen hbytes).mono ?_)
  rintro e W ⟨rfl, hb⟩
  go_wp2
  (try simp only [Exit.inBlock, Exit.then]); refine bodyPost_ret (by simp [results, Tryd.results19, go_sem, *]; try rfl) rfl ?_
  exact ⟨rfl, hb⟩

theorem Nums_q (b : Nat) (s : ByteArray) (bd : Bool) (w : World) (hT : Tab w) (hb6 : 6 ≤ b) (hs : w.heap[b]? = some (.cells #[.string s, .bool bd] 54 (0, 0))) (hsz : s.size ≤ 100000000) (xs : List Int) (rs : ByteArray) (bd1 : Bool) (hq : numsR ⟨s.data.toList, bd⟩ = (xs, ⟨rs.data.toList, bd1⟩)) :
    Calls Tryd.prog 26 #[.pointer (some ⟨b, 0, none⟩)] w fun e w' => ∃ v, e = .returned v ∧ w'.ownsRow w.heap.size 3 1 v xs.length (xs.map fun x => .int .i64 x) ∧ Kn [b] w w' [(b, .cells #[.string rs, .bool bd1] 54 (0, 0))] := by
  go_enter Tryd.func26, Tryd.ntmps26
  go_wp2_with (go_at_call 51; refine (items_Int b s bd w hT hb6 hs hsz xs rs bd1 hq).mono ?_)
  rintro e W ⟨v, rfl, hown, hb⟩
  obtain ⟨ao, n, cap, hv⟩ : ∃ ao n cap, v = .slice ao n cap := by
    obtain ⟨_, ⟨rfl, _⟩ | ⟨g, cap, cur, rfl, _⟩⟩ := id hown
    · exact ⟨_, _, _, rfl⟩
    · exact ⟨_, _, _, rfl⟩
  subst hv
  go_wp2
  (try simp only [Exit.inBlock, Exit.then]); refine bodyPost_ret (by simp [results, Tryd.results26, go_sem, *]; try rfl) rfl ?_
  exact ⟨_, rfl, hown, hb⟩

theorem Texts_q (b : Nat) (s : ByteArray) (bd : Bool) (w : World) (hT : Tab w) (hb6 : 6 ≤ b) (hs : w.heap[b]? = some (.cells #[.string s, .bool bd] 54 (0, 0))) (hsz : s.size ≤ 100000000) (xs : List Bytes) (rs : ByteArray) (bd1 : Bool) (hq : textsR ⟨s.data.toList, bd⟩ = (xs, ⟨rs.data.toList, bd1⟩)) :
    Calls Tryd.prog 27 #[.pointer (some ⟨b, 0, none⟩)] w fun e w' => ∃ v, e = .returned v ∧ w'.ownsRow w.heap.size 9 1 v xs.length (xs.map fun x => .string ⟨x.toArray⟩) ∧ Kn [b] w w' [(b, .cells #[.string rs, .bool bd1] 54 (0, 0))] := by
  go_enter Tryd.func27, Tryd.ntmps27
  go_wp2_with (go_at_call 52; refine (items_Text b s bd w hT hb6 hs hsz xs rs bd1 hq).mono ?_)
  rintro e W ⟨v, rfl, hown, hb⟩
  obtain ⟨ao, n, cap, hv⟩ : ∃ ao n cap, v = .slice ao n cap := by
    obtain ⟨_, ⟨rfl, _⟩ | ⟨g, cap, cur, rfl, _⟩⟩ := id hown
    · exact ⟨_, _, _, rfl⟩
    · exact ⟨_, _, _, rfl⟩
  subst hv
  go_wp2
  (try simp only [Exit.inBlock, Exit.then]); refine bodyPost_ret (by simp [results, Tryd.results27, go_sem, *]; try rfl) rfl ?_
  exact ⟨_, rfl, hown, hb⟩

theorem Open_any (s : ByteArray) (w : World) :
    Calls Tryd.prog 21 #[.string s] w fun e w' => e = .returned (.pointer (some ⟨w.heap.size, 0, none⟩)) ∧ Kn [] w w' [(w.heap.size, .cells #[.string s, .bool false] 54 (0, 0))] := by
  have hL : Kn [] w w [] := Kn.refl [] w; (try simp only [List.setIfInBounds_toArray, List.set_cons_zero, List.set_cons_succ, List.cons_append, List.nil_append] at hL); have hF := hL.facts; (try simp only [Facts, Dist, List.map_cons, List.map_nil, List.forall_mem_cons, false_implies, ne_eq, not_false_eq_true, List.not_mem_nil, not_false_eq_true, true_implies, forall_const, List.mem_cons, or_false, implies_true, and_true, true_and, Nat.le_refl, List.setIfInBounds_toArray, List.set_cons_zero, List.set_cons_succ] at hF); go_enter Tryd.func21, Tryd.ntmps21
  go_wp2
  (try simp only [Exit.inBlock, Exit.then]); refine bodyPost_ret (by simp [results, Tryd.results21, go_sem, *]; try rfl) rfl ?_
  exact ⟨rfl, kn_here⟩
theorem Done_any (b : Nat) (s : ByteArray) (bd : Bool) (w : World) (hs : w.heap[b]? = some (.cells #[.string s, .bool bd] 54 (0, 0))) :
    Calls Tryd.prog 29 #[.pointer (some ⟨b, 0, none⟩)] w fun e w' => e = .returned (.bool (!bd && s.data.toList.isEmpty)) ∧ w' = w := by
  have hL : Kn [b] w w [(b, .cells #[.string s, .bool bd] 54 (0, 0))] := Kn.one hs
  cases bd
  · (try simp only [List.setIfInBounds_toArray, List.set_cons_zero, List.set_cons_succ, List.cons_append, List.nil_append] at hL); have hF := hL.facts; (try simp only [Facts, Dist, List.map_cons, List.map_nil, List.forall_mem_cons, false_implies, ne_eq, not_false_eq_true, List.not_mem_nil, not_false_eq_true, true_implies, forall_const, List.mem_cons, or_false, implies_true, and_true, true_and, Nat.le_refl, List.setIfInBounds_toArray, List.set_cons_zero, List.set_cons_succ] at hF); go_enter Tryd.func29, Tryd.ntmps29
    go_wp2
    (try simp only [Exit.inBlock, Exit.then]); refine bodyPost_ret (by simp [results, Tryd.results29, go_sem, *]; try rfl) rfl ?_
    exact ⟨by rw [ByteArray.toList_eq]; rfl, rfl⟩
  · (try simp only [List.setIfInBounds_toArray, List.set_cons_zero, List.set_cons_succ, List.cons_append, List.nil_append] at hL); have hF := hL.facts; (try simp only [Facts, Dist, List.map_cons, List.map_nil, List.forall_mem_cons, false_implies, ne_eq, not_false_eq_true, List.not_mem_nil, not_false_eq_true, true_implies, forall_const, List.mem_cons, or_false, implies_true, and_true, true_and, Nat.le_refl, List.setIfInBounds_toArray, List.set_cons_zero, List.set_cons_succ] at hF); go_enter Tryd.func29, Tryd.ntmps29
    go_wp2
    (try simp only [Exit.inBlock, Exit.then]); refine bodyPost_ret (by simp [results, Tryd.results29, go_sem, *]; try rfl) rfl ?_
    exact ⟨rfl, rfl⟩

end Go.Proofs.YtedifjdhdhcbhaaDoor
