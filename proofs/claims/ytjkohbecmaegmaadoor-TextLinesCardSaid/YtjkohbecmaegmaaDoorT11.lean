import Derived.Test.YtjkohbecmaegmaaDoorProg
import Derived.WalkKit
import Derived.Handy
import Derived.Deep.Light
import Derived.WalkSmall
import Derived.StillTailTactics
import Derived.Lib.Hide
import Derived.Test.YtjkohbecmaegmaaDoorT0
import Derived.Test.YtjkohbecmaegmaaDoorIt
import Derived.Test.YtjkohbecmaegmaaDoorT10
namespace Go.Proofs.YtjkohbecmaegmaaDoor
open Go Go.RowKit
set_option linter.unusedSimpArgs false
set_option linter.unusedVariables false

theorem in_range (a b c : UInt8) (t : Bytes) : inSet (a :: 45 :: b :: t) c = ((decide (a.toNat ≤ c.toNat) && decide (c.toNat ≤ b.toNat)) || inSet t c) := by rw [inSet]
theorem in_plain (a c : UInt8) (t : Bytes) (h : t.length < 2 ∨ t.head? ≠ some 45) : inSet (a :: t) c = (a == c || inSet t c) := by
  match t, h with
  | [], _ => simp [inSet]
  | [d], _ => simp [inSet]
  | d :: b :: t, h =>
    have hd : d ≠ 45 := by
      rcases h with h | h
      · simp at h; omega
      · simpa using h
    rw [inSet]
    intro x y z
    injection z with z1 z2; exact hd z1
set_option maxRecDepth 20000 in
set_option maxHeartbeats 4000000 in
theorem in_is (s : ByteArray) (hs : s.size ≤ 100000000) (c : UInt8) (w : World) :
    Calls Tryd.prog 51 #[.string s, .int .u8 c.toNat] w fun e w' => e = .returned (.bool (inSet s.data.toList c)) ∧ Below w.heap.size w w' := by
  have hsl := szl s
  obtain ⟨v, hv⟩ : ∃ v, inSet s.data.toList c = v := ⟨_, rfl⟩
  rw [hv]
  have hv := Lib.hid hv
  have hL : Kn [] w w [] := Kn.refl [] w; (try simp only [List.setIfInBounds_toArray, List.set_cons_zero, List.set_cons_succ, List.cons_append, List.nil_append] at hL); have hF := hL.facts; (try simp only [Facts, Dist, List.map_cons, List.map_nil, List.forall_mem_cons, false_implies, ne_eq, not_false_eq_true, List.not_mem_nil, not_false_eq_true, true_implies, forall_const, List.mem_cons, or_false, implies_true, and_true, true_and, Nat.le_refl, List.setIfInBounds_toArray, List.set_cons_zero, List.set_cons_succ] at hF); go_enter Tryd.func51, Tryd.ntmps51
  go_wp2
  go_loopw [5] (fun i wr => ∃ k : Nat, k ≤ s.size ∧ i = .int .i64 k ∧ Kn [] w wr [] ∧ Hid (inSet (s.data.toList.drop k) c = v)) (fun i _ => s.size - (intOf i).toNat)
  case atStart => exact ⟨0, by omega, rfl, hL, Lib.hid hv.out⟩
  case round =>
    obtain ⟨k, hk, rfl, hK, hinv⟩ := hrel
    clear hL hF
    have hL := hK
    clear hK
    (try simp only [List.setIfInBounds_toArray, List.set_cons_zero, List.set_cons_succ, List.cons_append, List.nil_append] at hL); have hF := hL.facts; (try simp only [Facts, Dist, List.map_cons, List.map_nil, List.forall_mem_cons, false_implies, ne_eq, not_false_eq_true, List.not_mem_nil, not_false_eq_true, true_implies, forall_const, List.mem_cons, or_false, implies_true, and_true, true_and, Nat.le_refl, List.setIfInBounds_toArray, List.set_cons_zero, List.set_cons_succ] at hF)
    by_cases hlt : k < s.size
    · obtain ⟨a, hka⟩ : ∃ a, s.data.toList[k]? = some a := ⟨_, List.getElem?_eq_getElem (by omega)⟩
      have e0 := byte_at hka hlt
      have hd : s.data.toList.drop k = a :: s.data.toList.drop (k + 1) := by
        obtain ⟨h1, h2⟩ := List.getElem?_eq_some_iff.1 hka
        rw [List.drop_eq_getElem_cons h1, h2]
      have hc256 := c.toNat_lt
      by_cases hr : ∃ b, k + 2 < s.size ∧ s.data.toList[k + 1]? = some 45 ∧ s.data.toList[k + 2]? = some b
      · obtain ⟨b, hk2, h45, hkb⟩ := hr
        have e1 := byte_at h45 (by omega)
        have e2 := byte_at hkb hk2
        have hd3 : s.data.toList.drop k = a :: 45 :: b :: s.data.toList.drop (k + 3) := by
          rw [hd]
          obtain ⟨h1, h2⟩ := List.getElem?_eq_some_iff.1 h45
          obtain ⟨h3, h4⟩ := List.getElem?_eq_some_iff.1 hkb
          rw [List.drop_eq_getElem_cons h1, h2, List.drop_eq_getElem_cons h3, h4]
        have hk2i : (k : Int) + 2 < s.size := by omega
        have hin := hinv.out
        rw [hd3, in_range] at hin
        by_cases h1 : (a.toNat : Int) ≤ c.toNat
        · by_cases h2 : (c.toNat : Int) ≤ b.toNat
          · have hvt : v = true := by rw [← hin]; simp; left; omega
            go_wp2
            (try simp only [Exit.inBlock, Exit.then]); refine bodyPost_ret (by simp [results, Tryd.results51, go_sem, *]; try rfl) rfl ?_
            exact ⟨by first | rfl | rw [hvt], hL.below0⟩
          · have hin2 : Hid (inSet (s.data.toList.drop (k + 3)) c = v) := Lib.hid (by rw [← hin, decide_eq_false (p := c.toNat ≤ b.toNat) (by omega)]; simp)
            clear hin hinv
            go_wp2
            go_roundw
            case rel => exact ⟨k + 3, by omega, by go_num, hL, hin2⟩
            case measure => simp [intOf]; omega
        · have hin2 : Hid (inSet (s.data.toList.drop (k + 3)) c = v) := Lib.hid (by rw [← hin, decide_eq_false (p := a.toNat ≤ c.toNat) (by omega)]; simp)
          clear hin hinv
          go_wp2
          go_roundw
          case rel => exact ⟨k + 3, by omega, by go_num, hL, hin2⟩
          case measure => simp [intOf]; omega
      · have hpl : (s.data.toList.drop (k + 1)).length < 2 ∨ (s.data.toList.drop (k + 1)).head? ≠ some 45 := by
          by_cases hk2 : k + 2 < s.size
          · right
            rw [List.head?_drop]
            intro h45
            obtain ⟨b, hkb⟩ : ∃ b, s.data.toList[k + 2]? = some b := ⟨_, List.getElem?_eq_getElem (by omega)⟩
            exact hr ⟨b, hk2, h45, hkb⟩
          · left; rw [List.length_drop]; omega
        have hin := hinv.out
        rw [hd, in_plain a c _ hpl] at hin
        by_cases hk2 : k + 2 < s.size
        · obtain ⟨d, hkd⟩ : ∃ d, s.data.toList[k + 1]? = some d := ⟨_, List.getElem?_eq_getElem (by omega)⟩
          have e1 := byte_at hkd (by omega)
          have hd45 : ((d.toNat : Int) == 45) = false := beq_false_of_ne fun h => by
            have : d = 45 := UInt8.toNat_inj.1 (show d.toNat = 45 by omega)
            subst this
            obtain ⟨b, hkb⟩ : ∃ b, s.data.toList[k + 2]? = some b := ⟨_, List.getElem?_eq_getElem (by omega)⟩
            exact hr ⟨b, hk2, hkd, hkb⟩
          have hk2i : (k : Int) + 2 < s.size := by omega
          by_cases hac : a = c
          · have hvt : v = true := by rw [← hin, hac]; simp
            subst hac
            clear hr hin hinv hpl
            go_wp2
            (try simp only [Exit.inBlock, Exit.then]); refine bodyPost_ret (by simp [results, Tryd.results51, go_sem, *]; try rfl) rfl ?_
            exact ⟨by first | rfl | rw [hvt], hL.below0⟩
          · have hin2 : Hid (inSet (s.data.toList.drop (k + 1)) c = v) := Lib.hid (by rw [← hin, beq_false_of_ne hac]; simp)
            have hacn : ((a.toNat : Int) == (c.toNat : Int)) = false := beq_false_of_ne fun h => hac (UInt8.toNat_inj.1 (by omega))
            clear hr hin hinv hpl hac
            go_wp2
            go_roundw
            case rel => exact ⟨k + 1, by omega, by go_num, hL, hin2⟩
            case measure => simp [intOf]; omega
        · have hk2i : ¬ (k : Int) + 2 < s.size := by omega
          by_cases hac : a = c
          · have hvt : v = true := by rw [← hin, hac]; simp
            subst hac
            clear hr hin hinv hpl
            go_wp2
            (try simp only [Exit.inBlock, Exit.then]); refine bodyPost_ret (by simp [results, Tryd.results51, go_sem, *]; try rfl) rfl ?_
            exact ⟨by first | rfl | rw [hvt], hL.below0⟩
          · have hin2 : Hid (inSet (s.data.toList.drop (k + 1)) c = v) := Lib.hid (by rw [← hin, beq_false_of_ne hac]; simp)
            have hacn : ((a.toNat : Int) == (c.toNat : Int)) = false := beq_false_of_ne fun h => hac (UInt8.toNat_inj.1 (by omega))
            clear hr hin hinv hpl hac
            go_wp2
            go_roundw
            case rel => exact ⟨k + 1, by omega, by go_num, hL, hin2⟩
            case measure => simp [intOf]; omega
    · obtain rfl : k = s.size := by omega
      have hvf : v = false := by rw [← hinv.out, List.drop_eq_nil_of_le (by omega)]; rfl
      go_wp2
      (try simp only [Exit.inBlock, Exit.then]); refine bodyPost_ret (by simp [results, Tryd.results51, go_sem, *]; try rfl) rfl ?_
      exact ⟨by rw [hvf], hL.below0⟩

end Go.Proofs.YtjkohbecmaegmaaDoor
