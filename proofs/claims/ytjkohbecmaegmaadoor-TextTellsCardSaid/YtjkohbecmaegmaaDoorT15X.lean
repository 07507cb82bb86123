import Derived.Test.YtjkohbecmaegmaaDoorProg
import Derived.WalkKit
import Derived.Handy
import Derived.Deep.Light
import Derived.WalkSmall
import Derived.StillTailTactics
import Derived.Lib.Hide
import Derived.Test.YtjkohbecmaegmaaDoorT0
import Derived.Test.YtjkohbecmaegmaaDoorIt
import Derived.Test.YtjkohbecmaegmaaDoorT14X
namespace Go.Proofs.YtjkohbecmaegmaaDoor
open Go Go.RowKit
set_option linter.unusedSimpArgs false
set_option linter.unusedVariables false

theorem parse_back {l : Bytes} (t : Bytes) (h : l = 92 :: t) : ∃ d, parse l = .byte d :: parse (t.drop 1) ∧ (∀ h : 0 < t.length, t[0] = d) ∧ (t = [] → d = 92) := by
  subst h
  cases t with
  | nil => exact ⟨92, parse_cons rfl, fun h => by simp at h, fun _ => rfl⟩
  | cons d t => exact ⟨d, parse_cons rfl, fun _ => rfl, fun h => by cases h⟩
theorem parse_byte {c : UInt8} (t : Bytes) (h1 : c ≠ 92) (h2 : c ≠ 42) (h3 : c ≠ 63) (h4 : c ≠ 91) : parse (c :: t) = .byte c :: parse t := by
  refine parse_cons ?_
  unfold part
  simp only [h1, h2, h3, h4, if_false]
theorem parse_open {t : Bytes} (h : classR t = none) : parse (91 :: t) = .byte 91 :: parse t := by
  refine parse_cons ?_
  unfold part
  simp only [h, if_true]
  rfl
theorem parse_cls {t : Bytes} {n : Bool} {a b : Bytes} (h : classR t = some (n, a, b)) : parse (91 :: t) = .cls n a :: parse b := by
  refine parse_cons ?_
  unfold part
  simp only [h, if_true]
  rfl
def magicL (ps : List Pt) : Bool := ps.any fun x => !isB x
theorem magicL_byte (c : UInt8) (ps : List Pt) : magicL (.byte c :: ps) = magicL ps := by unfold magicL; rw [List.any_cons]; rfl
theorem class_any (p : ByteArray) (i : Nat) (hp : p.size ≤ 100000000) (hi : i ≤ 100000000) (n : Bool) (a b : Bytes) (h : classR (p.data.toList.drop (i + 1)) = some (n, a, b)) (e1 : Int) (he1 : (i : Int) + 1 + (if n then 1 else 0) + a.length = e1) :
    Hid (∀ W, Calls Tryd.prog 44 #[.string p, .int .i64 i] W fun e w' => e = .returned (.tuple #[.int .i64 e1, .bool n, .string ⟨a.toArray⟩, .bool true]) ∧ Below W.heap.size W w') := Lib.hid fun W => by
  have := class_is p i hp hi W
  have hcv : classV i (some (n, a, b)) = #[.int .i64 e1, .bool n, .string ⟨a.toArray⟩, .bool true] := by rw [← he1]; rfl
  rw [h, hcv] at this; exact this
theorem class_no (p : ByteArray) (i : Nat) (hp : p.size ≤ 100000000) (hi : i ≤ 100000000) (h : classR (p.data.toList.drop (i + 1)) = none) :
    Hid (∀ W, Calls Tryd.prog 44 #[.string p, .int .i64 i] W fun e w' => e = .returned (.tuple #[.int .i64 0, .bool false, .string ⟨#[]⟩, .bool false]) ∧ Below W.heap.size W w') := Lib.hid fun W => by
  have := class_is p i hp hi W
  rw [h] at this; exact this
set_option maxRecDepth 20000 in
set_option maxHeartbeats 4000000 in
theorem Magic_is (p : ByteArray) (hp : p.size ≤ 100000000) (w : World) :
    Calls Tryd.prog 19 #[.string p] w fun e w' => e = .returned (.bool (magicP p.data.toList)) ∧ Below w.heap.size w w' := by
  obtain ⟨v, hv⟩ : ∃ v, magicP p.data.toList = v := ⟨_, rfl⟩
  rw [hv]
  have hv := Lib.hid hv
  have hL : Kn [] w w [] := Kn.refl [] w; (try simp only [List.setIfInBounds_toArray, List.set_cons_zero, List.set_cons_succ, List.cons_append, List.nil_append] at hL); have hF := hL.facts; (try simp only [Facts, Dist, List.map_cons, List.map_nil, List.forall_mem_cons, false_implies, ne_eq, not_false_eq_true, List.not_mem_nil, not_false_eq_true, true_implies, forall_const, List.mem_cons, or_false, implies_true, and_true, true_and, Nat.le_refl, List.setIfInBounds_toArray, List.set_cons_zero, List.set_cons_succ] at hF); go_enter Tryd.func19, Tryd.ntmps19
  go_wp2
  go_loopw [3] (fun i wr => ∃ k : Nat, k ≤ p.size + 1 ∧ i = .int .i64 k ∧ Kn [] w wr [] ∧ Hid (magicL (parse (p.data.toList.drop k)) = v)) (fun i _ => p.size + 1 - (intOf i).toNat)
  case atStart => exact ⟨0, by omega, rfl, hL, Lib.hid hv.out⟩
  case round =>
    obtain ⟨k, hk, rfl, hK, hinv⟩ := hrel
    clear hL hF
    have hL := hK
    clear hK
    (try simp only [List.setIfInBounds_toArray, List.set_cons_zero, List.set_cons_succ, List.cons_append, List.nil_append] at hL); have hF := hL.facts; (try simp only [Facts, Dist, List.map_cons, List.map_nil, List.forall_mem_cons, false_implies, ne_eq, not_false_eq_true, List.not_mem_nil, not_false_eq_true, true_implies, forall_const, List.mem_cons, or_false, implies_true, and_true, true_and, Nat.le_refl, List.setIfInBounds_toArray, List.set_cons_zero, List.set_cons_succ] at hF)
    by_cases hlt : k < p.size
    · obtain ⟨c0, hc0⟩ : ∃ c, p.data.toList[k]? = some c := ⟨_, List.getElem?_eq_getElem (by rw [szl]; omega)⟩
      have eb0 := byte_at hc0 hlt
      have hd0 : p.data.toList.drop k = c0 :: p.data.toList.drop (k + 1) := by
        obtain ⟨h1, h2⟩ := List.getElem?_eq_some_iff.1 hc0
        rw [List.drop_eq_getElem_cons h1, h2]
      have hin := hinv.out
      rw [hd0] at hin
      clear hinv
      by_cases h92 : c0 = 92
      · subst h92
        have hv2 : Hid (magicL (parse (p.data.toList.drop (k + 2))) = v) := by
          obtain ⟨d, h1, _⟩ := parse_back _ rfl
          rw [h1, List.drop_drop, magicL_byte] at hin
          exact Lib.hid hin
        clear hin hd0 hc0
        go_wp2
        go_roundw
        case rel => exact ⟨k + 2, by omega, by go_num, hL, hv2⟩
        case measure => simp [intOf]; omega
      have f92 : ((c0.toNat : Int) == 92) = false := beq_false_of_ne fun h => h92 (UInt8.toNat_inj.1 (show c0.toNat = 92 by omega))
      by_cases h42 : c0 = 42
      · subst h42
        have hvt : v = true := by rw [← hin, parse_star]; rfl
        clear hin hd0 hc0
        go_wp2
        (try simp only [Exit.inBlock, Exit.then]); refine bodyPost_ret (by simp [results, Tryd.results19, go_sem, *]; try rfl) rfl ?_
        exact ⟨by first | rfl | rw [hvt], hL.below0⟩
      have f42 : ((c0.toNat : Int) == 42) = false := beq_false_of_ne fun h => h42 (UInt8.toNat_inj.1 (show c0.toNat = 42 by omega))
      by_cases h63 : c0 = 63
      · subst h63
        have hvt : v = true := by rw [← hin, parse_any]; rfl
        clear hin hd0 hc0
        go_wp2
        (try simp only [Exit.inBlock, Exit.then]); refine bodyPost_ret (by simp [results, Tryd.results19, go_sem, *]; try rfl) rfl ?_
        exact ⟨by first | rfl | rw [hvt], hL.below0⟩
      have f63 : ((c0.toNat : Int) == 63) = false := beq_false_of_ne fun h => h63 (UInt8.toNat_inj.1 (show c0.toNat = 63 by omega))
      by_cases h91 : c0 = 91
      · subst h91
        cases hcl : classR (p.data.toList.drop (k + 1)) with
        | none =>
          have CLS := class_no p k (by omega) (by omega) hcl
          have hv2 : Hid (magicL (parse (p.data.toList.drop (k + 1))) = v) := by
            rw [parse_open hcl, magicL_byte] at hin; exact Lib.hid hin
          clear hin hd0 hc0 hcl h92 h42 h63
          go_wp2_with (first | ((with_reducible refine kn_list_set ?_); (try clear hF); clear hL; intro W hL; (try simp only [List.setIfInBounds_toArray, List.set_cons_zero, List.set_cons_succ, List.cons_append, List.nil_append] at hL); have hF := hL.facts; (try simp only [Facts, Dist, List.map_cons, List.map_nil, List.forall_mem_cons, false_implies, ne_eq, not_false_eq_true, List.not_mem_nil, not_false_eq_true, true_implies, forall_const, List.mem_cons, or_false, implies_true, and_true, true_and, Nat.le_refl, List.setIfInBounds_toArray, List.set_cons_zero, List.set_cons_succ] at hF)) | (go_at_call 44; refine kn_calls ?_; (try clear hF); clear hL; intro W hL; (try simp only [List.setIfInBounds_toArray, List.set_cons_zero, List.set_cons_succ, List.cons_append, List.nil_append] at hL); have hF := hL.facts; (try simp only [Facts, Dist, List.map_cons, List.map_nil, List.forall_mem_cons, false_implies, ne_eq, not_false_eq_true, List.not_mem_nil, not_false_eq_true, true_implies, forall_const, List.mem_cons, or_false, implies_true, and_true, true_and, Nat.le_refl, List.setIfInBounds_toArray, List.set_cons_zero, List.set_cons_succ] at hF); (with_reducible refine (CLS.out _).mono ?_); rintro e W ⟨rfl, hb⟩; replace hL := hL.below hb; clear hb; (try clear hF); (try simp only [List.setIfInBounds_toArray, List.set_cons_zero, List.set_cons_succ, List.cons_append, List.nil_append] at hL); have hF := hL.facts; (try simp only [Facts, Dist, List.map_cons, List.map_nil, List.forall_mem_cons, false_implies, ne_eq, not_false_eq_true, List.not_mem_nil, not_false_eq_true, true_implies, forall_const, List.mem_cons, or_false, implies_true, and_true, true_and, Nat.le_refl, List.setIfInBounds_toArray, List.set_cons_zero, List.set_cons_succ] at hF)))
          go_roundw
          case rel => exact ⟨k + 1, by omega, by go_num, hL, hv2⟩
          case measure => simp [intOf]; omega
        | some q =>
          obtain ⟨n, a, b⟩ := q
          obtain ⟨e1, he1⟩ : ∃ z : Int, (k : Int) + 1 + (if n then 1 else 0) + a.length = z := ⟨_, rfl⟩
          have CLS := class_any p k (by omega) (by omega) n a b hcl e1 he1
          have hvt : v = true := by rw [← hin, parse_cls hcl]; rfl
          clear hin hd0 hc0 hcl h92 h42 h63 he1
          go_wp2_with (first | ((with_reducible refine kn_list_set ?_); (try clear hF); clear hL; intro W hL; (try simp only [List.setIfInBounds_toArray, List.set_cons_zero, List.set_cons_succ, List.cons_append, List.nil_append] at hL); have hF := hL.facts; (try simp only [Facts, Dist, List.map_cons, List.map_nil, List.forall_mem_cons, false_implies, ne_eq, not_false_eq_true, List.not_mem_nil, not_false_eq_true, true_implies, forall_const, List.mem_cons, or_false, implies_true, and_true, true_and, Nat.le_refl, List.setIfInBounds_toArray, List.set_cons_zero, List.set_cons_succ] at hF)) | (go_at_call 44; refine kn_calls ?_; (try clear hF); clear hL; intro W hL; (try simp only [List.setIfInBounds_toArray, List.set_cons_zero, List.set_cons_succ, List.cons_append, List.nil_append] at hL); have hF := hL.facts; (try simp only [Facts, Dist, List.map_cons, List.map_nil, List.forall_mem_cons, false_implies, ne_eq, not_false_eq_true, List.not_mem_nil, not_false_eq_true, true_implies, forall_const, List.mem_cons, or_false, implies_true, and_true, true_and, Nat.le_refl, List.setIfInBounds_toArray, List.set_cons_zero, List.set_cons_succ] at hF); (with_reducible refine (CLS.out _).mono ?_); rintro e W ⟨rfl, hb⟩; replace hL := hL.below hb; clear hb; (try clear hF); (try simp only [List.setIfInBounds_toArray, List.set_cons_zero, List.set_cons_succ, List.cons_append, List.nil_append] at hL); have hF := hL.facts; (try simp only [Facts, Dist, List.map_cons, List.map_nil, List.forall_mem_cons, false_implies, ne_eq, not_false_eq_true, List.not_mem_nil, not_false_eq_true, true_implies, forall_const, List.mem_cons, or_false, implies_true, and_true, true_and, Nat.le_refl, List.setIfInBounds_toArray, List.set_cons_zero, List.set_cons_succ] at hF)))
          (try simp only [Exit.inBlock, Exit.then]); refine bodyPost_ret (by simp [results, Tryd.results19, go_sem, *]; try rfl) rfl ?_
          exact ⟨by first | rfl | rw [hvt], hL.below0⟩
      have f91 : ((c0.toNat : Int) == 91) = false := beq_false_of_ne fun h => h91 (UInt8.toNat_inj.1 (show c0.toNat = 91 by omega))
      have hv2 : Hid (magicL (parse (p.data.toList.drop (k + 1))) = v) := by
        rw [parse_byte _ h92 h42 h63 h91, magicL_byte] at hin; exact Lib.hid hin
      clear hin hd0 hc0 h92 h42 h63 h91
      go_wp2
      go_roundw
      case rel => exact ⟨k + 1, by omega, by go_num, hL, hv2⟩
      case measure => simp [intOf]; omega
    · have hvf : v = false := by rw [← hinv.out, List.drop_eq_nil_of_le (by rw [szl]; omega)]; rfl
      go_wp2
      (try simp only [Exit.inBlock, Exit.then]); refine bodyPost_ret (by simp [results, Tryd.results19, go_sem, *]; try rfl) rfl ?_
      exact ⟨by first | rfl | rw [hvf], hL.below0⟩

end Go.Proofs.YtjkohbecmaegmaaDoor

