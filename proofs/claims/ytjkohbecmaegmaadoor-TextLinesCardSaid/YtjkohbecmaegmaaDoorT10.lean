import Derived.Test.YtjkohbecmaegmaaDoorProg
import Derived.WalkKit
import Derived.Handy
import Derived.Deep.Light
import Derived.WalkSmall
import Derived.StillTailTactics
import Derived.Lib.Hide
import Derived.Test.YtjkohbecmaegmaaDoorT0
import Derived.Test.YtjkohbecmaegmaaDoorIt
import Derived.Test.YtjkohbecmaegmaaDoorT9
namespace Go.Proofs.YtjkohbecmaegmaaDoor
open Go Go.RowKit
set_option linter.unusedSimpArgs false
set_option linter.unusedVariables false

theorem closing_c (p : ByteArray) (first : Nat) (hp : p.size ≤ 100000000) (hf : first ≤ 100000002) (n : Int) (hn : (first : Int) = n) (v : Int) (hv : (match setOf (p.data.toList.drop first) with | some (a, _) => (first : Int) + a.length | none => -1) = v) (w : World) :
    Calls Tryd.prog 57 #[.string p, .int .i64 n] w fun e w' => e = .returned (.int .i64 v) ∧ w' = w := by
  subst hn; subst hv; exact closing_is p first hp hf w
/-- What 'class' says of a place: the end, whether it is turned, the set. -/
def classV (i : Nat) : Option (Bool × Bytes × Bytes) → Array Value
  | some (n, a, _) => #[.int .i64 ((i : Int) + 1 + (if n then 1 else 0) + a.length), .bool n, .string ⟨a.toArray⟩, .bool true]
  | none => #[.int .i64 0, .bool false, .string ⟨#[]⟩, .bool false]
theorem class_is (p : ByteArray) (i : Nat) (hp : p.size ≤ 100000000) (hi : i ≤ 100000000) (w : World) :
    Calls Tryd.prog 44 #[.string p, .int .i64 i] w fun e w' => e = .returned (.tuple (classV i (classR (p.data.toList.drop (i + 1))))) ∧ Below w.heap.size w w' := by
  have hpl := szl p
  have sub : ∀ (k : Nat) (a b : Bytes), setOf (p.data.toList.drop k) = some (a, b) → (⟨a.toArray⟩ : ByteArray) = p.extract k (k + a.length) ∧ k + a.length + 1 ≤ p.size := fun k a b h => by
    obtain ⟨h1, _, h3, h4⟩ := setOf_cut h
    rw [List.length_drop] at h4
    refine ⟨ba_ext ?_, by omega⟩
    rw [ext_list]
    conv => lhs; rw [h1]
    simp only
    rw [List.take_drop]
  have c1 : ∀ v : Int, (match setOf (p.data.toList.drop (i + 1)) with | some (a, _) => ((i + 1 : Nat) : Int) + a.length | none => -1) = v → Hid (∀ W, Calls Tryd.prog 57 #[.string p, .int .i64 ((i : Int) + 1)] W fun e w' => e = .returned (.int .i64 v) ∧ w' = W) := fun v hv =>
    Lib.hid fun W => closing_c p (i + 1) hp (by omega) _ (by simp) v hv W
  have c2 : ∀ v : Int, (match setOf (p.data.toList.drop (i + 2)) with | some (a, _) => ((i + 2 : Nat) : Int) + a.length | none => -1) = v → Hid (∀ W, Calls Tryd.prog 57 #[.string p, .int .i64 ((i : Int) + 1 + 1)] W fun e w' => e = .returned (.int .i64 v) ∧ w' = W) := fun v hv =>
    Lib.hid fun W => closing_c p (i + 2) hp (by omega) _ (by simp; omega) v hv W
  by_cases hlt : i + 1 < p.size
  · obtain ⟨c, hc⟩ : ∃ c, p.data.toList[i + 1]? = some c := ⟨_, List.getElem?_eq_getElem (by omega)⟩
    have hb : ∀ h, p[i + 1]'h = c := fun h => byte_at hc h
    have hh : (p.data.toList.drop (i + 1)).head? = some c := by rw [List.head?_drop]; exact hc
    by_cases h33 : c = 33
    · subst h33
      have hbang : bangOf (p.data.toList.drop (i + 1)) = setOf (p.data.toList.drop (i + 2)) := by
        unfold bangOf; rw [if_pos hh, List.drop_drop]
      cases h2 : setOf (p.data.toList.drop (i + 2)) with
      | some x =>
        obtain ⟨a, b⟩ := x
        obtain ⟨s1, s2⟩ := sub _ a b h2
        have e : classR (p.data.toList.drop (i + 1)) = some (true, a, b) := by unfold classR; rw [hbang, h2]
        rw [e]
        have := class_a p i hp hi (by omega) hb (i + 2 + a.length) (by omega) (by omega) (by omega) (c2 _ (by rw [h2]; simp)) _ rfl w
        rw [show i + 1 + 1 = i + 2 by omega, ← s1] at this
        refine this.mono ?_
        rintro x w' ⟨rfl, hbw⟩
        refine ⟨?_, hbw⟩
        simp only [classV, if_true]
        congr 4
      | none =>
        cases h1 : setOf (p.data.toList.drop (i + 1)) with
        | some x =>
          obtain ⟨a, b⟩ := x
          obtain ⟨s1, s2⟩ := sub _ a b h1
          have e : classR (p.data.toList.drop (i + 1)) = some (false, a, b) := by unfold classR; rw [hbang, h2]; simp only; rw [h1]; rfl
          rw [e]
          have := class_b p i hp hi (by omega) hb (c2 _ (by rw [h2])) (i + 1 + a.length) (by omega) (by omega) (by omega) (c1 _ (by rw [h1]; simp)) _ rfl w
          rw [← s1] at this
          refine this.mono ?_
          rintro x w' ⟨rfl, hbw⟩
          exact ⟨by simp [classV], hbw⟩
        | none =>
          have e : classR (p.data.toList.drop (i + 1)) = none := by unfold classR; rw [hbang, h2]; simp only; rw [h1]; rfl
          rw [e]
          exact class_c p i hp hi (by omega) hb (c2 _ (by rw [h2])) (c1 _ (by rw [h1])) w
    · have hcn : ((c.toNat : Int) == 33) = false := beq_false_of_ne fun h => h33 (UInt8.toNat_inj.1 (show c.toNat = 33 by omega))
      have hbang : bangOf (p.data.toList.drop (i + 1)) = none := by unfold bangOf; rw [hh, if_neg (by simpa using h33)]
      cases h1 : setOf (p.data.toList.drop (i + 1)) with
      | some x =>
        obtain ⟨a, b⟩ := x
        obtain ⟨s1, s2⟩ := sub _ a b h1
        have e : classR (p.data.toList.drop (i + 1)) = some (false, a, b) := by unfold classR; rw [hbang]; simp only; rw [h1]; rfl
        rw [e]
        have := class_d p i hp hi (by omega) c hb hcn (i + 1 + a.length) (by omega) (by omega) (by omega) (c1 _ (by rw [h1]; simp)) _ rfl w
        rw [← s1] at this
        refine this.mono ?_
        rintro x w' ⟨rfl, hbw⟩
        exact ⟨by simp [classV], hbw⟩
      | none =>
        have e : classR (p.data.toList.drop (i + 1)) = none := by unfold classR; rw [hbang]; simp only; rw [h1]; rfl
        rw [e]
        exact class_e p i hp hi (by omega) c hb hcn (c1 _ (by rw [h1])) w
  · have hn : p.data.toList.drop (i + 1) = [] := List.drop_eq_nil_of_le (by omega)
    have h1 : setOf (p.data.toList.drop (i + 1)) = none := by rw [hn]; rfl
    have e : classR (p.data.toList.drop (i + 1)) = none := by rw [hn]; rfl
    rw [e]
    exact class_f p i hp hi (by omega) (c1 _ (by rw [h1])) w

end Go.Proofs.YtjkohbecmaegmaaDoor
