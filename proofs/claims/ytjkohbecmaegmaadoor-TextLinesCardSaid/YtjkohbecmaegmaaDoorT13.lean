import Derived.Test.YtjkohbecmaegmaaDoorProg
import Derived.WalkKit
import Derived.Handy
import Derived.Deep.Light
import Derived.WalkSmall
import Derived.StillTailTactics
import Derived.Lib.Hide
import Derived.Test.YtjkohbecmaegmaaDoorT0
import Derived.Test.YtjkohbecmaegmaaDoorIt
import Derived.Test.YtjkohbecmaegmaaDoorT12
namespace Go.Proofs.YtjkohbecmaegmaaDoor
open Go Go.RowKit
set_option linter.unusedSimpArgs false
set_option linter.unusedVariables false

theorem beq_bytes (d c : UInt8) : ((d.toNat : Int) == (c.toNat : Int)) = (d == c) := by
  by_cases h : d = c
  · subst h; simp
  · rw [beq_false_of_ne h, beq_false_of_ne (fun e => h (UInt8.toNat_inj.1 (by omega)))]
theorem classR_size {t : Bytes} {n : Bool} {a b : Bytes} (h : classR t = some (n, a, b)) : t.length = (if n then 1 else 0) + a.length + 1 + b.length := by
  have one : ∀ {r x y : Bytes}, setOf r = some (x, y) → r.length = x.length + 1 + y.length := fun h => by
    obtain ⟨_, h2, _, h4⟩ := setOf_cut h
    have := congrArg List.length h2
    rw [List.length_drop] at this; omega
  unfold classR at h
  split at h
  · rename_i x hx
    injection h with h
    injection h with h1 h2
    subst h1; subst h2
    unfold bangOf at hx
    split at hx
    · rename_i h33
      have h5 := one hx
      cases t with
      | nil => simp at h33
      | cons q t => simp only [List.drop_succ_cons, List.drop_zero] at h5; simp only [List.length_cons, if_true]; omega
    · cases hx
  · cases hs : setOf t with
    | none => rw [hs] at h; cases h
    | some x =>
      obtain ⟨x, y⟩ := x
      rw [hs] at h
      simp only [Option.map_some, Option.some.injEq, Prod.mk.injEq] at h
      obtain ⟨rfl, rfl, rfl⟩ := h
      have := one hs
      simp only [Bool.false_eq_true, if_false]; omega
/-- The part at a place of a pattern that is no star: how long it is, and whether it matches a byte. -/
theorem one_is (p : ByteArray) (i : Nat) (c : UInt8) (hp : p.size ≤ 100000000) (hlt : i < p.size) (x : Pt) (r : Bytes) (hx : part (p.data.toList.drop i) = some (x, r)) (hs : x ≠ .star) (w : World) :
    Calls Tryd.prog 39 #[.string p, .int .i64 i, .int .u8 c.toNat] w fun e w' => e = .returned (.tuple #[.int .i64 ((p.size - i - r.length : Nat) : Int), .bool (fit x c)]) ∧ Below w.heap.size w w' := by
  have hpl := szl p
  obtain ⟨c0, hc0⟩ : ∃ a, p.data.toList[i]? = some a := ⟨_, List.getElem?_eq_getElem (by omega)⟩
  have hb0 : ∀ h, p[i]'h = c0 := fun h => byte_at hc0 h
  have hd : p.data.toList.drop i = c0 :: p.data.toList.drop (i + 1) := by
    obtain ⟨h1, h2⟩ := List.getElem?_eq_some_iff.1 hc0
    rw [List.drop_eq_getElem_cons h1, h2]
  have hrl : (p.data.toList.drop (i + 1)).length = p.size - (i + 1) := by rw [List.length_drop, hpl]
  rw [hd] at hx
  unfold part at hx
  simp only at hx
  by_cases h92 : c0 = 92
  · subst h92
    rw [if_pos rfl] at hx
    by_cases h1 : i + 1 < p.size
    · obtain ⟨d, hdd⟩ : ∃ a, p.data.toList[i + 1]? = some a := ⟨_, List.getElem?_eq_getElem (by omega)⟩
      have hd2 : p.data.toList.drop (i + 1) = d :: p.data.toList.drop (i + 2) := by
        obtain ⟨h3, h4⟩ := List.getElem?_eq_some_iff.1 hdd
        rw [List.drop_eq_getElem_cons h3, h4]
      rw [hd2] at hx
      simp only [Option.some.injEq, Prod.mk.injEq] at hx
      obtain ⟨rfl, rfl⟩ := hx
      have := one_esc p i c hp hlt hb0 (by omega) d (fun h => byte_at hdd h) _ (beq_bytes d c) w
      refine this.mono ?_
      rintro e w' ⟨rfl, hb⟩
      refine ⟨?_, hb⟩
      rw [List.length_drop, hpl, show p.size - i - (p.size - (i + 2)) = 2 by omega]; rfl
    · have hd2 : p.data.toList.drop (i + 1) = [] := List.drop_eq_nil_of_le (by omega)
      rw [hd2] at hx
      simp only [Option.some.injEq, Prod.mk.injEq] at hx
      obtain ⟨rfl, rfl⟩ := hx
      have := one_last p i c hp hlt hb0 (by omega) _ (beq_bytes 92 c) w
      refine this.mono ?_
      rintro e w' ⟨rfl, hb⟩
      refine ⟨?_, hb⟩
      rw [List.length_nil, show p.size - i - 0 = 1 by omega]; rfl
  rw [if_neg h92] at hx
  by_cases h42 : c0 = 42
  · subst h42
    rw [if_pos rfl] at hx
    simp only [Option.some.injEq, Prod.mk.injEq] at hx
    exact absurd hx.1.symm hs
  rw [if_neg h42] at hx
  by_cases h63 : c0 = 63
  · subst h63
    rw [if_pos rfl] at hx
    simp only [Option.some.injEq, Prod.mk.injEq] at hx
    obtain ⟨rfl, rfl⟩ := hx
    refine (one_any p i c hp hlt hb0 w).mono ?_
    rintro e w' ⟨rfl, hb⟩
    refine ⟨?_, hb⟩
    rw [hrl, show p.size - i - (p.size - (i + 1)) = 1 by omega]; rfl
  rw [if_neg h63] at hx
  by_cases h91 : c0 = 91
  · subst h91
    rw [if_pos rfl] at hx
    have hcl := fun W => class_is p i hp (by omega) W
    cases hk : classR (p.data.toList.drop (i + 1)) with
    | some q =>
      obtain ⟨n, a, b⟩ := q
      rw [hk] at hx hcl
      simp only [Option.some.injEq, Prod.mk.injEq] at hx
      obtain ⟨rfl, rfl⟩ := hx
      have hz := classR_size hk
      rw [hrl] at hz
      have hn2 : (if n then 1 else 0 : Nat) ≤ 1 := by split <;> omega
      have hni : ((if n then 1 else 0 : Int)) = (((if n then 1 else 0 : Nat)) : Int) := by cases n <;> rfl
      have haz : (⟨a.toArray⟩ : ByteArray).size = a.length := by rw [← szl]
      obtain ⟨e1, he1⟩ : ∃ z : Int, (i : Int) + 1 + (if n then 1 else 0) + a.length = z := ⟨_, rfl⟩
      have hcl2 : Hid (∀ W, Calls Tryd.prog 44 #[.string p, .int .i64 i] W fun e w' => e = .returned (.tuple #[.int .i64 e1, .bool n, .string ⟨a.toArray⟩, .bool true]) ∧ Below W.heap.size W w') := Lib.hid fun W => by
        have := hcl W
        have hcv : classV i (some (n, a, b)) = #[.int .i64 e1, .bool n, .string ⟨a.toArray⟩, .bool true] := by rw [← he1]; rfl
        rw [hcv] at this; exact this
      have hk2 : wrap64 (wrap64 (e1 + 1) - i) = ((p.size - i - b.length : Nat) : Int) := by
        rw [hni] at he1
        unfold wrap64; omega
      have has : (⟨a.toArray⟩ : ByteArray).size ≤ 100000000 := by rw [haz]; omega
      exact one_cls p i c hp hlt hb0 e1 n ⟨a.toArray⟩ hcl2 has _ rfl _ hk2 w
    | none =>
      rw [hk] at hx hcl
      simp only [Option.some.injEq, Prod.mk.injEq] at hx
      obtain ⟨rfl, rfl⟩ := hx
      refine (one_open p i c hp hlt hb0 (Lib.hid hcl) _ (beq_bytes 91 c) w).mono ?_
      rintro e w' ⟨rfl, hb⟩
      refine ⟨?_, hb⟩
      rw [hrl, show p.size - i - (p.size - (i + 1)) = 1 by omega]; rfl
  · rw [if_neg h91] at hx
    simp only [Option.some.injEq, Prod.mk.injEq] at hx
    obtain ⟨rfl, rfl⟩ := hx
    have f : ∀ k : UInt8, c0 ≠ k → ((c0.toNat : Int) == (k.toNat : Int)) = false := fun k h => by rw [beq_bytes]; exact beq_false_of_ne h
    refine (one_byte p i c c0 hp hlt hb0 (f 92 h92) (f 63 h63) (f 91 h91) _ (beq_bytes c0 c) w).mono ?_
    rintro e w' ⟨rfl, hb⟩
    refine ⟨?_, hb⟩
    rw [hrl, show p.size - i - (p.size - (i + 1)) = 1 by omega]; rfl

end Go.Proofs.YtjkohbecmaegmaaDoor
