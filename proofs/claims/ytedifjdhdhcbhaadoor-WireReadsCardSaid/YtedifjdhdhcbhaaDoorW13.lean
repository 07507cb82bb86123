import Derived.Test.YtedifjdhdhcbhaaDoorProg
import Derived.WalkKit
import Derived.Handy
import Derived.Deep.Light
import Derived.WalkSmall
import Derived.StillTailTactics
import Derived.Lib.Hide
import Derived.Test.YtedifjdhdhcbhaaDoorW0
import Derived.Test.YtedifjdhdhcbhaaDoorIt
import Derived.Test.YtedifjdhdhcbhaaDoorW12
namespace Go.Proofs.YtedifjdhdhcbhaaDoor
open Go Go.RowKit
set_option linter.unusedSimpArgs false
set_option linter.unusedVariables false

/-! A reader that has failed has nothing left. -/
def Good (r : Rd) : Prop := r.bad = true → r.rest = []
theorem good_fail : Good failR := fun _ => rfl
theorem good_num (e : UInt8) (l : Int) {r : Rd} (h : Good r) : Good (numR e l r).2 := by
  unfold numR
  split
  · exact good_fail
  · rename_i hi
    split
    · split
      · exact good_fail
      · intro hb
        simp only at hb
        exfalso; apply hi
        rw [h hb]; simp [Lib.indexByte]
    · exact good_fail
theorem good_close (e : UInt8) {r : Rd} (h : Good r) : Good (closeR e r) := by
  unfold closeR
  split
  · rename_i c t hr
    split
    · intro hb; have := h hb; rw [hr] at this; cases this
    · exact good_fail
  · exact good_fail
theorem good_text {r : Rd} (h : Good r) : Good (textR r).2 := by
  have h1 : Good ⟨(numR 58 0 r).2.rest.drop (numR 58 0 r).1.toNat, (numR 58 0 r).2.bad⟩ := fun hb => by
    have := good_num 58 0 h hb
    simp only [this, List.drop_nil]
  unfold textR
  split
  · exact good_fail
  · split
    · exact good_close 44 h1
    · exact good_close 44 h1
theorem good_loop {α : Type} {one : Rd → α × Rd} (ho : ∀ r, Good r → Good (one r).2) : ∀ (n : Nat) (r : Rd), Good r → Good (loopR one n r).2
  | 0, r, h => h
  | n + 1, r, h => by
    unfold loopR
    split
    · exact h
    · exact good_loop ho n _ (ho r h)
theorem good_items {α : Type} {one : Rd → α × Rd} (ho : ∀ r, Good r → Good (one r).2) {r : Rd} (h : Good r) : Good (itemsR one r).2 := by
  have h1 := good_close 93 (good_loop ho (numR 91 0 r).1.toNat _ (good_num 91 0 h))
  unfold itemsR
  split <;> exact h1
theorem good_open (s : Bytes) : Good ⟨s, false⟩ := fun h => by cases h
/-! What a reader reads of a string is short. -/
theorem flat_len {α : Type} (enc : α → Bytes) (h : ∀ x, 1 ≤ (enc x).length) : ∀ l : List α, l.length ≤ (l.flatMap enc).length
  | [] => by simp
  | x :: l => by have := flat_len enc h l; have := h x; simp only [List.flatMap_cons, List.length_append, List.length_cons]; omega
theorem one_int (n : Int) : 1 ≤ (encInt n).length := by simp [encInt]
theorem one_text (s : Bytes) : 1 ≤ (encText s).length := by simp [encText]; omega
theorem nums_read {s : Bytes} {l : List Int} {r : Rd} (h : numsR ⟨s, false⟩ = (l, r)) : l.length ≤ s.length ∧ (l.flatMap encInt).length ≤ s.length ∧ ∀ n ∈ l, okI n := by
  cases hb : r.bad with
  | true =>
    have : l = [] := by
      unfold numsR itemsR at h
      split at h
      · injection h with h1 h2; exact h1.symm
      · rename_i hc; injection h with h1 h2; rw [← h2] at hb; exact absurd hb hc
    subst this; simp
  | false =>
    obtain ⟨h1, h2⟩ := items_again (fun s x r => int_again s x r) h hb
    have h3 := congrArg List.length h1
    have h4 := flat_len encInt one_int l
    simp only [List.length_append, List.length_cons] at h3
    exact ⟨by omega, by omega, h2⟩
theorem texts_read {s : Bytes} {l : List Bytes} {r : Rd} (h : textsR ⟨s, false⟩ = (l, r)) : l.length ≤ s.length ∧ (l.flatMap encText).length ≤ s.length ∧ ∀ x ∈ l, x.length ≤ s.length := by
  cases hb : r.bad with
  | true =>
    have : l = [] := by
      unfold textsR itemsR at h
      split at h
      · injection h with h1 h2; exact h1.symm
      · rename_i hc; injection h with h1 h2; rw [← h2] at hb; exact absurd hb hc
    subst this; simp
  | false =>
    obtain ⟨h1, h2⟩ := items_again (enc := encText) (ok := okT) (fun s x r hx hb => text_again hx hb) h hb
    have h3 := congrArg List.length h1
    have h4 := flat_len encText one_text l
    simp only [List.length_append, List.length_cons] at h3
    refine ⟨by omega, by omega, fun x hx => ?_⟩
    obtain ⟨a, b, rfl⟩ := List.append_of_mem hx
    have h5 : (encText x).length ≤ ((a ++ x :: b).flatMap encText).length := by simp only [List.flatMap_append, List.flatMap_cons, List.length_append]; omega
    have h6 : x.length ≤ (encText x).length := by simp [encText]; omega
    omega
theorem nums_again {s : Bytes} {l : List Int} {r : Rd} (h : numsR ⟨s, false⟩ = (l, r)) (hb : r.bad = false) : s = encNums l ++ r.rest := by
  rw [(items_again (fun s x r => int_again s x r) h hb).1]; simp [encNums]
theorem texts_again {s : Bytes} {l : List Bytes} {r : Rd} (h : textsR ⟨s, false⟩ = (l, r)) (hb : r.bad = false) : s = encTexts l ++ r.rest := by
  rw [(items_again (enc := encText) (ok := okT) (fun s x r hx hb => text_again hx hb) h hb).1]; simp [encTexts]
theorem nat_again {s : Bytes} {n : Int} {r : Rd} (h : natR ⟨s, false⟩ = (n, r)) (hb : r.bad = false) : s = encNum n ++ r.rest ∧ okI n := by
  obtain ⟨h1, h2, h3⟩ := num_again h hb
  refine ⟨?_, h3⟩
  unfold encNum; rw [if_neg (by omega), h1]; simp [encInt]
theorem kind_range (k : Int) : 0 ≤ kindI k ∧ kindI k ≤ 4 := by
  have hr : -5 < k.tmod 5 ∧ k.tmod 5 < 5 := ⟨Int.lt_tmod_of_pos k (by decide), Int.tmod_lt_of_pos k (by decide)⟩
  unfold kindI; split <;> omega
theorem kind_is (k c : Int) (hc : kindI k = c) (n : Int) (s : ByteArray) (lv tv : Value) (hk : -9223372036854775808 ≤ k ∧ k ≤ 9223372036854775807) (hl : lv.oneCell' = true) (ht : tv.oneCell' = true) (w : World) :
    Calls Tryd.prog 22 #[.agg #[.int .i64 k, .int .i64 n, .string s, lv, tv]] w fun e w' => e = .returned (.int .i64 c) ∧ Below w.heap.size w w' := hc ▸ kind_any k n s lv tv hk hl ht w

end Go.Proofs.YtedifjdhdhcbhaaDoor
