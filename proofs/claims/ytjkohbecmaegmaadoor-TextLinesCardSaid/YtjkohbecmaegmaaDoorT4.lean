import Derived.Test.YtjkohbecmaegmaaDoorProg
import Derived.WalkKit
import Derived.Handy
import Derived.Deep.Light
import Derived.WalkSmall
import Derived.StillTailTactics
import Derived.Lib.Hide
import Derived.Test.YtjkohbecmaegmaaDoorT0
import Derived.Test.YtjkohbecmaegmaaDoorIt
import Derived.Test.YtjkohbecmaegmaaDoorT3
import Derived.Lib.Split
import Derived.Lib.SplitLaws
import Derived.Lib.CountLaws
import Derived.Lib.IndexLaws
namespace Go.Proofs.YtjkohbecmaegmaaDoor
open Go Go.RowKit
set_option linter.unusedSimpArgs false
set_option linter.unusedVariables false

/-- A string divided at its line feeds: one piece more than there are. -/
def split10 : Bytes → List Bytes
  | [] => [[]]
  | c :: t => if c = 10 then [] :: split10 t else match split10 t with
    | h :: r => (c :: h) :: r
    | [] => [[c]]
theorem pre10 (b : UInt8) (l : Bytes) : List.isPrefixOf [10] (b :: l) = (b == 10) := by
  simp only [List.isPrefixOf, Bool.and_true]
  by_cases h : b = 10
  · subst h; rfl
  · rw [beq_false_of_ne h, beq_false_of_ne (Ne.symm h)]
theorem split_miss : ∀ s : Bytes, Lib.index s [10] = -1 → split10 s = [s]
  | [], _ => rfl
  | c :: t, h => by
    rw [Lib.index, pre10] at h
    by_cases hc : c = 10
    · subst hc; simp at h
    · rw [beq_false_of_ne hc] at h
      simp only [Bool.false_eq_true, if_false] at h
      have h1 : Lib.index t [10] = -1 := by
        split at h
        · rename_i h2; simpa using h2
        · have := Lib.index_ge t [10]; omega
      rw [split10, if_neg hc, split_miss t h1]
theorem split_hit : ∀ (s : Bytes) (i : Nat), Lib.index s [10] = i → split10 s = s.take i :: split10 (s.drop (i + 1)) ∧ i < s.length
  | [], i, h => by simp [Lib.index] at h
  | c :: t, i, h => by
    rw [Lib.index, pre10] at h
    by_cases hc : c = 10
    · subst hc
      simp at h
      obtain rfl : i = 0 := by omega
      simp [split10]
    · rw [beq_false_of_ne hc] at h
      simp only [Bool.false_eq_true, if_false] at h
      split at h
      · omega
      · obtain ⟨j, rfl⟩ : ∃ j, i = j + 1 := ⟨i - 1, by rename_i h2; have := Lib.index_ge t [10]; simp at h2; omega⟩
        obtain ⟨h3, h4⟩ := split_hit t j (by omega)
        rw [split10, if_neg hc, h3]
        simp; exact h4
theorem splitK_is : ∀ (n : Nat) (s : Bytes), s.length ≤ n → Lib.splitK [10] 0 (Lib.count s [10]) s = split10 s
  | n, s, hn => by
    by_cases hm : Lib.index s [10] = -1
    · rw [Lib.count_miss hm, split_miss s hm]; rfl
    · obtain ⟨i, hi⟩ := Int.eq_ofNat_of_zero_le (show 0 ≤ Lib.index s [10] by have := Lib.index_ge s [10]; omega)
      obtain ⟨h3, h4⟩ := split_hit s i hi
      rw [Lib.count_hit (by simp) hi, Nat.add_comm 1, Lib.splitK, if_neg (by simp; exact hm), h3, hi]
      simp only [Int.toNat_natCast, Nat.add_zero, List.length_singleton]
      match n with
      | 0 => omega
      | n + 1 => rw [splitK_is n (s.drop (i + 1)) (by rw [List.length_drop]; omega)]
theorem split_bytes (s : ByteArray) : ((Lib.splitB ⟨#[10]⟩ 0 (Lib.countB s ⟨#[10]⟩) s).map Value.string) = (split10 s.data.toList).map fun x => Value.string ⟨x.toArray⟩ := by
  have h := Lib.splitB_data ⟨#[10]⟩ 0 (Lib.countB s ⟨#[10]⟩) s
  rw [show (⟨#[10]⟩ : ByteArray).data.toList = [10] from rfl, show Lib.countB s ⟨#[10]⟩ = Lib.count s.data.toList [10] from rfl, splitK_is _ _ (Nat.le_refl _)] at h
  rw [← h, List.map_map]
  exact List.map_congr_left fun x _ => by simp
theorem split_count (s : ByteArray) : Lib.countB s ⟨#[10]⟩ + 1 = (split10 s.data.toList).length := by
  have h1 := Lib.splitB_all ⟨#[10]⟩ (by decide) 0 _ s rfl
  have h2 := congrArg List.length (split_bytes s)
  simp only [List.length_map] at h2
  omega
def linesB (s : Bytes) : List Bytes := if s = [] then [] else split10 (Lib.trimSuffix s [10])
def strs (l : List Bytes) : List Value := l.map fun x => .string ⟨x.toArray⟩
theorem Lines_none (s : ByteArray) (h : s.size = 0) (w : World) : Calls Tryd.prog 10 #[.string s] w fun e w' => e = .returned (.slice none 0 0) ∧ Below w.heap.size w w' := by
  obtain rfl : s = ⟨#[]⟩ := ba_ext (List.eq_nil_of_length_eq_zero (by rw [szl]; exact h))
  have hL : Kn [] w w [] := Kn.refl [] w; (try simp only [List.setIfInBounds_toArray, List.set_cons_zero, List.set_cons_succ, List.cons_append, List.nil_append] at hL); have hF := hL.facts; (try simp only [Facts, Dist, List.map_cons, List.map_nil, List.forall_mem_cons, false_implies, ne_eq, not_false_eq_true, List.not_mem_nil, not_false_eq_true, true_implies, forall_const, List.mem_cons, or_false, implies_true, and_true, true_and, Nat.le_refl, List.setIfInBounds_toArray, List.set_cons_zero, List.set_cons_succ] at hF); go_enter Tryd.func10, Tryd.ntmps10
  go_wp2
  (try simp only [Exit.inBlock, Exit.then]); refine bodyPost_ret (by simp [results, Tryd.results10, go_sem, *]; try rfl) rfl ?_
  exact ⟨rfl, hL.below0⟩
theorem Lines_some (s : ByteArray) (hs : s.size ≤ 100000000) (h : s.size ≠ 0) (w : World) (hT : Tab w) : Calls Tryd.prog 10 #[.string s] w fun e w' =>
    ∃ g, e = .returned (.slice (some ⟨g, 0, none⟩) (linesB s.data.toList).length (linesB s.data.toList).length) ∧ Kn [] w w' [(g, .cells (strs (linesB s.data.toList)).toArray 9 (0, 0))] := by
  have hne : (s.toList == (⟨#[]⟩ : ByteArray).toList) = false := (Lib.bytes_beq_false_iff _ _).2 fun e => h (by rw [e]; rfl)
  have hsn : s.data.toList ≠ [] := fun e => h (by rw [← szl, e]; rfl)
  have hl : linesB s.data.toList = split10 (Lib.trimSuffix s.data.toList [10]) := by unfold linesB; rw [if_neg hsn]
  obtain ⟨t, ht⟩ : ∃ t : ByteArray, t.data.toList = Lib.trimSuffix s.data.toList [10] := ⟨⟨(Lib.trimSuffix s.data.toList [10]).toArray⟩, by simp⟩
  have hts : t.size ≤ 100000000 := by
    rw [← szl, ht]
    unfold Lib.trimSuffix
    split
    · rw [List.length_take, szl]; omega
    · rw [szl]; exact hs
  have htrim : ∀ W, Calls Tryd.prog 33 #[.string s, .string ⟨#[10]⟩] W fun e w' => e = .returned (.string t) ∧ w' = W := fun W =>
    (Tryd.strings_TrimSuffix s ⟨#[10]⟩ W (by omega)).mono fun e w' ⟨h1, h2⟩ => ⟨by rw [h1]; congr 2; exact ba_ext (by rw [ht]), h2⟩
  obtain ⟨m, hm⟩ := hT.2.2.2.2
  have hsp : ∀ W, W = w → Calls Tryd.prog 32 #[.string t, .string ⟨#[10]⟩] W fun e w' => e = .returned (.slice (some ⟨W.heap.size, 0, none⟩) (linesB s.data.toList).length (linesB s.data.toList).length) ∧ Kn [] W w' [(W.heap.size, .cells (strs (linesB s.data.toList)).toArray 9 (0, 0))] := fun W hW =>
    (Tryd.strings_Split t ⟨#[10]⟩ m W (by omega) (by rw [hW]; exact hm) (by decide)).mono fun e w' ⟨h1, h2⟩ => by
      rw [split_bytes, ht, ← hl] at h2
      rw [split_count, ht, ← hl] at h1
      refine ⟨h1, ?_⟩
      rw [h2]
      have hK := Kn.refl [] W
      exact kn_here
  clear hne hsn hl ht
  have hie : s.toList.isEmpty = false := by
    rw [ByteArray.toList_eq]
    cases hd : s.data.toList with
    | nil => exact absurd (by rw [← szl, hd]; rfl) h
    | cons => rfl
  have hne : (s.toList == (⟨#[]⟩ : ByteArray).toList) = false := (Lib.bytes_beq_false_iff _ _).2 fun e => h (by rw [e]; rfl)
  go_enter Tryd.func10, Tryd.ntmps10
  go_wp2_with (first | (go_at_call 33; refine (htrim _).mono ?_; rintro e w' ⟨rfl, rfl⟩) | (go_at_call 32; refine (hsp _ rfl).mono ?_; rintro e w' ⟨rfl, hb⟩))
  (try simp only [Exit.inBlock, Exit.then]); refine bodyPost_ret (by simp [results, Tryd.results10, go_sem, *]; try rfl) rfl ?_
  exact ⟨_, rfl, hb⟩

end Go.Proofs.YtjkohbecmaegmaaDoor
