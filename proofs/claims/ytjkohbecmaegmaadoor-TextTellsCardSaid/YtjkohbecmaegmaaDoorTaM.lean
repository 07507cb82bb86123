import Derived.Test.YtjkohbecmaegmaaDoorProg
import Derived.WalkKit
import Derived.Handy
import Derived.Deep.Light
import Derived.WalkSmall
import Derived.StillTailTactics
import Derived.Lib.Hide
import Derived.Test.YtjkohbecmaegmaaDoorT0
import Derived.Test.YtjkohbecmaegmaaDoorIt
import Derived.Test.YtjkohbecmaegmaaDoorT3
import Derived.Lib.Split
import Derived.Lib.SplitLaws
import Derived.Lib.CountLaws
import Derived.Lib.IndexLaws
import Derived.Shelf.Strings.FieldsFuncGrows
import Derived.Lib.FieldsP
namespace Go.Proofs.YtjkohbecmaegmaaDoor
open Go Go.RowKit
set_option linter.unusedSimpArgs false
set_option linter.unusedVariables false

/-- A string divided at its line feeds: one piece more than there are. -/
def split10 : Bytes → List Bytes
  | [] => [[]]
  | c :: t => if c = 10 then [] :: split10 t else match split10 t with
    | h :: r => (c :: h) :: r
    | [] => [[c]]
theorem pre10 (b : UInt8) (l : Bytes) : List.isPrefixOf [10] (b :: l) = (b == 10) := by
  simp only [List.isPrefixOf, Bool.and_true]
  by_cases h : b = 10
  · subst h; rfl
  · rw [beq_false_of_ne h, beq_false_of_ne (Ne.symm h)]
theorem split_miss : ∀ s : Bytes, Lib.index s [10] = -1 → split10 s = [s]
  | [], _ => rfl
  | c :: t, h => by
    rw [Lib.index, pre10] at h
    by_cases hc : c = 10
    · subst hc; simp at h
    · rw [beq_false_of_ne hc] at h
      simp only [Bool.false_eq_true, if_false] at h
      have h1 : Lib.index t [10] = -1 := by
        split at h
        · rename_i h2; simpa using h2
        · have := Lib.index_ge t [10]; omega
      rw [split10, if_neg hc, split_miss t h1]
theorem split_hit : ∀ (s : Bytes) (i : Nat), Lib.index s [10] = i → split10 s = s.take i :: split10 (s.drop (i + 1)) ∧ i < s.length
  | [], i, h => by simp [Lib.index] at h
  | c :: t, i, h => by
    rw [Lib.index, pre10] at h
    by_cases hc : c = 10
    · subst hc
      simp at h
      obtain rfl : i = 0 := by omega
      simp [split10]
    · rw [beq_false_of_ne hc] at h
      simp only [Bool.false_eq_true, if_false] at h
      split at h
      · omega
      · obtain ⟨j, rfl⟩ : ∃ j, i = j + 1 := ⟨i - 1, by rename_i h2; have := Lib.index_ge t [10]; simp at h2; omega⟩
        obtain ⟨h3, h4⟩ := split_hit t j (by omega)
        rw [split10, if_neg hc, h3]
        simp; exact h4
theorem splitK_is : ∀ (n : Nat) (s : Bytes), s.length ≤ n → Lib.splitK [10] 0 (Lib.count s [10]) s = split10 s
  | n, s, hn => by
    by_cases hm : Lib.index s [10] = -1
    · rw [Lib.count_miss hm, split_miss s hm]; rfl
    · obtain ⟨i, hi⟩ := Int.eq_ofNat_of_zero_le (show 0 ≤ Lib.index s [10] by have := Lib.index_ge s [10]; omega)
      obtain ⟨h3, h4⟩ := split_hit s i hi
      rw [Lib.count_hit (by simp) hi, Nat.add_comm 1, Lib.splitK, if_neg (by simp; exact hm), h3, hi]
      simp only [Int.toNat_natCast, Nat.add_zero, List.length_singleton]
      match n with
      | 0 => omega
      | n + 1 => rw [splitK_is n (s.drop (i + 1)) (by rw [List.length_drop]; omega)]
theorem split_bytes (s : ByteArray) : ((Lib.splitB ⟨#[10]⟩ 0 (Lib.countB s ⟨#[10]⟩) s).map Value.string) = (split10 s.data.toList).map fun x => Value.string ⟨x.toArray⟩ := by
  have h := Lib.splitB_data ⟨#[10]⟩ 0 (Lib.countB s ⟨#[10]⟩) s
  rw [show (⟨#[10]⟩ : ByteArray).data.toList = [10] from rfl, show Lib.countB s ⟨#[10]⟩ = Lib.count s.data.toList [10] from rfl, splitK_is _ _ (Nat.le_refl _)] at h
  rw [← h, List.map_map]
  exact List.map_congr_left fun x _ => by simp
theorem split_count (s : ByteArray) : Lib.countB s ⟨#[10]⟩ + 1 = (split10 s.data.toList).length := by
  have h1 := Lib.splitB_all ⟨#[10]⟩ (by decide) 0 _ s rfl
  have h2 := congrArg List.length (split_bytes s)
  simp only [List.length_map] at h2
  omega
def linesB (s : Bytes) : List Bytes := if s = [] then [] else split10 (Lib.trimSuffix s [10])
def strs (l : List Bytes) : List Value := l.map fun x => .string ⟨x.toArray⟩
theorem Lines_none (s : ByteArray) (h : s.size = 0) (w : World) : Calls Tryd.prog 10 #[.string s] w fun e w' => e = .returned (.slice none 0 0) ∧ Below w.heap.size w w' := by
  obtain rfl : s = ⟨#[]⟩ := ba_ext (List.eq_nil_of_length_eq_zero (by rw [szl]; exact h))
  have hL : Kn [] w w [] := Kn.refl [] w; (try simp only [List.setIfInBounds_toArray, List.set_cons_zero, List.set_cons_succ, List.cons_append, List.nil_append] at hL); have hF := hL.facts; (try simp only [Facts, Dist, List.map_cons, List.map_nil, List.forall_mem_cons, false_implies, ne_eq, not_false_eq_true, List.not_mem_nil, not_false_eq_true, true_implies, forall_const, List.mem_cons, or_false, implies_true, and_true, true_and, Nat.le_refl, List.setIfInBounds_toArray, List.set_cons_zero, List.set_cons_succ] at hF); go_enter Tryd.func10, Tryd.ntmps10
  go_wp2
  (try simp only [Exit.inBlock, Exit.then]); refine bodyPost_ret (by simp [results, Tryd.results10, go_sem, *]; try rfl) rfl ?_
  exact ⟨rfl, hL.below0⟩
theorem Lines_some (s : ByteArray) (hs : s.size ≤ 100000000) (h : s.size ≠ 0) (w : World) (hT : Tab w) : Calls Tryd.prog 10 #[.string s] w fun e w' =>
    ∃ g, e = .returned (.slice (some ⟨g, 0, none⟩) (linesB s.data.toList).length (linesB s.data.toList).length) ∧ Kn [] w w' [(g, .cells (strs (linesB s.data.toList)).toArray 9 (0, 0))] := by
  have hne : (s.toList == (⟨#[]⟩ : ByteArray).toList) = false := (Lib.bytes_beq_false_iff _ _).2 fun e => h (by rw [e]; rfl)
  have hsn : s.data.toList ≠ [] := fun e => h (by rw [← szl, e]; rfl)
  have hl : linesB s.data.toList = split10 (Lib.trimSuffix s.data.toList [10]) := by unfold linesB; rw [if_neg hsn]
  obtain ⟨t, ht⟩ : ∃ t : ByteArray, t.data.toList = Lib.trimSuffix s.data.toList [10] := ⟨⟨(Lib.trimSuffix s.data.toList [10]).toArray⟩, by simp⟩
  have hts : t.size ≤ 100000000 := by
    rw [← szl, ht]
    unfold Lib.trimSuffix
    split
    · rw [List.length_take, szl]; omega
    · rw [szl]; exact hs
  have htrim : ∀ W, Calls Tryd.prog 33 #[.string s, .string ⟨#[10]⟩] W fun e w' => e = .returned (.string t) ∧ w' = W := fun W =>
    (Tryd.strings_TrimSuffix s ⟨#[10]⟩ W (by omega)).mono fun e w' ⟨h1, h2⟩ => ⟨by rw [h1]; congr 2; exact ba_ext (by rw [ht]), h2⟩
  obtain ⟨m, hm⟩ := hT.2.2.2.2
  have hsp : ∀ W, W = w → Calls Tryd.prog 32 #[.string t, .string ⟨#[10]⟩] W fun e w' => e = .returned (.slice (some ⟨W.heap.size, 0, none⟩) (linesB s.data.toList).length (linesB s.data.toList).length) ∧ Kn [] W w' [(W.heap.size, .cells (strs (linesB s.data.toList)).toArray 9 (0, 0))] := fun W hW =>
    (Tryd.strings_Split t ⟨#[10]⟩ m W (by omega) (by rw [hW]; exact hm) (by decide)).mono fun e w' ⟨h1, h2⟩ => by
      rw [split_bytes, ht, ← hl] at h2
      rw [split_count, ht, ← hl] at h1
      refine ⟨h1, ?_⟩
      rw [h2]
      have hK := Kn.refl [] W
      exact kn_here
  clear hne hsn hl ht
  have hie : s.toList.isEmpty = false := by
    rw [ByteArray.toList_eq]
    cases hd : s.data.toList with
    | nil => exact absurd (by rw [← szl, hd]; rfl) h
    | cons => rfl
  have hne : (s.toList == (⟨#[]⟩ : ByteArray).toList) = false := (Lib.bytes_beq_false_iff _ _).2 fun e => h (by rw [e]; rfl)
  go_enter Tryd.func10, Tryd.ntmps10
  go_wp2_with (first | (go_at_call 33; refine (htrim _).mono ?_; rintro e w' ⟨rfl, rfl⟩) | (go_at_call 32; refine (hsp _ rfl).mono ?_; rintro e w' ⟨rfl, hb⟩))
  (try simp only [Exit.inBlock, Exit.then]); refine bodyPost_ret (by simp [results, Tryd.results10, go_sem, *]; try rfl) rfl ?_
  exact ⟨_, rfl, hb⟩

end Go.Proofs.YtjkohbecmaegmaaDoor

namespace Go.Proofs.YtjkohbecmaegmaaDoor
open Go Go.RowKit
set_option linter.unusedSimpArgs false
set_option linter.unusedVariables false

def whiteR (r : Nat) : Bool := r == 32 || r == 9 || r == 10
theorem white_any (x : Nat) (w : World) : Calls Tryd.prog 38 #[.int .i32 x] w fun e w' => e = .returned (.bool (whiteR x)) ∧ Below w.heap.size w w' := by
  by_cases h1 : x = 32
  · subst h1
    have hL : Kn [] w w [] := Kn.refl [] w; (try simp only [List.setIfInBounds_toArray, List.set_cons_zero, List.set_cons_succ, List.cons_append, List.nil_append] at hL); have hF := hL.facts; (try simp only [Facts, Dist, List.map_cons, List.map_nil, List.forall_mem_cons, false_implies, ne_eq, not_false_eq_true, List.not_mem_nil, not_false_eq_true, true_implies, forall_const, List.mem_cons, or_false, implies_true, and_true, true_and, Nat.le_refl, List.setIfInBounds_toArray, List.set_cons_zero, List.set_cons_succ] at hF); go_enter Tryd.func38, Tryd.ntmps38
    go_wp2
    (try simp only [Exit.inBlock, Exit.then]); refine bodyPost_ret (by simp [results, Tryd.results38, go_sem, *]; try rfl) rfl ?_
    exact ⟨rfl, hL.below0⟩
  by_cases h2 : x = 9
  · subst h2
    have hL : Kn [] w w [] := Kn.refl [] w; (try simp only [List.setIfInBounds_toArray, List.set_cons_zero, List.set_cons_succ, List.cons_append, List.nil_append] at hL); have hF := hL.facts; (try simp only [Facts, Dist, List.map_cons, List.map_nil, List.forall_mem_cons, false_implies, ne_eq, not_false_eq_true, List.not_mem_nil, not_false_eq_true, true_implies, forall_const, List.mem_cons, or_false, implies_true, and_true, true_and, Nat.le_refl, List.setIfInBounds_toArray, List.set_cons_zero, List.set_cons_succ] at hF); go_enter Tryd.func38, Tryd.ntmps38
    go_wp2
    (try simp only [Exit.inBlock, Exit.then]); refine bodyPost_ret (by simp [results, Tryd.results38, go_sem, *]; try rfl) rfl ?_
    exact ⟨rfl, hL.below0⟩
  by_cases h3 : x = 10
  · subst h3
    have hL : Kn [] w w [] := Kn.refl [] w; (try simp only [List.setIfInBounds_toArray, List.set_cons_zero, List.set_cons_succ, List.cons_append, List.nil_append] at hL); have hF := hL.facts; (try simp only [Facts, Dist, List.map_cons, List.map_nil, List.forall_mem_cons, false_implies, ne_eq, not_false_eq_true, List.not_mem_nil, not_false_eq_true, true_implies, forall_const, List.mem_cons, or_false, implies_true, and_true, true_and, Nat.le_refl, List.setIfInBounds_toArray, List.set_cons_zero, List.set_cons_succ] at hF); go_enter Tryd.func38, Tryd.ntmps38
    go_wp2
    (try simp only [Exit.inBlock, Exit.then]); refine bodyPost_ret (by simp [results, Tryd.results38, go_sem, *]; try rfl) rfl ?_
    exact ⟨rfl, hL.below0⟩
  have f1 : ((x : Int) == 32) = false := beq_false_of_ne (by omega)
  have f2 : ((x : Int) == 9) = false := beq_false_of_ne (by omega)
  have f3 : ((x : Int) == 10) = false := beq_false_of_ne (by omega)
  have e : whiteR x = false := by simp [whiteR, h1, h2, h3]
  rw [e]
  have hL : Kn [] w w [] := Kn.refl [] w; (try simp only [List.setIfInBounds_toArray, List.set_cons_zero, List.set_cons_succ, List.cons_append, List.nil_append] at hL); have hF := hL.facts; (try simp only [Facts, Dist, List.map_cons, List.map_nil, List.forall_mem_cons, false_implies, ne_eq, not_false_eq_true, List.not_mem_nil, not_false_eq_true, true_implies, forall_const, List.mem_cons, or_false, implies_true, and_true, true_and, Nat.le_refl, List.setIfInBounds_toArray, List.set_cons_zero, List.set_cons_succ] at hF); go_enter Tryd.func38, Tryd.ntmps38
  go_wp2
  (try simp only [Exit.inBlock, Exit.then]); refine bodyPost_ret (by simp [results, Tryd.results38, go_sem, *]; try rfl) rfl ?_
  exact ⟨rfl, hL.below0⟩

end Go.Proofs.YtjkohbecmaegmaaDoor

namespace Go.Proofs.YtjkohbecmaegmaaDoor
open Go Go.RowKit
set_option linter.unusedSimpArgs false
set_option linter.unusedVariables false

def whiteB (c : UInt8) : Bool := c == 32 || c == 9 || c == 10
/-- The fields of what is left, behind what the field under way has. -/
def fieldsGo : Bytes → Bytes → List Bytes
  | now, [] => if now = [] then [] else [now]
  | now, c :: t => if whiteB c then (if now = [] then fieldsGo [] t else now :: fieldsGo [] t) else fieldsGo (now ++ [c]) t
def fieldsB (s : Bytes) : List Bytes := fieldsGo [] s
theorem fields_skip : ∀ (u now t : Bytes), (∀ c ∈ u, whiteB c = false) → fieldsGo now (u ++ t) = fieldsGo (now ++ u) t
  | [], now, t, _ => by simp
  | c :: u, now, t, h => by
    rw [List.cons_append, fieldsGo, if_neg (by rw [h c (by simp)]; decide), fields_skip u _ t (fun x hx => h x (List.mem_cons_of_mem _ hx))]
    simp
theorem get_at {s : ByteArray} {i : Nat} {c : UInt8} (h : s.data.toList[i]? = some c) : s.get! i = c := by
  have hi : i < s.size := by rw [← szl]; exact (List.getElem?_eq_some_iff.1 h).1
  have h1 : s.get! i = s.data[i]! := by cases s; rfl
  rw [h1, getElem!_pos s.data i hi]
  have h2 : s.data.toList[i]? = some (s.data[i]'hi) := by
    rw [List.getElem?_eq_getElem (by simpa using hi)]; rfl
  rw [h] at h2; exact (Option.some.inj h2).symm
theorem decode_low (s : ByteArray) (i : Nat) (hb : (s.get! i).toNat < 128) : Utf8.decode s i = ((s.get! i).toNat, 1) := by
  unfold Utf8.decode
  simp only [Nat.add_zero]
  rw [if_pos hb]
theorem decode_high (s : ByteArray) (i : Nat) (hi : i < s.size) (hb : 128 ≤ (s.get! i).toNat) :
    128 ≤ (Utf8.decode s i).1 ∧ 1 ≤ (Utf8.decode s i).2 ∧ i + (Utf8.decode s i).2 ≤ s.size ∧ ∀ k, k < (Utf8.decode s i).2 → 128 ≤ (s.get! (i + k)).toNat := by
  have one : ∀ k, k < 1 → 128 ≤ (s.get! (i + k)).toNat := fun k hk => by obtain rfl : k = 0 := by omega
                                                                         simpa using hb
  have hr : 128 ≤ Utf8.runeError := by unfold Utf8.runeError; omega
  unfold Utf8.decode
  simp only [Nat.add_zero]
  rw [if_neg (by omega)]
  split
  · rename_i h
    simp only [Bool.and_eq_true, decide_eq_true_eq, beq_iff_eq] at h
    split
    · refine ⟨by assumption, by simp, by simp only; omega, fun k hk => ?_⟩
      simp only at hk
      have : k = 0 ∨ k = 1 := by omega
      rcases this with rfl | rfl
      · simpa using hb
      · omega
    · exact ⟨hr, by simp, by simp only; omega, one⟩
  · split
    · rename_i h
      simp only [Bool.and_eq_true, decide_eq_true_eq, beq_iff_eq] at h
      split
      · rename_i h2
        simp only [Bool.and_eq_true, decide_eq_true_eq, ge_iff_le] at h2
        refine ⟨by simp only; omega, by simp, by simp only; omega, fun k hk => ?_⟩
        simp only at hk
        have : k = 0 ∨ k = 1 ∨ k = 2 := by omega
        rcases this with rfl | rfl | rfl
        · simpa using hb
        · omega
        · omega
      · exact ⟨hr, by simp, by simp only; omega, one⟩
    · split
      · rename_i h
        simp only [Bool.and_eq_true, decide_eq_true_eq, beq_iff_eq] at h
        split
        · rename_i h2
          simp only [Bool.and_eq_true, decide_eq_true_eq, ge_iff_le] at h2
          refine ⟨by simp only; omega, by simp, by simp only; omega, fun k hk => ?_⟩
          simp only at hk
          have : k = 0 ∨ k = 1 ∨ k = 2 ∨ k = 3 := by omega
          rcases this with rfl | rfl | rfl | rfl
          · simpa using hb
          · omega
          · omega
          · omega
        · exact ⟨hr, by simp, by simp only; omega, one⟩
      · exact ⟨hr, by simp, by simp only; omega, one⟩

end Go.Proofs.YtjkohbecmaegmaaDoor

namespace Go.Proofs.YtjkohbecmaegmaaDoor
open Go Go.RowKit
set_option linter.unusedSimpArgs false
set_option linter.unusedVariables false

theorem ba_mk (s : ByteArray) : (⟨s.data.toList.toArray⟩ : ByteArray) = s := by cases s; simp
theorem white_nat (c : UInt8) : whiteR c.toNat = whiteB c := by
  have e : ∀ k : UInt8, (c.toNat == k.toNat) = (c == k) := fun k => by
    by_cases h : c = k
    · subst h; simp
    · rw [beq_false_of_ne h, beq_false_of_ne (fun e => h (UInt8.toNat_inj.1 e))]
  have e1 := e 32; have e2 := e 9; have e3 := e 10
  unfold whiteR whiteB
  rw [← e1, ← e2, ← e3]; rfl
theorem white_high {c : UInt8} (h : 128 ≤ c.toNat) : whiteB c = false := by
  rw [← white_nat]; unfold whiteR
  rw [beq_false_of_ne (by omega), beq_false_of_ne (by omega), beq_false_of_ne (by omega)]; rfl
theorem spans_is (s : ByteArray) : ∀ (f pos : Nat) (st : Option Nat) (acc : List (Nat × Nat)), s.size - pos ≤ f → pos ≤ s.size → (∀ a, st = some a → a < pos) →
    (Lib.closeSpans s (Lib.spansFromP whiteR s f pos st acc)).map (fun x => (s.extract x.1 x.2).data.toList) = acc.map (fun x => (s.extract x.1 x.2).data.toList) ++ fieldsGo ((s.data.toList.take pos).drop (st.getD pos)) (s.data.toList.drop pos) := by
  have hsl := szl s
  have hd0 : s.data.toList.drop s.size = [] := List.drop_eq_nil_of_le (by omega)
  have hd1 : (s.data.toList.take s.size).drop s.size = [] := List.drop_eq_nil_of_le (by rw [List.length_take]; omega)
  intro f
  induction f with
  | zero =>
    intro pos st acc hf hp hst
    obtain rfl : pos = s.size := by omega
    rw [Lib.spansFromP_end _ _ _ _ _ _ (by omega), hd0]
    cases st with
    | none => simp only [Lib.closeSpans, Option.getD_none, hd1, fieldsGo, if_true, List.append_nil]
    | some a =>
      have ha := hst a rfl
      have hne : (s.data.toList.take s.size).drop a ≠ [] := fun e => by
        have := congrArg List.length e
        rw [List.length_drop, List.length_take] at this
        simp only [List.length_nil] at this; omega
      simp only [Lib.closeSpans, fieldsGo, Option.getD_some]
      rw [if_neg hne, List.map_append, List.map_cons, List.map_nil, ext_list]
  | succ f ih =>
    intro pos st acc hf hp hst
    by_cases hlt : pos < s.size
    · obtain ⟨c, hc⟩ : ∃ c, s.data.toList[pos]? = some c := ⟨_, List.getElem?_eq_getElem (by omega)⟩
      have hg := get_at hc
      have hdrop : s.data.toList.drop pos = c :: s.data.toList.drop (pos + 1) := by
        obtain ⟨h1, h2⟩ := List.getElem?_eq_some_iff.1 hc
        rw [List.drop_eq_getElem_cons h1, h2]
      have hnil : (s.data.toList.take (pos + 1)).drop (pos + 1) = [] := List.drop_eq_nil_of_le (by rw [List.length_take]; omega)
      by_cases hw : whiteB c = true
      · have hlow : (s.get! pos).toNat < 128 := by
          rw [hg]
          rcases Nat.lt_or_ge c.toNat 128 with h | h
          · exact h
          · rw [white_high h] at hw; cases hw
        rw [Lib.spansFromP.eq_def]
        simp only []
        rw [if_pos hlt, decode_low s pos hlow, hg]
        simp only [white_nat, hw, if_true]
        rw [hdrop, fieldsGo, if_pos hw]
        cases st with
        | none =>
          simp only
          rw [ih (pos + 1) none acc (by omega) (by omega) (by simp)]
          simp only [Option.getD_none]
          rw [hnil, List.drop_eq_nil_of_le (show (s.data.toList.take pos).length ≤ pos by rw [List.length_take]; omega), if_pos rfl]
        | some a =>
          have ha := hst a rfl
          have hne : (s.data.toList.take pos).drop a ≠ [] := fun e => by
            have := congrArg List.length e
            rw [List.length_drop, List.length_take] at this
            simp only [List.length_nil] at this; omega
          simp only
          rw [ih (pos + 1) none _ (by omega) (by omega) (by simp)]
          simp only [Option.getD_none, Option.getD_some]
          rw [hnil, if_neg hne, List.map_append, List.map_cons, List.map_nil, ext_list, List.append_assoc]
          rfl
      · have hw : whiteB c = false := by simpa using hw
        obtain ⟨r, n, hd, hr, hn, hn2, hall⟩ : ∃ r n, Utf8.decode s pos = (r, n) ∧ whiteR r = false ∧ 1 ≤ n ∧ pos + n ≤ s.size ∧ ∀ x ∈ (s.data.toList.drop pos).take n, whiteB x = false := by
          rcases Nat.lt_or_ge (s.get! pos).toNat 128 with h | h
          · refine ⟨_, 1, decode_low s pos h, by rw [hg, white_nat]; exact hw, Nat.le_refl _, by omega, fun x hx => ?_⟩
            rw [hdrop] at hx
            simp at hx; subst hx; exact hw
          · obtain ⟨h1, h2, h3, h4⟩ := decode_high s pos hlt h
            obtain ⟨r, n, hrn⟩ : ∃ r n, Utf8.decode s pos = (r, n) := ⟨_, _, rfl⟩
            rw [hrn] at h1 h2 h3 h4
            simp only at h1 h2 h3 h4
            refine ⟨r, n, hrn, ?_, h2, h3, fun x hx => ?_⟩
            · unfold whiteR
              rw [beq_false_of_ne (by omega), beq_false_of_ne (by omega), beq_false_of_ne (by omega)]; rfl
            · obtain ⟨k, hk⟩ := List.mem_iff_getElem?.1 hx
              rw [List.getElem?_take] at hk
              split at hk
              · rename_i hkn
                rw [List.getElem?_drop] at hk
                have h5 := h4 k hkn
                rw [get_at hk] at h5
                exact white_high h5
              · cases hk
        have hsplit : s.data.toList.drop pos = (s.data.toList.drop pos).take n ++ s.data.toList.drop (pos + n) := by
          rw [← List.drop_drop, List.take_append_drop]
        have hnow : ∀ a, a ≤ pos → (s.data.toList.take pos).drop a ++ (s.data.toList.drop pos).take n = (s.data.toList.take (pos + n)).drop a := fun a ha => by
          rw [List.take_add, List.drop_append, List.length_take]
          rw [show a - min pos s.data.toList.length = 0 by omega, List.drop_zero]
        rw [Lib.spansFromP.eq_def]
        simp only []
        rw [if_pos hlt, hd, hsplit, fields_skip _ _ _ hall]
        simp only [hr, Bool.false_eq_true, if_false]
        cases st with
        | none =>
          simp only
          rw [ih (pos + n) (some pos) acc (by omega) (by omega) (by intro a ha; simp at ha; omega)]
          simp only [Option.getD_none, Option.getD_some]
          rw [hnow pos (Nat.le_refl _)]
        | some a =>
          have ha := hst a rfl
          simp only
          rw [ih (pos + n) (some a) acc (by omega) (by omega) (by intro b hb; simp at hb; omega)]
          simp only [Option.getD_some]
          rw [hnow a (by omega)]
    · obtain rfl : pos = s.size := by omega
      rw [Lib.spansFromP_end _ _ _ _ _ _ (by omega), hd0]
      cases st with
      | none => simp only [Lib.closeSpans, Option.getD_none, hd1, fieldsGo, if_true, List.append_nil]
      | some a =>
        have ha := hst a rfl
        have hne : (s.data.toList.take s.size).drop a ≠ [] := fun e => by
          have := congrArg List.length e
          rw [List.length_drop, List.length_take] at this
          simp only [List.length_nil] at this; omega
        simp only [Lib.closeSpans, fieldsGo, Option.getD_some]
        rw [if_neg hne, List.map_append, List.map_cons, List.map_nil, ext_list]
theorem fields_bytes (s : ByteArray) : (Lib.goFieldsP whiteR s).map Value.string = strs (fieldsB s.data.toList) := by
  have h := spans_is s s.size 0 none [] (by omega) (by omega) (by simp)
  simp only [List.map_nil, List.nil_append, List.take_zero, List.drop_nil, List.drop_zero] at h
  unfold Lib.goFieldsP Lib.spansOfP fieldsB strs
  rw [← h, List.map_map, List.map_map]
  exact List.map_congr_left fun x _ => congrArg Value.string (ba_mk _).symm
theorem Fields_any (s : ByteArray) (hs : s.size ≤ 100000000) (w : World) : Calls Tryd.prog 12 #[.string s] w fun e w' =>
    ∃ g, e = .returned (.slice (some ⟨g, 0, none⟩) (fieldsB s.data.toList).length (fieldsB s.data.toList).length) ∧ w'.ownsRow w.heap.size 9 1 (.slice (some ⟨g, 0, none⟩) (fieldsB s.data.toList).length (fieldsB s.data.toList).length) (fieldsB s.data.toList).length (strs (fieldsB s.data.toList)) ∧ Below w.heap.size w w' := by
  have hcount : (Lib.goFieldsP whiteR s).length = (fieldsB s.data.toList).length := by
    have := congrArg List.length (fields_bytes s)
    simpa [strs] using this
  have hf : Calls Tryd.prog 37 #[.string s, .func (.func 38) #[] #[]] w fun e w' => ∃ g, e = .returned (.slice (some ⟨g, 0, none⟩) (fieldsB s.data.toList).length (fieldsB s.data.toList).length) ∧ w'.ownsRow w.heap.size 9 1 (.slice (some ⟨g, 0, none⟩) (fieldsB s.data.toList).length (fieldsB s.data.toList).length) (fieldsB s.data.toList).length (strs (fieldsB s.data.toList)) ∧ Below w.heap.size w w' := by
    refine (Tryd.strings_FieldsFunc_grows 38 #[] (enters_of Tryd.func38 (by kernel_rfl) rfl) whiteR s w (by omega) (fun W x _ _ => white_any x W)).mono ?_
    rintro e w' ⟨A, h1, h2, h3, h4⟩
    rw [fields_bytes, hcount] at h3
    rw [hcount] at h1
    exact ⟨A, h1, h3, h4⟩
  go_enter Tryd.func12, Tryd.ntmps12
  go_wp2_with (go_at_call 37; refine hf.mono ?_)
  rintro e w' ⟨g, rfl, h3, h4⟩
  go_wp2
  (try simp only [Exit.inBlock, Exit.then]); refine bodyPost_ret (by simp [results, Tryd.results12, go_sem, *]; try rfl) rfl ?_
  exact ⟨_, rfl, h3, h4⟩

end Go.Proofs.YtjkohbecmaegmaaDoor

