import Derived.Test.YtjkohbecmaegmaaDoorProg
import Derived.WalkKit
import Derived.Handy
import Derived.Deep.Light
import Derived.WalkSmall
import Derived.StillTailTactics
import Derived.Lib.Hide
import Derived.Test.YtjkohbecmaegmaaDoorT0
import Derived.Test.YtjkohbecmaegmaaDoorIt
import Derived.Test.YtjkohbecmaegmaaDoorT21X
import Derived.Test.YtjkohbecmaegmaaDoorApp
namespace Go.Proofs.YtjkohbecmaegmaaDoor
open Go Go.RowKit
set_option linter.unusedSimpArgs false
set_option linter.unusedVariables false

def join10 (l : List Bytes) : Bytes := l.flatMap fun x => x ++ [10]
/-- A string divided at its line feeds (as split10). -/
theorem split_line : ∀ (x t : Bytes), 10 ∉ x → split10 (x ++ 10 :: t) = x :: split10 t
  | [], t, _ => by rw [List.nil_append, split10, if_pos rfl]
  | c :: x, t, h => by
    have hc : c ≠ 10 := fun e => h (by rw [e]; simp)
    rw [List.cons_append, split10, if_neg hc, split_line x t (fun hm => h (List.mem_cons_of_mem _ hm))]
theorem split_last : ∀ x : Bytes, 10 ∉ x → split10 x = [x]
  | [], _ => rfl
  | c :: x, h => by
    have hc : c ≠ 10 := fun e => h (by rw [e]; simp)
    rw [split10, if_neg hc, split_last x (fun hm => h (List.mem_cons_of_mem _ hm))]
theorem split_ne : ∀ s : Bytes, split10 s ≠ []
  | [] => by simp [split10]
  | c :: t => by
    rw [split10]
    split
    · simp
    · split <;> simp
theorem split_in : ∀ (s : Bytes), ∀ x ∈ split10 s, 10 ∉ x
  | [], x, hx => by simp [split10] at hx; subst hx; simp
  | c :: t, x, hx => by
    rw [split10] at hx
    split at hx
    · rcases List.mem_cons.1 hx with rfl | hx
      · simp
      · exact split_in t x hx
    · rename_i hc
      have ih := split_in t
      split at hx
      · rename_i h r e
        rw [e] at ih
        rcases List.mem_cons.1 hx with rfl | hx
        · have := ih h (by simp)
          intro hm
          rcases List.mem_cons.1 hm with e2 | hm
          · exact hc e2.symm
          · exact this hm
        · exact ih x (by simp [hx])
      · rename_i e
        exact absurd e (split_ne t)
theorem split_join : ∀ s : Bytes, join10 (split10 s) = s ++ [10]
  | [] => rfl
  | c :: t => by
    have ih := split_join t
    rw [split10]
    split
    · rename_i h; subst h
      unfold join10 at ih ⊢
      rw [List.flatMap_cons, ih]; rfl
    · split
      · rename_i h r e
        rw [e] at ih
        unfold join10 at ih ⊢
        rw [List.flatMap_cons] at ih ⊢
        rw [List.cons_append, List.cons_append, ih]; rfl
      · rename_i e
        exact absurd e (split_ne t)
/-- What is left without a line feed at the end. -/
def trim10 (s : Bytes) : Bytes := if s.getLast? = some 10 then s.dropLast else s
theorem trim_snoc (s : Bytes) : trim10 (s ++ [10]) = s := by unfold trim10; rw [if_pos (by simp)]; simp
theorem trim_or (s : Bytes) : (s = trim10 s ++ [10] ∧ s.getLast? = some 10) ∨ (trim10 s = s ∧ s.getLast? ≠ some 10) := by
  unfold trim10
  split
  · rename_i h
    left
    have hne : s ≠ [] := by rintro rfl; simp at h
    have := List.dropLast_concat_getLast hne
    rw [List.getLast?_eq_some_getLast hne] at h
    injection h with h
    rw [h] at this
    exact ⟨this.symm, by rw [← this]; simp⟩
  · rename_i h; right; exact ⟨rfl, h⟩
def lns (s : Bytes) : List Bytes := if s = [] then [] else split10 (trim10 s)
theorem lns_in (s : Bytes) : ∀ x ∈ lns s, 10 ∉ x := by
  unfold lns
  split
  · simp
  · exact split_in _
theorem lns_join (s : Bytes) : join10 (lns s) = if s = [] then [] else if s.getLast? = some 10 then s else s ++ [10] := by
  unfold lns
  split
  · rfl
  · rw [split_join]
    rcases trim_or s with ⟨h1, h2⟩ | ⟨h1, h2⟩
    · rw [if_pos h2]; exact h1.symm
    · rw [if_neg h2, h1]
theorem split_lines : ∀ (l : List Bytes) (x : Bytes), (∀ y ∈ l, 10 ∉ y) → 10 ∉ x → split10 (join10 l ++ x) = l ++ [x]
  | [], x, _, hx => split_last x hx
  | y :: l, x, h, hx => by
    have e : join10 (y :: l) ++ x = y ++ 10 :: (join10 l ++ x) := by simp [join10]
    rw [e, split_line _ _ (h y (by simp)), split_lines l x (fun z hz => h z (List.mem_cons_of_mem _ hz)) hx]; rfl
theorem lns_lines (l : List Bytes) (h : ∀ y ∈ l, 10 ∉ y) : lns (join10 l) = l := by
  rcases List.eq_nil_or_concat l with rfl | ⟨l', x, rfl⟩
  · rfl
  · rw [List.concat_eq_append] at h ⊢
    have e : join10 (l' ++ [x]) = (join10 l' ++ x) ++ [10] := by simp [join10]
    unfold lns
    rw [e, if_neg (by simp), trim_snoc]
    exact split_lines l' x (fun y hy => h y (by simp [hy])) (h x (by simp))
/-! Fields. -/
theorem fields_fact : ∀ (s now : Bytes), (∀ c ∈ now, whiteB c = false) → ∀ f ∈ fieldsGo now s, f ≠ [] ∧ ∀ c ∈ f, whiteB c = false
  | [], now, h, f, hf => by
    rw [fieldsGo] at hf
    split at hf
    · simp at hf
    · simp at hf; subst hf; exact ⟨by assumption, h⟩
  | c :: t, now, h, f, hf => by
    rw [fieldsGo] at hf
    split at hf
    · split at hf
      · exact fields_fact t [] (by simp) f hf
      · rcases List.mem_cons.1 hf with rfl | hf
        · exact ⟨by assumption, h⟩
        · exact fields_fact t [] (by simp) f hf
    · rename_i hc
      refine fields_fact t _ ?_ f hf
      intro d hd
      rcases List.mem_append.1 hd with hd | hd
      · exact h d hd
      · simp at hd; subst hd; simpa using hc
theorem fields_cut : ∀ (s now t : Bytes), fieldsGo now (s ++ 10 :: t) = fieldsGo now s ++ fieldsGo [] t
  | [], now, t => by
    rw [List.nil_append]
    show (if whiteB 10 = true then (if now = [] then fieldsGo [] t else now :: fieldsGo [] t) else fieldsGo (now ++ [10]) t) = (if now = [] then [] else [now]) ++ fieldsGo [] t
    rw [if_pos (show whiteB 10 = true from rfl)]
    split <;> rfl
  | c :: s, now, t => by
    rw [List.cons_append, fieldsGo, fieldsGo, fields_cut s [] t, fields_cut s _ t]
    split
    · split <;> simp
    · rfl
theorem fields_join : ∀ l : List Bytes, fieldsB (join10 l) = l.flatMap fieldsB
  | [] => rfl
  | x :: l => by
    have e : join10 (x :: l) = x ++ 10 :: join10 l := by simp [join10]
    have ih := fields_join l
    rw [e, List.flatMap_cons, ← ih]
    exact fields_cut x [] _
theorem fields_lns (s : Bytes) : (lns s).flatMap fieldsB = fieldsB s := by
  rw [← fields_join, lns_join]
  split
  · rename_i h; rw [h]
  · split
    · rfl
    · unfold fieldsB
      rw [fields_cut s [] []]; simp [fieldsGo]

theorem fresh_cons {w : World} {base : Nat} {e : TypeId} {z n : Nat} {v : Value} {xs : List Value} {L : List (Nat × Obj)} {g2 : Nat} {o : Obj} (hfr : Fresh v L) (hown : w.ownsRow base e z v n xs) (h : w.heap.size ≤ g2) : Fresh v ((g2, o) :: L) := fun g hg hm => by
  simp only [List.map_cons, List.mem_cons] at hm
  rcases hm with rfl | hm
  · have h1 := (owns_lt hown hg).1; omega
  · exact hfr g hg hm
theorem fresh_less {v : Value} {L : List (Nat × Obj)} {p : Nat × Obj} (h : Fresh v (p :: L)) : Fresh v L := fun g hg hm => h g hg (List.mem_cons_of_mem _ hm)
theorem new_of {w w' : World} {g : Nat} {o : Obj} (h : Kn [] w w' [(g, o)]) : w.heap.size ≤ g := by
  rcases h.own _ (List.mem_cons_self) with h2 | h2
  · exact h2
  · simp at h2
theorem flat_take2 {α β : Type} (f : α → List β) {l : List α} {k : Nat} {x : α} (h : l[k]? = some x) : (l.take (k + 1)).flatMap f = (l.take k).flatMap f ++ f x := by
  rw [List.take_add_one, h]; simp
theorem suffix10 : ∀ s : Bytes, List.isSuffixOf [10] s = (s.getLast? == some 10) := fun s => by
  rcases List.eq_nil_or_concat s with rfl | ⟨l, x, rfl⟩
  · rfl
  · rw [List.concat_eq_append]
    unfold List.isSuffixOf
    rw [List.reverse_append]
    simp [List.isPrefixOf]
    rcases Decidable.em (x = 10) with h | h
    · subst h; simp
    · rw [beq_false_of_ne h, beq_false_of_ne (Ne.symm h)]
theorem lines_lns (s : Bytes) : linesB s = lns s := by
  unfold linesB lns
  split
  · rfl
  · congr 1
    unfold Lib.trimSuffix trim10 Lib.hasSuffix
    rw [suffix10]
    by_cases h : s.getLast? = some 10
    · rw [if_pos (by rw [h]; rfl), if_pos h, List.dropLast_eq_take]; rfl
    · rw [if_neg (by simpa using h), if_neg h]
theorem row_at {w : World} {ao : Option Addr} {n cap : Nat} {xs : List Value} (h : Row w (.slice ao n cap) xs) {k : Nat} {x : Value} (hx : xs[k]? = some x) : ∃ g o, ao = some ⟨g, o, none⟩ ∧ g < w.heap.size ∧ w.cell? ⟨g, o + k, none⟩ = some x := by
  obtain ⟨ao', cap', hv, hc⟩ := h
  injection hv with h1 h2 h3
  subst h1
  obtain ⟨g, o, hg, h4⟩ := hc k x hx
  exact ⟨g, o, hg, cell_lt h4, h4⟩
theorem row_block {w : World} {g cap : Nat} {t : TypeId} {f : Nat × Nat} {xs : List Value} (h : w.heap[g]? = some (.cells xs.toArray t f)) : Row w (.slice (some ⟨g, 0, none⟩) xs.length cap) xs :=
  ⟨_, _, rfl, fun j x hx => ⟨g, 0, rfl, by simp [World.cell?, h, hx]⟩⟩
theorem row_owns {w : World} {base : Nat} {e : TypeId} {v : Value} {n : Nat} {xs : List Value} (h : w.ownsRow base e 1 v n xs) : Row w v xs := by
  obtain ⟨hl, ⟨rfl, rfl⟩ | ⟨g, cap, cur, rfl, _, hg, h1, _, h3, h4⟩⟩ := h
  · have : xs = [] := List.eq_nil_of_length_eq_zero (by omega)
    subst this
    exact ⟨none, 0, rfl, fun j x hx => by simp at hx⟩
  · refine ⟨_, cap, by rw [hl, Nat.mul_one], fun j x hx => ⟨g, 0, rfl, ?_⟩⟩
    rw [← h4, List.getElem?_take] at hx
    split at hx
    · simp only [World.cell?, hg, Nat.zero_add]; simpa using hx
    · cases hx
theorem strs_len (l : List Bytes) : (strs l).length = l.length := by simp [strs]
theorem strs_ba (l : List ByteArray) : strs (l.map fun x => x.data.toList) = l.map fun x => Value.string x := by
  unfold strs; rw [List.map_map]; exact List.map_congr_left fun x _ => congrArg Value.string (ba_mk x)
theorem Lines_row (s : ByteArray) (hs : s.size ≤ 100000000) (w : World) (hT : Tab w) : Calls Tryd.prog 10 #[.string s] w fun e w' => ∃ v, e = .returned v ∧ Row w' v (strs (lns s.data.toList)) ∧ Below w.heap.size w w' := by
  by_cases h : s.size = 0
  · refine (Lines_none s h w).mono ?_
    rintro e w' ⟨rfl, hb⟩
    refine ⟨_, rfl, ?_, hb⟩
    have : s.data.toList = [] := List.eq_nil_of_length_eq_zero (by rw [szl]; exact h)
    rw [this]
    exact ⟨none, 0, rfl, fun j x hx => by simp [lns, strs] at hx⟩
  · refine (Lines_some s hs h w hT).mono ?_
    rintro e w' ⟨g, rfl, hk⟩
    refine ⟨_, rfl, ?_, hk.below0⟩
    rw [lines_lns] at hk ⊢
    rw [← strs_len]
    exact row_block (hk.has _ List.mem_cons_self)
set_option maxRecDepth 20000 in
set_option maxHeartbeats 4000000 in
theorem same_is (xs : List Value) (hst : ∀ x ∈ xs, ∃ s : ByteArray, x = .string s) (a b : Value) (w : World) (ha : Row w a xs) (hb : Row w b xs) (hl : xs.length ≤ maxLen) :
    Calls Tryd.prog 9 #[a, b] w fun e w' => e = .returned (.bool true) ∧ Below w.heap.size w w' := by
  obtain ⟨ao, ac, rfl, _⟩ := id ha
  obtain ⟨bo, bc, rfl, _⟩ := id hb
  unfold maxLen at hl
  have hst := Lib.hid hst
  have hL : Kn [] w w [] := Kn.refl [] w; (try simp only [List.setIfInBounds_toArray, List.set_cons_zero, List.set_cons_succ, List.cons_append, List.nil_append] at hL); have hF := hL.facts; (try simp only [Facts, Dist, List.map_cons, List.map_nil, List.forall_mem_cons, false_implies, ne_eq, not_false_eq_true, List.not_mem_nil, not_false_eq_true, true_implies, forall_const, List.mem_cons, or_false, implies_true, and_true, true_and, Nat.le_refl, List.setIfInBounds_toArray, List.set_cons_zero, List.set_cons_succ] at hF); go_enter Tryd.func9, Tryd.ntmps9
  go_wp2
  go_loopw [5] (fun i wr => ∃ k : Nat, k ≤ xs.length ∧ i = .int .i64 k ∧ Kn [] w wr []) (fun i _ => xs.length - (intOf i).toNat)
  case atStart => exact ⟨0, by omega, rfl, hL⟩
  case round =>
    obtain ⟨k, hk, rfl, hK⟩ := hrel
    clear hL hF
    have hL := hK
    clear hK
    (try simp only [List.setIfInBounds_toArray, List.set_cons_zero, List.set_cons_succ, List.cons_append, List.nil_append] at hL); have hF := hL.facts; (try simp only [Facts, Dist, List.map_cons, List.map_nil, List.forall_mem_cons, false_implies, ne_eq, not_false_eq_true, List.not_mem_nil, not_false_eq_true, true_implies, forall_const, List.mem_cons, or_false, implies_true, and_true, true_and, Nat.le_refl, List.setIfInBounds_toArray, List.set_cons_zero, List.set_cons_succ] at hF)
    by_cases hlt : k < xs.length
    · obtain ⟨x, hx⟩ : ∃ x, xs[k]? = some x := ⟨_, List.getElem?_eq_getElem hlt⟩
      obtain ⟨s, rfl⟩ := hst.out x (List.mem_of_getElem? hx)
      obtain ⟨g, o, rfl, hg, d0⟩ := row_at ha hx
      obtain ⟨g2, o2, rfl, hg2, d1⟩ := row_at hb hx
      go_wp2_with (first | ((with_reducible refine kn_list_set ?_); (try clear hF); clear hL; intro W hL; (try simp only [List.setIfInBounds_toArray, List.set_cons_zero, List.set_cons_succ, List.cons_append, List.nil_append] at hL); have hF := hL.facts; (try simp only [Facts, Dist, List.map_cons, List.map_nil, List.forall_mem_cons, false_implies, ne_eq, not_false_eq_true, List.not_mem_nil, not_false_eq_true, true_implies, forall_const, List.mem_cons, or_false, implies_true, and_true, true_and, Nat.le_refl, List.setIfInBounds_toArray, List.set_cons_zero, List.set_cons_succ] at hF)) | ((with_reducible refine at_region 6 ?_); refine kn_wp ?_; (try clear hF); clear hL; intro W hL; (try simp only [List.setIfInBounds_toArray, List.set_cons_zero, List.set_cons_succ, List.cons_append, List.nil_append] at hL); have hF := hL.facts; (try simp only [Facts, Dist, List.map_cons, List.map_nil, List.forall_mem_cons, false_implies, ne_eq, not_false_eq_true, List.not_mem_nil, not_false_eq_true, true_implies, forall_const, List.mem_cons, or_false, implies_true, and_true, true_and, Nat.le_refl, List.setIfInBounds_toArray, List.set_cons_zero, List.set_cons_succ] at hF); refine kn_region [0, 1, 2, 3, 4, 5, 6, 7, 8] [0, 1, 2, 3, 4, 5, 6, 7, 8] [] [0, 1, 2, 4, 5, 6, 8] (by kernel_rfl) (by kernel_rfl) (List.Sublist.refl _) ?_; (try clear hF); clear hL; intro ι F hne hC hFF; have hG := fun n => (hFF n).facts; clear hFF; (try simp only [Facts, Dist, List.map_cons, List.map_nil, List.forall_mem_cons, false_implies, ne_eq, not_false_eq_true, List.not_mem_nil, not_false_eq_true, true_implies, forall_const, List.mem_cons, or_false, implies_true, and_true, true_and, Nat.le_refl, List.setIfInBounds_toArray, List.set_cons_zero, List.set_cons_succ] at hG); (repeat (first | (refine cwk_skip rfl (by rfl) ?_; (try simp only [Act.put, List.setIfInBounds_toArray, List.set_cons_zero, List.set_cons_succ])) | (refine cwk_float rfl rfl (by rfl) (by rfl) (by rfl) hC ?_; intro K hK; go_big_quiet_op; go_big_quiet_on) | (refine cwk_pure rfl rfl (by rfl) (by rfl) ?_; intro K hK; go_big_quiet_op; go_big_quiet_on) | (refine cwk_anch rfl rfl (by rfl) (by rfl) ?_; intro W hL; (try simp only [List.setIfInBounds_toArray, List.set_cons_zero, List.set_cons_succ, List.cons_append, List.nil_append] at hL); have hF := hL.facts; (try simp only [Facts, Dist, List.map_cons, List.map_nil, List.forall_mem_cons, false_implies, ne_eq, not_false_eq_true, List.not_mem_nil, not_false_eq_true, true_implies, forall_const, List.mem_cons, or_false, implies_true, and_true, true_and, Nat.le_refl, List.setIfInBounds_toArray, List.set_cons_zero, List.set_cons_succ] at hF); go_wp2; refine anchQ_normal ?_; (first | (refine owedB _ (by rfl) ?_; clear hL; (try clear hF); clear hC hG; intro ι F hne hC hFF; have hG := fun n => (hFF n).facts; clear hFF; (try simp only [Facts, Dist, List.map_cons, List.map_nil, List.forall_mem_cons, false_implies, ne_eq, not_false_eq_true, List.not_mem_nil, not_false_eq_true, true_implies, forall_const, List.mem_cons, or_false, implies_true, and_true, true_and, Nat.le_refl, List.setIfInBounds_toArray, List.set_cons_zero, List.set_cons_succ] at hG)) | (refine owed0 _ (by repeat' (first | (with_reducible exact List.Sublist.refl _) | (with_reducible apply List.Sublist.cons_cons) | (with_reducible apply List.Sublist.cons))) ?_; clear hL; (try clear hF)))))); refine cwk_nil ?_; clear hC hG; intro W hL; (try simp only [List.setIfInBounds_toArray, List.set_cons_zero, List.set_cons_succ, List.cons_append, List.nil_append] at hL); have hF := hL.facts; (try simp only [Facts, Dist, List.map_cons, List.map_nil, List.forall_mem_cons, false_implies, ne_eq, not_false_eq_true, List.not_mem_nil, not_false_eq_true, true_implies, forall_const, List.mem_cons, or_false, implies_true, and_true, true_and, Nat.le_refl, List.setIfInBounds_toArray, List.set_cons_zero, List.set_cons_succ] at hF)))
      go_roundw
      case rel => exact ⟨k + 1, by omega, by go_num, hL⟩
      case measure => simp [intOf]; omega
    · obtain rfl : k = xs.length := by omega
      go_wp2
      (try simp only [Exit.inBlock, Exit.then]); refine bodyPost_ret (by simp [results, Tryd.results9, go_sem, *]; try rfl) rfl ?_
      exact ⟨rfl, hL.below0⟩

end Go.Proofs.YtjkohbecmaegmaaDoor

