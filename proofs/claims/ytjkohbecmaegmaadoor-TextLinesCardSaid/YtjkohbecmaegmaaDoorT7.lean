import Derived.Test.YtjkohbecmaegmaaDoorProg
import Derived.WalkKit
import Derived.Handy
import Derived.Deep.Light
import Derived.WalkSmall
import Derived.StillTailTactics
import Derived.Lib.Hide
import Derived.Test.YtjkohbecmaegmaaDoorT0
import Derived.Test.YtjkohbecmaegmaaDoorIt
import Derived.Test.YtjkohbecmaegmaaDoorT6
namespace Go.Proofs.YtjkohbecmaegmaaDoor
open Go Go.RowKit
set_option linter.unusedSimpArgs false
set_option linter.unusedVariables false

theorem ba_mk (s : ByteArray) : (⟨s.data.toList.toArray⟩ : ByteArray) = s := by cases s; simp
theorem white_nat (c : UInt8) : whiteR c.toNat = whiteB c := by
  have e : ∀ k : UInt8, (c.toNat == k.toNat) = (c == k) := fun k => by
    by_cases h : c = k
    · subst h; simp
    · rw [beq_false_of_ne h, beq_false_of_ne (fun e => h (UInt8.toNat_inj.1 e))]
  have e1 := e 32; have e2 := e 9; have e3 := e 10
  unfold whiteR whiteB
  rw [← e1, ← e2, ← e3]; rfl
theorem white_high {c : UInt8} (h : 128 ≤ c.toNat) : whiteB c = false := by
  rw [← white_nat]; unfold whiteR
  rw [beq_false_of_ne (by omega), beq_false_of_ne (by omega), beq_false_of_ne (by omega)]; rfl
theorem spans_is (s : ByteArray) : ∀ (f pos : Nat) (st : Option Nat) (acc : List (Nat × Nat)), s.size - pos ≤ f → pos ≤ s.size → (∀ a, st = some a → a < pos) →
    (Lib.closeSpans s (Lib.spansFromP whiteR s f pos st acc)).map (fun x => (s.extract x.1 x.2).data.toList) = acc.map (fun x => (s.extract x.1 x.2).data.toList) ++ fieldsGo ((s.data.toList.take pos).drop (st.getD pos)) (s.data.toList.drop pos) := by
  have hsl := szl s
  have hd0 : s.data.toList.drop s.size = [] := List.drop_eq_nil_of_le (by omega)
  have hd1 : (s.data.toList.take s.size).drop s.size = [] := List.drop_eq_nil_of_le (by rw [List.length_take]; omega)
  intro f
  induction f with
  | zero =>
    intro pos st acc hf hp hst
    obtain rfl : pos = s.size := by omega
    rw [Lib.spansFromP_end _ _ _ _ _ _ (by omega), hd0]
    cases st with
    | none => simp only [Lib.closeSpans, Option.getD_none, hd1, fieldsGo, if_true, List.append_nil]
    | some a =>
      have ha := hst a rfl
      have hne : (s.data.toList.take s.size).drop a ≠ [] := fun e => by
        have := congrArg List.length e
        rw [List.length_drop, List.length_take] at this
        simp only [List.length_nil] at this; omega
      simp only [Lib.closeSpans, fieldsGo, Option.getD_some]
      rw [if_neg hne, List.map_append, List.map_cons, List.map_nil, ext_list]
  | succ f ih =>
    intro pos st acc hf hp hst
    by_cases hlt : pos < s.size
    · obtain ⟨c, hc⟩ : ∃ c, s.data.toList[pos]? = some c := ⟨_, List.getElem?_eq_getElem (by omega)⟩
      have hg := get_at hc
      have hdrop : s.data.toList.drop pos = c :: s.data.toList.drop (pos + 1) := by
        obtain ⟨h1, h2⟩ := List.getElem?_eq_some_iff.1 hc
        rw [List.drop_eq_getElem_cons h1, h2]
      have hnil : (s.data.toList.take (pos + 1)).drop (pos + 1) = [] := List.drop_eq_nil_of_le (by rw [List.length_take]; omega)
      by_cases hw : whiteB c = true
      · have hlow : (s.get! pos).toNat < 128 := by
          rw [hg]
          rcases Nat.lt_or_ge c.toNat 128 with h | h
          · exact h
          · rw [white_high h] at hw; cases hw
        rw [Lib.spansFromP.eq_def]
        simp only []
        rw [if_pos hlt, decode_low s pos hlow, hg]
        simp only [white_nat, hw, if_true]
        rw [hdrop, fieldsGo, if_pos hw]
        cases st with
        | none =>
          simp only
          rw [ih (pos + 1) none acc (by omega) (by omega) (by simp)]
          simp only [Option.getD_none]
          rw [hnil, List.drop_eq_nil_of_le (show (s.data.toList.take pos).length ≤ pos by rw [List.length_take]; omega), if_pos rfl]
        | some a =>
          have ha := hst a rfl
          have hne : (s.data.toList.take pos).drop a ≠ [] := fun e => by
            have := congrArg List.length e
            rw [List.length_drop, List.length_take] at this
            simp only [List.length_nil] at this; omega
          simp only
          rw [ih (pos + 1) none _ (by omega) (by omega) (by simp)]
          simp only [Option.getD_none, Option.getD_some]
          rw [hnil, if_neg hne, List.map_append, List.map_cons, List.map_nil, ext_list, List.append_assoc]
          rfl
      · have hw : whiteB c = false := by simpa using hw
        obtain ⟨r, n, hd, hr, hn, hn2, hall⟩ : ∃ r n, Utf8.decode s pos = (r, n) ∧ whiteR r = false ∧ 1 ≤ n ∧ pos + n ≤ s.size ∧ ∀ x ∈ (s.data.toList.drop pos).take n, whiteB x = false := by
          rcases Nat.lt_or_ge (s.get! pos).toNat 128 with h | h
          · refine ⟨_, 1, decode_low s pos h, by rw [hg, white_nat]; exact hw, Nat.le_refl _, by omega, fun x hx => ?_⟩
            rw [hdrop] at hx
            simp at hx; subst hx; exact hw
          · obtain ⟨h1, h2, h3, h4⟩ := decode_high s pos hlt h
            obtain ⟨r, n, hrn⟩ : ∃ r n, Utf8.decode s pos = (r, n) := ⟨_, _, rfl⟩
            rw [hrn] at h1 h2 h3 h4
            simp only at h1 h2 h3 h4
            refine ⟨r, n, hrn, ?_, h2, h3, fun x hx => ?_⟩
            · unfold whiteR
              rw [beq_false_of_ne (by omega), beq_false_of_ne (by omega), beq_false_of_ne (by omega)]; rfl
            · obtain ⟨k, hk⟩ := List.mem_iff_getElem?.1 hx
              rw [List.getElem?_take] at hk
              split at hk
              · rename_i hkn
                rw [List.getElem?_drop] at hk
                have h5 := h4 k hkn
                rw [get_at hk] at h5
                exact white_high h5
              · cases hk
        have hsplit : s.data.toList.drop pos = (s.data.toList.drop pos).take n ++ s.data.toList.drop (pos + n) := by
          rw [← List.drop_drop, List.take_append_drop]
        have hnow : ∀ a, a ≤ pos → (s.data.toList.take pos).drop a ++ (s.data.toList.drop pos).take n = (s.data.toList.take (pos + n)).drop a := fun a ha => by
          rw [List.take_add, List.drop_append, List.length_take]
          rw [show a - min pos s.data.toList.length = 0 by omega, List.drop_zero]
        rw [Lib.spansFromP.eq_def]
        simp only []
        rw [if_pos hlt, hd, hsplit, fields_skip _ _ _ hall]
        simp only [hr, Bool.false_eq_true, if_false]
        cases st with
        | none =>
          simp only
          rw [ih (pos + n) (some pos) acc (by omega) (by omega) (by intro a ha; simp at ha; omega)]
          simp only [Option.getD_none, Option.getD_some]
          rw [hnow pos (Nat.le_refl _)]
        | some a =>
          have ha := hst a rfl
          simp only
          rw [ih (pos + n) (some a) acc (by omega) (by omega) (by intro b hb; simp at hb; omega)]
          simp only [Option.getD_some]
          rw [hnow a (by omega)]
    · obtain rfl : pos = s.size := by omega
      rw [Lib.spansFromP_end _ _ _ _ _ _ (by omega), hd0]
      cases st with
      | none => simp only [Lib.closeSpans, Option.getD_none, hd1, fieldsGo, if_true, List.append_nil]
      | some a =>
        have ha := hst a rfl
        have hne : (s.data.toList.take s.size).drop a ≠ [] := fun e => by
          have := congrArg List.length e
          rw [List.length_drop, List.length_take] at this
          simp only [List.length_nil] at this; omega
        simp only [Lib.closeSpans, fieldsGo, Option.getD_some]
        rw [if_neg hne, List.map_append, List.map_cons, List.map_nil, ext_list]
theorem fields_bytes (s : ByteArray) : (Lib.goFieldsP whiteR s).map Value.string = strs (fieldsB s.data.toList) := by
  have h := spans_is s s.size 0 none [] (by omega) (by omega) (by simp)
  simp only [List.map_nil, List.nil_append, List.take_zero, List.drop_nil, List.drop_zero] at h
  unfold Lib.goFieldsP Lib.spansOfP fieldsB strs
  rw [← h, List.map_map, List.map_map]
  exact List.map_congr_left fun x _ => congrArg Value.string (ba_mk _).symm
theorem Fields_any (s : ByteArray) (hs : s.size ≤ 100000000) (w : World) : Calls Tryd.prog 12 #[.string s] w fun e w' =>
    ∃ g, e = .returned (.slice (some ⟨g, 0, none⟩) (fieldsB s.data.toList).length (fieldsB s.data.toList).length) ∧ w'.ownsRow w.heap.size 9 1 (.slice (some ⟨g, 0, none⟩) (fieldsB s.data.toList).length (fieldsB s.data.toList).length) (fieldsB s.data.toList).length (strs (fieldsB s.data.toList)) ∧ Below w.heap.size w w' := by
  have hcount : (Lib.goFieldsP whiteR s).length = (fieldsB s.data.toList).length := by
    have := congrArg List.length (fields_bytes s)
    simpa [strs] using this
  have hf : Calls Tryd.prog 37 #[.string s, .func (.func 38) #[] #[]] w fun e w' => ∃ g, e = .returned (.slice (some ⟨g, 0, none⟩) (fieldsB s.data.toList).length (fieldsB s.data.toList).length) ∧ w'.ownsRow w.heap.size 9 1 (.slice (some ⟨g, 0, none⟩) (fieldsB s.data.toList).length (fieldsB s.data.toList).length) (fieldsB s.data.toList).length (strs (fieldsB s.data.toList)) ∧ Below w.heap.size w w' := by
    refine (Tryd.strings_FieldsFunc_grows 38 #[] (enters_of Tryd.func38 (by kernel_rfl) rfl) whiteR s w (by omega) (fun W x _ _ => white_any x W)).mono ?_
    rintro e w' ⟨A, h1, h2, h3, h4⟩
    rw [fields_bytes, hcount] at h3
    rw [hcount] at h1
    exact ⟨A, h1, h3, h4⟩
  go_enter Tryd.func12, Tryd.ntmps12
  go_wp2_with (go_at_call 37; refine hf.mono ?_)
  rintro e w' ⟨g, rfl, h3, h4⟩
  go_wp2
  (try simp only [Exit.inBlock, Exit.then]); refine bodyPost_ret (by simp [results, Tryd.results12, go_sem, *]; try rfl) rfl ?_
  exact ⟨_, rfl, h3, h4⟩

end Go.Proofs.YtjkohbecmaegmaaDoor
