import Derived.Test.YtjkohbecmaegmaaDoorProg
import Derived.WalkKit
import Derived.Handy
import Derived.Deep.Light
import Derived.WalkSmall
import Derived.StillTailTactics
import Derived.Lib.Hide
import Derived.Test.YtjkohbecmaegmaaDoorT0
import Derived.Test.YtjkohbecmaegmaaDoorIt
import Derived.Test.YtjkohbecmaegmaaDoorRbM
import Derived.Test.YtjkohbecmaegmaaDoorT26X
namespace Go.Proofs.YtjkohbecmaegmaaDoor
open Go Go.RowKit
set_option linter.unusedSimpArgs false
set_option linter.unusedVariables false

/-- v is a row of the strings l in a world that is w0 but for new memory. -/
def SOwn (w0 w : World) (v : Value) (l : List Bytes) : Prop := Kn [] w0 w [] ∧ w.ownsRow w0.heap.size 9 1 v l.length (strs l)
theorem SOwn.kn {w0 w : World} {v : Value} {l : List Bytes} (h : SOwn w0 w v l) : Kn [] w0 w [] := h.1
theorem SOwn.nil (w : World) : SOwn w w (.slice none 0 0) [] := ⟨Kn.refl [] w, ⟨rfl, .inl ⟨rfl, rfl⟩⟩⟩
theorem SOwn.row {w0 w : World} {v : Value} {l : List Bytes} (h : SOwn w0 w v l) : Row w v (strs l) := row_owns h.2
theorem wpList_apps {w0 W : World} {v : Value} {ops : Array Oper} {rest : List Oper} {o : Oper} {a : Act} {Q : Exit → Act → World → Prop} (hgd : o.guard = none) (s x : Operand)
    (ho : o.op = .call { callee := .builtin .append, args := #[s, x], argTypes := #[22, 22] }) (l : List Bytes) (y : ByteArray) (hb : SOwn w0 W v l) (hs : a.eval s = v)
    (hx : a.eval x = .slice (some ⟨W.heap.size, 0, none⟩) 1 1) {cs : Array Value} (hcs : cs = #[.string y]) (hlen : l.length + 1 ≤ 100000000)
    (h : ∀ v' W', SOwn w0 W' v' (l ++ [y.data.toList]) → wpList Tryd.prog ops Q rest (a.put o.dst v') W') : wpList Tryd.prog ops Q (o :: rest) a (W.alloc (.cells cs 9)) := by
  subst hcs
  obtain ⟨i0, hi, hz0, hz1, hz2⟩ := info_parts infoS
  have hal : Below W.heap.size W (W.alloc (.cells #[.string y] 9)) := (Below.refl _ _).alloc (Nat.le_refl _) _
  refine wpList_append_kn hgd s x _ ho 9 i0 _ Tryd.underlying22 hi hz0 (by rw [hz1]; rfl) (by rw [hz1]; decide) v l.length (strs l) hs (hb.1.below hal) (by rw [hz1]; exact owns_below hb.2 hal) (fun g _ hm => by simp at hm) ⟨W.heap.size, 0, none⟩ 1 1 [.string y] hx (by rw [hz1]; rfl) ?_ ?_ ?_ ?_ ?_
  · intro j u hu
    rw [Go.WideShapes.add_plain, Nat.zero_add]
    have : (W.alloc (.cells #[.string y] 9)).cell? ⟨W.heap.size, j, none⟩ = #[Value.string y][j]? := World.cell?_alloc_mark W _ _ (0, 0) j
    rw [this]; simpa using hu
  · intro u hu
    simp at hu; subst hu; rfl
  · unfold maxLen; omega
  · rw [hz2]; omega
  · intro v' W' h1 h2 h3
    rw [hz1] at h2
    refine h v' W' ⟨h1, ?_⟩
    unfold strs at h2 ⊢
    rw [List.length_append, List.map_append]
    have e : (⟨y.data.toList.toArray⟩ : ByteArray) = y := ba_mk y
    simp only [List.map_cons, List.map_nil, e]; exact h2
def lnsGo : Bytes → Bytes → List Bytes
  | cur, [] => if cur = [] then [] else [cur]
  | cur, c :: t => if c = 10 then cur :: lnsGo [] t else lnsGo (cur ++ [c]) t
theorem trim_no {x : Bytes} (h : 10 ∉ x) : trim10 x = x := by
  rcases trim_or x with ⟨h1, h2⟩ | ⟨h1, _⟩
  · exfalso; apply h; rw [h1]; simp
  · exact h1
theorem trim_mid (x : Bytes) {t : Bytes} (h : t ≠ []) : trim10 (x ++ 10 :: t) = x ++ 10 :: trim10 t := by
  unfold trim10
  have e : (x ++ 10 :: t).getLast? = t.getLast? := by
    rw [List.getLast?_append, List.getLast?_cons]
    cases t with
    | nil => exact absurd rfl h
    | cons a t => rw [List.getLast?_eq_some_getLast h]; rfl
  rw [e]
  split
  · rw [List.dropLast_append_of_ne_nil (by simp), List.dropLast_cons_of_ne_nil h]
  · rfl
theorem lnsGo_is : ∀ (s cur : Bytes), 10 ∉ cur → lnsGo cur s = if cur ++ s = [] then [] else split10 (trim10 (cur ++ s))
  | [], cur, h => by
    rw [lnsGo, List.append_nil, trim_no h, split_last cur h]
  | c :: t, cur, h => by
    rw [lnsGo, if_neg (show ¬ (cur ++ c :: t = []) by simp)]
    by_cases hc : c = 10
    · subst hc
      rw [if_pos rfl, lnsGo_is t [] (by simp), List.nil_append]
      split
      · rename_i ht; subst ht
        rw [trim_snoc, split_last cur h]
      · rename_i ht
        rw [trim_mid cur ht, split_line _ _ h]
    · rw [if_neg hc, lnsGo_is t (cur ++ [c]) (by intro hm; rcases List.mem_append.1 hm with hm | hm; exact h hm; simp at hm; exact hc hm.symm)]
      rw [if_neg (by simp)]
      simp
theorem lnsGo_lns (s : Bytes) : lnsGo [] s = lns s := by rw [lnsGo_is s [] (by simp)]; rfl
set_option maxRecDepth 20000 in
set_option maxHeartbeats 4000000 in
theorem refLines_any (s : ByteArray) (hs : s.size ≤ 1000000) (w : World) : Calls Tryd.prog 25 #[.string s] w fun e w' => ∃ v, e = .returned v ∧ Row w' v (strs (lns s.data.toList)) ∧ Below w.heap.size w w' := by
  have hB := SOwn.nil w
  obtain ⟨L, hL0⟩ : ∃ L, lns s.data.toList = L := ⟨_, rfl⟩
  rw [hL0]
  have HL := Lib.hid hL0
  clear hL0
  have hsl := szl s
  go_enter Tryd.func25, Tryd.ntmps25
  go_wp2
  go_loopw [3, 4, 5] (fun o f i wr => ∃ (k fr : Nat) (done : List Bytes) (v : Value), fr ≤ k ∧ k ≤ s.size ∧ done.length ≤ k ∧ i = .int .i64 k ∧ f = .int .i64 fr ∧ o = v ∧ SOwn w wr v done ∧ Hid (done ++ lnsGo ((s.data.toList.take k).drop fr) (s.data.toList.drop k) = L)) (fun _ _ i _ => s.size - (intOf i).toNat)
  case atStart => exact ⟨0, 0, [], _, by omega, by omega, by simp, rfl, rfl, rfl, hB, Lib.hid (by rw [← HL.out]; exact lnsGo_lns _)⟩
  case round =>
    obtain ⟨k, fr, done, v, hfk, hk, hdl, rfl, rfl, rfl, hB1, hin⟩ := hrel
    clear hB
    have hB := hB1
    clear hB1
    by_cases hlt : k < s.size
    · obtain ⟨c, hck⟩ : ∃ c, s.data.toList[k]? = some c := ⟨_, List.getElem?_eq_getElem (by rw [szl]; omega)⟩
      have eb := byte_at hck hlt
      have hi0 := hin.out
      have hd0 : s.data.toList.drop k = c :: s.data.toList.drop (k + 1) := by
        obtain ⟨h1, h2⟩ := List.getElem?_eq_some_iff.1 hck
        rw [List.drop_eq_getElem_cons h1, h2]
      rw [hd0, lnsGo] at hi0
      by_cases hc : c = 10
      · subst hc
        rw [if_pos rfl] at hi0
        obtain ⟨u, hu⟩ : ∃ u, s.extract fr k = u := ⟨_, rfl⟩
        have hul : u.data.toList = (s.data.toList.take k).drop fr := by rw [← hu, ext_list]
        have hv2 : Hid ((done ++ [u.data.toList]) ++ lnsGo ((s.data.toList.take (k + 1)).drop (k + 1)) (s.data.toList.drop (k + 1)) = L) := Lib.hid (by
          rw [← hi0, hul, List.drop_eq_nil_of_le (show (s.data.toList.take (k + 1)).length ≤ k + 1 by rw [List.length_take]; omega)]; simp)
        clear hi0 hd0 hck hul hin
        go_wp2_with (first | ((with_reducible refine kn_list_set ?_); (try clear hF); clear hL; intro W hL; (try simp only [List.setIfInBounds_toArray, List.set_cons_zero, List.set_cons_succ, List.cons_append, List.nil_append] at hL); have hF := hL.facts; (try simp only [Facts, Dist, List.map_cons, List.map_nil, List.forall_mem_cons, false_implies, ne_eq, not_false_eq_true, List.not_mem_nil, not_false_eq_true, true_implies, forall_const, List.mem_cons, or_false, implies_true, and_true, true_and, Nat.le_refl, List.setIfInBounds_toArray, List.set_cons_zero, List.set_cons_succ] at hF)) | (at_builtin; (first | (refine wpList_apps rfl _ _ rfl _ (u) hB rfl rfl rfl (by (try simp only [List.length_append, List.length_cons, List.length_nil]); omega) ?_)); intro v2 W2 hB2; clear hB; have hB := hB2; clear hB2))
        go_roundw
        case rel => exact ⟨k + 1, k + 1, done ++ [u.data.toList], _, by omega, by omega, by simp; omega, by go_num, by go_num, rfl, hB, hv2⟩
        case measure => simp [intOf]; omega
      · rw [if_neg hc] at hi0
        have f10 : ((c.toNat : Int) == 10) = false := beq_false_of_ne fun h => hc (UInt8.toNat_inj.1 (show c.toNat = 10 by omega))
        have hv2 : Hid (done ++ lnsGo ((s.data.toList.take (k + 1)).drop fr) (s.data.toList.drop (k + 1)) = L) := Lib.hid (by
          rw [← hi0, List.take_add_one, hck, List.drop_append_of_le_length (by rw [List.length_take]; omega)]; rfl)
        clear hi0 hd0 hck hc hin
        go_wp2
        go_roundw
        case rel => exact ⟨k + 1, fr, done, _, by omega, by omega, by omega, by go_num, rfl, rfl, hB, hv2⟩
        case measure => simp [intOf]; omega
    · obtain rfl : k = s.size := by omega
      have hi0 := hin.out
      rw [List.drop_eq_nil_of_le (show s.data.toList.length ≤ s.size by omega), lnsGo, List.take_of_length_le (by omega)] at hi0
      by_cases hfl : fr < s.size
      · obtain ⟨u, hu⟩ : ∃ u, s.extract fr s.size = u := ⟨_, rfl⟩
        have hul : u.data.toList = s.data.toList.drop fr := by rw [← hu, ext_list, List.take_of_length_le (by omega)]
        have hfin : Hid (done ++ [u.data.toList] = L) := Lib.hid (by
          rw [← hi0, if_neg (fun e => by have := congrArg List.length e; rw [List.length_drop] at this; simp only [List.length_nil] at this; omega), hul])
        clear hi0 hul hin
        go_wp2_with (first | ((with_reducible refine kn_list_set ?_); (try clear hF); clear hL; intro W hL; (try simp only [List.setIfInBounds_toArray, List.set_cons_zero, List.set_cons_succ, List.cons_append, List.nil_append] at hL); have hF := hL.facts; (try simp only [Facts, Dist, List.map_cons, List.map_nil, List.forall_mem_cons, false_implies, ne_eq, not_false_eq_true, List.not_mem_nil, not_false_eq_true, true_implies, forall_const, List.mem_cons, or_false, implies_true, and_true, true_and, Nat.le_refl, List.setIfInBounds_toArray, List.set_cons_zero, List.set_cons_succ] at hF)) | (at_builtin; (first | (refine wpList_apps rfl _ _ rfl _ (u) hB rfl rfl rfl (by (try simp only [List.length_append, List.length_cons, List.length_nil]); omega) ?_)); intro v2 W2 hB2; clear hB; have hB := hB2; clear hB2))
        (try simp only [Exit.inBlock, Exit.then]); refine bodyPost_ret (by simp [results, Tryd.results25, go_sem, *]; try rfl) rfl ?_
        exact ⟨_, rfl, by rw [← hfin.out]; exact hB.row, hB.kn.below0⟩
      · have hfin : Hid (done = L) := Lib.hid (by
          rw [← hi0, if_pos (List.drop_eq_nil_of_le (by omega))]; simp)
        clear hi0 hin
        go_wp2
        (try simp only [Exit.inBlock, Exit.then]); refine bodyPost_ret (by simp [results, Tryd.results25, go_sem, *]; try rfl) rfl ?_
        exact ⟨_, rfl, by rw [← hfin.out]; exact hB.row, hB.kn.below0⟩

end Go.Proofs.YtjkohbecmaegmaaDoor

namespace Go.Proofs.YtjkohbecmaegmaaDoor
open Go Go.RowKit
set_option linter.unusedSimpArgs false
set_option linter.unusedVariables false
set_option maxRecDepth 20000 in
set_option maxHeartbeats 4000000 in
theorem refFields_any (s : ByteArray) (hs : s.size ≤ 1000000) (w : World) : Calls Tryd.prog 27 #[.string s] w fun e w' => ∃ v, e = .returned v ∧ Row w' v (strs (fieldsB s.data.toList)) ∧ Below w.heap.size w w' := by
  have hB := SOwn.nil w
  obtain ⟨L, hL0⟩ : ∃ L, fieldsB s.data.toList = L := ⟨_, rfl⟩
  rw [hL0]
  have HL := Lib.hid hL0
  clear hL0
  have hsl := szl s
  go_enter Tryd.func27, Tryd.ntmps27
  go_wp2
  go_loopw [3, 4, 5] (fun o f i wr => ∃ (k : Nat) (nw : ByteArray) (done : List Bytes) (v : Value), k ≤ s.size ∧ done.length ≤ k ∧ nw.size ≤ k ∧ i = .int .i64 k ∧ f = .string nw ∧ o = v ∧ SOwn w wr v done ∧ Hid (done ++ fieldsGo nw.data.toList (s.data.toList.drop k) = L)) (fun _ _ i _ => s.size - (intOf i).toNat)
  case atStart => exact ⟨0, ⟨#[]⟩, [], _, by omega, by simp, by decide, rfl, rfl, rfl, hB, Lib.hid (by rw [← HL.out]; rfl)⟩
  case round =>
    obtain ⟨k, nw, done, v, hk, hdl, hnl, rfl, rfl, rfl, hB1, hin⟩ := hrel
    clear hB
    have hB := hB1
    clear hB1
    have hnn : nw.data.toList ≠ [] → (nw.toList == (⟨#[]⟩ : ByteArray).toList) = false ∧ nw.toList.isEmpty = false := fun h => by
      refine ⟨str_ne h, ?_⟩
      rw [ByteArray.toList_eq]
      cases hd : nw.data.toList with
      | nil => exact absurd hd h
      | cons => rfl
    by_cases hlt : k < s.size
    · obtain ⟨c, hck⟩ : ∃ c, s.data.toList[k]? = some c := ⟨_, List.getElem?_eq_getElem (by rw [szl]; omega)⟩
      have eb := byte_at hck hlt
      have hi0 := hin.out
      have hd0 : s.data.toList.drop k = c :: s.data.toList.drop (k + 1) := by
        obtain ⟨h1, h2⟩ := List.getElem?_eq_some_iff.1 hck
        rw [List.drop_eq_getElem_cons h1, h2]
      rw [hd0, fieldsGo] at hi0
      by_cases hw : whiteB c = true
      · rw [if_pos hw] at hi0
        have hor : c = 32 ∨ c = 9 ∨ c = 10 := by
          unfold whiteB at hw
          simp at hw
          rcases hw with (h | h) | h <;> simp [h]
        by_cases hne : nw.data.toList = []
        · obtain rfl : nw = ⟨#[]⟩ := ba_ext hne
          rw [if_pos hne] at hi0
          have hv2 : Hid (done ++ fieldsGo (⟨#[]⟩ : ByteArray).data.toList (s.data.toList.drop (k + 1)) = L) := Lib.hid hi0
          clear hi0 hd0 hck hw hin hnn hne
          rcases hor with rfl | rfl | rfl
          all_goals
            go_wp2
            go_roundw
            case rel => exact ⟨k + 1, ⟨#[]⟩, done, _, by omega, by omega, by show 0 ≤ _; omega, by go_num, rfl, rfl, hB, hv2⟩
            case measure => simp [intOf]; omega
        · obtain ⟨hne1, hne2⟩ := hnn hne
          rw [if_neg hne] at hi0
          have hv2 : Hid ((done ++ [nw.data.toList]) ++ fieldsGo (⟨#[]⟩ : ByteArray).data.toList (s.data.toList.drop (k + 1)) = L) := Lib.hid (by rw [← hi0]; simp)
          clear hi0 hd0 hck hw hin hnn hne
          rcases hor with rfl | rfl | rfl
          all_goals
            go_wp2_with (first | ((with_reducible refine kn_list_set ?_); (try clear hF); clear hL; intro W hL; (try simp only [List.setIfInBounds_toArray, List.set_cons_zero, List.set_cons_succ, List.cons_append, List.nil_append] at hL); have hF := hL.facts; (try simp only [Facts, Dist, List.map_cons, List.map_nil, List.forall_mem_cons, false_implies, ne_eq, not_false_eq_true, List.not_mem_nil, not_false_eq_true, true_implies, forall_const, List.mem_cons, or_false, implies_true, and_true, true_and, Nat.le_refl, List.setIfInBounds_toArray, List.set_cons_zero, List.set_cons_succ] at hF)) | (at_builtin; (first | (refine wpList_apps rfl _ _ rfl _ (nw) hB rfl rfl rfl (by (try simp only [List.length_append, List.length_cons, List.length_nil]); omega) ?_)); intro v2 W2 hB2; clear hB; have hB := hB2; clear hB2))
            go_roundw
            case rel => exact ⟨k + 1, ⟨#[]⟩, done ++ [nw.data.toList], _, by omega, by simp; omega, by show 0 ≤ _; omega, by go_num, rfl, rfl, hB, hv2⟩
            case measure => simp [intOf]; omega
      · rw [if_neg hw] at hi0
        have n32 : c ≠ 32 := by rintro rfl; exact hw (by decide)
        have n9 : c ≠ 9 := by rintro rfl; exact hw (by decide)
        have n10 : c ≠ 10 := by rintro rfl; exact hw (by decide)
        have f32 : ((c.toNat : Int) == 32) = false := beq_false_of_ne fun h => n32 (UInt8.toNat_inj.1 (show c.toNat = 32 by omega))
        have f9 : ((c.toNat : Int) == 9) = false := beq_false_of_ne fun h => n9 (UInt8.toNat_inj.1 (show c.toNat = 9 by omega))
        have f10 : ((c.toNat : Int) == 10) = false := beq_false_of_ne fun h => n10 (UInt8.toNat_inj.1 (show c.toNat = 10 by omega))
        have g32 : ((c.toNat : Int) != 32) = true := by unfold bne; rw [f32]; rfl
        have g9 : ((c.toNat : Int) != 9) = true := by unfold bne; rw [f9]; rfl
        have g10 : ((c.toNat : Int) != 10) = true := by unfold bne; rw [f10]; rfl
        obtain ⟨u, hu⟩ : ∃ u, s.extract k (k + 1) = u := ⟨_, rfl⟩
        have hul : u.data.toList = [c] := by
          rw [← hu, ext_list, List.take_add_one, hck, List.drop_append_of_le_length (by rw [List.length_take]; omega), List.drop_eq_nil_of_le (by rw [List.length_take]; omega)]; rfl
        have huz : u.size = 1 := by rw [← szl, hul]; rfl
        have hv2 : Hid (done ++ fieldsGo (nw ++ u).data.toList (s.data.toList.drop (k + 1)) = L) := Lib.hid (by
          rw [← hi0, show (nw ++ u).data.toList = nw.data.toList ++ u.data.toList by simp, hul])
        have hz2 : (nw ++ u).size ≤ k + 1 := by rw [ByteArray.size_append]; omega
        have hz3 : nw.size + u.size ≤ 2000000 := by omega
        have HUZ := Lib.hid huz
        clear hi0 hd0 hck hw hin hnn n32 n9 n10 hul huz
        go_wp2
        go_roundw
        case rel => exact ⟨k + 1, nw ++ u, done, _, by omega, by omega, hz2, by go_num, rfl, rfl, hB, hv2⟩
        case measure => simp [intOf]; omega
    · obtain rfl : k = s.size := by omega
      have hi0 := hin.out
      rw [List.drop_eq_nil_of_le (show s.data.toList.length ≤ s.size by omega), fieldsGo] at hi0
      by_cases hne : nw.data.toList = []
      · obtain rfl : nw = ⟨#[]⟩ := ba_ext hne
        have hfin : Hid (done = L) := Lib.hid (by rw [← hi0, if_pos hne]; simp)
        clear hi0 hin hnn hne
        go_wp2
        (try simp only [Exit.inBlock, Exit.then]); refine bodyPost_ret (by simp [results, Tryd.results27, go_sem, *]; try rfl) rfl ?_
        exact ⟨_, rfl, by rw [← hfin.out]; exact hB.row, hB.kn.below0⟩
      · obtain ⟨hne1, hne2⟩ := hnn hne
        have hfin : Hid (done ++ [nw.data.toList] = L) := Lib.hid (by rw [← hi0, if_neg hne])
        clear hi0 hin hnn hne
        go_wp2_with (first | ((with_reducible refine kn_list_set ?_); (try clear hF); clear hL; intro W hL; (try simp only [List.setIfInBounds_toArray, List.set_cons_zero, List.set_cons_succ, List.cons_append, List.nil_append] at hL); have hF := hL.facts; (try simp only [Facts, Dist, List.map_cons, List.map_nil, List.forall_mem_cons, false_implies, ne_eq, not_false_eq_true, List.not_mem_nil, not_false_eq_true, true_implies, forall_const, List.mem_cons, or_false, implies_true, and_true, true_and, Nat.le_refl, List.setIfInBounds_toArray, List.set_cons_zero, List.set_cons_succ] at hF)) | (at_builtin; (first | (refine wpList_apps rfl _ _ rfl _ (nw) hB rfl rfl rfl (by (try simp only [List.length_append, List.length_cons, List.length_nil]); omega) ?_)); intro v2 W2 hB2; clear hB; have hB := hB2; clear hB2))
        (try simp only [Exit.inBlock, Exit.then]); refine bodyPost_ret (by simp [results, Tryd.results27, go_sem, *]; try rfl) rfl ?_
        exact ⟨_, rfl, by rw [← hfin.out]; exact hB.row, hB.kn.below0⟩
theorem conv10 (W : World) (b : Nat) (h : W.cell? ⟨b, 0, none⟩ = some (.int .u8 10)) : (convert 42 9 (.slice (some ⟨b, 0, none⟩) 1 1)).run Tryd.prog W = .ok (.string ⟨#[10]⟩) W := by
  have := run_convert_bytes_back (P := Tryd.prog) W 42 9 5 ⟨b, 0, none⟩ 1 [10] Tryd.underlying42 Tryd.underlying5 Tryd.underlying9 (fun j hj => by
    have : j = 0 := by simp at hj; omega
    subst this
    rw [Go.WideShapes.add_plain]; exact h)
  exact this
set_option maxRecDepth 20000 in
set_option maxHeartbeats 4000000 in
theorem refUnlines_any (l : List ByteArray) (v : Value) (w : World) (hv : Row w v (l.map fun s => .string s)) (hl : l.length ≤ 100000) (hb : (unlB l).length ≤ 10000000) : Calls Tryd.prog 26 #[v] w fun e w' => e = .returned (.string ⟨(unlB l).toArray⟩) ∧ Below w.heap.size w w' := by
  obtain ⟨ao, cap, rfl, _⟩ := id hv
  rw [List.length_map] at *
  have hL : Kn [] w w [] := Kn.refl [] w; (try simp only [List.setIfInBounds_toArray, List.set_cons_zero, List.set_cons_succ, List.cons_append, List.nil_append] at hL); have hF := hL.facts; (try simp only [Facts, Dist, List.map_cons, List.map_nil, List.forall_mem_cons, false_implies, ne_eq, not_false_eq_true, List.not_mem_nil, not_false_eq_true, true_implies, forall_const, List.mem_cons, or_false, implies_true, and_true, true_and, Nat.le_refl, List.setIfInBounds_toArray, List.set_cons_zero, List.set_cons_succ] at hF); go_enter Tryd.func26, Tryd.ntmps26
  go_wp2
  go_loopw [3, 4] (fun o i wr => ∃ (k : Nat) (z : ByteArray), k ≤ l.length ∧ i = .int .i64 k ∧ o = .string z ∧ Kn [] w wr [] ∧ Hid (z.data.toList = unlB (l.take k))) (fun _ i _ => l.length - (intOf i).toNat)
  case atStart => exact ⟨0, ⟨#[]⟩, by omega, rfl, rfl, hL, Lib.hid rfl⟩
  case round =>
    obtain ⟨k, z, hk, rfl, rfl, hK, hz⟩ := hrel
    clear hL hF
    have hL := hK
    clear hK
    (try simp only [List.setIfInBounds_toArray, List.set_cons_zero, List.set_cons_succ, List.cons_append, List.nil_append] at hL); have hF := hL.facts; (try simp only [Facts, Dist, List.map_cons, List.map_nil, List.forall_mem_cons, false_implies, ne_eq, not_false_eq_true, List.not_mem_nil, not_false_eq_true, true_implies, forall_const, List.mem_cons, or_false, implies_true, and_true, true_and, Nat.le_refl, List.setIfInBounds_toArray, List.set_cons_zero, List.set_cons_succ] at hF)
    by_cases hlt : k < l.length
    · obtain ⟨x, hx⟩ : ∃ x, l[k]? = some x := ⟨_, List.getElem?_eq_getElem hlt⟩
      have hft := flat_take (fun s : ByteArray => s.data.toList ++ [10]) hx
      have hlen : z.size + (x.size + 1) ≤ 10000000 := by
        have e1 : unlB l = unlB (l.take (k + 1)) ++ unlB (l.drop (k + 1)) := by unfold unlB; rw [← List.flatMap_append, List.take_append_drop]
        have e2 := congrArg List.length e1
        have e3 : unlB (l.take (k + 1)) = unlB (l.take k) ++ (x.data.toList ++ [10]) := hft
        rw [List.length_append, e3, ← hz.out, List.length_append, List.length_append, szl, szl] at e2
        simp only [List.length_singleton] at e2
        omega
      obtain ⟨g, o, rfl, hg, d0⟩ := row_at hv (k := k) (x := .string x) (by simp [hx])
      have hz2 : Hid ((z ++ x ++ ⟨#[10]⟩ : ByteArray).data.toList = unlB (l.take (k + 1))) := Lib.hid (by
        have e3 : unlB (l.take (k + 1)) = unlB (l.take k) ++ (x.data.toList ++ [10]) := hft
        rw [e3, ← hz.out]; simp)
      clear hft hx
      go_wp2_with (first | ((with_reducible refine kn_list_set ?_); (try clear hF); clear hL; intro W hL; (try simp only [List.setIfInBounds_toArray, List.set_cons_zero, List.set_cons_succ, List.cons_append, List.nil_append] at hL); have hF := hL.facts; (try simp only [Facts, Dist, List.map_cons, List.map_nil, List.forall_mem_cons, false_implies, ne_eq, not_false_eq_true, List.not_mem_nil, not_false_eq_true, true_implies, forall_const, List.mem_cons, or_false, implies_true, and_true, true_and, Nat.le_refl, List.setIfInBounds_toArray, List.set_cons_zero, List.set_cons_succ] at hF)) | ((with_reducible refine at_region 5 ?_); refine kn_wp ?_; (try clear hF); clear hL; intro W hL; (try simp only [List.setIfInBounds_toArray, List.set_cons_zero, List.set_cons_succ, List.cons_append, List.nil_append] at hL); have hF := hL.facts; (try simp only [Facts, Dist, List.map_cons, List.map_nil, List.forall_mem_cons, false_implies, ne_eq, not_false_eq_true, List.not_mem_nil, not_false_eq_true, true_implies, forall_const, List.mem_cons, or_false, implies_true, and_true, true_and, Nat.le_refl, List.setIfInBounds_toArray, List.set_cons_zero, List.set_cons_succ] at hF); refine kn_region [0, 1, 2, 3, 4, 5, 6, 7, 8, 9] [0, 1, 2, 3, 4, 5, 7, 8, 9] [] [0, 1, 2, 3, 5, 8, 9] (by kernel_rfl) (by kernel_rfl) (List.Sublist.refl _) ?_; (try clear hF); clear hL; intro ι F hne hC hFF; have hG := fun n => (hFF n).facts; clear hFF; (try simp only [Facts, Dist, List.map_cons, List.map_nil, List.forall_mem_cons, false_implies, ne_eq, not_false_eq_true, List.not_mem_nil, not_false_eq_true, true_implies, forall_const, List.mem_cons, or_false, implies_true, and_true, true_and, Nat.le_refl, List.setIfInBounds_toArray, List.set_cons_zero, List.set_cons_succ] at hG); (repeat (first | (refine cwk_skip rfl (by rfl) ?_; (try simp only [Act.put, List.setIfInBounds_toArray, List.set_cons_zero, List.set_cons_succ])) | (refine cwk_float rfl rfl (by rfl) (by rfl) (by rfl) hC ?_; intro K hK; have hcvn := fun n => conv10 (F n) _ ((hG n).1.1 0); go_big_quiet_op; go_big_quiet_on) | (refine cwk_float rfl rfl (by rfl) (by rfl) (by rfl) hC ?_; intro K hK; go_big_quiet_op; go_big_quiet_on) | (refine cwk_pure rfl rfl (by rfl) (by rfl) ?_; intro K hK; go_big_quiet_op; go_big_quiet_on) | (refine cwk_anch rfl rfl (by rfl) (by rfl) ?_; intro W hL; (try simp only [List.setIfInBounds_toArray, List.set_cons_zero, List.set_cons_succ, List.cons_append, List.nil_append] at hL); have hF := hL.facts; (try simp only [Facts, Dist, List.map_cons, List.map_nil, List.forall_mem_cons, false_implies, ne_eq, not_false_eq_true, List.not_mem_nil, not_false_eq_true, true_implies, forall_const, List.mem_cons, or_false, implies_true, and_true, true_and, Nat.le_refl, List.setIfInBounds_toArray, List.set_cons_zero, List.set_cons_succ] at hF); go_wp2; refine anchQ_normal ?_; (first | (refine owedB _ (by rfl) ?_; clear hL; (try clear hF); clear hC hG; intro ι F hne hC hFF; have hG := fun n => (hFF n).facts; clear hFF; (try simp only [Facts, Dist, List.map_cons, List.map_nil, List.forall_mem_cons, false_implies, ne_eq, not_false_eq_true, List.not_mem_nil, not_false_eq_true, true_implies, forall_const, List.mem_cons, or_false, implies_true, and_true, true_and, Nat.le_refl, List.setIfInBounds_toArray, List.set_cons_zero, List.set_cons_succ] at hG)) | (refine owedS _ (by repeat' (first | (with_reducible exact List.Sublist.refl _) | (with_reducible apply List.Sublist.cons_cons) | (with_reducible apply List.Sublist.cons))) ?_; clear hL; (try clear hF); clear hC hG; intro ι F hne hC hFF; have hG := fun n => (hFF n).facts; clear hFF; (try simp only [Facts, Dist, List.map_cons, List.map_nil, List.forall_mem_cons, false_implies, ne_eq, not_false_eq_true, List.not_mem_nil, not_false_eq_true, true_implies, forall_const, List.mem_cons, or_false, implies_true, and_true, true_and, Nat.le_refl, List.setIfInBounds_toArray, List.set_cons_zero, List.set_cons_succ] at hG)))))); refine cwk_nil ?_; clear hC hG; intro W hL; (try simp only [List.setIfInBounds_toArray, List.set_cons_zero, List.set_cons_succ, List.cons_append, List.nil_append] at hL); have hF := hL.facts; (try simp only [Facts, Dist, List.map_cons, List.map_nil, List.forall_mem_cons, false_implies, ne_eq, not_false_eq_true, List.not_mem_nil, not_false_eq_true, true_implies, forall_const, List.mem_cons, or_false, implies_true, and_true, true_and, Nat.le_refl, List.setIfInBounds_toArray, List.set_cons_zero, List.set_cons_succ] at hF)))
      go_roundw
      case rel => exact ⟨k + 1, _, by omega, by go_num, rfl, hL.sub (List.nil_sublist _), hz2⟩
      case measure => simp [intOf]; omega
    · obtain rfl : k = l.length := by omega
      have hfin : Hid (z = ⟨(unlB l).toArray⟩) := Lib.hid (ba_ext (by rw [hz.out, List.take_length]))
      go_wp2
      (try simp only [Exit.inBlock, Exit.then]); refine bodyPost_ret (by simp [results, Tryd.results26, go_sem, *]; try rfl) rfl ?_
      exact ⟨by rw [hfin.out], hL.below0⟩

end Go.Proofs.YtjkohbecmaegmaaDoor

