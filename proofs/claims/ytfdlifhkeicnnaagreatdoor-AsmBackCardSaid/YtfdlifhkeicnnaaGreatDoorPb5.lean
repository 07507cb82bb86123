/- Lemmas and walks for the law LawBack (part 5). -/
import Derived.Test.YtfdlifhkeicnnaaGreatDoorPb4
import Derived.Test.YtfdlifhkeicnnaaGreatDoorProg
import Derived.WalkKit
import Derived.Handy
import Derived.Deep.Light
import Derived.WalkSmall
import Derived.StillTailTactics
import Derived.Lib.Hide
import Derived.Lib.SlicesS
import Derived.Lib.ParseIntBTie
import Derived.Lib.Split
import Derived.Lib.SplitLaws
import Derived.Lib.CountLaws
import Derived.Lib.IndexLaws
import Derived.Shelf.Strings.SlTrimAscii
import Derived.Shelf.Strings.IndexAnyAll
namespace Go.Proofs.YtfdlifhkeicnnaaGreatDoor
open Go Go.RowKit
set_option linter.unusedSimpArgs false
set_option linter.unusedVariables false

theorem below_bytes (w : World) (e : TypeId) (t : ByteArray) : Below w.heap.size w (Lib.bytesWorld w e t) := by
  refine ⟨rfl, rfl, rfl, ?_, fun b hb => ?_⟩
  · unfold Lib.bytesWorld World.freeze; split <;> simp
  · unfold Lib.bytesWorld World.freeze
    split
    · exact heap_alloc_old w.drew _ hb
    · simp only [Array.getElem?_modify]
      rw [if_neg (by omega)]
      exact heap_alloc_old w.drew _ hb
theorem Parse_ok (s : ByteArray) (hm : s.size ≤ 100000000) (v : Int) (h : Lib.atoiAll s.data.toList = .ok v) (w : World) :
    Calls Tryz.prog 144 #[.string s, .int .i64 10, .int .i64 64] w fun e w' => e = .returned (.tuple #[.int .i64 v, .nilIface]) ∧ Below w.heap.size w w' :=
  (Tryz.strconv_ParseInt_10_at64_ok s (by omega) v (by rw [Lib.parseIntB_64]; exact h) w).mono fun e w' ⟨he, hw⟩ => ⟨he, by
    rcases hw with rfl | ⟨t, rfl⟩
    · exact Below.refl _ _
    · exact below_bytes w _ t⟩
theorem Parse_bad (s : ByteArray) (hm : s.size ≤ 100000000) (h : ∀ v, Lib.atoiAll s.data.toList ≠ .ok v) (w : World) (hT : Tab w) :
    Calls Tryz.prog 144 #[.string s, .int .i64 10, .int .i64 64] w fun e w' => ∃ v N, e = .returned (.tuple #[.int .i64 v, .iface 189 (.pointer (some ⟨N, 0, none⟩))]) ∧ Below w.heap.size w w' := by
  obtain ⟨h1, h2, ⟨tp, p, h3⟩, ⟨tq, q, h4⟩, _⟩ := hT
  cases ha : Lib.atoiAll s.data.toList with
  | ok v => exact absurd ha (h v)
  | «syntax» => exact (Tryz.strconv_ParseInt_10_at64_syntax_var s (by omega) (by rw [Lib.parseIntB_64]; exact ha) tp p w h3).mono fun e w' ⟨N, he, _, _, hb⟩ => ⟨0, N, he, hb⟩
  | range => exact (Tryz.strconv_ParseInt_10_at64_range_var s (by omega) (by rw [Lib.parseIntB_64]; exact ha) tq q w h4).mono fun e w' ⟨N, he, _, _, hb⟩ => ⟨_, N, he, hb⟩
theorem Decimal_any (n : Int) (h0 : -9223372036854775808 ≤ n) (h1 : n ≤ 9223372036854775807) (w : World) (hT : Tab w) :
    Calls Tryz.prog 10 #[.int .i64 n] w fun e w' => e = .returned (.string (numS n)) ∧ Below w.heap.size w w' := by
  have hL : Kn [] w w [] := Kn.refl [] w; (try simp only [kfb] at hL); have hF := hL.facts; (try simp only [Facts, Dist, kfa, implies_true, forall_const] at hF); go_enter Tryz.func10, Tryz.ntmps10
  go_wp2_with (first | ((with_reducible refine kn_list_set ?_); (try clear hF); clear hL; intro W hL; (try simp only [kfb] at hL); have hF := hL.facts; (try simp only [Facts, Dist, kfa, implies_true, forall_const] at hF)) | (go_at_call 30; refine kn_calls ?_; (try clear hF); clear hL; intro W hL; (try simp only [kfb] at hL); have hF := hL.facts; (try simp only [Facts, Dist, kfa, implies_true, forall_const] at hF); (((with_reducible refine (Itoa_any _ h0 h1 _ (hT.kn hL (by simp))).mono ?_))); rintro e W ⟨rfl, hb⟩; replace hL := hL.below hb; clear hb; (try clear hF); (try simp only [kfb] at hL); have hF := hL.facts; (try simp only [Facts, Dist, kfa, implies_true, forall_const] at hF)))
  (try simp only [Exit.inBlock, Exit.then]); refine bodyPost_ret (by simp [results, Tryz.results10, go_sem, *]; try rfl) rfl ?_
  exact ⟨rfl, hL.below0⟩
theorem Int_some (s : ByteArray) (hm : s.size ≤ 100000000) (n : Int) (hc : canon s.data.toList = some n) (w : World) (hT : Tab w) :
    Calls Tryz.prog 126 #[.string s] w fun e w' => e = .returned (.tuple #[.int .i64 n, .bool true]) ∧ Below w.heap.size w w' := by
  obtain ⟨c1, c2, c3⟩ := canon_some hc
  have ha : Lib.atoiAll s.data.toList = .ok n := by rw [← c1]; exact atoi_itoa c2 c3
  have hns : numS n = s := ba_ext c1
  have hL : Kn [] w w [] := Kn.refl [] w; (try simp only [kfb] at hL); have hF := hL.facts; (try simp only [Facts, Dist, kfa, implies_true, forall_const] at hF); go_enter Tryz.func126, Tryz.ntmps126
  go_wp2_with (first | ((with_reducible refine kn_list_set ?_); (try clear hF); clear hL; intro W hL; (try simp only [kfb] at hL); have hF := hL.facts; (try simp only [Facts, Dist, kfa, implies_true, forall_const] at hF)) | (go_at_call 144; refine kn_calls ?_; (try clear hF); clear hL; intro W hL; (try simp only [kfb] at hL); have hF := hL.facts; (try simp only [Facts, Dist, kfa, implies_true, forall_const] at hF); (((with_reducible refine (Parse_ok s hm n ha _).mono ?_))); rintro e W ⟨rfl, hb⟩; replace hL := hL.below hb; clear hb; (try clear hF); (try simp only [kfb] at hL); have hF := hL.facts; (try simp only [Facts, Dist, kfa, implies_true, forall_const] at hF)) | (go_at_call 145; refine kn_calls ?_; (try clear hF); clear hL; intro W hL; (try simp only [kfb] at hL); have hF := hL.facts; (try simp only [Facts, Dist, kfa, implies_true, forall_const] at hF); (((with_reducible refine (Format_any _ c2 c3 _ (hT.kn hL (by simp))).mono ?_))); rintro e W ⟨rfl, hb⟩; replace hL := hL.below hb; clear hb; (try clear hF); (try simp only [kfb] at hL); have hF := hL.facts; (try simp only [Facts, Dist, kfa, implies_true, forall_const] at hF)))
  (try simp only [Exit.inBlock, Exit.then]); refine bodyPost_ret (by simp [results, Tryz.results126, go_sem, *]; try rfl) rfl ?_
  exact ⟨rfl, hL.below0⟩
theorem Int_none (s : ByteArray) (hm : s.size ≤ 100000000) (hc : canon s.data.toList = none) (w : World) (hT : Tab w) :
    Calls Tryz.prog 126 #[.string s] w fun e w' => e = .returned (.tuple #[.int .i64 0, .bool false]) ∧ Below w.heap.size w w' := by
  by_cases hok : ∃ v, Lib.atoiAll s.data.toList = .ok v
  · obtain ⟨v, ha⟩ := hok
    have hr := atoi_range ha
    obtain ⟨c2, c3⟩ := hr
    have hne : ((numS v).toList == s.toList) = false := (Lib.bytes_beq_false_iff _ _).2 fun e => by
      have e2 : Lib.itoa v = s.data.toList := by rw [← e]; rfl
      unfold canon at hc
      rw [ha] at hc
      simp only at hc
      rw [if_pos e2] at hc; cases hc
    have hne2 : ((numS v).toList != s.toList) = true := by unfold bne; rw [hne]; rfl
    have hL : Kn [] w w [] := Kn.refl [] w; (try simp only [kfb] at hL); have hF := hL.facts; (try simp only [Facts, Dist, kfa, implies_true, forall_const] at hF); go_enter Tryz.func126, Tryz.ntmps126
    go_wp2_with (first | ((with_reducible refine kn_list_set ?_); (try clear hF); clear hL; intro W hL; (try simp only [kfb] at hL); have hF := hL.facts; (try simp only [Facts, Dist, kfa, implies_true, forall_const] at hF)) | (go_at_call 144; refine kn_calls ?_; (try clear hF); clear hL; intro W hL; (try simp only [kfb] at hL); have hF := hL.facts; (try simp only [Facts, Dist, kfa, implies_true, forall_const] at hF); (((with_reducible refine (Parse_ok s hm v ha _).mono ?_))); rintro e W ⟨rfl, hb⟩; replace hL := hL.below hb; clear hb; (try clear hF); (try simp only [kfb] at hL); have hF := hL.facts; (try simp only [Facts, Dist, kfa, implies_true, forall_const] at hF)) | (go_at_call 145; refine kn_calls ?_; (try clear hF); clear hL; intro W hL; (try simp only [kfb] at hL); have hF := hL.facts; (try simp only [Facts, Dist, kfa, implies_true, forall_const] at hF); (((with_reducible refine (Format_any _ c2 c3 _ (hT.kn hL (by simp))).mono ?_))); rintro e W ⟨rfl, hb⟩; replace hL := hL.below hb; clear hb; (try clear hF); (try simp only [kfb] at hL); have hF := hL.facts; (try simp only [Facts, Dist, kfa, implies_true, forall_const] at hF)))
    (try simp only [Exit.inBlock, Exit.then]); refine bodyPost_ret (by simp [results, Tryz.results126, go_sem, *]; try rfl) rfl ?_
    exact ⟨rfl, hL.below0⟩
  · have hb := fun v hv => hok ⟨v, hv⟩
    have hL : Kn [] w w [] := Kn.refl [] w; (try simp only [kfb] at hL); have hF := hL.facts; (try simp only [Facts, Dist, kfa, implies_true, forall_const] at hF); go_enter Tryz.func126, Tryz.ntmps126
    go_wp2_with (first | ((with_reducible refine kn_list_set ?_); (try clear hF); clear hL; intro W hL; (try simp only [kfb] at hL); have hF := hL.facts; (try simp only [Facts, Dist, kfa, implies_true, forall_const] at hF)) | (go_at_call 144; refine kn_calls ?_; (try clear hF); clear hL; intro W hL; (try simp only [kfb] at hL); have hF := hL.facts; (try simp only [Facts, Dist, kfa, implies_true, forall_const] at hF); (((with_reducible refine (Parse_bad s hm hb _ (hT.kn hL (by simp))).mono ?_))); rintro e W ⟨v, N, rfl, hb2⟩; replace hL := hL.below hb2; clear hb2; (try clear hF); (try simp only [kfb] at hL); have hF := hL.facts; (try simp only [Facts, Dist, kfa, implies_true, forall_const] at hF)))
    (try simp only [Exit.inBlock, Exit.then]); refine bodyPost_ret (by simp [results, Tryz.results126, go_sem, *]; try rfl) rfl ?_
    exact ⟨rfl, hL.below0⟩
end Go.Proofs.YtfdlifhkeicnnaaGreatDoor
namespace Go.Proofs.YtfdlifhkeicnnaaGreatDoor
open Go Go.RowKit
set_option linter.unusedSimpArgs false
set_option linter.unusedVariables false

/-- A string divided at its line feeds: one piece more than there are. -/
def split10 : Bytes → List Bytes
  | [] => [[]]
  | c :: t => if c = 10 then [] :: split10 t else match split10 t with
    | h :: r => (c :: h) :: r
    | [] => [[c]]
theorem pre10 (b : UInt8) (l : Bytes) : List.isPrefixOf [10] (b :: l) = (b == 10) := by
  simp only [List.isPrefixOf, Bool.and_true]
  by_cases h : b = 10
  · subst h; rfl
  · rw [beq_false_of_ne h, beq_false_of_ne (Ne.symm h)]
theorem split_miss : ∀ s : Bytes, Lib.index s [10] = -1 → split10 s = [s]
  | [], _ => rfl
  | c :: t, h => by
    rw [Lib.index, pre10] at h
    by_cases hc : c = 10
    · subst hc; simp at h
    · rw [beq_false_of_ne hc] at h
      simp only [Bool.false_eq_true, if_false] at h
      have h1 : Lib.index t [10] = -1 := by
        split at h
        · rename_i h2; simpa using h2
        · have := Lib.index_ge t [10]; omega
      rw [split10, if_neg hc, split_miss t h1]
theorem split_hit : ∀ (s : Bytes) (i : Nat), Lib.index s [10] = i → split10 s = s.take i :: split10 (s.drop (i + 1)) ∧ i < s.length
  | [], i, h => by simp [Lib.index] at h
  | c :: t, i, h => by
    rw [Lib.index, pre10] at h
    by_cases hc : c = 10
    · subst hc
      simp at h
      obtain rfl : i = 0 := by omega
      simp [split10]
    · rw [beq_false_of_ne hc] at h
      simp only [Bool.false_eq_true, if_false] at h
      split at h
      · omega
      · obtain ⟨j, rfl⟩ : ∃ j, i = j + 1 := ⟨i - 1, by rename_i h2; have := Lib.index_ge t [10]; simp at h2; omega⟩
        obtain ⟨h3, h4⟩ := split_hit t j (by omega)
        rw [split10, if_neg hc, h3]
        simp; exact h4
theorem splitK_is : ∀ (n : Nat) (s : Bytes), s.length ≤ n → Lib.splitK [10] 0 (Lib.count s [10]) s = split10 s
  | n, s, hn => by
    by_cases hm : Lib.index s [10] = -1
    · rw [Lib.count_miss hm, split_miss s hm]; rfl
    · obtain ⟨i, hi⟩ := Int.eq_ofNat_of_zero_le (show 0 ≤ Lib.index s [10] by have := Lib.index_ge s [10]; omega)
      obtain ⟨h3, h4⟩ := split_hit s i hi
      rw [Lib.count_hit (by simp) hi, Nat.add_comm 1, Lib.splitK, if_neg (by simp; exact hm), h3, hi]
      simp only [Int.toNat_natCast, Nat.add_zero, List.length_singleton]
      match n with
      | 0 => omega
      | n + 1 => rw [splitK_is n (s.drop (i + 1)) (by rw [List.length_drop]; omega)]
theorem split_bytes (s : ByteArray) : ((Lib.splitB ⟨#[10]⟩ 0 (Lib.countB s ⟨#[10]⟩) s).map Value.string) = (split10 s.data.toList).map fun x => Value.string ⟨x.toArray⟩ := by
  have h := Lib.splitB_data ⟨#[10]⟩ 0 (Lib.countB s ⟨#[10]⟩) s
  rw [show (⟨#[10]⟩ : ByteArray).data.toList = [10] from rfl, show Lib.countB s ⟨#[10]⟩ = Lib.count s.data.toList [10] from rfl, splitK_is _ _ (Nat.le_refl _)] at h
  rw [← h, List.map_map]
  exact List.map_congr_left fun x _ => by simp
theorem split_count (s : ByteArray) : Lib.countB s ⟨#[10]⟩ + 1 = (split10 s.data.toList).length := by
  have h1 := Lib.splitB_all ⟨#[10]⟩ (by decide) 0 _ s rfl
  have h2 := congrArg List.length (split_bytes s)
  simp only [List.length_map] at h2
  omega
def linesB (s : Bytes) : List Bytes := if s = [] then [] else split10 (Lib.trimSuffix s [10])
def strs (l : List Bytes) : List Value := l.map fun x => .string ⟨x.toArray⟩
theorem Lines_none (s : ByteArray) (h : s.size = 0) (w : World) : Calls Tryz.prog 16 #[.string s] w fun e w' => e = .returned (.slice none 0 0) ∧ Below w.heap.size w w' := by
  obtain rfl : s = ⟨#[]⟩ := ba_ext (List.eq_nil_of_length_eq_zero (by rw [szl]; exact h))
  have hL : Kn [] w w [] := Kn.refl [] w; (try simp only [kfb] at hL); have hF := hL.facts; (try simp only [Facts, Dist, kfa, implies_true, forall_const] at hF); go_enter Tryz.func16, Tryz.ntmps16
  go_wp2
  (try simp only [Exit.inBlock, Exit.then]); refine bodyPost_ret (by simp [results, Tryz.results16, go_sem, *]; try rfl) rfl ?_
  exact ⟨rfl, hL.below0⟩
theorem Lines_some (s : ByteArray) (hs : s.size ≤ 100000000) (h : s.size ≠ 0) (w : World) (hT : Tab w) : Calls Tryz.prog 16 #[.string s] w fun e w' =>
    ∃ g, e = .returned (.slice (some ⟨g, 0, none⟩) (linesB s.data.toList).length (linesB s.data.toList).length) ∧ Kn [] w w' [(g, .cells (strs (linesB s.data.toList)).toArray 9 (0, 0))] := by
  have hne : (s.toList == (⟨#[]⟩ : ByteArray).toList) = false := (Lib.bytes_beq_false_iff _ _).2 fun e => h (by rw [e]; rfl)
  have hsn : s.data.toList ≠ [] := fun e => h (by rw [← szl, e]; rfl)
  have hl : linesB s.data.toList = split10 (Lib.trimSuffix s.data.toList [10]) := by unfold linesB; rw [if_neg hsn]
  obtain ⟨t, ht⟩ : ∃ t : ByteArray, t.data.toList = Lib.trimSuffix s.data.toList [10] := ⟨⟨(Lib.trimSuffix s.data.toList [10]).toArray⟩, by simp⟩
  have hts : t.size ≤ 100000000 := by
    rw [← szl, ht]
    unfold Lib.trimSuffix
    split
    · rw [List.length_take, szl]; omega
    · rw [szl]; exact hs
  have htrim : ∀ W, Calls Tryz.prog 38 #[.string s, .string ⟨#[10]⟩] W fun e w' => e = .returned (.string t) ∧ w' = W := fun W =>
    (Tryz.strings_TrimSuffix s ⟨#[10]⟩ W (by omega)).mono fun e w' ⟨h1, h2⟩ => ⟨by rw [h1]; congr 2; exact ba_ext (by rw [ht]), h2⟩
  obtain ⟨m, hm⟩ := hT.2.2.2.2
  have hsp : ∀ W, W = w → Calls Tryz.prog 37 #[.string t, .string ⟨#[10]⟩] W fun e w' => e = .returned (.slice (some ⟨W.heap.size, 0, none⟩) (linesB s.data.toList).length (linesB s.data.toList).length) ∧ Kn [] W w' [(W.heap.size, .cells (strs (linesB s.data.toList)).toArray 9 (0, 0))] := fun W hW =>
    (Tryz.strings_Split t ⟨#[10]⟩ m W (by omega) (by rw [hW]; exact hm) (by decide)).mono fun e w' ⟨h1, h2⟩ => by
      rw [split_bytes, ht, ← hl] at h2
      rw [split_count, ht, ← hl] at h1
      refine ⟨h1, ?_⟩
      rw [h2]
      have hK := Kn.refl [] W
      exact kn_here
  clear hne hsn hl ht
  have hie : s.toList.isEmpty = false := by
    rw [ByteArray.toList_eq]
    cases hd : s.data.toList with
    | nil => exact absurd (by rw [← szl, hd]; rfl) h
    | cons => rfl
  have hne : (s.toList == (⟨#[]⟩ : ByteArray).toList) = false := (Lib.bytes_beq_false_iff _ _).2 fun e => h (by rw [e]; rfl)
  go_enter Tryz.func16, Tryz.ntmps16
  go_wp2_with (first | (go_at_call 38; refine (htrim _).mono ?_; rintro e w' ⟨rfl, rfl⟩) | (go_at_call 37; refine (hsp _ rfl).mono ?_; rintro e w' ⟨rfl, hb⟩))
  (try simp only [Exit.inBlock, Exit.then]); refine bodyPost_ret (by simp [results, Tryz.results16, go_sem, *]; try rfl) rfl ?_
  exact ⟨_, rfl, hb⟩

end Go.Proofs.YtfdlifhkeicnnaaGreatDoor
namespace Go.Proofs.YtfdlifhkeicnnaaGreatDoor
open Go Go.RowKit
set_option linter.unusedSimpArgs false
set_option linter.unusedVariables false
set_option maxRecDepth 20000 in
set_option maxHeartbeats 4000000 in
theorem integer_some (s : ByteArray) (hs : s.size ≤ 1000000) (n : Int) (hc : canon s.data.toList = some n) (w : World) (hT : Tab w) : Calls Tryz.prog 102 #[.string s] w fun e w' => e = .returned (.int .i64 n) ∧ Below w.heap.size w w' := by
  have hL : Kn [] w w [] := Kn.refl [] w; (try simp only [kfb] at hL); have hF := hL.facts; (try simp only [Facts, Dist, kfa, implies_true, forall_const] at hF); go_enter Tryz.func102, Tryz.ntmps102
  go_wp2_with (first | ((with_reducible refine kn_list_set ?_); (try clear hF); clear hL; intro W hL; (try simp only [kfb] at hL); have hF := hL.facts; (try simp only [Facts, Dist, kfa, implies_true, forall_const] at hF)) | (go_at_call 126; refine kn_calls ?_; (try clear hF); clear hL; intro W hL; (try simp only [kfb] at hL); have hF := hL.facts; (try simp only [Facts, Dist, kfa, implies_true, forall_const] at hF); (((with_reducible refine (Int_some s (by omega) n hc _ (hT.kn hL (by simp))).mono ?_))); rintro e W ⟨rfl, hb⟩; replace hL := hL.below hb; clear hb; (try clear hF); (try simp only [kfb] at hL); have hF := hL.facts; (try simp only [Facts, Dist, kfa, implies_true, forall_const] at hF)) | (go_at_call 100; (((first | (with_reducible refine (need_ok _ _).mono ?_) | (with_reducible refine (need_bad _ _).mono ?_)))); rintro e w' ⟨rfl, rfl⟩))
  (try simp only [Exit.inBlock, Exit.then]); refine bodyPost_ret (by simp [results, Tryz.results102, go_sem, *]; try rfl) rfl ?_
  exact ⟨rfl, hL.below0⟩
set_option maxRecDepth 20000 in
set_option maxHeartbeats 4000000 in
theorem integer_none (s : ByteArray) (hs : s.size ≤ 1000000) (hc : canon s.data.toList = none) (w : World) (hT : Tab w) : Calls Tryz.prog 102 #[.string s] w fun e w' => e = .panicked [{ v := .iface 56 (.int .i64 2), recovered := false }] ∧ Below w.heap.size w w' := by
  have hL : Kn [] w w [] := Kn.refl [] w; (try simp only [kfb] at hL); have hF := hL.facts; (try simp only [Facts, Dist, kfa, implies_true, forall_const] at hF); go_enter Tryz.func102, Tryz.ntmps102
  go_wp2_with (first | ((with_reducible refine kn_list_set ?_); (try clear hF); clear hL; intro W hL; (try simp only [kfb] at hL); have hF := hL.facts; (try simp only [Facts, Dist, kfa, implies_true, forall_const] at hF)) | (go_at_call 126; refine kn_calls ?_; (try clear hF); clear hL; intro W hL; (try simp only [kfb] at hL); have hF := hL.facts; (try simp only [Facts, Dist, kfa, implies_true, forall_const] at hF); (((with_reducible refine (Int_none s (by omega) hc _ (hT.kn hL (by simp))).mono ?_))); rintro e W ⟨rfl, hb⟩; replace hL := hL.below hb; clear hb; (try clear hF); (try simp only [kfb] at hL); have hF := hL.facts; (try simp only [Facts, Dist, kfa, implies_true, forall_const] at hF)) | (go_at_call 100; (((first | (with_reducible refine (need_ok _ _).mono ?_) | (with_reducible refine (need_bad _ _).mono ?_)))); rintro e w' ⟨rfl, rfl⟩))
  exact ⟨rfl, rfl, hL.below0⟩

end Go.Proofs.YtfdlifhkeicnnaaGreatDoor
namespace Go.Proofs.YtfdlifhkeicnnaaGreatDoor
open Go Go.RowKit
set_option linter.unusedSimpArgs false
set_option linter.unusedVariables false
set_option maxRecDepth 20000 in
set_option maxHeartbeats 4000000 in
theorem number_some (s : ByteArray) (hs : s.size ≤ 1000000) (lo hi : Int) (n : Int) (hc : canon s.data.toList = some n) (h : lo ≤ n ∧ n ≤ hi) (w : World) (hT : Tab w) : Calls Tryz.prog 127 #[.string s, .int .i64 lo, .int .i64 hi] w fun e w' => e = .returned (.int .i64 n) ∧ Below w.heap.size w w' := by
  have q1 : decide (lo ≤ n) = true := decide_eq_true h.1
  have q2 : decide (n ≤ hi) = true := decide_eq_true h.2
  clear h
  have hL : Kn [] w w [] := Kn.refl [] w; (try simp only [kfb] at hL); have hF := hL.facts; (try simp only [Facts, Dist, kfa, implies_true, forall_const] at hF); go_enter Tryz.func127, Tryz.ntmps127
  go_wp2_with (first | ((with_reducible refine kn_list_set ?_); (try clear hF); clear hL; intro W hL; (try simp only [kfb] at hL); have hF := hL.facts; (try simp only [Facts, Dist, kfa, implies_true, forall_const] at hF)) | (go_at_call 126; refine kn_calls ?_; (try clear hF); clear hL; intro W hL; (try simp only [kfb] at hL); have hF := hL.facts; (try simp only [Facts, Dist, kfa, implies_true, forall_const] at hF); (((with_reducible refine (Int_some s (by omega) n hc _ (hT.kn hL (by simp))).mono ?_))); rintro e W ⟨rfl, hb⟩; replace hL := hL.below hb; clear hb; (try clear hF); (try simp only [kfb] at hL); have hF := hL.facts; (try simp only [Facts, Dist, kfa, implies_true, forall_const] at hF)) | (go_at_call 100; (((first | (with_reducible refine (need_ok _ _).mono ?_) | (with_reducible refine (need_bad _ _).mono ?_)))); rintro e w' ⟨rfl, rfl⟩))
  (try simp only [Exit.inBlock, Exit.then]); refine bodyPost_ret (by simp [results, Tryz.results127, go_sem, *]; try rfl) rfl ?_
  exact ⟨rfl, hL.below0⟩
set_option maxRecDepth 20000 in
set_option maxHeartbeats 4000000 in
theorem number_low (s : ByteArray) (hs : s.size ≤ 1000000) (lo hi : Int) (n : Int) (hc : canon s.data.toList = some n) (h : ¬ lo ≤ n) (w : World) (hT : Tab w) : Calls Tryz.prog 127 #[.string s, .int .i64 lo, .int .i64 hi] w fun e w' => e = .panicked [{ v := .iface 56 (.int .i64 3), recovered := false }] ∧ Below w.heap.size w w' := by
  have q1 : decide (lo ≤ n) = false := decide_eq_false h
  clear h
  have hL : Kn [] w w [] := Kn.refl [] w; (try simp only [kfb] at hL); have hF := hL.facts; (try simp only [Facts, Dist, kfa, implies_true, forall_const] at hF); go_enter Tryz.func127, Tryz.ntmps127
  go_wp2_with (first | ((with_reducible refine kn_list_set ?_); (try clear hF); clear hL; intro W hL; (try simp only [kfb] at hL); have hF := hL.facts; (try simp only [Facts, Dist, kfa, implies_true, forall_const] at hF)) | (go_at_call 126; refine kn_calls ?_; (try clear hF); clear hL; intro W hL; (try simp only [kfb] at hL); have hF := hL.facts; (try simp only [Facts, Dist, kfa, implies_true, forall_const] at hF); (((with_reducible refine (Int_some s (by omega) n hc _ (hT.kn hL (by simp))).mono ?_))); rintro e W ⟨rfl, hb⟩; replace hL := hL.below hb; clear hb; (try clear hF); (try simp only [kfb] at hL); have hF := hL.facts; (try simp only [Facts, Dist, kfa, implies_true, forall_const] at hF)) | (go_at_call 100; (((first | (with_reducible refine (need_ok _ _).mono ?_) | (with_reducible refine (need_bad _ _).mono ?_)))); rintro e w' ⟨rfl, rfl⟩))
  exact ⟨rfl, rfl, hL.below0⟩
set_option maxRecDepth 20000 in
set_option maxHeartbeats 4000000 in
theorem number_high (s : ByteArray) (hs : s.size ≤ 1000000) (lo hi : Int) (n : Int) (hc : canon s.data.toList = some n) (h : lo ≤ n) (h2 : ¬ n ≤ hi) (w : World) (hT : Tab w) : Calls Tryz.prog 127 #[.string s, .int .i64 lo, .int .i64 hi] w fun e w' => e = .panicked [{ v := .iface 56 (.int .i64 3), recovered := false }] ∧ Below w.heap.size w w' := by
  have q1 : decide (lo ≤ n) = true := decide_eq_true h
  have q2 : decide (n ≤ hi) = false := decide_eq_false h2
  clear h h2
  have hL : Kn [] w w [] := Kn.refl [] w; (try simp only [kfb] at hL); have hF := hL.facts; (try simp only [Facts, Dist, kfa, implies_true, forall_const] at hF); go_enter Tryz.func127, Tryz.ntmps127
  go_wp2_with (first | ((with_reducible refine kn_list_set ?_); (try clear hF); clear hL; intro W hL; (try simp only [kfb] at hL); have hF := hL.facts; (try simp only [Facts, Dist, kfa, implies_true, forall_const] at hF)) | (go_at_call 126; refine kn_calls ?_; (try clear hF); clear hL; intro W hL; (try simp only [kfb] at hL); have hF := hL.facts; (try simp only [Facts, Dist, kfa, implies_true, forall_const] at hF); (((with_reducible refine (Int_some s (by omega) n hc _ (hT.kn hL (by simp))).mono ?_))); rintro e W ⟨rfl, hb⟩; replace hL := hL.below hb; clear hb; (try clear hF); (try simp only [kfb] at hL); have hF := hL.facts; (try simp only [Facts, Dist, kfa, implies_true, forall_const] at hF)) | (go_at_call 100; (((first | (with_reducible refine (need_ok _ _).mono ?_) | (with_reducible refine (need_bad _ _).mono ?_)))); rintro e w' ⟨rfl, rfl⟩))
  exact ⟨rfl, rfl, hL.below0⟩
set_option maxRecDepth 20000 in
set_option maxHeartbeats 4000000 in
theorem number_none (s : ByteArray) (hs : s.size ≤ 1000000) (lo hi : Int) (hc : canon s.data.toList = none) (w : World) (hT : Tab w) : Calls Tryz.prog 127 #[.string s, .int .i64 lo, .int .i64 hi] w fun e w' => e = .panicked [{ v := .iface 56 (.int .i64 2), recovered := false }] ∧ Below w.heap.size w w' := by
  skip
  have hL : Kn [] w w [] := Kn.refl [] w; (try simp only [kfb] at hL); have hF := hL.facts; (try simp only [Facts, Dist, kfa, implies_true, forall_const] at hF); go_enter Tryz.func127, Tryz.ntmps127
  go_wp2_with (first | ((with_reducible refine kn_list_set ?_); (try clear hF); clear hL; intro W hL; (try simp only [kfb] at hL); have hF := hL.facts; (try simp only [Facts, Dist, kfa, implies_true, forall_const] at hF)) | (go_at_call 126; refine kn_calls ?_; (try clear hF); clear hL; intro W hL; (try simp only [kfb] at hL); have hF := hL.facts; (try simp only [Facts, Dist, kfa, implies_true, forall_const] at hF); (((with_reducible refine (Int_none s (by omega) hc _ (hT.kn hL (by simp))).mono ?_))); rintro e W ⟨rfl, hb⟩; replace hL := hL.below hb; clear hb; (try clear hF); (try simp only [kfb] at hL); have hF := hL.facts; (try simp only [Facts, Dist, kfa, implies_true, forall_const] at hF)) | (go_at_call 100; (((first | (with_reducible refine (need_ok _ _).mono ?_) | (with_reducible refine (need_bad _ _).mono ?_)))); rintro e w' ⟨rfl, rfl⟩))
  exact ⟨rfl, rfl, hL.below0⟩

end Go.Proofs.YtfdlifhkeicnnaaGreatDoor
namespace Go.Proofs.YtfdlifhkeicnnaaGreatDoor
open Go Go.RowKit
set_option linter.unusedSimpArgs false
set_option linter.unusedVariables false

def NmI (s : Bytes) (k : Nat) (V : Bool) : Prop := V = (if k = 0 then named s else (s.drop k).all (nameC false))
theorem nm_step {s : Bytes} {k : Nat} {V : Bool} {x : UInt8} (h : NmI s k V) (hx : s[k]? = some x) (hc : (k = 0 ∧ nameC true x = true) ∨ (0 < k ∧ nameC false x = true)) : NmI s (k + 1) V := by
  unfold NmI at h ⊢
  rw [if_neg (by omega), h]
  rcases hc with ⟨rfl, hc⟩ | ⟨h0, hc⟩
  · rw [if_pos rfl]
    cases s with
    | nil => simp at hx
    | cons y t => simp at hx; subst hx; simp [named, hc]
  · rw [if_neg (by omega), drop_step hx, List.all_cons, hc, Bool.true_and]
theorem nm_stop {s : Bytes} {k : Nat} {V : Bool} {x : UInt8} (h : NmI s k V) (hx : s[k]? = some x) (hc : (k = 0 ∧ nameC true x = false) ∨ (0 < k ∧ nameC false x = false)) : V = false := by
  unfold NmI at h
  rw [h]
  rcases hc with ⟨rfl, hc⟩ | ⟨h0, hc⟩
  · rw [if_pos rfl]
    cases s with
    | nil => simp at hx
    | cons y t => simp at hx; subst hx; simp [named, hc]
  · rw [if_neg (by omega), drop_step hx, List.all_cons, hc, Bool.false_and]
theorem nm_end {s : Bytes} {V : Bool} (h : NmI s s.length V) : V = !s.isEmpty := by
  unfold NmI at h
  rw [h]
  cases s with
  | nil => rfl
  | cons y t => simp
set_option maxRecDepth 20000 in
set_option maxHeartbeats 4000000 in
theorem named_is (s : ByteArray) (hs : s.size ≤ 1000000) (w : World) : Calls Tryz.prog 64 #[.string s] w fun e w' => e = .returned (.bool (named s.data.toList)) ∧ Below w.heap.size w w' := by
  obtain ⟨V, hV⟩ : ∃ V, named s.data.toList = V := ⟨_, rfl⟩
  have hsl := szl s
  rw [hV]
  have hL : Kn [] w w [] := Kn.refl [] w; (try simp only [kfb] at hL); have hF := hL.facts; (try simp only [Facts, Dist, kfa, implies_true, forall_const] at hF); go_enter Tryz.func64, Tryz.ntmps64
  go_wp2
  go_loopw [3, 4, 7] (fun i c n wr => ∃ k : Nat, k ≤ s.size ∧ n = .int .i64 k ∧ Hid (NmI s.data.toList k V) ∧ Kn [] w wr []) (fun _ _ n _ => s.size - (intOf n).toNat)
  case atStart => exact ⟨0, by omega, rfl, Lib.hid (by unfold NmI; rw [if_pos rfl, hV]), hL⟩
  case round =>
    clear hL
    obtain ⟨k, hk, rfl, HV, hL⟩ := hrel
    (try simp only [kfb] at hL); have hF := hL.facts; (try simp only [Facts, Dist, kfa, implies_true, forall_const] at hF)
    by_cases hlt : k < s.size
    · obtain ⟨c0, hc0⟩ : ∃ c, s.data.toList[k]? = some c := ⟨_, List.getElem?_eq_getElem (by rw [szl]; omega)⟩
      have eb0 := byte_at hc0 (by omega)
      have hb : c0.toNat < 256 := c0.toNat_lt
      have hrr : (0 ≤ c0.toNat ∧ c0.toNat ≤ 47) ∨ (48 ≤ c0.toNat ∧ c0.toNat ≤ 57) ∨ (58 ≤ c0.toNat ∧ c0.toNat ≤ 64) ∨ (65 ≤ c0.toNat ∧ c0.toNat ≤ 90) ∨ (91 ≤ c0.toNat ∧ c0.toNat ≤ 94) ∨ (95 ≤ c0.toNat ∧ c0.toNat ≤ 95) ∨ (96 ≤ c0.toNat ∧ c0.toNat ≤ 96) ∨ (97 ≤ c0.toNat ∧ c0.toNat ≤ 122) ∨ (123 ≤ c0.toNat ∧ c0.toNat ≤ 255) := by omega
      rcases Nat.eq_zero_or_pos k with hk0 | hk0
      · have z1 : decide ((0 : Int) < (k : Int)) = false := decide_eq_false (by omega)
        have z2 : decide (0 < k) = false := decide_eq_false (by omega)
        have HK0 := Lib.hid hk0
        clear hk0
        rcases hrr with hr | hr | hr | hr | hr | hr | hr | hr | hr
        · have q0 : ((c0.toNat : Int) == 95) = false := beq_false_of_ne (by omega); have q1 : decide ((97 : Int) ≤ (c0.toNat : Int)) = false := decide_eq_false (by omega); have p1 : decide (97 ≤ c0.toNat) = false := decide_eq_false (by omega); have q2 : decide ((c0.toNat : Int) ≤ 122) = true := decide_eq_true (by omega); have p2 : decide (c0.toNat ≤ 122) = true := decide_eq_true (by omega); have q3 : decide ((65 : Int) ≤ (c0.toNat : Int)) = false := decide_eq_false (by omega); have p3 : decide (65 ≤ c0.toNat) = false := decide_eq_false (by omega); have q4 : decide ((c0.toNat : Int) ≤ 90) = true := decide_eq_true (by omega); have p4 : decide (c0.toNat ≤ 90) = true := decide_eq_true (by omega); have q5 : decide ((48 : Int) ≤ (c0.toNat : Int)) = false := decide_eq_false (by omega); have p5 : decide (48 ≤ c0.toNat) = false := decide_eq_false (by omega); have q6 : decide ((c0.toNat : Int) ≤ 57) = true := decide_eq_true (by omega); have p6 : decide (c0.toNat ≤ 57) = true := decide_eq_true (by omega)
          have ha : nameC true c0 = false := by
            unfold nameC
            have e : (c0 == 95) = false := beq_false_of_ne (fun h => by subst h; revert hr; decide)
            rw [e]
            first | (simp; done) | (simp; omega)
          clear hr
          go_wp2
          (try simp only [Exit.inBlock, Exit.then]); refine bodyPost_ret (by simp [results, Tryz.results64, go_sem, *]; try rfl) rfl ?_
          exact ⟨by rw [nm_stop HV.out hc0 (.inl ⟨HK0.out, ha⟩)], hL.below0⟩
        · have q0 : ((c0.toNat : Int) == 95) = false := beq_false_of_ne (by omega); have q1 : decide ((97 : Int) ≤ (c0.toNat : Int)) = false := decide_eq_false (by omega); have p1 : decide (97 ≤ c0.toNat) = false := decide_eq_false (by omega); have q2 : decide ((c0.toNat : Int) ≤ 122) = true := decide_eq_true (by omega); have p2 : decide (c0.toNat ≤ 122) = true := decide_eq_true (by omega); have q3 : decide ((65 : Int) ≤ (c0.toNat : Int)) = false := decide_eq_false (by omega); have p3 : decide (65 ≤ c0.toNat) = false := decide_eq_false (by omega); have q4 : decide ((c0.toNat : Int) ≤ 90) = true := decide_eq_true (by omega); have p4 : decide (c0.toNat ≤ 90) = true := decide_eq_true (by omega); have q5 : decide ((48 : Int) ≤ (c0.toNat : Int)) = true := decide_eq_true (by omega); have p5 : decide (48 ≤ c0.toNat) = true := decide_eq_true (by omega); have q6 : decide ((c0.toNat : Int) ≤ 57) = true := decide_eq_true (by omega); have p6 : decide (c0.toNat ≤ 57) = true := decide_eq_true (by omega)
          have ha : nameC true c0 = false := by
            unfold nameC
            have e : (c0 == 95) = false := beq_false_of_ne (fun h => by subst h; revert hr; decide)
            rw [e]
            first | (simp; done) | (simp; omega)
          clear hr
          go_wp2
          (try simp only [Exit.inBlock, Exit.then]); refine bodyPost_ret (by simp [results, Tryz.results64, go_sem, *]; try rfl) rfl ?_
          exact ⟨by rw [nm_stop HV.out hc0 (.inl ⟨HK0.out, ha⟩)], hL.below0⟩
        · have q0 : ((c0.toNat : Int) == 95) = false := beq_false_of_ne (by omega); have q1 : decide ((97 : Int) ≤ (c0.toNat : Int)) = false := decide_eq_false (by omega); have p1 : decide (97 ≤ c0.toNat) = false := decide_eq_false (by omega); have q2 : decide ((c0.toNat : Int) ≤ 122) = true := decide_eq_true (by omega); have p2 : decide (c0.toNat ≤ 122) = true := decide_eq_true (by omega); have q3 : decide ((65 : Int) ≤ (c0.toNat : Int)) = false := decide_eq_false (by omega); have p3 : decide (65 ≤ c0.toNat) = false := decide_eq_false (by omega); have q4 : decide ((c0.toNat : Int) ≤ 90) = true := decide_eq_true (by omega); have p4 : decide (c0.toNat ≤ 90) = true := decide_eq_true (by omega); have q5 : decide ((48 : Int) ≤ (c0.toNat : Int)) = true := decide_eq_true (by omega); have p5 : decide (48 ≤ c0.toNat) = true := decide_eq_true (by omega); have q6 : decide ((c0.toNat : Int) ≤ 57) = false := decide_eq_false (by omega); have p6 : decide (c0.toNat ≤ 57) = false := decide_eq_false (by omega)
          have ha : nameC true c0 = false := by
            unfold nameC
            have e : (c0 == 95) = false := beq_false_of_ne (fun h => by subst h; revert hr; decide)
            rw [e]
            first | (simp; done) | (simp; omega)
          clear hr
          go_wp2
          (try simp only [Exit.inBlock, Exit.then]); refine bodyPost_ret (by simp [results, Tryz.results64, go_sem, *]; try rfl) rfl ?_
          exact ⟨by rw [nm_stop HV.out hc0 (.inl ⟨HK0.out, ha⟩)], hL.below0⟩
        · have q0 : ((c0.toNat : Int) == 95) = false := beq_false_of_ne (by omega); have q1 : decide ((97 : Int) ≤ (c0.toNat : Int)) = false := decide_eq_false (by omega); have p1 : decide (97 ≤ c0.toNat) = false := decide_eq_false (by omega); have q2 : decide ((c0.toNat : Int) ≤ 122) = true := decide_eq_true (by omega); have p2 : decide (c0.toNat ≤ 122) = true := decide_eq_true (by omega); have q3 : decide ((65 : Int) ≤ (c0.toNat : Int)) = true := decide_eq_true (by omega); have p3 : decide (65 ≤ c0.toNat) = true := decide_eq_true (by omega); have q4 : decide ((c0.toNat : Int) ≤ 90) = true := decide_eq_true (by omega); have p4 : decide (c0.toNat ≤ 90) = true := decide_eq_true (by omega); have q5 : decide ((48 : Int) ≤ (c0.toNat : Int)) = true := decide_eq_true (by omega); have p5 : decide (48 ≤ c0.toNat) = true := decide_eq_true (by omega); have q6 : decide ((c0.toNat : Int) ≤ 57) = false := decide_eq_false (by omega); have p6 : decide (c0.toNat ≤ 57) = false := decide_eq_false (by omega)
          have ha : nameC true c0 = true := by
            unfold nameC
            have e : (c0 == 95) = false := beq_false_of_ne (fun h => by subst h; revert hr; decide)
            rw [e]
            first | (simp; done) | (simp; omega)
          clear hr
          go_wp2
          exact ⟨⟨k + 1, by omega, by go_num, Lib.hid (nm_step HV.out hc0 (.inl ⟨HK0.out, ha⟩)), hL⟩, by simp [intOf]; omega⟩
        · have q0 : ((c0.toNat : Int) == 95) = false := beq_false_of_ne (by omega); have q1 : decide ((97 : Int) ≤ (c0.toNat : Int)) = false := decide_eq_false (by omega); have p1 : decide (97 ≤ c0.toNat) = false := decide_eq_false (by omega); have q2 : decide ((c0.toNat : Int) ≤ 122) = true := decide_eq_true (by omega); have p2 : decide (c0.toNat ≤ 122) = true := decide_eq_true (by omega); have q3 : decide ((65 : Int) ≤ (c0.toNat : Int)) = true := decide_eq_true (by omega); have p3 : decide (65 ≤ c0.toNat) = true := decide_eq_true (by omega); have q4 : decide ((c0.toNat : Int) ≤ 90) = false := decide_eq_false (by omega); have p4 : decide (c0.toNat ≤ 90) = false := decide_eq_false (by omega); have q5 : decide ((48 : Int) ≤ (c0.toNat : Int)) = true := decide_eq_true (by omega); have p5 : decide (48 ≤ c0.toNat) = true := decide_eq_true (by omega); have q6 : decide ((c0.toNat : Int) ≤ 57) = false := decide_eq_false (by omega); have p6 : decide (c0.toNat ≤ 57) = false := decide_eq_false (by omega)
          have ha : nameC true c0 = false := by
            unfold nameC
            have e : (c0 == 95) = false := beq_false_of_ne (fun h => by subst h; revert hr; decide)
            rw [e]
            first | (simp; done) | (simp; omega)
          clear hr
          go_wp2
          (try simp only [Exit.inBlock, Exit.then]); refine bodyPost_ret (by simp [results, Tryz.results64, go_sem, *]; try rfl) rfl ?_
          exact ⟨by rw [nm_stop HV.out hc0 (.inl ⟨HK0.out, ha⟩)], hL.below0⟩
        · have q0 : ((c0.toNat : Int) == 95) = true := beq_iff_eq.2 (by omega); have q1 : decide ((97 : Int) ≤ (c0.toNat : Int)) = false := decide_eq_false (by omega); have p1 : decide (97 ≤ c0.toNat) = false := decide_eq_false (by omega); have q2 : decide ((c0.toNat : Int) ≤ 122) = true := decide_eq_true (by omega); have p2 : decide (c0.toNat ≤ 122) = true := decide_eq_true (by omega); have q3 : decide ((65 : Int) ≤ (c0.toNat : Int)) = true := decide_eq_true (by omega); have p3 : decide (65 ≤ c0.toNat) = true := decide_eq_true (by omega); have q4 : decide ((c0.toNat : Int) ≤ 90) = false := decide_eq_false (by omega); have p4 : decide (c0.toNat ≤ 90) = false := decide_eq_false (by omega); have q5 : decide ((48 : Int) ≤ (c0.toNat : Int)) = true := decide_eq_true (by omega); have p5 : decide (48 ≤ c0.toNat) = true := decide_eq_true (by omega); have q6 : decide ((c0.toNat : Int) ≤ 57) = false := decide_eq_false (by omega); have p6 : decide (c0.toNat ≤ 57) = false := decide_eq_false (by omega)
          have ha : nameC true c0 = true := by
            unfold nameC
            have e : (c0 == 95) = true := beq_iff_eq.2 (UInt8.toNat_inj.1 (show c0.toNat = 95 by omega))
            rw [e]
            first | (simp; done) | (simp; omega)
          clear hr
          go_wp2
          exact ⟨⟨k + 1, by omega, by go_num, Lib.hid (nm_step HV.out hc0 (.inl ⟨HK0.out, ha⟩)), hL⟩, by simp [intOf]; omega⟩
        · have q0 : ((c0.toNat : Int) == 95) = false := beq_false_of_ne (by omega); have q1 : decide ((97 : Int) ≤ (c0.toNat : Int)) = false := decide_eq_false (by omega); have p1 : decide (97 ≤ c0.toNat) = false := decide_eq_false (by omega); have q2 : decide ((c0.toNat : Int) ≤ 122) = true := decide_eq_true (by omega); have p2 : decide (c0.toNat ≤ 122) = true := decide_eq_true (by omega); have q3 : decide ((65 : Int) ≤ (c0.toNat : Int)) = true := decide_eq_true (by omega); have p3 : decide (65 ≤ c0.toNat) = true := decide_eq_true (by omega); have q4 : decide ((c0.toNat : Int) ≤ 90) = false := decide_eq_false (by omega); have p4 : decide (c0.toNat ≤ 90) = false := decide_eq_false (by omega); have q5 : decide ((48 : Int) ≤ (c0.toNat : Int)) = true := decide_eq_true (by omega); have p5 : decide (48 ≤ c0.toNat) = true := decide_eq_true (by omega); have q6 : decide ((c0.toNat : Int) ≤ 57) = false := decide_eq_false (by omega); have p6 : decide (c0.toNat ≤ 57) = false := decide_eq_false (by omega)
          have ha : nameC true c0 = false := by
            unfold nameC
            have e : (c0 == 95) = false := beq_false_of_ne (fun h => by subst h; revert hr; decide)
            rw [e]
            first | (simp; done) | (simp; omega)
          clear hr
          go_wp2
          (try simp only [Exit.inBlock, Exit.then]); refine bodyPost_ret (by simp [results, Tryz.results64, go_sem, *]; try rfl) rfl ?_
          exact ⟨by rw [nm_stop HV.out hc0 (.inl ⟨HK0.out, ha⟩)], hL.below0⟩
        · have q0 : ((c0.toNat : Int) == 95) = false := beq_false_of_ne (by omega); have q1 : decide ((97 : Int) ≤ (c0.toNat : Int)) = true := decide_eq_true (by omega); have p1 : decide (97 ≤ c0.toNat) = true := decide_eq_true (by omega); have q2 : decide ((c0.toNat : Int) ≤ 122) = true := decide_eq_true (by omega); have p2 : decide (c0.toNat ≤ 122) = true := decide_eq_true (by omega); have q3 : decide ((65 : Int) ≤ (c0.toNat : Int)) = true := decide_eq_true (by omega); have p3 : decide (65 ≤ c0.toNat) = true := decide_eq_true (by omega); have q4 : decide ((c0.toNat : Int) ≤ 90) = false := decide_eq_false (by omega); have p4 : decide (c0.toNat ≤ 90) = false := decide_eq_false (by omega); have q5 : decide ((48 : Int) ≤ (c0.toNat : Int)) = true := decide_eq_true (by omega); have p5 : decide (48 ≤ c0.toNat) = true := decide_eq_true (by omega); have q6 : decide ((c0.toNat : Int) ≤ 57) = false := decide_eq_false (by omega); have p6 : decide (c0.toNat ≤ 57) = false := decide_eq_false (by omega)
          have ha : nameC true c0 = true := by
            unfold nameC
            have e : (c0 == 95) = false := beq_false_of_ne (fun h => by subst h; revert hr; decide)
            rw [e]
            first | (simp; done) | (simp; omega)
          clear hr
          go_wp2
          exact ⟨⟨k + 1, by omega, by go_num, Lib.hid (nm_step HV.out hc0 (.inl ⟨HK0.out, ha⟩)), hL⟩, by simp [intOf]; omega⟩
        · have q0 : ((c0.toNat : Int) == 95) = false := beq_false_of_ne (by omega); have q1 : decide ((97 : Int) ≤ (c0.toNat : Int)) = true := decide_eq_true (by omega); have p1 : decide (97 ≤ c0.toNat) = true := decide_eq_true (by omega); have q2 : decide ((c0.toNat : Int) ≤ 122) = false := decide_eq_false (by omega); have p2 : decide (c0.toNat ≤ 122) = false := decide_eq_false (by omega); have q3 : decide ((65 : Int) ≤ (c0.toNat : Int)) = true := decide_eq_true (by omega); have p3 : decide (65 ≤ c0.toNat) = true := decide_eq_true (by omega); have q4 : decide ((c0.toNat : Int) ≤ 90) = false := decide_eq_false (by omega); have p4 : decide (c0.toNat ≤ 90) = false := decide_eq_false (by omega); have q5 : decide ((48 : Int) ≤ (c0.toNat : Int)) = true := decide_eq_true (by omega); have p5 : decide (48 ≤ c0.toNat) = true := decide_eq_true (by omega); have q6 : decide ((c0.toNat : Int) ≤ 57) = false := decide_eq_false (by omega); have p6 : decide (c0.toNat ≤ 57) = false := decide_eq_false (by omega)
          have ha : nameC true c0 = false := by
            unfold nameC
            have e : (c0 == 95) = false := beq_false_of_ne (fun h => by subst h; revert hr; decide)
            rw [e]
            first | (simp; done) | (simp; omega)
          clear hr
          go_wp2
          (try simp only [Exit.inBlock, Exit.then]); refine bodyPost_ret (by simp [results, Tryz.results64, go_sem, *]; try rfl) rfl ?_
          exact ⟨by rw [nm_stop HV.out hc0 (.inl ⟨HK0.out, ha⟩)], hL.below0⟩
      · have z1 : decide ((0 : Int) < (k : Int)) = true := decide_eq_true (by omega)
        have z2 : decide (0 < k) = true := decide_eq_true hk0
        have HK0 := Lib.hid hk0
        clear hk0
        rcases hrr with hr | hr | hr | hr | hr | hr | hr | hr | hr
        · have q0 : ((c0.toNat : Int) == 95) = false := beq_false_of_ne (by omega); have q1 : decide ((97 : Int) ≤ (c0.toNat : Int)) = false := decide_eq_false (by omega); have p1 : decide (97 ≤ c0.toNat) = false := decide_eq_false (by omega); have q2 : decide ((c0.toNat : Int) ≤ 122) = true := decide_eq_true (by omega); have p2 : decide (c0.toNat ≤ 122) = true := decide_eq_true (by omega); have q3 : decide ((65 : Int) ≤ (c0.toNat : Int)) = false := decide_eq_false (by omega); have p3 : decide (65 ≤ c0.toNat) = false := decide_eq_false (by omega); have q4 : decide ((c0.toNat : Int) ≤ 90) = true := decide_eq_true (by omega); have p4 : decide (c0.toNat ≤ 90) = true := decide_eq_true (by omega); have q5 : decide ((48 : Int) ≤ (c0.toNat : Int)) = false := decide_eq_false (by omega); have p5 : decide (48 ≤ c0.toNat) = false := decide_eq_false (by omega); have q6 : decide ((c0.toNat : Int) ≤ 57) = true := decide_eq_true (by omega); have p6 : decide (c0.toNat ≤ 57) = true := decide_eq_true (by omega)
          have ha : nameC false c0 = false := by
            unfold nameC
            have e : (c0 == 95) = false := beq_false_of_ne (fun h => by subst h; revert hr; decide)
            rw [e]
            first | (simp; done) | (simp; omega)
          clear hr
          go_wp2
          (try simp only [Exit.inBlock, Exit.then]); refine bodyPost_ret (by simp [results, Tryz.results64, go_sem, *]; try rfl) rfl ?_
          exact ⟨by rw [nm_stop HV.out hc0 (.inr ⟨HK0.out, ha⟩)], hL.below0⟩
        · have q0 : ((c0.toNat : Int) == 95) = false := beq_false_of_ne (by omega); have q1 : decide ((97 : Int) ≤ (c0.toNat : Int)) = false := decide_eq_false (by omega); have p1 : decide (97 ≤ c0.toNat) = false := decide_eq_false (by omega); have q2 : decide ((c0.toNat : Int) ≤ 122) = true := decide_eq_true (by omega); have p2 : decide (c0.toNat ≤ 122) = true := decide_eq_true (by omega); have q3 : decide ((65 : Int) ≤ (c0.toNat : Int)) = false := decide_eq_false (by omega); have p3 : decide (65 ≤ c0.toNat) = false := decide_eq_false (by omega); have q4 : decide ((c0.toNat : Int) ≤ 90) = true := decide_eq_true (by omega); have p4 : decide (c0.toNat ≤ 90) = true := decide_eq_true (by omega); have q5 : decide ((48 : Int) ≤ (c0.toNat : Int)) = true := decide_eq_true (by omega); have p5 : decide (48 ≤ c0.toNat) = true := decide_eq_true (by omega); have q6 : decide ((c0.toNat : Int) ≤ 57) = true := decide_eq_true (by omega); have p6 : decide (c0.toNat ≤ 57) = true := decide_eq_true (by omega)
          have ha : nameC false c0 = true := by
            unfold nameC
            have e : (c0 == 95) = false := beq_false_of_ne (fun h => by subst h; revert hr; decide)
            rw [e]
            first | (simp; done) | (simp; omega)
          clear hr
          go_wp2
          exact ⟨⟨k + 1, by omega, by go_num, Lib.hid (nm_step HV.out hc0 (.inr ⟨HK0.out, ha⟩)), hL⟩, by simp [intOf]; omega⟩
        · have q0 : ((c0.toNat : Int) == 95) = false := beq_false_of_ne (by omega); have q1 : decide ((97 : Int) ≤ (c0.toNat : Int)) = false := decide_eq_false (by omega); have p1 : decide (97 ≤ c0.toNat) = false := decide_eq_false (by omega); have q2 : decide ((c0.toNat : Int) ≤ 122) = true := decide_eq_true (by omega); have p2 : decide (c0.toNat ≤ 122) = true := decide_eq_true (by omega); have q3 : decide ((65 : Int) ≤ (c0.toNat : Int)) = false := decide_eq_false (by omega); have p3 : decide (65 ≤ c0.toNat) = false := decide_eq_false (by omega); have q4 : decide ((c0.toNat : Int) ≤ 90) = true := decide_eq_true (by omega); have p4 : decide (c0.toNat ≤ 90) = true := decide_eq_true (by omega); have q5 : decide ((48 : Int) ≤ (c0.toNat : Int)) = true := decide_eq_true (by omega); have p5 : decide (48 ≤ c0.toNat) = true := decide_eq_true (by omega); have q6 : decide ((c0.toNat : Int) ≤ 57) = false := decide_eq_false (by omega); have p6 : decide (c0.toNat ≤ 57) = false := decide_eq_false (by omega)
          have ha : nameC false c0 = false := by
            unfold nameC
            have e : (c0 == 95) = false := beq_false_of_ne (fun h => by subst h; revert hr; decide)
            rw [e]
            first | (simp; done) | (simp; omega)
          clear hr
          go_wp2
          (try simp only [Exit.inBlock, Exit.then]); refine bodyPost_ret (by simp [results, Tryz.results64, go_sem, *]; try rfl) rfl ?_
          exact ⟨by rw [nm_stop HV.out hc0 (.inr ⟨HK0.out, ha⟩)], hL.below0⟩
        · have q0 : ((c0.toNat : Int) == 95) = false := beq_false_of_ne (by omega); have q1 : decide ((97 : Int) ≤ (c0.toNat : Int)) = false := decide_eq_false (by omega); have p1 : decide (97 ≤ c0.toNat) = false := decide_eq_false (by omega); have q2 : decide ((c0.toNat : Int) ≤ 122) = true := decide_eq_true (by omega); have p2 : decide (c0.toNat ≤ 122) = true := decide_eq_true (by omega); have q3 : decide ((65 : Int) ≤ (c0.toNat : Int)) = true := decide_eq_true (by omega); have p3 : decide (65 ≤ c0.toNat) = true := decide_eq_true (by omega); have q4 : decide ((c0.toNat : Int) ≤ 90) = true := decide_eq_true (by omega); have p4 : decide (c0.toNat ≤ 90) = true := decide_eq_true (by omega); have q5 : decide ((48 : Int) ≤ (c0.toNat : Int)) = true := decide_eq_true (by omega); have p5 : decide (48 ≤ c0.toNat) = true := decide_eq_true (by omega); have q6 : decide ((c0.toNat : Int) ≤ 57) = false := decide_eq_false (by omega); have p6 : decide (c0.toNat ≤ 57) = false := decide_eq_false (by omega)
          have ha : nameC false c0 = true := by
            unfold nameC
            have e : (c0 == 95) = false := beq_false_of_ne (fun h => by subst h; revert hr; decide)
            rw [e]
            first | (simp; done) | (simp; omega)
          clear hr
          go_wp2
          exact ⟨⟨k + 1, by omega, by go_num, Lib.hid (nm_step HV.out hc0 (.inr ⟨HK0.out, ha⟩)), hL⟩, by simp [intOf]; omega⟩
        · have q0 : ((c0.toNat : Int) == 95) = false := beq_false_of_ne (by omega); have q1 : decide ((97 : Int) ≤ (c0.toNat : Int)) = false := decide_eq_false (by omega); have p1 : decide (97 ≤ c0.toNat) = false := decide_eq_false (by omega); have q2 : decide ((c0.toNat : Int) ≤ 122) = true := decide_eq_true (by omega); have p2 : decide (c0.toNat ≤ 122) = true := decide_eq_true (by omega); have q3 : decide ((65 : Int) ≤ (c0.toNat : Int)) = true := decide_eq_true (by omega); have p3 : decide (65 ≤ c0.toNat) = true := decide_eq_true (by omega); have q4 : decide ((c0.toNat : Int) ≤ 90) = false := decide_eq_false (by omega); have p4 : decide (c0.toNat ≤ 90) = false := decide_eq_false (by omega); have q5 : decide ((48 : Int) ≤ (c0.toNat : Int)) = true := decide_eq_true (by omega); have p5 : decide (48 ≤ c0.toNat) = true := decide_eq_true (by omega); have q6 : decide ((c0.toNat : Int) ≤ 57) = false := decide_eq_false (by omega); have p6 : decide (c0.toNat ≤ 57) = false := decide_eq_false (by omega)
          have ha : nameC false c0 = false := by
            unfold nameC
            have e : (c0 == 95) = false := beq_false_of_ne (fun h => by subst h; revert hr; decide)
            rw [e]
            first | (simp; done) | (simp; omega)
          clear hr
          go_wp2
          (try simp only [Exit.inBlock, Exit.then]); refine bodyPost_ret (by simp [results, Tryz.results64, go_sem, *]; try rfl) rfl ?_
          exact ⟨by rw [nm_stop HV.out hc0 (.inr ⟨HK0.out, ha⟩)], hL.below0⟩
        · have q0 : ((c0.toNat : Int) == 95) = true := beq_iff_eq.2 (by omega); have q1 : decide ((97 : Int) ≤ (c0.toNat : Int)) = false := decide_eq_false (by omega); have p1 : decide (97 ≤ c0.toNat) = false := decide_eq_false (by omega); have q2 : decide ((c0.toNat : Int) ≤ 122) = true := decide_eq_true (by omega); have p2 : decide (c0.toNat ≤ 122) = true := decide_eq_true (by omega); have q3 : decide ((65 : Int) ≤ (c0.toNat : Int)) = true := decide_eq_true (by omega); have p3 : decide (65 ≤ c0.toNat) = true := decide_eq_true (by omega); have q4 : decide ((c0.toNat : Int) ≤ 90) = false := decide_eq_false (by omega); have p4 : decide (c0.toNat ≤ 90) = false := decide_eq_false (by omega); have q5 : decide ((48 : Int) ≤ (c0.toNat : Int)) = true := decide_eq_true (by omega); have p5 : decide (48 ≤ c0.toNat) = true := decide_eq_true (by omega); have q6 : decide ((c0.toNat : Int) ≤ 57) = false := decide_eq_false (by omega); have p6 : decide (c0.toNat ≤ 57) = false := decide_eq_false (by omega)
          have ha : nameC false c0 = true := by
            unfold nameC
            have e : (c0 == 95) = true := beq_iff_eq.2 (UInt8.toNat_inj.1 (show c0.toNat = 95 by omega))
            rw [e]
            first | (simp; done) | (simp; omega)
          clear hr
          go_wp2
          exact ⟨⟨k + 1, by omega, by go_num, Lib.hid (nm_step HV.out hc0 (.inr ⟨HK0.out, ha⟩)), hL⟩, by simp [intOf]; omega⟩
        · have q0 : ((c0.toNat : Int) == 95) = false := beq_false_of_ne (by omega); have q1 : decide ((97 : Int) ≤ (c0.toNat : Int)) = false := decide_eq_false (by omega); have p1 : decide (97 ≤ c0.toNat) = false := decide_eq_false (by omega); have q2 : decide ((c0.toNat : Int) ≤ 122) = true := decide_eq_true (by omega); have p2 : decide (c0.toNat ≤ 122) = true := decide_eq_true (by omega); have q3 : decide ((65 : Int) ≤ (c0.toNat : Int)) = true := decide_eq_true (by omega); have p3 : decide (65 ≤ c0.toNat) = true := decide_eq_true (by omega); have q4 : decide ((c0.toNat : Int) ≤ 90) = false := decide_eq_false (by omega); have p4 : decide (c0.toNat ≤ 90) = false := decide_eq_false (by omega); have q5 : decide ((48 : Int) ≤ (c0.toNat : Int)) = true := decide_eq_true (by omega); have p5 : decide (48 ≤ c0.toNat) = true := decide_eq_true (by omega); have q6 : decide ((c0.toNat : Int) ≤ 57) = false := decide_eq_false (by omega); have p6 : decide (c0.toNat ≤ 57) = false := decide_eq_false (by omega)
          have ha : nameC false c0 = false := by
            unfold nameC
            have e : (c0 == 95) = false := beq_false_of_ne (fun h => by subst h; revert hr; decide)
            rw [e]
            first | (simp; done) | (simp; omega)
          clear hr
          go_wp2
          (try simp only [Exit.inBlock, Exit.then]); refine bodyPost_ret (by simp [results, Tryz.results64, go_sem, *]; try rfl) rfl ?_
          exact ⟨by rw [nm_stop HV.out hc0 (.inr ⟨HK0.out, ha⟩)], hL.below0⟩
        · have q0 : ((c0.toNat : Int) == 95) = false := beq_false_of_ne (by omega); have q1 : decide ((97 : Int) ≤ (c0.toNat : Int)) = true := decide_eq_true (by omega); have p1 : decide (97 ≤ c0.toNat) = true := decide_eq_true (by omega); have q2 : decide ((c0.toNat : Int) ≤ 122) = true := decide_eq_true (by omega); have p2 : decide (c0.toNat ≤ 122) = true := decide_eq_true (by omega); have q3 : decide ((65 : Int) ≤ (c0.toNat : Int)) = true := decide_eq_true (by omega); have p3 : decide (65 ≤ c0.toNat) = true := decide_eq_true (by omega); have q4 : decide ((c0.toNat : Int) ≤ 90) = false := decide_eq_false (by omega); have p4 : decide (c0.toNat ≤ 90) = false := decide_eq_false (by omega); have q5 : decide ((48 : Int) ≤ (c0.toNat : Int)) = true := decide_eq_true (by omega); have p5 : decide (48 ≤ c0.toNat) = true := decide_eq_true (by omega); have q6 : decide ((c0.toNat : Int) ≤ 57) = false := decide_eq_false (by omega); have p6 : decide (c0.toNat ≤ 57) = false := decide_eq_false (by omega)
          have ha : nameC false c0 = true := by
            unfold nameC
            have e : (c0 == 95) = false := beq_false_of_ne (fun h => by subst h; revert hr; decide)
            rw [e]
            first | (simp; done) | (simp; omega)
          clear hr
          go_wp2
          exact ⟨⟨k + 1, by omega, by go_num, Lib.hid (nm_step HV.out hc0 (.inr ⟨HK0.out, ha⟩)), hL⟩, by simp [intOf]; omega⟩
        · have q0 : ((c0.toNat : Int) == 95) = false := beq_false_of_ne (by omega); have q1 : decide ((97 : Int) ≤ (c0.toNat : Int)) = true := decide_eq_true (by omega); have p1 : decide (97 ≤ c0.toNat) = true := decide_eq_true (by omega); have q2 : decide ((c0.toNat : Int) ≤ 122) = false := decide_eq_false (by omega); have p2 : decide (c0.toNat ≤ 122) = false := decide_eq_false (by omega); have q3 : decide ((65 : Int) ≤ (c0.toNat : Int)) = true := decide_eq_true (by omega); have p3 : decide (65 ≤ c0.toNat) = true := decide_eq_true (by omega); have q4 : decide ((c0.toNat : Int) ≤ 90) = false := decide_eq_false (by omega); have p4 : decide (c0.toNat ≤ 90) = false := decide_eq_false (by omega); have q5 : decide ((48 : Int) ≤ (c0.toNat : Int)) = true := decide_eq_true (by omega); have p5 : decide (48 ≤ c0.toNat) = true := decide_eq_true (by omega); have q6 : decide ((c0.toNat : Int) ≤ 57) = false := decide_eq_false (by omega); have p6 : decide (c0.toNat ≤ 57) = false := decide_eq_false (by omega)
          have ha : nameC false c0 = false := by
            unfold nameC
            have e : (c0 == 95) = false := beq_false_of_ne (fun h => by subst h; revert hr; decide)
            rw [e]
            first | (simp; done) | (simp; omega)
          clear hr
          go_wp2
          (try simp only [Exit.inBlock, Exit.then]); refine bodyPost_ret (by simp [results, Tryz.results64, go_sem, *]; try rfl) rfl ?_
          exact ⟨by rw [nm_stop HV.out hc0 (.inr ⟨HK0.out, ha⟩)], hL.below0⟩
    · obtain rfl : k = s.size := by omega
      have hV2 := nm_end (by rw [hsl]; exact HV.out)
      go_wp2
      (try simp only [Exit.inBlock, Exit.then]); refine bodyPost_ret (by simp [results, Tryz.results64, go_sem, *]; try rfl) rfl ?_
      exact ⟨by rw [hV2, Lib.toList_data], hL.below0⟩

end Go.Proofs.YtfdlifhkeicnnaaGreatDoor
namespace Go.Proofs.YtfdlifhkeicnnaaGreatDoor
open Go Go.RowKit
set_option linter.unusedSimpArgs false
set_option linter.unusedVariables false

theorem infoSet : (Tryz.prog.info? 124).map (fun i => (i.zero, i.size)) = some (some (.agg (Array.replicate 256 (.bool false))), 256) := by kernel_rfl
theorem blank_contains (c : UInt8) : ([32, 9] : List UInt8).contains c = blank c := by
  cases h1 : c == 32 <;> cases h2 : c == 9 <;> simp [blank, List.contains, List.elem, h1, h2]
theorem trim_lib (l : Bytes) : Lib.trimS l [32, 9] = trim l := by
  unfold Lib.trimS Lib.trimLeftS Lib.trimRightS trim
  rw [show (fun x => ([32, 9] : List UInt8).contains x) = blank from funext blank_contains]
theorem Trim_any (s : ByteArray) (hs : s.size ≤ 1000000) (w : World) : Calls Tryz.prog 58 #[.string s, .string ⟨#[32, 9]⟩] w fun e w' => e = .returned (.string ⟨(trim s.data.toList).toArray⟩) ∧ Below w.heap.size w w' := by
  rw [← trim_lib]
  exact Any.strings_Trim_laid Tryz.lays160 infoSet s ⟨#[32, 9]⟩ w (by omega) (by decide) (ascii_of_all (by decide))
/-- IndexAny in a string that is long, or of ASCII bytes alone (what the library's law covers). -/
theorem IndexAny_any (s : ByteArray) (hs : s.size ≤ 1000000) (ha : 8 < s.size ∨ ∀ c ∈ s.data.toList, c.toNat < 128) (w : World) : Calls Tryz.prog 60 #[.string s, .string ⟨#[32, 9]⟩] w fun e w' => e = .returned (.int .i64 (Lib.indexAny s.data.toList [32, 9])) ∧ Below w.heap.size w w' := by
  by_cases h8 : 8 < s.size
  · exact (Any.strings_IndexAny_long Tryz.lays153 (zero_of_info infoSet).1 (zero_of_info infoSet).2 s ⟨#[32, 9]⟩ w (by decide) h8 (by omega) (by decide) (ascii_of_all (by decide))).mono fun e w' ⟨h1, h2⟩ => ⟨h1, by rw [h2]; exact ((Below.refl _ _).alloc (Nat.le_refl _) _).alloc (by simp) _⟩
  · exact Any.strings_IndexAny_laid Tryz.lays153 infoSet s ⟨#[32, 9]⟩ w (by omega) (by decide) (fun j b hb => (ha.resolve_left h8) b (List.mem_of_getElem? hb)) (ascii_of_all (by decide))

end Go.Proofs.YtfdlifhkeicnnaaGreatDoor
