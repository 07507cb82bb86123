/- Lemmas and walks for the law of this seat (part 6). -/
import Derived.Test.YtfdlifhkeicnnaaGreatDoorPc5
import Derived.Test.YtfdlifhkeicnnaaGreatDoorProg
import Derived.WalkKit
import Derived.Handy
import Derived.Deep.Light
import Derived.WalkSmall
import Derived.StillTailTactics
import Derived.Lib.Hide
import Derived.Lib.SlicesS
import Derived.Lib.ParseIntBTie
import Derived.Lib.Split
import Derived.Lib.SplitLaws
import Derived.Lib.CountLaws
import Derived.Lib.IndexLaws
namespace Go.Proofs.YtfdlifhkeicnnaaGreatDoor
open Go Go.RowKit
set_option linter.unusedSimpArgs false
set_option linter.unusedVariables false

theorem below_bytes (w : World) (e : TypeId) (t : ByteArray) : Below w.heap.size w (Lib.bytesWorld w e t) := by
  refine ⟨rfl, rfl, rfl, ?_, fun b hb => ?_⟩
  · unfold Lib.bytesWorld World.freeze; split <;> simp
  · unfold Lib.bytesWorld World.freeze
    split
    · exact heap_alloc_old w.drew _ hb
    · simp only [Array.getElem?_modify]
      rw [if_neg (by omega)]
      exact heap_alloc_old w.drew _ hb
theorem Parse_ok (s : ByteArray) (hm : s.size ≤ 100000000) (v : Int) (h : Lib.atoiAll s.data.toList = .ok v) (w : World) :
    Calls Tryz.prog 144 #[.string s, .int .i64 10, .int .i64 64] w fun e w' => e = .returned (.tuple #[.int .i64 v, .nilIface]) ∧ Below w.heap.size w w' :=
  (Tryz.strconv_ParseInt_10_at64_ok s (by omega) v (by rw [Lib.parseIntB_64]; exact h) w).mono fun e w' ⟨he, hw⟩ => ⟨he, by
    rcases hw with rfl | ⟨t, rfl⟩
    · exact Below.refl _ _
    · exact below_bytes w _ t⟩
theorem Parse_bad (s : ByteArray) (hm : s.size ≤ 100000000) (h : ∀ v, Lib.atoiAll s.data.toList ≠ .ok v) (w : World) (hT : Tab w) :
    Calls Tryz.prog 144 #[.string s, .int .i64 10, .int .i64 64] w fun e w' => ∃ v N, e = .returned (.tuple #[.int .i64 v, .iface 189 (.pointer (some ⟨N, 0, none⟩))]) ∧ Below w.heap.size w w' := by
  obtain ⟨h1, h2, ⟨tp, p, h3⟩, ⟨tq, q, h4⟩, _⟩ := hT
  cases ha : Lib.atoiAll s.data.toList with
  | ok v => exact absurd ha (h v)
  | «syntax» => exact (Tryz.strconv_ParseInt_10_at64_syntax_var s (by omega) (by rw [Lib.parseIntB_64]; exact ha) tp p w h3).mono fun e w' ⟨N, he, _, _, hb⟩ => ⟨0, N, he, hb⟩
  | range => exact (Tryz.strconv_ParseInt_10_at64_range_var s (by omega) (by rw [Lib.parseIntB_64]; exact ha) tq q w h4).mono fun e w' ⟨N, he, _, _, hb⟩ => ⟨_, N, he, hb⟩
theorem Decimal_any (n : Int) (h0 : -9223372036854775808 ≤ n) (h1 : n ≤ 9223372036854775807) (w : World) (hT : Tab w) :
    Calls Tryz.prog 10 #[.int .i64 n] w fun e w' => e = .returned (.string (numS n)) ∧ Below w.heap.size w w' := by
  have hL : Kn [] w w [] := Kn.refl [] w; (try simp only [kfb] at hL); have hF := hL.facts; (try simp only [Facts, Dist, kd] at hF); go_enter Tryz.func10, Tryz.ntmps10
  go_wp2_with (first | ((with_reducible refine kn_list_set ?_); (try clear hF); clear hL; intro W hL; (try simp only [kfb] at hL); have hF := hL.facts; (try simp only [Facts, Dist, kd] at hF)) | (go_at_call 30; refine kn_calls ?_; (try clear hF); clear hL; intro W hL; (try simp only [kfb] at hL); have hF := hL.facts; (try simp only [Facts, Dist, kd] at hF); (((with_reducible refine (Itoa_any _ h0 h1 _ (hT.kn hL (by simp))).mono ?_))); rintro e W ⟨rfl, hb⟩; replace hL := hL.below hb; clear hb; (try clear hF); (try simp only [kfb] at hL); have hF := hL.facts; (try simp only [Facts, Dist, kd] at hF)))
  (try simp only [Exit.inBlock, Exit.then]); refine bodyPost_ret (by simp [results, Tryz.results10, go_sem, *]; try rfl) rfl ?_
  exact ⟨rfl, hL.below0⟩
theorem Int_some (s : ByteArray) (hm : s.size ≤ 100000000) (n : Int) (hc : canon s.data.toList = some n) (w : World) (hT : Tab w) :
    Calls Tryz.prog 126 #[.string s] w fun e w' => e = .returned (.tuple #[.int .i64 n, .bool true]) ∧ Below w.heap.size w w' := by
  obtain ⟨c1, c2, c3⟩ := canon_some hc
  have ha : Lib.atoiAll s.data.toList = .ok n := by rw [← c1]; exact atoi_itoa c2 c3
  have hns : numS n = s := ba_ext c1
  have hL : Kn [] w w [] := Kn.refl [] w; (try simp only [kfb] at hL); have hF := hL.facts; (try simp only [Facts, Dist, kd] at hF); go_enter Tryz.func126, Tryz.ntmps126
  go_wp2_with (first | ((with_reducible refine kn_list_set ?_); (try clear hF); clear hL; intro W hL; (try simp only [kfb] at hL); have hF := hL.facts; (try simp only [Facts, Dist, kd] at hF)) | (go_at_call 144; refine kn_calls ?_; (try clear hF); clear hL; intro W hL; (try simp only [kfb] at hL); have hF := hL.facts; (try simp only [Facts, Dist, kd] at hF); (((with_reducible refine (Parse_ok s hm n ha _).mono ?_))); rintro e W ⟨rfl, hb⟩; replace hL := hL.below hb; clear hb; (try clear hF); (try simp only [kfb] at hL); have hF := hL.facts; (try simp only [Facts, Dist, kd] at hF)) | (go_at_call 145; refine kn_calls ?_; (try clear hF); clear hL; intro W hL; (try simp only [kfb] at hL); have hF := hL.facts; (try simp only [Facts, Dist, kd] at hF); (((with_reducible refine (Format_any _ c2 c3 _ (hT.kn hL (by simp))).mono ?_))); rintro e W ⟨rfl, hb⟩; replace hL := hL.below hb; clear hb; (try clear hF); (try simp only [kfb] at hL); have hF := hL.facts; (try simp only [Facts, Dist, kd] at hF)))
  (try simp only [Exit.inBlock, Exit.then]); refine bodyPost_ret (by simp [results, Tryz.results126, go_sem, *]; try rfl) rfl ?_
  exact ⟨rfl, hL.below0⟩
theorem Int_none (s : ByteArray) (hm : s.size ≤ 100000000) (hc : canon s.data.toList = none) (w : World) (hT : Tab w) :
    Calls Tryz.prog 126 #[.string s] w fun e w' => e = .returned (.tuple #[.int .i64 0, .bool false]) ∧ Below w.heap.size w w' := by
  by_cases hok : ∃ v, Lib.atoiAll s.data.toList = .ok v
  · obtain ⟨v, ha⟩ := hok
    have hr := atoi_range ha
    obtain ⟨c2, c3⟩ := hr
    have hne : ((numS v).toList == s.toList) = false := (Lib.bytes_beq_false_iff _ _).2 fun e => by
      have e2 : Lib.itoa v = s.data.toList := by rw [← e]; rfl
      unfold canon at hc
      rw [ha] at hc
      simp only at hc
      rw [if_pos e2] at hc; cases hc
    have hne2 : ((numS v).toList != s.toList) = true := by unfold bne; rw [hne]; rfl
    have hL : Kn [] w w [] := Kn.refl [] w; (try simp only [kfb] at hL); have hF := hL.facts; (try simp only [Facts, Dist, kd] at hF); go_enter Tryz.func126, Tryz.ntmps126
    go_wp2_with (first | ((with_reducible refine kn_list_set ?_); (try clear hF); clear hL; intro W hL; (try simp only [kfb] at hL); have hF := hL.facts; (try simp only [Facts, Dist, kd] at hF)) | (go_at_call 144; refine kn_calls ?_; (try clear hF); clear hL; intro W hL; (try simp only [kfb] at hL); have hF := hL.facts; (try simp only [Facts, Dist, kd] at hF); (((with_reducible refine (Parse_ok s hm v ha _).mono ?_))); rintro e W ⟨rfl, hb⟩; replace hL := hL.below hb; clear hb; (try clear hF); (try simp only [kfb] at hL); have hF := hL.facts; (try simp only [Facts, Dist, kd] at hF)) | (go_at_call 145; refine kn_calls ?_; (try clear hF); clear hL; intro W hL; (try simp only [kfb] at hL); have hF := hL.facts; (try simp only [Facts, Dist, kd] at hF); (((with_reducible refine (Format_any _ c2 c3 _ (hT.kn hL (by simp))).mono ?_))); rintro e W ⟨rfl, hb⟩; replace hL := hL.below hb; clear hb; (try clear hF); (try simp only [kfb] at hL); have hF := hL.facts; (try simp only [Facts, Dist, kd] at hF)))
    (try simp only [Exit.inBlock, Exit.then]); refine bodyPost_ret (by simp [results, Tryz.results126, go_sem, *]; try rfl) rfl ?_
    exact ⟨rfl, hL.below0⟩
  · have hb := fun v hv => hok ⟨v, hv⟩
    have hL : Kn [] w w [] := Kn.refl [] w; (try simp only [kfb] at hL); have hF := hL.facts; (try simp only [Facts, Dist, kd] at hF); go_enter Tryz.func126, Tryz.ntmps126
    go_wp2_with (first | ((with_reducible refine kn_list_set ?_); (try clear hF); clear hL; intro W hL; (try simp only [kfb] at hL); have hF := hL.facts; (try simp only [Facts, Dist, kd] at hF)) | (go_at_call 144; refine kn_calls ?_; (try clear hF); clear hL; intro W hL; (try simp only [kfb] at hL); have hF := hL.facts; (try simp only [Facts, Dist, kd] at hF); (((with_reducible refine (Parse_bad s hm hb _ (hT.kn hL (by simp))).mono ?_))); rintro e W ⟨v, N, rfl, hb2⟩; replace hL := hL.below hb2; clear hb2; (try clear hF); (try simp only [kfb] at hL); have hF := hL.facts; (try simp only [Facts, Dist, kd] at hF)))
    (try simp only [Exit.inBlock, Exit.then]); refine bodyPost_ret (by simp [results, Tryz.results126, go_sem, *]; try rfl) rfl ?_
    exact ⟨rfl, hL.below0⟩
def unlB (l : List ByteArray) : Bytes := l.flatMap fun s => s.data.toList ++ [10]
set_option maxRecDepth 20000 in
set_option maxHeartbeats 4000000 in
theorem Unlines_any (l : List ByteArray) (v : Value) (w : World) (hv : Row w v (l.map fun s => .string s)) (hl : l.length ≤ 100000) (hb : (unlB l).length ≤ 10000000) : Calls Tryz.prog 17 #[v] w fun e w' => e = .returned (.string ⟨(unlB l).toArray⟩) ∧ Below w.heap.size w w' := by
  obtain ⟨ao, cap, rfl, hcell⟩ := id hv
  rw [List.length_map]
  have hI : BIs w.heap.size w.heap.size [] (w.alloc (.cells #[.pointer none, .slice none 0 0] 49)) := BIs.fresh (heap_alloc_new w _)
  have hW : Below w.heap.size w (w.alloc (.cells #[.pointer none, .slice none 0 0] 49)) := (Below.refl _ _).alloc (Nat.le_refl _) _
  go_enter Tryz.func17, Tryz.ntmps17
  go_wp2
  go_loopw [8] (fun i wr => ∃ k : Nat, k ≤ l.length ∧ i = .int .i64 k ∧ BIs w.heap.size w.heap.size (unlB (l.take k)) wr ∧ Below w.heap.size w wr) (fun i _ => l.length - (intOf i).toNat)
  case atStart => exact ⟨0, by omega, rfl, hI, hW⟩
  case round =>
    obtain ⟨k, hk, rfl, hI1, hW1⟩ := hrel
    clear hI hW
    have hI := hI1
    have hW := hW1
    clear hI1 hW1
    by_cases hlt : k < l.length
    · obtain ⟨x, hx⟩ : ∃ x, l[k]? = some x := ⟨_, List.getElem?_eq_getElem hlt⟩
      have hft := flat_take (fun s : ByteArray => s.data.toList ++ [10]) hx
      have hlen : (unlB (l.take k)).length + (x.size + 1) ≤ 10000000 := by
        have e1 : unlB l = unlB (l.take (k + 1)) ++ unlB (l.drop (k + 1)) := by unfold unlB; rw [← List.flatMap_append, List.take_append_drop]
        have e2 := congrArg List.length e1
        have e3 : unlB (l.take (k + 1)) = unlB (l.take k) ++ (x.data.toList ++ [10]) := hft
        rw [List.length_append, e3, List.length_append, List.length_append, szl] at e2
        simp only [List.length_singleton] at e2
        omega
      obtain ⟨g, o, rfl, hc⟩ := hcell k (.string x) (by simp [hx])
      have hc2 := cell_ext hc hW
      have hxz := szl x
      go_wp2_with (first | ((with_reducible refine kn_list_set ?_); (try clear hF); clear hL; intro W hL; (try simp only [kfb] at hL); have hF := hL.facts; (try simp only [Facts, Dist, kd] at hF)) | (go_at_call 28; (((first | (with_reducible refine (WS _ _ _ x _ hI (by (try simp only [ByteArray.size, List.size_toArray, Array.size, List.length_append, List.length_cons, List.length_nil]); omega) hW.size).mono ?_)))); rintro e W1 ⟨rfl, hI1, hb1⟩; (try clear hb0); replace hW := hW.trans hb1; clear hb1 hI; have hI := hI1; clear hI1) | (go_at_call 27; (((first | (with_reducible refine (WB _ _ _ 10 10 nb10 _ hI (by (try simp only [List.length_append, List.length_cons, List.length_nil]); omega) hW.size).mono ?_)))); rintro e W1 ⟨rfl, hI1, hb1⟩; (try clear hb0); replace hW := hW.trans hb1; clear hb1 hI; have hI := hI1; clear hI1))
      go_roundw
      case rel =>
        refine ⟨k + 1, by omega, by go_num, ?_, hW⟩
        have e3 : unlB (l.take (k + 1)) = unlB (l.take k) ++ (x.data.toList ++ [10]) := hft
        rw [e3]; simpa using hI
      case measure => simp [intOf]; omega
    · obtain rfl : k = l.length := by omega
      rw [List.take_length] at hI
      obtain ⟨t, ht⟩ : ∃ t : ByteArray, t.data.toList = unlB l := ⟨⟨(unlB l).toArray⟩, by simp⟩
      go_wp2_with (first | ((with_reducible refine kn_list_set ?_); (try clear hF); clear hL; intro W hL; (try simp only [kfb] at hL); have hF := hL.facts; (try simp only [Facts, Dist, kd] at hF)) | (go_at_call 29; (((with_reducible refine (BS _ _ _ _ hI hW.size t ht).mono ?_))); rintro e W1 ⟨rfl, hI1, hb1⟩; (try clear hb0); replace hW := hW.trans hb1; clear hb1 hI; have hI := hI1; clear hI1))
      (try simp only [Exit.inBlock, Exit.then]); refine bodyPost_ret (by simp [results, Tryz.results17, go_sem, *]; try rfl) rfl ?_
      refine ⟨?_, hW⟩
      congr 2
      apply ba_ext
      rw [ht]

end Go.Proofs.YtfdlifhkeicnnaaGreatDoor
namespace Go.Proofs.YtfdlifhkeicnnaaGreatDoor
open Go Go.RowKit
set_option linter.unusedSimpArgs false
set_option linter.unusedVariables false

/-- A string divided at its line feeds: one piece more than there are. -/
def split10 : Bytes → List Bytes
  | [] => [[]]
  | c :: t => if c = 10 then [] :: split10 t else match split10 t with
    | h :: r => (c :: h) :: r
    | [] => [[c]]
theorem pre10 (b : UInt8) (l : Bytes) : List.isPrefixOf [10] (b :: l) = (b == 10) := by
  simp only [List.isPrefixOf, Bool.and_true]
  by_cases h : b = 10
  · subst h; rfl
  · rw [beq_false_of_ne h, beq_false_of_ne (Ne.symm h)]
theorem split_miss : ∀ s : Bytes, Lib.index s [10] = -1 → split10 s = [s]
  | [], _ => rfl
  | c :: t, h => by
    rw [Lib.index, pre10] at h
    by_cases hc : c = 10
    · subst hc; simp at h
    · rw [beq_false_of_ne hc] at h
      simp only [Bool.false_eq_true, if_false] at h
      have h1 : Lib.index t [10] = -1 := by
        split at h
        · rename_i h2; simpa using h2
        · have := Lib.index_ge t [10]; omega
      rw [split10, if_neg hc, split_miss t h1]
theorem split_hit : ∀ (s : Bytes) (i : Nat), Lib.index s [10] = i → split10 s = s.take i :: split10 (s.drop (i + 1)) ∧ i < s.length
  | [], i, h => by simp [Lib.index] at h
  | c :: t, i, h => by
    rw [Lib.index, pre10] at h
    by_cases hc : c = 10
    · subst hc
      simp at h
      obtain rfl : i = 0 := by omega
      simp [split10]
    · rw [beq_false_of_ne hc] at h
      simp only [Bool.false_eq_true, if_false] at h
      split at h
      · omega
      · obtain ⟨j, rfl⟩ : ∃ j, i = j + 1 := ⟨i - 1, by rename_i h2; have := Lib.index_ge t [10]; simp at h2; omega⟩
        obtain ⟨h3, h4⟩ := split_hit t j (by omega)
        rw [split10, if_neg hc, h3]
        simp; exact h4
theorem splitK_is : ∀ (n : Nat) (s : Bytes), s.length ≤ n → Lib.splitK [10] 0 (Lib.count s [10]) s = split10 s
  | n, s, hn => by
    by_cases hm : Lib.index s [10] = -1
    · rw [Lib.count_miss hm, split_miss s hm]; rfl
    · obtain ⟨i, hi⟩ := Int.eq_ofNat_of_zero_le (show 0 ≤ Lib.index s [10] by have := Lib.index_ge s [10]; omega)
      obtain ⟨h3, h4⟩ := split_hit s i hi
      rw [Lib.count_hit (by simp) hi, Nat.add_comm 1, Lib.splitK, if_neg (by simp; exact hm), h3, hi]
      simp only [Int.toNat_natCast, Nat.add_zero, List.length_singleton]
      match n with
      | 0 => omega
      | n + 1 => rw [splitK_is n (s.drop (i + 1)) (by rw [List.length_drop]; omega)]
theorem split_bytes (s : ByteArray) : ((Lib.splitB ⟨#[10]⟩ 0 (Lib.countB s ⟨#[10]⟩) s).map Value.string) = (split10 s.data.toList).map fun x => Value.string ⟨x.toArray⟩ := by
  have h := Lib.splitB_data ⟨#[10]⟩ 0 (Lib.countB s ⟨#[10]⟩) s
  rw [show (⟨#[10]⟩ : ByteArray).data.toList = [10] from rfl, show Lib.countB s ⟨#[10]⟩ = Lib.count s.data.toList [10] from rfl, splitK_is _ _ (Nat.le_refl _)] at h
  rw [← h, List.map_map]
  exact List.map_congr_left fun x _ => by simp
theorem split_count (s : ByteArray) : Lib.countB s ⟨#[10]⟩ + 1 = (split10 s.data.toList).length := by
  have h1 := Lib.splitB_all ⟨#[10]⟩ (by decide) 0 _ s rfl
  have h2 := congrArg List.length (split_bytes s)
  simp only [List.length_map] at h2
  omega
def linesB (s : Bytes) : List Bytes := if s = [] then [] else split10 (Lib.trimSuffix s [10])
def strs (l : List Bytes) : List Value := l.map fun x => .string ⟨x.toArray⟩
theorem Lines_none (s : ByteArray) (h : s.size = 0) (w : World) : Calls Tryz.prog 16 #[.string s] w fun e w' => e = .returned (.slice none 0 0) ∧ Below w.heap.size w w' := by
  obtain rfl : s = ⟨#[]⟩ := ba_ext (List.eq_nil_of_length_eq_zero (by rw [szl]; exact h))
  have hL : Kn [] w w [] := Kn.refl [] w; (try simp only [kfb] at hL); have hF := hL.facts; (try simp only [Facts, Dist, kd] at hF); go_enter Tryz.func16, Tryz.ntmps16
  go_wp2
  (try simp only [Exit.inBlock, Exit.then]); refine bodyPost_ret (by simp [results, Tryz.results16, go_sem, *]; try rfl) rfl ?_
  exact ⟨rfl, hL.below0⟩
theorem Lines_some (s : ByteArray) (hs : s.size ≤ 100000000) (h : s.size ≠ 0) (w : World) (hT : Tab w) : Calls Tryz.prog 16 #[.string s] w fun e w' =>
    ∃ g, e = .returned (.slice (some ⟨g, 0, none⟩) (linesB s.data.toList).length (linesB s.data.toList).length) ∧ Kn [] w w' [(g, .cells (strs (linesB s.data.toList)).toArray 9 (0, 0))] := by
  have hne : (s.toList == (⟨#[]⟩ : ByteArray).toList) = false := (Lib.bytes_beq_false_iff _ _).2 fun e => h (by rw [e]; rfl)
  have hsn : s.data.toList ≠ [] := fun e => h (by rw [← szl, e]; rfl)
  have hl : linesB s.data.toList = split10 (Lib.trimSuffix s.data.toList [10]) := by unfold linesB; rw [if_neg hsn]
  obtain ⟨t, ht⟩ : ∃ t : ByteArray, t.data.toList = Lib.trimSuffix s.data.toList [10] := ⟨⟨(Lib.trimSuffix s.data.toList [10]).toArray⟩, by simp⟩
  have hts : t.size ≤ 100000000 := by
    rw [← szl, ht]
    unfold Lib.trimSuffix
    split
    · rw [List.length_take, szl]; omega
    · rw [szl]; exact hs
  have htrim : ∀ W, Calls Tryz.prog 38 #[.string s, .string ⟨#[10]⟩] W fun e w' => e = .returned (.string t) ∧ w' = W := fun W =>
    (Tryz.strings_TrimSuffix s ⟨#[10]⟩ W (by omega)).mono fun e w' ⟨h1, h2⟩ => ⟨by rw [h1]; congr 2; exact ba_ext (by rw [ht]), h2⟩
  obtain ⟨m, hm⟩ := hT.2.2.2.2
  have hsp : ∀ W, W = w → Calls Tryz.prog 37 #[.string t, .string ⟨#[10]⟩] W fun e w' => e = .returned (.slice (some ⟨W.heap.size, 0, none⟩) (linesB s.data.toList).length (linesB s.data.toList).length) ∧ Kn [] W w' [(W.heap.size, .cells (strs (linesB s.data.toList)).toArray 9 (0, 0))] := fun W hW =>
    (Tryz.strings_Split t ⟨#[10]⟩ m W (by omega) (by rw [hW]; exact hm) (by decide)).mono fun e w' ⟨h1, h2⟩ => by
      rw [split_bytes, ht, ← hl] at h2
      rw [split_count, ht, ← hl] at h1
      refine ⟨h1, ?_⟩
      rw [h2]
      have hK := Kn.refl [] W
      exact kn_here
  clear hne hsn hl ht
  have hie : s.toList.isEmpty = false := by
    rw [ByteArray.toList_eq]
    cases hd : s.data.toList with
    | nil => exact absurd (by rw [← szl, hd]; rfl) h
    | cons => rfl
  have hne : (s.toList == (⟨#[]⟩ : ByteArray).toList) = false := (Lib.bytes_beq_false_iff _ _).2 fun e => h (by rw [e]; rfl)
  go_enter Tryz.func16, Tryz.ntmps16
  go_wp2_with (first | (go_at_call 38; refine (htrim _).mono ?_; rintro e w' ⟨rfl, rfl⟩) | (go_at_call 37; refine (hsp _ rfl).mono ?_; rintro e w' ⟨rfl, hb⟩))
  (try simp only [Exit.inBlock, Exit.then]); refine bodyPost_ret (by simp [results, Tryz.results16, go_sem, *]; try rfl) rfl ?_
  exact ⟨_, rfl, hb⟩

end Go.Proofs.YtfdlifhkeicnnaaGreatDoor
namespace Go.Proofs.YtfdlifhkeicnnaaGreatDoor
open Go Go.RowKit
set_option linter.unusedSimpArgs false
set_option linter.unusedVariables false
set_option maxRecDepth 20000 in
set_option maxHeartbeats 4000000 in
theorem integer_some (s : ByteArray) (hs : s.size ≤ 1000000) (n : Int) (hc : canon s.data.toList = some n) (w : World) (hT : Tab w) : Calls Tryz.prog 102 #[.string s] w fun e w' => e = .returned (.int .i64 n) ∧ Below w.heap.size w w' := by
  have hL : Kn [] w w [] := Kn.refl [] w; (try simp only [kfb] at hL); have hF := hL.facts; (try simp only [Facts, Dist, kd] at hF); go_enter Tryz.func102, Tryz.ntmps102
  go_wp2_with (first | ((with_reducible refine kn_list_set ?_); (try clear hF); clear hL; intro W hL; (try simp only [kfb] at hL); have hF := hL.facts; (try simp only [Facts, Dist, kd] at hF)) | (go_at_call 126; refine kn_calls ?_; (try clear hF); clear hL; intro W hL; (try simp only [kfb] at hL); have hF := hL.facts; (try simp only [Facts, Dist, kd] at hF); (((with_reducible refine (Int_some s (by omega) n hc _ (hT.kn hL (by simp))).mono ?_))); rintro e W ⟨rfl, hb⟩; replace hL := hL.below hb; clear hb; (try clear hF); (try simp only [kfb] at hL); have hF := hL.facts; (try simp only [Facts, Dist, kd] at hF)) | (go_at_call 100; (((first | (with_reducible refine (need_ok _ _).mono ?_) | (with_reducible refine (need_bad _ _).mono ?_)))); rintro e w' ⟨rfl, rfl⟩))
  (try simp only [Exit.inBlock, Exit.then]); refine bodyPost_ret (by simp [results, Tryz.results102, go_sem, *]; try rfl) rfl ?_
  exact ⟨rfl, hL.below0⟩
set_option maxRecDepth 20000 in
set_option maxHeartbeats 4000000 in
theorem integer_none (s : ByteArray) (hs : s.size ≤ 1000000) (hc : canon s.data.toList = none) (w : World) (hT : Tab w) : Calls Tryz.prog 102 #[.string s] w fun e w' => e = .panicked [{ v := .iface 56 (.int .i64 2), recovered := false }] ∧ Below w.heap.size w w' := by
  have hL : Kn [] w w [] := Kn.refl [] w; (try simp only [kfb] at hL); have hF := hL.facts; (try simp only [Facts, Dist, kd] at hF); go_enter Tryz.func102, Tryz.ntmps102
  go_wp2_with (first | ((with_reducible refine kn_list_set ?_); (try clear hF); clear hL; intro W hL; (try simp only [kfb] at hL); have hF := hL.facts; (try simp only [Facts, Dist, kd] at hF)) | (go_at_call 126; refine kn_calls ?_; (try clear hF); clear hL; intro W hL; (try simp only [kfb] at hL); have hF := hL.facts; (try simp only [Facts, Dist, kd] at hF); (((with_reducible refine (Int_none s (by omega) hc _ (hT.kn hL (by simp))).mono ?_))); rintro e W ⟨rfl, hb⟩; replace hL := hL.below hb; clear hb; (try clear hF); (try simp only [kfb] at hL); have hF := hL.facts; (try simp only [Facts, Dist, kd] at hF)) | (go_at_call 100; (((first | (with_reducible refine (need_ok _ _).mono ?_) | (with_reducible refine (need_bad _ _).mono ?_)))); rintro e w' ⟨rfl, rfl⟩))
  exact ⟨rfl, rfl, hL.below0⟩

end Go.Proofs.YtfdlifhkeicnnaaGreatDoor
namespace Go.Proofs.YtfdlifhkeicnnaaGreatDoor
open Go Go.RowKit
set_option linter.unusedSimpArgs false
set_option linter.unusedVariables false
set_option maxRecDepth 20000 in
set_option maxHeartbeats 4000000 in
theorem number_some (s : ByteArray) (hs : s.size ≤ 1000000) (lo hi : Int) (n : Int) (hc : canon s.data.toList = some n) (h : lo ≤ n ∧ n ≤ hi) (w : World) (hT : Tab w) : Calls Tryz.prog 127 #[.string s, .int .i64 lo, .int .i64 hi] w fun e w' => e = .returned (.int .i64 n) ∧ Below w.heap.size w w' := by
  have q1 : decide (lo ≤ n) = true := decide_eq_true h.1
  have q2 : decide (n ≤ hi) = true := decide_eq_true h.2
  clear h
  have hL : Kn [] w w [] := Kn.refl [] w; (try simp only [kfb] at hL); have hF := hL.facts; (try simp only [Facts, Dist, kd] at hF); go_enter Tryz.func127, Tryz.ntmps127
  go_wp2_with (first | ((with_reducible refine kn_list_set ?_); (try clear hF); clear hL; intro W hL; (try simp only [kfb] at hL); have hF := hL.facts; (try simp only [Facts, Dist, kd] at hF)) | (go_at_call 126; refine kn_calls ?_; (try clear hF); clear hL; intro W hL; (try simp only [kfb] at hL); have hF := hL.facts; (try simp only [Facts, Dist, kd] at hF); (((with_reducible refine (Int_some s (by omega) n hc _ (hT.kn hL (by simp))).mono ?_))); rintro e W ⟨rfl, hb⟩; replace hL := hL.below hb; clear hb; (try clear hF); (try simp only [kfb] at hL); have hF := hL.facts; (try simp only [Facts, Dist, kd] at hF)) | (go_at_call 100; (((first | (with_reducible refine (need_ok _ _).mono ?_) | (with_reducible refine (need_bad _ _).mono ?_)))); rintro e w' ⟨rfl, rfl⟩))
  (try simp only [Exit.inBlock, Exit.then]); refine bodyPost_ret (by simp [results, Tryz.results127, go_sem, *]; try rfl) rfl ?_
  exact ⟨rfl, hL.below0⟩
set_option maxRecDepth 20000 in
set_option maxHeartbeats 4000000 in
theorem number_low (s : ByteArray) (hs : s.size ≤ 1000000) (lo hi : Int) (n : Int) (hc : canon s.data.toList = some n) (h : ¬ lo ≤ n) (w : World) (hT : Tab w) : Calls Tryz.prog 127 #[.string s, .int .i64 lo, .int .i64 hi] w fun e w' => e = .panicked [{ v := .iface 56 (.int .i64 3), recovered := false }] ∧ Below w.heap.size w w' := by
  have q1 : decide (lo ≤ n) = false := decide_eq_false h
  clear h
  have hL : Kn [] w w [] := Kn.refl [] w; (try simp only [kfb] at hL); have hF := hL.facts; (try simp only [Facts, Dist, kd] at hF); go_enter Tryz.func127, Tryz.ntmps127
  go_wp2_with (first | ((with_reducible refine kn_list_set ?_); (try clear hF); clear hL; intro W hL; (try simp only [kfb] at hL); have hF := hL.facts; (try simp only [Facts, Dist, kd] at hF)) | (go_at_call 126; refine kn_calls ?_; (try clear hF); clear hL; intro W hL; (try simp only [kfb] at hL); have hF := hL.facts; (try simp only [Facts, Dist, kd] at hF); (((with_reducible refine (Int_some s (by omega) n hc _ (hT.kn hL (by simp))).mono ?_))); rintro e W ⟨rfl, hb⟩; replace hL := hL.below hb; clear hb; (try clear hF); (try simp only [kfb] at hL); have hF := hL.facts; (try simp only [Facts, Dist, kd] at hF)) | (go_at_call 100; (((first | (with_reducible refine (need_ok _ _).mono ?_) | (with_reducible refine (need_bad _ _).mono ?_)))); rintro e w' ⟨rfl, rfl⟩))
  exact ⟨rfl, rfl, hL.below0⟩
set_option maxRecDepth 20000 in
set_option maxHeartbeats 4000000 in
theorem number_high (s : ByteArray) (hs : s.size ≤ 1000000) (lo hi : Int) (n : Int) (hc : canon s.data.toList = some n) (h : lo ≤ n) (h2 : ¬ n ≤ hi) (w : World) (hT : Tab w) : Calls Tryz.prog 127 #[.string s, .int .i64 lo, .int .i64 hi] w fun e w' => e = .panicked [{ v := .iface 56 (.int .i64 3), recovered := false }] ∧ Below w.heap.size w w' := by
  have q1 : decide (lo ≤ n) = true := decide_eq_true h
  have q2 : decide (n ≤ hi) = false := decide_eq_false h2
  clear h h2
  have hL : Kn [] w w [] := Kn.refl [] w; (try simp only [kfb] at hL); have hF := hL.facts; (try simp only [Facts, Dist, kd] at hF); go_enter Tryz.func127, Tryz.ntmps127
  go_wp2_with (first | ((with_reducible refine kn_list_set ?_); (try clear hF); clear hL; intro W hL; (try simp only [kfb] at hL); have hF := hL.facts; (try simp only [Facts, Dist, kd] at hF)) | (go_at_call 126; refine kn_calls ?_; (try clear hF); clear hL; intro W hL; (try simp only [kfb] at hL); have hF := hL.facts; (try simp only [Facts, Dist, kd] at hF); (((with_reducible refine (Int_some s (by omega) n hc _ (hT.kn hL (by simp))).mono ?_))); rintro e W ⟨rfl, hb⟩; replace hL := hL.below hb; clear hb; (try clear hF); (try simp only [kfb] at hL); have hF := hL.facts; (try simp only [Facts, Dist, kd] at hF)) | (go_at_call 100; (((first | (with_reducible refine (need_ok _ _).mono ?_) | (with_reducible refine (need_bad _ _).mono ?_)))); rintro e w' ⟨rfl, rfl⟩))
  exact ⟨rfl, rfl, hL.below0⟩
set_option maxRecDepth 20000 in
set_option maxHeartbeats 4000000 in
theorem number_none (s : ByteArray) (hs : s.size ≤ 1000000) (lo hi : Int) (hc : canon s.data.toList = none) (w : World) (hT : Tab w) : Calls Tryz.prog 127 #[.string s, .int .i64 lo, .int .i64 hi] w fun e w' => e = .panicked [{ v := .iface 56 (.int .i64 2), recovered := false }] ∧ Below w.heap.size w w' := by
  skip
  have hL : Kn [] w w [] := Kn.refl [] w; (try simp only [kfb] at hL); have hF := hL.facts; (try simp only [Facts, Dist, kd] at hF); go_enter Tryz.func127, Tryz.ntmps127
  go_wp2_with (first | ((with_reducible refine kn_list_set ?_); (try clear hF); clear hL; intro W hL; (try simp only [kfb] at hL); have hF := hL.facts; (try simp only [Facts, Dist, kd] at hF)) | (go_at_call 126; refine kn_calls ?_; (try clear hF); clear hL; intro W hL; (try simp only [kfb] at hL); have hF := hL.facts; (try simp only [Facts, Dist, kd] at hF); (((with_reducible refine (Int_none s (by omega) hc _ (hT.kn hL (by simp))).mono ?_))); rintro e W ⟨rfl, hb⟩; replace hL := hL.below hb; clear hb; (try clear hF); (try simp only [kfb] at hL); have hF := hL.facts; (try simp only [Facts, Dist, kd] at hF)) | (go_at_call 100; (((first | (with_reducible refine (need_ok _ _).mono ?_) | (with_reducible refine (need_bad _ _).mono ?_)))); rintro e w' ⟨rfl, rfl⟩))
  exact ⟨rfl, rfl, hL.below0⟩

end Go.Proofs.YtfdlifhkeicnnaaGreatDoor
