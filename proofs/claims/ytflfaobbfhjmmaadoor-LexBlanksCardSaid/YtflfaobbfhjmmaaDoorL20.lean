import Derived.Test.YtflfaobbfhjmmaaDoorProg
import Derived.WalkKit
import Derived.Handy
import Derived.Deep.Light
import Derived.WalkSmall
import Derived.StillTailTactics
import Derived.Lib.Hide
import Derived.Test.YtflfaobbfhjmmaaDoorT0
import Derived.Test.YtflfaobbfhjmmaaDoorIt
import Derived.Test.YtflfaobbfhjmmaaDoorL19
namespace Go.Proofs.YtflfaobbfhjmmaaDoor
open Go Go.RowKit
set_option linter.unusedSimpArgs false
set_option linter.unusedVariables false

def TPost (src : ByteArray) (b : Nat) (X : List Nat) (w : World) (v : Value) (LO : List (Nat × Obj)) (tvs : List (Tok × Value)) (s : Step) (e : Ending) (w' : World) : Prop := match s with
  | .skip r m => e = .returned (.tuple #[]) ∧ ∃ at2 : Nat, at2 ≤ src.size ∧ src.data.toList.drop at2 = r ∧ Kn X w w' ((b, .cells #[.string src, .int .i64 (at2), .int .i64 (m), v] 43 (0, 0)) :: LO)
  | .bad m => e = .panicked [{ v := .iface 39 (.agg #[.int .i64 27, .int .i64 m]), recovered := false }] ∧ Kn X w w' []
  | .tok t r m => if tvs.length < 2000 then e = .returned (.tuple #[]) ∧ ∃ (at2 : Nat) (v2 : Value) (LO2 : List (Nat × Obj)) (pv : Value) (LP : List (Nat × Obj)), at2 ≤ src.size ∧ src.data.toList.drop at2 = r ∧ OutL LO2 v2 (tvs ++ [(t, pv)]) ∧ PtL LP pv t.parts ∧ Kn X w w' ((b, .cells #[.string src, .int .i64 (at2), .int .i64 (m), v2] 43 (0, 0)) :: (LO2 ++ LP))
      else e = .panicked [{ v := .iface 39 (.agg #[.int .i64 6, .int .i64 t.line]), recovered := false }] ∧ Kn X w w' []
theorem hp_take (l p : Bytes) : Lib.hasPrefix l p = decide (l.take p.length = p) := by
  unfold Lib.hasPrefix
  by_cases h : l.take p.length = p
  · rw [decide_eq_true h, List.isPrefixOf_iff_prefix]
    exact ⟨l.drop p.length, by rw [← List.take_append_drop p.length l, h]; simp⟩
  · rw [decide_eq_false h]
    cases hp : p.isPrefixOf l with
    | false => rfl
    | true =>
      rw [List.isPrefixOf_iff_prefix] at hp
      obtain ⟨x, rfl⟩ := hp
      simp at h
set_option maxRecDepth 20000 in
set_option maxHeartbeats 4000000 in
theorem io_is (src : ByteArray) (hs0 : src.size ≤ 10000) (v : Value) (b : Nat) (at_ ln : Nat) (w : World) (LO : List (Nat × Obj)) (tvs : List (Tok × Value)) (hL : Kn (b :: keys LO) w w ((b, .cells #[.string src, .int .i64 (at_), .int .i64 (ln), v] 43 (0, 0)) :: LO)) (hO : OutL LO v tvs) (hln : ln ≤ 100000) (l : Bytes) (hd : src.data.toList.drop at_ = l) (hc : l.head? = some 60 ∨ l.head? = some 62) (fd : Int) (n : Nat) :
    Calls Tryd.prog 20 #[.pointer (some ⟨b, 0, none⟩), .int .i64 fd, .int .i64 n] w (TPost src b (b :: keys LO) w v LO tvs (ioS l fd n ln)) := by
  have hsl := szl src
  have hs : src.size ≤ 100000 := by omega
  have hlt : at_ < src.size := by
    rcases Nat.lt_or_ge at_ src.size with h | h
    · exact h
    · rw [List.drop_eq_nil_of_le (by omega)] at hd
      subst hd; rcases hc with h | h <;> cases h
  have hll : l.length = src.size - at_ := by rw [← hd, List.length_drop, hsl]
  unfold ioS
  by_cases ha : l.take 2 = [62, 62]
  · rw [if_pos (.inl ha)]
    have hA : Hid (Lib.hasPrefix (src.data.toList.drop at_) (⟨#[62, 62]⟩ : ByteArray).data.toList = true) := Lib.hid (by rw [hd, hp_take]; exact decide_eq_true ha)
    have hlk : (l.take 2).length = 2 := by rw [ha]; rfl
    have hlf0 : lf (l.take 2) = 0 := by rw [ha]; rfl
    clear ha hc hll
    have hne : l.take 2 ≠ [] := by intro h; have := congrArg List.length h; rw [hlk] at this; cases this
    have HNE := Lib.hid hne
    have hxx : src.data.toList.drop at_ = l.take 2 ++ l.drop 2 := by rw [List.take_append_drop]; exact hd
    have HX := Lib.hid hxx
    obtain ⟨hc1, hc2, hc3⟩ := cut_x hxx
    have hc4 := hc3 hne
    rw [hsl] at hc4
    have HC := Lib.hid hc2
    have hlf : lf (l.take 2) = 0 := hlf0
    have HLF := Lib.hid hlf
    have HLK := Lib.hid hlk
    clear hne hxx hc1 hc2 hc3 hlf hlf0 hlk hd
    unfold TPost
    by_cases hf : tvs.length < 2000
    · simp only [if_pos hf]
      (try simp only [kfb] at hL); have hF := hL.facts; (try simp only [Facts, Dist, kfa, implies_true, forall_const] at hF)
      go_enter Tryd.func20, Tryd.ntmps20
      go_wp2_with (first | ((with_reducible refine kn_list_set ?_); (try clear hF); clear hL; intro W hL; (try simp only [kfb] at hL); have hF := hL.facts; (try simp only [Facts, Dist, kfa, implies_true, forall_const] at hF)) | (go_at_call 19; refine kn_calls ?_; (try clear hF); clear hL; intro W hL; (try simp only [kfb] at hL); have hF := hL.facts; (try simp only [Facts, Dist, kfa, implies_true, forall_const] at hF); (((first | (with_reducible refine (rest_is src ⟨#[62, 62]⟩ at_ ln v b _ (by first | exact hL.has _ List.mem_cons_self | exact hL.has _ (List.mem_cons_of_mem _ List.mem_cons_self) | exact hL.has _ (List.mem_cons_of_mem _ (List.mem_cons_of_mem _ List.mem_cons_self)) | exact hL.has _ (List.mem_cons_of_mem _ (List.mem_cons_of_mem _ (List.mem_cons_of_mem _ List.mem_cons_self))) | exact hL.has _ (List.mem_cons_of_mem _ (List.mem_cons_of_mem _ (List.mem_cons_of_mem _ (List.mem_cons_of_mem _ List.mem_cons_self)))) | exact hL.has _ (List.mem_cons_of_mem _ (List.mem_cons_of_mem _ (List.mem_cons_of_mem _ (List.mem_cons_of_mem _ (List.mem_cons_of_mem _ List.mem_cons_self)))))) (by omega) hs true hA.out).mono ?_)))); rintro e W ⟨rfl, hb⟩; replace hL := hL.below hb; clear hb; (try clear hF); (try simp only [kfb] at hL); have hF := hL.facts; (try simp only [Facts, Dist, kfa, implies_true, forall_const] at hF)) | (go_at_call 18; refine kn_calls ?_; (try clear hF); clear hL; intro W hL; (try simp only [kfb] at hL); have hF := hL.facts; (try simp only [Facts, Dist, kfa, implies_true, forall_const] at hF); (((with_reducible refine (one_text src hs0 v b at_ ln _ LO tvs (by first | exact hL.self0q | exact hL.self1q) hO hln 2 2 rfl (by omega) (l.take 2) (l.drop 2) HX.out HNE.out _ (by rw [HLK.out]; first | (simp; done) | (simp; omega)) fd n _ (by first | rfl | omega)).mono ?_))); rintro e W2 hb; (simp only [OPost, if_pos hf] at hb); obtain ⟨rfl, v2, LO2, pv2, rfl, hO2, hb⟩ := hb; (first | replace hL := hL.tail0 hb | replace hL := hL.tail1 hb); clear hb hF; (try simp only [kfb] at hL); have hF := hL.facts; (try simp only [Facts, Dist, kfa, implies_true, forall_const] at hF)))
      go_end0
      rw [HLF.out] at hL
      exact ⟨rfl, _, v2, LO2, .slice none 0 0, [], hc4, HC.out, hO2, .inl ⟨rfl, rfl, rfl⟩, by rw [List.append_nil]; exact hL⟩
    · simp only [if_neg hf]
      (try simp only [kfb] at hL); have hF := hL.facts; (try simp only [Facts, Dist, kfa, implies_true, forall_const] at hF)
      go_enter Tryd.func20, Tryd.ntmps20
      go_wp2_with (first | ((with_reducible refine kn_list_set ?_); (try clear hF); clear hL; intro W hL; (try simp only [kfb] at hL); have hF := hL.facts; (try simp only [Facts, Dist, kfa, implies_true, forall_const] at hF)) | (go_at_call 19; refine kn_calls ?_; (try clear hF); clear hL; intro W hL; (try simp only [kfb] at hL); have hF := hL.facts; (try simp only [Facts, Dist, kfa, implies_true, forall_const] at hF); (((first | (with_reducible refine (rest_is src ⟨#[62, 62]⟩ at_ ln v b _ (by first | exact hL.has _ List.mem_cons_self | exact hL.has _ (List.mem_cons_of_mem _ List.mem_cons_self) | exact hL.has _ (List.mem_cons_of_mem _ (List.mem_cons_of_mem _ List.mem_cons_self)) | exact hL.has _ (List.mem_cons_of_mem _ (List.mem_cons_of_mem _ (List.mem_cons_of_mem _ List.mem_cons_self))) | exact hL.has _ (List.mem_cons_of_mem _ (List.mem_cons_of_mem _ (List.mem_cons_of_mem _ (List.mem_cons_of_mem _ List.mem_cons_self)))) | exact hL.has _ (List.mem_cons_of_mem _ (List.mem_cons_of_mem _ (List.mem_cons_of_mem _ (List.mem_cons_of_mem _ (List.mem_cons_of_mem _ List.mem_cons_self)))))) (by omega) hs true hA.out).mono ?_)))); rintro e W ⟨rfl, hb⟩; replace hL := hL.below hb; clear hb; (try clear hF); (try simp only [kfb] at hL); have hF := hL.facts; (try simp only [Facts, Dist, kfa, implies_true, forall_const] at hF)) | (go_at_call 18; refine kn_calls ?_; (try clear hF); clear hL; intro W hL; (try simp only [kfb] at hL); have hF := hL.facts; (try simp only [Facts, Dist, kfa, implies_true, forall_const] at hF); (((with_reducible refine (one_text src hs0 v b at_ ln _ LO tvs (by first | exact hL.self0q | exact hL.self1q) hO hln 2 2 rfl (by omega) (l.take 2) (l.drop 2) HX.out HNE.out _ (by rw [HLK.out]; first | (simp; done) | (simp; omega)) fd n _ (by first | rfl | omega)).mono ?_))); rintro e W2 hb; (simp only [OPost, if_neg hf] at hb); obtain ⟨rfl, hb⟩ := hb; (first | replace hL := hL.tail0 hb | replace hL := hL.tail1 hb); clear hb hF; (try simp only [kfb] at hL); have hF := hL.facts; (try simp only [Facts, Dist, kfa, implies_true, forall_const] at hF)))
      exact ⟨rfl, rfl, hL⟩
  have hA : Hid (Lib.hasPrefix (src.data.toList.drop at_) (⟨#[62, 62]⟩ : ByteArray).data.toList = false) := Lib.hid (by rw [hd, hp_take]; exact decide_eq_false ha)
  by_cases hb : l.take 2 = [62, 38]
  · rw [if_pos (.inr hb)]
    have hB : Hid (Lib.hasPrefix (src.data.toList.drop at_) (⟨#[62, 38]⟩ : ByteArray).data.toList = true) := Lib.hid (by rw [hd, hp_take]; exact decide_eq_true hb)
    have hlk : (l.take 2).length = 2 := by rw [hb]; rfl
    have hlf0 : lf (l.take 2) = 0 := by rw [hb]; rfl
    clear ha hb hc hll
    have hne : l.take 2 ≠ [] := by intro h; have := congrArg List.length h; rw [hlk] at this; cases this
    have HNE := Lib.hid hne
    have hxx : src.data.toList.drop at_ = l.take 2 ++ l.drop 2 := by rw [List.take_append_drop]; exact hd
    have HX := Lib.hid hxx
    obtain ⟨hc1, hc2, hc3⟩ := cut_x hxx
    have hc4 := hc3 hne
    rw [hsl] at hc4
    have HC := Lib.hid hc2
    have hlf : lf (l.take 2) = 0 := hlf0
    have HLF := Lib.hid hlf
    have HLK := Lib.hid hlk
    clear hne hxx hc1 hc2 hc3 hlf hlf0 hlk hd
    unfold TPost
    by_cases hf : tvs.length < 2000
    · simp only [if_pos hf]
      (try simp only [kfb] at hL); have hF := hL.facts; (try simp only [Facts, Dist, kfa, implies_true, forall_const] at hF)
      go_enter Tryd.func20, Tryd.ntmps20
      go_wp2_with (first | ((with_reducible refine kn_list_set ?_); (try clear hF); clear hL; intro W hL; (try simp only [kfb] at hL); have hF := hL.facts; (try simp only [Facts, Dist, kfa, implies_true, forall_const] at hF)) | (go_at_call 19; refine kn_calls ?_; (try clear hF); clear hL; intro W hL; (try simp only [kfb] at hL); have hF := hL.facts; (try simp only [Facts, Dist, kfa, implies_true, forall_const] at hF); (((first | (with_reducible refine (rest_is src ⟨#[62, 62]⟩ at_ ln v b _ (by first | exact hL.has _ List.mem_cons_self | exact hL.has _ (List.mem_cons_of_mem _ List.mem_cons_self) | exact hL.has _ (List.mem_cons_of_mem _ (List.mem_cons_of_mem _ List.mem_cons_self)) | exact hL.has _ (List.mem_cons_of_mem _ (List.mem_cons_of_mem _ (List.mem_cons_of_mem _ List.mem_cons_self))) | exact hL.has _ (List.mem_cons_of_mem _ (List.mem_cons_of_mem _ (List.mem_cons_of_mem _ (List.mem_cons_of_mem _ List.mem_cons_self)))) | exact hL.has _ (List.mem_cons_of_mem _ (List.mem_cons_of_mem _ (List.mem_cons_of_mem _ (List.mem_cons_of_mem _ (List.mem_cons_of_mem _ List.mem_cons_self)))))) (by omega) hs false hA.out).mono ?_) | (with_reducible refine (rest_is src ⟨#[62, 38]⟩ at_ ln v b _ (by first | exact hL.has _ List.mem_cons_self | exact hL.has _ (List.mem_cons_of_mem _ List.mem_cons_self) | exact hL.has _ (List.mem_cons_of_mem _ (List.mem_cons_of_mem _ List.mem_cons_self)) | exact hL.has _ (List.mem_cons_of_mem _ (List.mem_cons_of_mem _ (List.mem_cons_of_mem _ List.mem_cons_self))) | exact hL.has _ (List.mem_cons_of_mem _ (List.mem_cons_of_mem _ (List.mem_cons_of_mem _ (List.mem_cons_of_mem _ List.mem_cons_self)))) | exact hL.has _ (List.mem_cons_of_mem _ (List.mem_cons_of_mem _ (List.mem_cons_of_mem _ (List.mem_cons_of_mem _ (List.mem_cons_of_mem _ List.mem_cons_self)))))) (by omega) hs true hB.out).mono ?_)))); rintro e W ⟨rfl, hb⟩; replace hL := hL.below hb; clear hb; (try clear hF); (try simp only [kfb] at hL); have hF := hL.facts; (try simp only [Facts, Dist, kfa, implies_true, forall_const] at hF)) | (go_at_call 18; refine kn_calls ?_; (try clear hF); clear hL; intro W hL; (try simp only [kfb] at hL); have hF := hL.facts; (try simp only [Facts, Dist, kfa, implies_true, forall_const] at hF); (((with_reducible refine (one_text src hs0 v b at_ ln _ LO tvs (by first | exact hL.self0q | exact hL.self1q) hO hln 2 2 rfl (by omega) (l.take 2) (l.drop 2) HX.out HNE.out _ (by rw [HLK.out]; first | (simp; done) | (simp; omega)) fd n _ (by first | rfl | omega)).mono ?_))); rintro e W2 hb; (simp only [OPost, if_pos hf] at hb); obtain ⟨rfl, v2, LO2, pv2, rfl, hO2, hb⟩ := hb; (first | replace hL := hL.tail0 hb | replace hL := hL.tail1 hb); clear hb hF; (try simp only [kfb] at hL); have hF := hL.facts; (try simp only [Facts, Dist, kfa, implies_true, forall_const] at hF)))
      go_end0
      rw [HLF.out] at hL
      exact ⟨rfl, _, v2, LO2, .slice none 0 0, [], hc4, HC.out, hO2, .inl ⟨rfl, rfl, rfl⟩, by rw [List.append_nil]; exact hL⟩
    · simp only [if_neg hf]
      (try simp only [kfb] at hL); have hF := hL.facts; (try simp only [Facts, Dist, kfa, implies_true, forall_const] at hF)
      go_enter Tryd.func20, Tryd.ntmps20
      go_wp2_with (first | ((with_reducible refine kn_list_set ?_); (try clear hF); clear hL; intro W hL; (try simp only [kfb] at hL); have hF := hL.facts; (try simp only [Facts, Dist, kfa, implies_true, forall_const] at hF)) | (go_at_call 19; refine kn_calls ?_; (try clear hF); clear hL; intro W hL; (try simp only [kfb] at hL); have hF := hL.facts; (try simp only [Facts, Dist, kfa, implies_true, forall_const] at hF); (((first | (with_reducible refine (rest_is src ⟨#[62, 62]⟩ at_ ln v b _ (by first | exact hL.has _ List.mem_cons_self | exact hL.has _ (List.mem_cons_of_mem _ List.mem_cons_self) | exact hL.has _ (List.mem_cons_of_mem _ (List.mem_cons_of_mem _ List.mem_cons_self)) | exact hL.has _ (List.mem_cons_of_mem _ (List.mem_cons_of_mem _ (List.mem_cons_of_mem _ List.mem_cons_self))) | exact hL.has _ (List.mem_cons_of_mem _ (List.mem_cons_of_mem _ (List.mem_cons_of_mem _ (List.mem_cons_of_mem _ List.mem_cons_self)))) | exact hL.has _ (List.mem_cons_of_mem _ (List.mem_cons_of_mem _ (List.mem_cons_of_mem _ (List.mem_cons_of_mem _ (List.mem_cons_of_mem _ List.mem_cons_self)))))) (by omega) hs false hA.out).mono ?_) | (with_reducible refine (rest_is src ⟨#[62, 38]⟩ at_ ln v b _ (by first | exact hL.has _ List.mem_cons_self | exact hL.has _ (List.mem_cons_of_mem _ List.mem_cons_self) | exact hL.has _ (List.mem_cons_of_mem _ (List.mem_cons_of_mem _ List.mem_cons_self)) | exact hL.has _ (List.mem_cons_of_mem _ (List.mem_cons_of_mem _ (List.mem_cons_of_mem _ List.mem_cons_self))) | exact hL.has _ (List.mem_cons_of_mem _ (List.mem_cons_of_mem _ (List.mem_cons_of_mem _ (List.mem_cons_of_mem _ List.mem_cons_self)))) | exact hL.has _ (List.mem_cons_of_mem _ (List.mem_cons_of_mem _ (List.mem_cons_of_mem _ (List.mem_cons_of_mem _ (List.mem_cons_of_mem _ List.mem_cons_self)))))) (by omega) hs true hB.out).mono ?_)))); rintro e W ⟨rfl, hb⟩; replace hL := hL.below hb; clear hb; (try clear hF); (try simp only [kfb] at hL); have hF := hL.facts; (try simp only [Facts, Dist, kfa, implies_true, forall_const] at hF)) | (go_at_call 18; refine kn_calls ?_; (try clear hF); clear hL; intro W hL; (try simp only [kfb] at hL); have hF := hL.facts; (try simp only [Facts, Dist, kfa, implies_true, forall_const] at hF); (((with_reducible refine (one_text src hs0 v b at_ ln _ LO tvs (by first | exact hL.self0q | exact hL.self1q) hO hln 2 2 rfl (by omega) (l.take 2) (l.drop 2) HX.out HNE.out _ (by rw [HLK.out]; first | (simp; done) | (simp; omega)) fd n _ (by first | rfl | omega)).mono ?_))); rintro e W2 hb; (simp only [OPost, if_neg hf] at hb); obtain ⟨rfl, hb⟩ := hb; (first | replace hL := hL.tail0 hb | replace hL := hL.tail1 hb); clear hb hF; (try simp only [kfb] at hL); have hF := hL.facts; (try simp only [Facts, Dist, kfa, implies_true, forall_const] at hF)))
      exact ⟨rfl, rfl, hL⟩
  rw [if_neg (fun h => h.elim ha hb)]
  have hB : Hid (Lib.hasPrefix (src.data.toList.drop at_) (⟨#[62, 38]⟩ : ByteArray).data.toList = false) := Lib.hid (by rw [hd, hp_take]; exact decide_eq_false hb)
  have hlk : (l.take 1).length = 1 := by rw [List.length_take]; omega
  have hlf0 : lf (l.take 1) = 0 := by
    cases l with
    | nil => rfl
    | cons c t =>
      simp only [List.head?_cons, Option.some.injEq] at hc
      rcases hc with rfl | rfl <;> rfl
  clear ha hb hc hll
  have hne : l.take 1 ≠ [] := by intro h; have := congrArg List.length h; rw [hlk] at this; cases this
  have HNE := Lib.hid hne
  have hxx : src.data.toList.drop at_ = l.take 1 ++ l.drop 1 := by rw [List.take_append_drop]; exact hd
  have HX := Lib.hid hxx
  obtain ⟨hc1, hc2, hc3⟩ := cut_x hxx
  have hc4 := hc3 hne
  rw [hsl] at hc4
  have HC := Lib.hid hc2
  have hlf : lf (l.take 1) = 0 := hlf0
  have HLF := Lib.hid hlf
  have HLK := Lib.hid hlk
  clear hne hxx hc1 hc2 hc3 hlf hlf0 hlk hd
  unfold TPost
  by_cases hf : tvs.length < 2000
  · simp only [if_pos hf]
    (try simp only [kfb] at hL); have hF := hL.facts; (try simp only [Facts, Dist, kfa, implies_true, forall_const] at hF)
    go_enter Tryd.func20, Tryd.ntmps20
    go_wp2_with (first | ((with_reducible refine kn_list_set ?_); (try clear hF); clear hL; intro W hL; (try simp only [kfb] at hL); have hF := hL.facts; (try simp only [Facts, Dist, kfa, implies_true, forall_const] at hF)) | (go_at_call 19; refine kn_calls ?_; (try clear hF); clear hL; intro W hL; (try simp only [kfb] at hL); have hF := hL.facts; (try simp only [Facts, Dist, kfa, implies_true, forall_const] at hF); (((first | (with_reducible refine (rest_is src ⟨#[62, 62]⟩ at_ ln v b _ (by first | exact hL.has _ List.mem_cons_self | exact hL.has _ (List.mem_cons_of_mem _ List.mem_cons_self) | exact hL.has _ (List.mem_cons_of_mem _ (List.mem_cons_of_mem _ List.mem_cons_self)) | exact hL.has _ (List.mem_cons_of_mem _ (List.mem_cons_of_mem _ (List.mem_cons_of_mem _ List.mem_cons_self))) | exact hL.has _ (List.mem_cons_of_mem _ (List.mem_cons_of_mem _ (List.mem_cons_of_mem _ (List.mem_cons_of_mem _ List.mem_cons_self)))) | exact hL.has _ (List.mem_cons_of_mem _ (List.mem_cons_of_mem _ (List.mem_cons_of_mem _ (List.mem_cons_of_mem _ (List.mem_cons_of_mem _ List.mem_cons_self)))))) (by omega) hs false hA.out).mono ?_) | (with_reducible refine (rest_is src ⟨#[62, 38]⟩ at_ ln v b _ (by first | exact hL.has _ List.mem_cons_self | exact hL.has _ (List.mem_cons_of_mem _ List.mem_cons_self) | exact hL.has _ (List.mem_cons_of_mem _ (List.mem_cons_of_mem _ List.mem_cons_self)) | exact hL.has _ (List.mem_cons_of_mem _ (List.mem_cons_of_mem _ (List.mem_cons_of_mem _ List.mem_cons_self))) | exact hL.has _ (List.mem_cons_of_mem _ (List.mem_cons_of_mem _ (List.mem_cons_of_mem _ (List.mem_cons_of_mem _ List.mem_cons_self)))) | exact hL.has _ (List.mem_cons_of_mem _ (List.mem_cons_of_mem _ (List.mem_cons_of_mem _ (List.mem_cons_of_mem _ (List.mem_cons_of_mem _ List.mem_cons_self)))))) (by omega) hs false hB.out).mono ?_)))); rintro e W ⟨rfl, hb⟩; replace hL := hL.below hb; clear hb; (try clear hF); (try simp only [kfb] at hL); have hF := hL.facts; (try simp only [Facts, Dist, kfa, implies_true, forall_const] at hF)) | (go_at_call 18; refine kn_calls ?_; (try clear hF); clear hL; intro W hL; (try simp only [kfb] at hL); have hF := hL.facts; (try simp only [Facts, Dist, kfa, implies_true, forall_const] at hF); (((with_reducible refine (one_text src hs0 v b at_ ln _ LO tvs (by first | exact hL.self0q | exact hL.self1q) hO hln 2 2 rfl (by omega) (l.take 1) (l.drop 1) HX.out HNE.out _ (by rw [HLK.out]; first | (simp; done) | (simp; omega)) fd n _ (by first | rfl | omega)).mono ?_))); rintro e W2 hb; (simp only [OPost, if_pos hf] at hb); obtain ⟨rfl, v2, LO2, pv2, rfl, hO2, hb⟩ := hb; (first | replace hL := hL.tail0 hb | replace hL := hL.tail1 hb); clear hb hF; (try simp only [kfb] at hL); have hF := hL.facts; (try simp only [Facts, Dist, kfa, implies_true, forall_const] at hF)))
    go_end0
    rw [HLF.out] at hL
    exact ⟨rfl, _, v2, LO2, .slice none 0 0, [], hc4, HC.out, hO2, .inl ⟨rfl, rfl, rfl⟩, by rw [List.append_nil]; exact hL⟩
  · simp only [if_neg hf]
    (try simp only [kfb] at hL); have hF := hL.facts; (try simp only [Facts, Dist, kfa, implies_true, forall_const] at hF)
    go_enter Tryd.func20, Tryd.ntmps20
    go_wp2_with (first | ((with_reducible refine kn_list_set ?_); (try clear hF); clear hL; intro W hL; (try simp only [kfb] at hL); have hF := hL.facts; (try simp only [Facts, Dist, kfa, implies_true, forall_const] at hF)) | (go_at_call 19; refine kn_calls ?_; (try clear hF); clear hL; intro W hL; (try simp only [kfb] at hL); have hF := hL.facts; (try simp only [Facts, Dist, kfa, implies_true, forall_const] at hF); (((first | (with_reducible refine (rest_is src ⟨#[62, 62]⟩ at_ ln v b _ (by first | exact hL.has _ List.mem_cons_self | exact hL.has _ (List.mem_cons_of_mem _ List.mem_cons_self) | exact hL.has _ (List.mem_cons_of_mem _ (List.mem_cons_of_mem _ List.mem_cons_self)) | exact hL.has _ (List.mem_cons_of_mem _ (List.mem_cons_of_mem _ (List.mem_cons_of_mem _ List.mem_cons_self))) | exact hL.has _ (List.mem_cons_of_mem _ (List.mem_cons_of_mem _ (List.mem_cons_of_mem _ (List.mem_cons_of_mem _ List.mem_cons_self)))) | exact hL.has _ (List.mem_cons_of_mem _ (List.mem_cons_of_mem _ (List.mem_cons_of_mem _ (List.mem_cons_of_mem _ (List.mem_cons_of_mem _ List.mem_cons_self)))))) (by omega) hs false hA.out).mono ?_) | (with_reducible refine (rest_is src ⟨#[62, 38]⟩ at_ ln v b _ (by first | exact hL.has _ List.mem_cons_self | exact hL.has _ (List.mem_cons_of_mem _ List.mem_cons_self) | exact hL.has _ (List.mem_cons_of_mem _ (List.mem_cons_of_mem _ List.mem_cons_self)) | exact hL.has _ (List.mem_cons_of_mem _ (List.mem_cons_of_mem _ (List.mem_cons_of_mem _ List.mem_cons_self))) | exact hL.has _ (List.mem_cons_of_mem _ (List.mem_cons_of_mem _ (List.mem_cons_of_mem _ (List.mem_cons_of_mem _ List.mem_cons_self)))) | exact hL.has _ (List.mem_cons_of_mem _ (List.mem_cons_of_mem _ (List.mem_cons_of_mem _ (List.mem_cons_of_mem _ (List.mem_cons_of_mem _ List.mem_cons_self)))))) (by omega) hs false hB.out).mono ?_)))); rintro e W ⟨rfl, hb⟩; replace hL := hL.below hb; clear hb; (try clear hF); (try simp only [kfb] at hL); have hF := hL.facts; (try simp only [Facts, Dist, kfa, implies_true, forall_const] at hF)) | (go_at_call 18; refine kn_calls ?_; (try clear hF); clear hL; intro W hL; (try simp only [kfb] at hL); have hF := hL.facts; (try simp only [Facts, Dist, kfa, implies_true, forall_const] at hF); (((with_reducible refine (one_text src hs0 v b at_ ln _ LO tvs (by first | exact hL.self0q | exact hL.self1q) hO hln 2 2 rfl (by omega) (l.take 1) (l.drop 1) HX.out HNE.out _ (by rw [HLK.out]; first | (simp; done) | (simp; omega)) fd n _ (by first | rfl | omega)).mono ?_))); rintro e W2 hb; (simp only [OPost, if_neg hf] at hb); obtain ⟨rfl, hb⟩ := hb; (first | replace hL := hL.tail0 hb | replace hL := hL.tail1 hb); clear hb hF; (try simp only [kfb] at hL); have hF := hL.facts; (try simp only [Facts, Dist, kfa, implies_true, forall_const] at hF)))
    exact ⟨rfl, rfl, hL⟩

end Go.Proofs.YtflfaobbfhjmmaaDoor
