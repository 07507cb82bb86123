import Derived.Test.YtflfaobbfhjmmaaDoorProg
import Derived.WalkKit
import Derived.Handy
import Derived.Deep.Light
import Derived.WalkSmall
import Derived.StillTailTactics
import Derived.Lib.Hide
import Derived.Test.YtflfaobbfhjmmaaDoorT0
import Derived.Test.YtflfaobbfhjmmaaDoorIt
import Derived.Test.YtflfaobbfhjmmaaDoorL3
import Derived.Test.YtflfaobbfhjmmaaDoorLxD
namespace Go.Proofs.YtflfaobbfhjmmaaDoor
open Go Go.RowKit
set_option linter.unusedSimpArgs false
set_option linter.unusedVariables false

/-- The cells of a part. -/
def ptc (p : Prt) : List Value := [.int .i64 p.k, bs p.t, .bool p.q]
def PtL (LP : List (Nat × Obj)) (v : Value) (ps : List Prt) : Prop :=
  (LP = [] ∧ v = .slice none 0 0 ∧ ps = []) ∨ ∃ g cap cur, LP = [(g, .cells cur 33 (0, 0))] ∧ v = .slice (some ⟨g, 0, none⟩) ps.length cap ∧ RowB 3 cur cap ps.length (ps.flatMap ptc)
theorem snoc_of {α : Type} (l : List α) : l = [] ∨ ∃ i x, l = i ++ [x] := by
  rcases l.eq_nil_or_concat with h | ⟨i, x, h⟩
  · exact .inl h
  · exact .inr ⟨i, x, by simpa using h⟩
theorem addT_snoc : ∀ (i : List Prt) (p : Prt) (s : Bytes) (q : Bool), addT (i ++ [p]) s q = if p.k = 0 ∧ p.q = q then i ++ [⟨0, p.t ++ s, q⟩] else i ++ [p, ⟨0, s, q⟩]
  | [], p, s, q => by simp [addT]
  | [a], p, s, q => by
    show a :: addT [p] s q = _
    rw [addT]; split <;> rfl
  | a :: b :: i, p, s, q => by
    show a :: addT (b :: (i ++ [p])) s q = _
    have := addT_snoc (b :: i) p s q
    rw [List.cons_append] at this
    rw [this]; split <;> rfl
theorem ptc_len (ps : List Prt) : (ps.flatMap ptc).length = 3 * ps.length := by
  induction ps with
  | nil => rfl
  | cons a r ih => simp [List.flatMap_cons, ih, ptc]; omega
theorem bs_list (b : ByteArray) : bs b.data.toList = .string b := by simp [bs]
theorem bs_app (b : ByteArray) (l : Bytes) : (⟨l.toArray⟩ : ByteArray) ++ b = ⟨(l ++ b.data.toList).toArray⟩ := by
  apply ByteArray.ext
  simp
theorem infoPt : (Tryd.prog.info? 33).map (fun i => (i.zero, i.size, i.bytes)) = some (some (.agg #[.int .i64 0, .string ⟨#[]⟩, .bool false]), 3, 32) := by kernel_rfl
theorem ptc_one (p : Prt) : ∀ u ∈ ptc p, u.oneCell' = true := by
  intro u hu
  simp only [ptc, bs, List.mem_cons, List.not_mem_nil, or_false] at hu
  rcases hu with rfl | rfl | rfl <;> rfl
def PtPre (q : Nat) (v : Value) (LP : List (Nat × Obj)) : List (Nat × Obj) := (q, .cells #[v] 51 (0, 0)) :: LP
set_option maxRecDepth 20000 in
set_option maxHeartbeats 4000000 in
theorem text_is (q : Nat) (v : Value) (w : World) (LP : List (Nat × Obj)) (ps : List Prt) (hL : Kn (q :: keys LP) w w ((q, .cells #[v] 51 (0, 0)) :: LP)) (hP : PtL LP v ps) (s : ByteArray) (qd : Bool) (hn : ps.length ≤ 100000) (ht : tot ps + s.size ≤ 1000000) :
    Calls Tryd.prog 34 #[.pointer (some ⟨q, 0, none⟩), .string s, .bool qd] w fun e w' => e = .returned (.tuple #[]) ∧ ∃ v' LP', PtL LP' v' (addT ps s.data.toList qd) ∧ Kn (q :: keys LP) w w' ((q, .cells #[v'] 51 (0, 0)) :: LP') := by
  obtain ⟨i0, hi, hz0, hz1, hz2⟩ := info_parts infoPt
  rcases hP with ⟨rfl, rfl, rfl⟩ | ⟨g, cap, cur, rfl, rfl, hr⟩
  · (try simp only [kfb] at hL); have hF := hL.facts; (try simp only [Facts, Dist, kfa, implies_true, forall_const] at hF)
    go_enter Tryd.func34, Tryd.ntmps34
    go_wp2_with (first | ((with_reducible refine kn_list_set ?_); (try clear hF); clear hL; intro W hL; (try simp only [kfb] at hL); have hF := hL.facts; (try simp only [Facts, Dist, kfa, implies_true, forall_const] at hF)) | (at_builtin; refine kn_list ?_; (try clear hF); clear hL; intro W hL; (try simp only [kfb] at hL); have hF := hL.facts; (try simp only [Facts, Dist, kfa, implies_true, forall_const] at hF); refine wpList_append_nilX rfl _ _ 51 rfl 33 i0 _ Tryd.underlying51 hi hz0 (by rw [hz1]; rfl) (by rw [hz1]; decide) hL  rfl _ _ _ (ptc ⟨0, s.data.toList, qd⟩) rfl (by rw [hz1]; rfl) (fun j u hu => by rw [Go.WideShapes.add_plain, Nat.zero_add, World.cell?, hL.has _ List.mem_cons_self]; simpa [ptc, bs_list] using hu) (ptc_one _) (by unfold maxLen; omega) (by rw [hz2]; omega) (by omega) ?_; intro g2 cap2 cur2 W2 hL2 hg2 hr2; clear hL hF; have hL := hL2; clear hL2; (try simp only [List.eraseIdx_cons_zero, List.eraseIdx_cons_succ] at hL); (try simp only [kfb] at hL); have hF := hL.facts; (try simp only [Facts, Dist, kfa, implies_true, forall_const] at hF)))
    refine kn_body ?_; (try clear hF); clear hL; intro W hL; (try simp only [kfb] at hL); have hF := hL.facts; (try simp only [Facts, Dist, kfa, implies_true, forall_const] at hF)
    go_end0
    rw [hz1] at hr2
    refine ⟨rfl, .slice (some ⟨g2, 0, none⟩) 1 cap2, _, .inr ⟨g2, cap2, cur2, rfl, rfl, by simpa [addT] using hr2⟩, hL.pick (by simp) ?_⟩
    have := hL.nd
    (simp at this ⊢); grind
  · rcases snoc_of ps with rfl | ⟨i, p, rfl⟩
    · have e0 : decide ((([] : List Prt).length : Int) > 0) = false := by decide
      (try simp only [kfb] at hL); have hF := hL.facts; (try simp only [Facts, Dist, kfa, implies_true, forall_const] at hF)
      go_enter Tryd.func34, Tryd.ntmps34
      go_wp2_with (first | ((with_reducible refine kn_list_set ?_); (try clear hF); clear hL; intro W hL; (try simp only [kfb] at hL); have hF := hL.facts; (try simp only [Facts, Dist, kfa, implies_true, forall_const] at hF)) | (at_builtin; refine kn_list ?_; (try clear hF); clear hL; intro W hL; (try simp only [kfb] at hL); have hF := hL.facts; (try simp only [Facts, Dist, kfa, implies_true, forall_const] at hF); refine wpList_append_blkX rfl _ _ 51 rfl 33 i0 _ Tryd.underlying51 hi hz0 (by rw [hz1]; rfl) (by rw [hz1]; decide) hL 2 _ _ _ _ _ rfl (by rw [hz1]; exact hr) rfl _ _ _ (ptc ⟨0, s.data.toList, qd⟩) rfl (by rw [hz1]; rfl) (fun j u hu => by rw [Go.WideShapes.add_plain, Nat.zero_add, World.cell?, hL.has _ List.mem_cons_self]; simpa [ptc, bs_list] using hu) (ptc_one _) (by unfold maxLen; omega) (by rw [hz2]; omega) (by omega) ?_; intro g2 cap2 cur2 W2 hL2 hr2; clear hL hF; have hL := hL2; clear hL2; (try simp only [List.eraseIdx_cons_zero, List.eraseIdx_cons_succ] at hL); (try simp only [kfb] at hL); have hF := hL.facts; (try simp only [Facts, Dist, kfa, implies_true, forall_const] at hF)))
      refine kn_body ?_; (try clear hF); clear hL; intro W hL; (try simp only [kfb] at hL); have hF := hL.facts; (try simp only [Facts, Dist, kfa, implies_true, forall_const] at hF)
      go_end0
      rw [hz1] at hr2
      refine ⟨rfl, .slice (some ⟨g2, 0, none⟩) 1 cap2, _, .inr ⟨g2, cap2, cur2, rfl, rfl, ?_⟩, hL.pick (by simp) ?_⟩
      · simpa [addT] using hr2
      · have := hL.nd
        (simp at this ⊢); grind
    obtain ⟨n, hn1⟩ : ∃ n, (i ++ [p]).length = n := ⟨_, rfl⟩
    have hn2 : n = i.length + 1 := by rw [← hn1]; simp
    have s1 : IntKind.i64.wrap ((n : Int) - 1) = (i.length : Int) := by rw [IntWalk.i64_in _ (by omega)]; omega
    have e0 : decide ((n : Int) > 0) = true := by simp; omega
    have s2 : (0 : Int) ≤ (i.length : Int) := by omega
    have s3 : (i.length : Int) < (n : Int) := by omega
    rw [hn1] at hL hr
    have hc : ∀ j u, (ptc p)[j]? = some u → cur[i.length * 3 + j]? = some u := fun j u hj => hr.get (by
      rw [Nat.mul_comm i.length 3, List.flatMap_append, List.getElem?_append_right (by rw [ptc_len]; omega), ptc_len]
      simpa using hj)
    have c0 : cur[i.length * 3]? = _ := hc 0 _ rfl
    have c1 := hc 1 _ rfl
    have c2 := hc 2 _ rfl
    have HN := Lib.hid hn2
    clear hn2
    by_cases hk : p.k = 0
    · have b0 : ((p.k : Int) == 0) = true := by simp [hk]
      by_cases hq : p.q = qd
      · have b2 : (p.q == qd) = true := by simp [hq]
        obtain ⟨u, hu⟩ : ∃ u : ByteArray, bs p.t = .string u := ⟨_, rfl⟩
        have hul : u.data.toList = p.t := by
          simp only [bs, Value.string.injEq] at hu
          rw [← hu]
        rw [hu] at c1
        have hus : u.size = p.t.length := by rw [← hul]; simp
        have hmax : u.size + s.size ≤ 1000000 := by rw [tot_snoc] at ht; omega
        have m1 : ¬ IntKind.i64.max < (u.size : Int) + (s.size : Int) := by have : IntKind.i64.max = 9223372036854775807 := by decide
                                                                            omega
        have m2 : ¬ IntKind.i64.max < ((u.size + s.size : Nat) : Int) := by have : IntKind.i64.max = 9223372036854775807 := by decide
                                                                            omega
        (try simp only [kfb] at hL); have hF := hL.facts; (try simp only [Facts, Dist, kfa, implies_true, forall_const] at hF)
        go_enter Tryd.func34, Tryd.ntmps34
        go_wp2
        refine kn_body ?_; (try clear hF); clear hL; intro W hL; (try simp only [kfb] at hL); have hF := hL.facts; (try simp only [Facts, Dist, kfa, implies_true, forall_const] at hF)
        (try simp only [Exit.inBlock, Exit.then]); refine bodyPost_ret (by simp [results, Tryd.results34, go_sem, *]; try rfl) rfl ?_
        refine ⟨rfl, .slice (some ⟨g, 0, none⟩) n cap, _, .inr ⟨g, cap, cur.setIfInBounds (i.length * 3 + 1) (.string (u ++ s)), rfl, ?_, ?_⟩, hL.pick (by simp) ?_⟩
        · rw [addT_snoc, if_pos ⟨hk, hq⟩]; simp at hn1 ⊢; omega
        · rw [addT_snoc, if_pos ⟨hk, hq⟩]
          have h1 := hr.set (i.length * 3 + 1) (.string (u ++ s))
          have h2 : (i ++ [(⟨0, p.t ++ s.data.toList, qd⟩ : Prt)]).length = n := by rw [← hn1]; simp
          rw [h2]
          have h3 : ((i ++ [p]).flatMap ptc).set (i.length * 3 + 1) (.string (u ++ s)) = (i ++ [(⟨0, p.t ++ s.data.toList, qd⟩ : Prt)]).flatMap ptc := by
            rw [List.flatMap_append, List.flatMap_append, List.set_append_right _ _ (by rw [ptc_len]; omega), ptc_len]
            have : i.length * 3 + 1 - 3 * i.length = 1 := by omega
            rw [this]
            have h4 : Value.string (u ++ s) = bs (p.t ++ s.data.toList) := by
              rw [← hul]; unfold bs; congr 1; (try (apply ByteArray.ext; simp))
            rw [h4]
            simp [ptc, hk, hq]
          rw [← h3]; exact h1
        · have := hL.nd
          (simp at this ⊢); grind
      · have b2 : (p.q == qd) = false := by simp [hq]
        have hadd : ¬ (p.k = 0 ∧ p.q = qd) := fun h => hq h.2
        (try simp only [kfb] at hL); have hF := hL.facts; (try simp only [Facts, Dist, kfa, implies_true, forall_const] at hF)
        go_enter Tryd.func34, Tryd.ntmps34
        go_wp2_with (first | ((with_reducible refine kn_list_set ?_); (try clear hF); clear hL; intro W hL; (try simp only [kfb] at hL); have hF := hL.facts; (try simp only [Facts, Dist, kfa, implies_true, forall_const] at hF)) | (at_builtin; refine kn_list ?_; (try clear hF); clear hL; intro W hL; (try simp only [kfb] at hL); have hF := hL.facts; (try simp only [Facts, Dist, kfa, implies_true, forall_const] at hF); refine wpList_append_blkX rfl _ _ 51 rfl 33 i0 _ Tryd.underlying51 hi hz0 (by rw [hz1]; rfl) (by rw [hz1]; decide) hL 2 _ _ _ _ _ rfl (by rw [hz1]; exact hr) rfl _ _ _ (ptc ⟨0, s.data.toList, qd⟩) rfl (by rw [hz1]; rfl) (fun j u hu => by rw [Go.WideShapes.add_plain, Nat.zero_add, World.cell?, hL.has _ List.mem_cons_self]; simpa [ptc, bs_list] using hu) (ptc_one _) (by unfold maxLen; omega) (by rw [hz2]; omega) (by omega) ?_; intro g2 cap2 cur2 W2 hL2 hr2; clear hL hF; have hL := hL2; clear hL2; (try simp only [List.eraseIdx_cons_zero, List.eraseIdx_cons_succ] at hL); (try simp only [kfb] at hL); have hF := hL.facts; (try simp only [Facts, Dist, kfa, implies_true, forall_const] at hF)))
        refine kn_body ?_; (try clear hF); clear hL; intro W hL; (try simp only [kfb] at hL); have hF := hL.facts; (try simp only [Facts, Dist, kfa, implies_true, forall_const] at hF)
        go_end0
        rw [hz1] at hr2
        refine ⟨rfl, .slice (some ⟨g2, 0, none⟩) (n + 1) cap2, _, .inr ⟨g2, cap2, cur2, rfl, (by rw [addT_snoc, if_neg hadd]; simp at hn1 ⊢; omega), ?_⟩, hL.pick (by simp) ?_⟩
        · rw [addT_snoc, if_neg hadd]
          have : (i ++ [p, ⟨0, s.data.toList, qd⟩]).length = n + 1 := by simp at hn1 ⊢; omega
          rw [this]
          simpa using hr2
        · have := hL.nd
          (simp at this ⊢); grind
    · have b0 : ((p.k : Int) == 0) = false := by simp; omega
      have hadd : ¬ (p.k = 0 ∧ p.q = qd) := fun h => hk h.1
      (try simp only [kfb] at hL); have hF := hL.facts; (try simp only [Facts, Dist, kfa, implies_true, forall_const] at hF)
      go_enter Tryd.func34, Tryd.ntmps34
      go_wp2_with (first | ((with_reducible refine kn_list_set ?_); (try clear hF); clear hL; intro W hL; (try simp only [kfb] at hL); have hF := hL.facts; (try simp only [Facts, Dist, kfa, implies_true, forall_const] at hF)) | (at_builtin; refine kn_list ?_; (try clear hF); clear hL; intro W hL; (try simp only [kfb] at hL); have hF := hL.facts; (try simp only [Facts, Dist, kfa, implies_true, forall_const] at hF); refine wpList_append_blkX rfl _ _ 51 rfl 33 i0 _ Tryd.underlying51 hi hz0 (by rw [hz1]; rfl) (by rw [hz1]; decide) hL 2 _ _ _ _ _ rfl (by rw [hz1]; exact hr) rfl _ _ _ (ptc ⟨0, s.data.toList, qd⟩) rfl (by rw [hz1]; rfl) (fun j u hu => by rw [Go.WideShapes.add_plain, Nat.zero_add, World.cell?, hL.has _ List.mem_cons_self]; simpa [ptc, bs_list] using hu) (ptc_one _) (by unfold maxLen; omega) (by rw [hz2]; omega) (by omega) ?_; intro g2 cap2 cur2 W2 hL2 hr2; clear hL hF; have hL := hL2; clear hL2; (try simp only [List.eraseIdx_cons_zero, List.eraseIdx_cons_succ] at hL); (try simp only [kfb] at hL); have hF := hL.facts; (try simp only [Facts, Dist, kfa, implies_true, forall_const] at hF)))
      refine kn_body ?_; (try clear hF); clear hL; intro W hL; (try simp only [kfb] at hL); have hF := hL.facts; (try simp only [Facts, Dist, kfa, implies_true, forall_const] at hF)
      go_end0
      rw [hz1] at hr2
      refine ⟨rfl, .slice (some ⟨g2, 0, none⟩) (n + 1) cap2, _, .inr ⟨g2, cap2, cur2, rfl, (by rw [addT_snoc, if_neg hadd]; simp at hn1 ⊢; omega), ?_⟩, hL.pick (by simp) ?_⟩
      · rw [addT_snoc, if_neg hadd]
        have : (i ++ [p, ⟨0, s.data.toList, qd⟩]).length = n + 1 := by simp at hn1 ⊢; omega
        rw [this]
        simpa using hr2
      · have := hL.nd
        (simp at this ⊢); grind

end Go.Proofs.YtflfaobbfhjmmaaDoor
