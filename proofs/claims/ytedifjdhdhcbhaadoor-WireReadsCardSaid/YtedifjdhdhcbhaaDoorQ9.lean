import Derived.Test.YtedifjdhdhcbhaaDoorProg
import Derived.WalkKit
import Derived.Handy
import Derived.Deep.Light
import Derived.WalkSmall
import Derived.StillTailTactics
import Derived.Lib.Hide
import Derived.Test.YtedifjdhdhcbhaaDoorW0
import Derived.Test.YtedifjdhdhcbhaaDoorIt
import Derived.Test.YtedifjdhdhcbhaaDoorQ8
import Derived.Test.YtedifjdhdhcbhaaDoorApp
import Derived.Laws.AppendOwn
import Derived.OwnWalk
namespace Go.Proofs.YtedifjdhdhcbhaaDoor
open Go Go.RowKit
set_option linter.unusedSimpArgs false
set_option linter.unusedVariables false

set_option maxRecDepth 20000 in
set_option maxHeartbeats 4000000 in
theorem refNums_q (b : Nat) (s : ByteArray) (bd : Bool) (w : World) (hs : w.heap[b]? = some (.cells #[.string s, .bool bd] 61 (0, 0))) (hg : bd = true → s.data.toList = []) (hsz : s.size ≤ 100000000) (xs : List Int) (rs : ByteArray) (bd1 : Bool) (hq : itemsR intR ⟨s.data.toList, bd⟩ = (xs, ⟨rs.data.toList, bd1⟩)) :
    Calls Tryd.prog 37 #[.pointer (some ⟨b, 0, none⟩)] w fun e w' => ∃ v, e = .returned v ∧ w'.ownsRow w.heap.size 3 1 v xs.length (xs.map fun x => .int .i64 x) ∧ Kn [b] w w' [(b, .cells #[.string rs, .bool bd1] 61 (0, 0))] := by
  obtain ⟨i0, hi, hz0, hz1, hz2⟩ := info_parts infoInt
  obtain ⟨n, r, e⟩ : ∃ n r, numR 91 0 ⟨s.data.toList, bd⟩ = (n, r) := ⟨_, _, rfl⟩
  have h0 := num_ge 91 0 ⟨s.data.toList, bd⟩ (Int.le_refl _)
  rw [e] at h0
  have hmx := num_max 91 0 ⟨s.data.toList, bd⟩ (by decide)
  rw [e] at hmx
  unfold maxInt at hmx
  obtain ⟨m, rfl⟩ := Int.eq_ofNat_of_zero_le h0
  simp only at hmx
  obtain ⟨z, bdz, rfl⟩ := rd_eq r
  have hgz : Good ⟨z.data.toList, bdz⟩ := by
    have := good_num 91 0 (r := ⟨s.data.toList, bd⟩) hg
    rw [e] at this; exact this
  have hnum := e
  unfold itemsR at hq
  rw [e] at hq
  simp only [Int.toNat_natCast] at hq
  have hL : Kn [b] w w [(b, .cells #[.string s, .bool bd] 61 (0, 0))] := Kn.one hs; (try simp only [List.setIfInBounds_toArray, List.set_cons_zero, List.set_cons_succ, List.cons_append, List.nil_append] at hL); have hF := hL.facts; (try simp only [Facts, Dist, List.map_cons, List.map_nil, List.forall_mem_cons, false_implies, ne_eq, not_false_eq_true, List.not_mem_nil, not_false_eq_true, true_implies, forall_const, List.mem_cons, or_false, implies_true, and_true, true_and, Nat.le_refl, List.setIfInBounds_toArray, List.set_cons_zero, List.set_cons_succ] at hF); go_enter Tryd.func37, Tryd.ntmps37
  go_wp2_with (first | ((with_reducible refine kn_list_set ?_); (try clear hF); clear hL; intro W hL; (try simp only [List.setIfInBounds_toArray, List.set_cons_zero, List.set_cons_succ, List.cons_append, List.nil_append] at hL); have hF := hL.facts; (try simp only [Facts, Dist, List.map_cons, List.map_nil, List.forall_mem_cons, false_implies, ne_eq, not_false_eq_true, List.not_mem_nil, not_false_eq_true, true_implies, forall_const, List.mem_cons, or_false, implies_true, and_true, true_and, Nat.le_refl, List.setIfInBounds_toArray, List.set_cons_zero, List.set_cons_succ] at hF)) | (go_at_call 54; refine kn_calls ?_; (try clear hF); clear hL; intro W hL; (try simp only [List.setIfInBounds_toArray, List.set_cons_zero, List.set_cons_succ, List.cons_append, List.nil_append] at hL); have hF := hL.facts; (try simp only [Facts, Dist, List.map_cons, List.map_nil, List.forall_mem_cons, false_implies, ne_eq, not_false_eq_true, List.not_mem_nil, not_false_eq_true, true_implies, forall_const, List.mem_cons, or_false, implies_true, and_true, true_and, Nat.le_refl, List.setIfInBounds_toArray, List.set_cons_zero, List.set_cons_succ] at hF); (with_reducible refine (refnumber_q _ _ _ 91 91 n91 _ (by first | exact hL.has _ List.mem_cons_self | exact hL.has _ (List.mem_cons_of_mem _ List.mem_cons_self) | exact hL.has _ (List.mem_cons_of_mem _ (List.mem_cons_of_mem _ List.mem_cons_self)) | exact hL.has _ (List.mem_cons_of_mem _ (List.mem_cons_of_mem _ (List.mem_cons_of_mem _ List.mem_cons_self))) | exact hL.has _ (List.mem_cons_of_mem _ (List.mem_cons_of_mem _ (List.mem_cons_of_mem _ (List.mem_cons_of_mem _ List.mem_cons_self)))) | exact hL.has _ (List.mem_cons_of_mem _ (List.mem_cons_of_mem _ (List.mem_cons_of_mem _ (List.mem_cons_of_mem _ (List.mem_cons_of_mem _ List.mem_cons_self)))))) _ _ _ hnum).mono ?_); rintro e W ⟨rfl, hb⟩; (first | (replace hL := hL.join1 0 rfl hb) | (replace hL := hL.join1 1 rfl hb) | (replace hL := hL.join1 2 rfl hb) | (replace hL := hL.join1 3 rfl hb) | (replace hL := hL.join1 4 rfl hb) | (replace hL := hL.join1 5 rfl hb) | (replace hL := hL.join1 6 rfl hb) | (replace hL := hL.join1 7 rfl hb)); clear hb; (try clear hF); (try simp only [List.eraseIdx_cons_zero, List.eraseIdx_cons_succ, List.cons_append, List.nil_append] at hL); (try simp only [List.setIfInBounds_toArray, List.set_cons_zero, List.set_cons_succ, List.cons_append, List.nil_append] at hL); have hF := hL.facts; (try simp only [Facts, Dist, List.map_cons, List.map_nil, List.forall_mem_cons, false_implies, ne_eq, not_false_eq_true, List.not_mem_nil, not_false_eq_true, true_implies, forall_const, List.mem_cons, or_false, implies_true, and_true, true_and, Nat.le_refl, List.setIfInBounds_toArray, List.set_cons_zero, List.set_cons_succ] at hF)))
  have hz : z.size ≤ s.size := by
    have h := num_shrink 91 0 ⟨s.data.toList, bd⟩
    rw [e] at h
    simpa using h
  go_loopw [4, 5] (fun v i wr => ∃ (j : Nat) (q : ByteArray) (bq : Bool) (ys : List Int), j ≤ m ∧ i = .int .i64 j ∧ Kn [b] w wr [(b, .cells #[.string q, .bool bq] 61 (0, 0))]
    ∧ wr.ownsRow w.heap.size 3 1 v ys.length (ys.map fun x => .int .i64 x) ∧ Fresh v [(b, .cells #[.string q, .bool bq] 61 (0, 0))] ∧ loopR intR m ⟨z.data.toList, bdz⟩ = (ys ++ (loopR intR (m - j) ⟨q.data.toList, bq⟩).1, (loopR intR (m - j) ⟨q.data.toList, bq⟩).2)
    ∧ ys.length ≤ 100000001 ∧ (bq = false → ys.length + q.size ≤ 100000000) ∧ Hid (Good ⟨q.data.toList, bq⟩)) (fun _ i _ => m - (intOf i).toNat)
  case atStart =>
    refine ⟨0, z, bdz, [], Nat.zero_le _, rfl, hL, ?_, ?_, ?_, ?_, ?_, Lib.hid hgz⟩
    · exact ⟨rfl, .inl ⟨rfl, rfl⟩⟩
    · intro g hg; cases hg
    · simp
    · simp
    · intro _; simp; omega
  case round =>
    obtain ⟨j, q, bq, ys, hjm, rfl, hK, hown, hfr, hspec, hlen, hroom, hgq⟩ := hrel
    clear hL hF hz hgz
    have hL := hK
    (try simp only [List.setIfInBounds_toArray, List.set_cons_zero, List.set_cons_succ, List.cons_append, List.nil_append] at hL); have hF := hL.facts; (try simp only [Facts, Dist, List.map_cons, List.map_nil, List.forall_mem_cons, false_implies, ne_eq, not_false_eq_true, List.not_mem_nil, not_false_eq_true, true_implies, forall_const, List.mem_cons, or_false, implies_true, and_true, true_and, Nat.le_refl, List.setIfInBounds_toArray, List.set_cons_zero, List.set_cons_succ] at hF)
    by_cases hgo : j < m ∧ bq = false
    · obtain ⟨hj, rfl⟩ := hgo
      have hroom2 := hroom rfl
      clear hroom
      obtain ⟨x, rx, hx⟩ : ∃ x rx, intR ⟨q.data.toList, false⟩ = (x, rx) := ⟨_, _, rfl⟩
      obtain ⟨q2, b2, rfl⟩ := rd_eq rx
      have hg2 : Good ⟨q2.data.toList, b2⟩ := by
        have := good_num 59 minInt (r := ⟨q.data.toList, false⟩) hgq.out
        rw [show numR 59 minInt ⟨q.data.toList, false⟩ = _ from hx] at this
        exact this
      have hj2 : (j : Int) < m := by omega
      go_wp2_with (go_at_call 34; refine (refInt_q b q false wr (hK.has _ List.mem_cons_self) x q2 b2 hx).mono ?_)
      rintro e2 W2 ⟨rfl, hK1⟩
      have hK2 := hK.join1 0 rfl hK1
      simp only [List.eraseIdx_cons_zero, List.nil_append, List.append_nil, List.cons_append] at hK2
      have hown2 := owns_one hown hK1 (fun hg => hfr b hg (by simp))
      clear hL hF hK hown hK1
      have hal : ∀ o, Kn [b] w (W2.alloc o) [(b, .cells #[.string q2, .bool b2] 61 (0, 0))] := fun o => hK2.below ((Below.refl _ _).alloc (Nat.le_refl _) _)
      go_wp2_with (at_builtin; refine wpList_append_kn rfl _ _ 22 rfl 3 i0 _ Tryd.underlying22 hi hz0 (by rw [hz1]; rfl) (by rw [hz1]; decide) _ _ _ rfl (hal _) (by rw [hz1]; exact owns_below hown2 ((Below.refl _ _).alloc (Nat.le_refl _) _)) (fun g hg hm => hfr g hg (by simpa using hm)) ⟨W2.heap.size, 0, none⟩ 1 1 [.int .i64 x] rfl (by rw [hz1]; rfl) ?c1 ?c2 ?c3 ?c4 ?_)
      case c1 =>
        intro i u hu
        match i, hu with
        | 0, hu => simp at hu; subst hu; simp [Addr.add]
      case c2 => intro u hu; simp at hu; subst hu; rfl
      case c3 => unfold maxLen; omega
      case c4 => rw [hz2]; omega
      intro v3 W3 hK3 hown3 hfr3
      clear hK2 hown2 hal hfr
      go_wp2
      go_roundw
      case rel =>
        refine ⟨j + 1, q2, b2, ys ++ [x], by omega, by go_num, hK3, ?_, hfr3, ?_, ?_, ?_, Lib.hid hg2⟩
        · rw [List.length_append, List.map_append]; exact hown3
        · rw [hspec, show m - j = (m - (j + 1)) + 1 by omega]; simp [loopR, hx]
        · simp; omega
        · rintro rfl
          have h1 := Int_shrink _ _ _ hx rfl
          simp at h1
          simp; omega
      case measure => simp [intOf]; omega
    · have hend : loopR intR (m - j) ⟨q.data.toList, bq⟩ = ([], ⟨q.data.toList, bq⟩) := by
        cases hmj : m - j with
        | zero => rfl
        | succ i =>
          cases bq with
          | true => rfl
          | false => exact absurd ⟨by omega, rfl⟩ hgo
      rw [hend] at hspec
      simp only [List.append_nil] at hspec
      rw [hspec] at hq
      obtain ⟨z3, b3, hc⟩ := rd_eq (closeR 93 ⟨q.data.toList, bq⟩)
      simp only [hc] at hq
      have hgo2 := hgq.out
      have hdone : Calls Tryd.prog 57 #[.pointer (some ⟨b, 0, none⟩), .int .u8 93] wr fun e w' => e = .returned (.bool (!b3)) ∧ (w'.ownsRow w.heap.size 3 1 u4 ys.length (ys.map fun x => .int .i64 x) ∧ Kn [b] w w' [(b, .cells #[.string z3, .bool b3] 61 (0, 0))]) := by
        refine (refclose_q b q bq 93 93 n93 wr (hK.has _ List.mem_cons_self) hgo2 z3 b3 hc).mono ?_
        rintro e2 W2 ⟨rfl, hK1⟩
        have hK2 := hK.join1 0 rfl hK1
        simp only [List.eraseIdx_cons_zero, List.nil_append, List.append_nil, List.cons_append] at hK2
        exact ⟨rfl, owns_one hown hK1 (fun hg => hfr b hg (by simp)), hK2⟩
      cases bq
      · have hjm2 : ¬ (j : Int) < m := fun h => hgo ⟨by omega, rfl⟩
        clear hspec hend hroom hlen hfr hown hgo hgo2 hgq
        cases b3
        · simp only [Bool.false_eq_true, if_false] at hq
          injection hq with h1 h2
          injection h2 with h2 h3
          obtain rfl := ba_ext h2
          subst h1; subst h3
          go_wp2_with (go_at_call 57; refine hdone.mono ?_)
          first | (rintro e2 W2 rfl hown2 hK2) | (rintro e2 W2 ⟨rfl, hown2, hK2⟩)
          clear hL hF hdone
          have hL := hK2
          (try simp only [List.setIfInBounds_toArray, List.set_cons_zero, List.set_cons_succ, List.cons_append, List.nil_append] at hL); have hF := hL.facts; (try simp only [Facts, Dist, List.map_cons, List.map_nil, List.forall_mem_cons, false_implies, ne_eq, not_false_eq_true, List.not_mem_nil, not_false_eq_true, true_implies, forall_const, List.mem_cons, or_false, implies_true, and_true, true_and, Nat.le_refl, List.setIfInBounds_toArray, List.set_cons_zero, List.set_cons_succ] at hF)
          go_wp2
          (try simp only [Exit.inBlock, Exit.then]); refine bodyPost_ret (by simp [results, Tryd.results37, go_sem, *]; try rfl) rfl ?_
          exact ⟨_, rfl, hown2, hK2⟩
        · simp only [if_true] at hq
          injection hq with h1 h2
          injection h2 with h2 h3
          obtain rfl := ba_ext h2
          subst h1; subst h3
          go_wp2_with (go_at_call 57; refine hdone.mono ?_)
          first | (rintro e2 W2 rfl hown2 hK2) | (rintro e2 W2 ⟨rfl, hown2, hK2⟩)
          clear hL hF hdone
          have hL := hK2
          (try simp only [List.setIfInBounds_toArray, List.set_cons_zero, List.set_cons_succ, List.cons_append, List.nil_append] at hL); have hF := hL.facts; (try simp only [Facts, Dist, List.map_cons, List.map_nil, List.forall_mem_cons, false_implies, ne_eq, not_false_eq_true, List.not_mem_nil, not_false_eq_true, true_implies, forall_const, List.mem_cons, or_false, implies_true, and_true, true_and, Nat.le_refl, List.setIfInBounds_toArray, List.set_cons_zero, List.set_cons_succ] at hF)
          go_wp2
          (try simp only [Exit.inBlock, Exit.then]); refine bodyPost_ret (by simp [results, Tryd.results37, go_sem, *]; try rfl) rfl ?_
          exact ⟨_, rfl, ⟨rfl, .inl ⟨rfl, rfl⟩⟩, hK2⟩
      · have hnil := hgo2 rfl
        have hfr0 : closeR 93 ⟨q.data.toList, true⟩ = failR := by simp only at hnil; rw [hnil]; rfl
        rw [hfr0] at hc
        unfold failR at hc
        injection hc with h4 h5
        subst h5
        simp only [if_true] at hq
        injection hq with h1 h2
        injection h2 with h2 h3
        obtain rfl := ba_ext h2
        subst h1; subst h3
        obtain rfl : q = z3 := ba_ext (by rw [← h4]; exact hnil)
        clear hdone hspec hend hroom hlen hfr hown hgo2 hgq h4 hnil h2 hfr0
        by_cases hjm3 : (j : Int) < m
        · go_wp2
          (try simp only [Exit.inBlock, Exit.then]); refine bodyPost_ret (by simp [results, Tryd.results37, go_sem, *]; try rfl) rfl ?_
          exact ⟨_, rfl, ⟨rfl, .inl ⟨rfl, rfl⟩⟩, hK⟩
        · go_wp2
          (try simp only [Exit.inBlock, Exit.then]); refine bodyPost_ret (by simp [results, Tryd.results37, go_sem, *]; try rfl) rfl ?_
          exact ⟨_, rfl, ⟨rfl, .inl ⟨rfl, rfl⟩⟩, hK⟩

set_option maxRecDepth 20000 in
set_option maxHeartbeats 4000000 in
theorem refTexts_q (b : Nat) (s : ByteArray) (bd : Bool) (w : World) (hs : w.heap[b]? = some (.cells #[.string s, .bool bd] 61 (0, 0))) (hg : bd = true → s.data.toList = []) (hsz : s.size ≤ 100000000) (xs : List Bytes) (rs : ByteArray) (bd1 : Bool) (hq : itemsR textR ⟨s.data.toList, bd⟩ = (xs, ⟨rs.data.toList, bd1⟩)) :
    Calls Tryd.prog 39 #[.pointer (some ⟨b, 0, none⟩)] w fun e w' => ∃ v, e = .returned v ∧ w'.ownsRow w.heap.size 9 1 v xs.length (xs.map fun x => .string ⟨x.toArray⟩) ∧ Kn [b] w w' [(b, .cells #[.string rs, .bool bd1] 61 (0, 0))] := by
  obtain ⟨i0, hi, hz0, hz1, hz2⟩ := info_parts infoText
  obtain ⟨n, r, e⟩ : ∃ n r, numR 91 0 ⟨s.data.toList, bd⟩ = (n, r) := ⟨_, _, rfl⟩
  have h0 := num_ge 91 0 ⟨s.data.toList, bd⟩ (Int.le_refl _)
  rw [e] at h0
  have hmx := num_max 91 0 ⟨s.data.toList, bd⟩ (by decide)
  rw [e] at hmx
  unfold maxInt at hmx
  obtain ⟨m, rfl⟩ := Int.eq_ofNat_of_zero_le h0
  simp only at hmx
  obtain ⟨z, bdz, rfl⟩ := rd_eq r
  have hgz : Good ⟨z.data.toList, bdz⟩ := by
    have := good_num 91 0 (r := ⟨s.data.toList, bd⟩) hg
    rw [e] at this; exact this
  have hnum := e
  unfold itemsR at hq
  rw [e] at hq
  simp only [Int.toNat_natCast] at hq
  have hL : Kn [b] w w [(b, .cells #[.string s, .bool bd] 61 (0, 0))] := Kn.one hs; (try simp only [List.setIfInBounds_toArray, List.set_cons_zero, List.set_cons_succ, List.cons_append, List.nil_append] at hL); have hF := hL.facts; (try simp only [Facts, Dist, List.map_cons, List.map_nil, List.forall_mem_cons, false_implies, ne_eq, not_false_eq_true, List.not_mem_nil, not_false_eq_true, true_implies, forall_const, List.mem_cons, or_false, implies_true, and_true, true_and, Nat.le_refl, List.setIfInBounds_toArray, List.set_cons_zero, List.set_cons_succ] at hF); go_enter Tryd.func39, Tryd.ntmps39
  go_wp2_with (first | ((with_reducible refine kn_list_set ?_); (try clear hF); clear hL; intro W hL; (try simp only [List.setIfInBounds_toArray, List.set_cons_zero, List.set_cons_succ, List.cons_append, List.nil_append] at hL); have hF := hL.facts; (try simp only [Facts, Dist, List.map_cons, List.map_nil, List.forall_mem_cons, false_implies, ne_eq, not_false_eq_true, List.not_mem_nil, not_false_eq_true, true_implies, forall_const, List.mem_cons, or_false, implies_true, and_true, true_and, Nat.le_refl, List.setIfInBounds_toArray, List.set_cons_zero, List.set_cons_succ] at hF)) | (go_at_call 54; refine kn_calls ?_; (try clear hF); clear hL; intro W hL; (try simp only [List.setIfInBounds_toArray, List.set_cons_zero, List.set_cons_succ, List.cons_append, List.nil_append] at hL); have hF := hL.facts; (try simp only [Facts, Dist, List.map_cons, List.map_nil, List.forall_mem_cons, false_implies, ne_eq, not_false_eq_true, List.not_mem_nil, not_false_eq_true, true_implies, forall_const, List.mem_cons, or_false, implies_true, and_true, true_and, Nat.le_refl, List.setIfInBounds_toArray, List.set_cons_zero, List.set_cons_succ] at hF); (with_reducible refine (refnumber_q _ _ _ 91 91 n91 _ (by first | exact hL.has _ List.mem_cons_self | exact hL.has _ (List.mem_cons_of_mem _ List.mem_cons_self) | exact hL.has _ (List.mem_cons_of_mem _ (List.mem_cons_of_mem _ List.mem_cons_self)) | exact hL.has _ (List.mem_cons_of_mem _ (List.mem_cons_of_mem _ (List.mem_cons_of_mem _ List.mem_cons_self))) | exact hL.has _ (List.mem_cons_of_mem _ (List.mem_cons_of_mem _ (List.mem_cons_of_mem _ (List.mem_cons_of_mem _ List.mem_cons_self)))) | exact hL.has _ (List.mem_cons_of_mem _ (List.mem_cons_of_mem _ (List.mem_cons_of_mem _ (List.mem_cons_of_mem _ (List.mem_cons_of_mem _ List.mem_cons_self)))))) _ _ _ hnum).mono ?_); rintro e W ⟨rfl, hb⟩; (first | (replace hL := hL.join1 0 rfl hb) | (replace hL := hL.join1 1 rfl hb) | (replace hL := hL.join1 2 rfl hb) | (replace hL := hL.join1 3 rfl hb) | (replace hL := hL.join1 4 rfl hb) | (replace hL := hL.join1 5 rfl hb) | (replace hL := hL.join1 6 rfl hb) | (replace hL := hL.join1 7 rfl hb)); clear hb; (try clear hF); (try simp only [List.eraseIdx_cons_zero, List.eraseIdx_cons_succ, List.cons_append, List.nil_append] at hL); (try simp only [List.setIfInBounds_toArray, List.set_cons_zero, List.set_cons_succ, List.cons_append, List.nil_append] at hL); have hF := hL.facts; (try simp only [Facts, Dist, List.map_cons, List.map_nil, List.forall_mem_cons, false_implies, ne_eq, not_false_eq_true, List.not_mem_nil, not_false_eq_true, true_implies, forall_const, List.mem_cons, or_false, implies_true, and_true, true_and, Nat.le_refl, List.setIfInBounds_toArray, List.set_cons_zero, List.set_cons_succ] at hF)))
  have hz : z.size ≤ s.size := by
    have h := num_shrink 91 0 ⟨s.data.toList, bd⟩
    rw [e] at h
    simpa using h
  go_loopw [4, 5] (fun v i wr => ∃ (j : Nat) (q : ByteArray) (bq : Bool) (ys : List Bytes), j ≤ m ∧ i = .int .i64 j ∧ Kn [b] w wr [(b, .cells #[.string q, .bool bq] 61 (0, 0))]
    ∧ wr.ownsRow w.heap.size 9 1 v ys.length (ys.map fun x => .string ⟨x.toArray⟩) ∧ Fresh v [(b, .cells #[.string q, .bool bq] 61 (0, 0))] ∧ loopR textR m ⟨z.data.toList, bdz⟩ = (ys ++ (loopR textR (m - j) ⟨q.data.toList, bq⟩).1, (loopR textR (m - j) ⟨q.data.toList, bq⟩).2)
    ∧ ys.length ≤ 100000001 ∧ (bq = false → ys.length + q.size ≤ 100000000) ∧ Hid (Good ⟨q.data.toList, bq⟩)) (fun _ i _ => m - (intOf i).toNat)
  case atStart =>
    refine ⟨0, z, bdz, [], Nat.zero_le _, rfl, hL, ?_, ?_, ?_, ?_, ?_, Lib.hid hgz⟩
    · exact ⟨rfl, .inl ⟨rfl, rfl⟩⟩
    · intro g hg; cases hg
    · simp
    · simp
    · intro _; simp; omega
  case round =>
    obtain ⟨j, q, bq, ys, hjm, rfl, hK, hown, hfr, hspec, hlen, hroom, hgq⟩ := hrel
    clear hL hF hz hgz
    have hL := hK
    (try simp only [List.setIfInBounds_toArray, List.set_cons_zero, List.set_cons_succ, List.cons_append, List.nil_append] at hL); have hF := hL.facts; (try simp only [Facts, Dist, List.map_cons, List.map_nil, List.forall_mem_cons, false_implies, ne_eq, not_false_eq_true, List.not_mem_nil, not_false_eq_true, true_implies, forall_const, List.mem_cons, or_false, implies_true, and_true, true_and, Nat.le_refl, List.setIfInBounds_toArray, List.set_cons_zero, List.set_cons_succ] at hF)
    by_cases hgo : j < m ∧ bq = false
    · obtain ⟨hj, rfl⟩ := hgo
      have hroom2 := hroom rfl
      clear hroom
      obtain ⟨x, rx, hx⟩ : ∃ x rx, textR ⟨q.data.toList, false⟩ = (x, rx) := ⟨_, _, rfl⟩
      obtain ⟨q2, b2, rfl⟩ := rd_eq rx
      have hg2 : Good ⟨q2.data.toList, b2⟩ := by
        have := good_text (r := ⟨q.data.toList, false⟩) hgq.out
        rw [hx] at this
        exact this
      have hj2 : (j : Int) < m := by omega
      go_wp2_with (go_at_call 35; refine (refTextB_q b q false wr (hK.has _ List.mem_cons_self) (fun h => by cases h) x q2 b2 hx).mono ?_)
      rintro e2 W2 ⟨rfl, hK1⟩
      have hK2 := hK.join1 0 rfl hK1
      simp only [List.eraseIdx_cons_zero, List.nil_append, List.append_nil, List.cons_append] at hK2
      have hown2 := owns_one hown hK1 (fun hg => hfr b hg (by simp))
      clear hL hF hK hown hK1
      have hal : ∀ o, Kn [b] w (W2.alloc o) [(b, .cells #[.string q2, .bool b2] 61 (0, 0))] := fun o => hK2.below ((Below.refl _ _).alloc (Nat.le_refl _) _)
      go_wp2_with (at_builtin; refine wpList_append_kn rfl _ _ 23 rfl 9 i0 _ Tryd.underlying23 hi hz0 (by rw [hz1]; rfl) (by rw [hz1]; decide) _ _ _ rfl (hal _) (by rw [hz1]; exact owns_below hown2 ((Below.refl _ _).alloc (Nat.le_refl _) _)) (fun g hg hm => hfr g hg (by simpa using hm)) ⟨W2.heap.size, 0, none⟩ 1 1 [.string ⟨x.toArray⟩] rfl (by rw [hz1]; rfl) ?c1 ?c2 ?c3 ?c4 ?_)
      case c1 =>
        intro i u hu
        match i, hu with
        | 0, hu => simp at hu; subst hu; simp [Addr.add]
      case c2 => intro u hu; simp at hu; subst hu; rfl
      case c3 => unfold maxLen; omega
      case c4 => rw [hz2]; omega
      intro v3 W3 hK3 hown3 hfr3
      clear hK2 hown2 hal hfr
      go_wp2
      go_roundw
      case rel =>
        refine ⟨j + 1, q2, b2, ys ++ [x], by omega, by go_num, hK3, ?_, hfr3, ?_, ?_, ?_, Lib.hid hg2⟩
        · rw [List.length_append, List.map_append]; exact hown3
        · rw [hspec, show m - j = (m - (j + 1)) + 1 by omega]; simp [loopR, hx]
        · simp; omega
        · rintro rfl
          have h1 := Text_shrink _ _ _ hx rfl
          simp at h1
          simp; omega
      case measure => simp [intOf]; omega
    · have hend : loopR textR (m - j) ⟨q.data.toList, bq⟩ = ([], ⟨q.data.toList, bq⟩) := by
        cases hmj : m - j with
        | zero => rfl
        | succ i =>
          cases bq with
          | true => rfl
          | false => exact absurd ⟨by omega, rfl⟩ hgo
      rw [hend] at hspec
      simp only [List.append_nil] at hspec
      rw [hspec] at hq
      obtain ⟨z3, b3, hc⟩ := rd_eq (closeR 93 ⟨q.data.toList, bq⟩)
      simp only [hc] at hq
      have hgo2 := hgq.out
      have hdone : Calls Tryd.prog 57 #[.pointer (some ⟨b, 0, none⟩), .int .u8 93] wr fun e w' => e = .returned (.bool (!b3)) ∧ (w'.ownsRow w.heap.size 9 1 u4 ys.length (ys.map fun x => .string ⟨x.toArray⟩) ∧ Kn [b] w w' [(b, .cells #[.string z3, .bool b3] 61 (0, 0))]) := by
        refine (refclose_q b q bq 93 93 n93 wr (hK.has _ List.mem_cons_self) hgo2 z3 b3 hc).mono ?_
        rintro e2 W2 ⟨rfl, hK1⟩
        have hK2 := hK.join1 0 rfl hK1
        simp only [List.eraseIdx_cons_zero, List.nil_append, List.append_nil, List.cons_append] at hK2
        exact ⟨rfl, owns_one hown hK1 (fun hg => hfr b hg (by simp)), hK2⟩
      cases bq
      · have hjm2 : ¬ (j : Int) < m := fun h => hgo ⟨by omega, rfl⟩
        clear hspec hend hroom hlen hfr hown hgo hgo2 hgq
        cases b3
        · simp only [Bool.false_eq_true, if_false] at hq
          injection hq with h1 h2
          injection h2 with h2 h3
          obtain rfl := ba_ext h2
          subst h1; subst h3
          go_wp2_with (go_at_call 57; refine hdone.mono ?_)
          first | (rintro e2 W2 rfl hown2 hK2) | (rintro e2 W2 ⟨rfl, hown2, hK2⟩)
          clear hL hF hdone
          have hL := hK2
          (try simp only [List.setIfInBounds_toArray, List.set_cons_zero, List.set_cons_succ, List.cons_append, List.nil_append] at hL); have hF := hL.facts; (try simp only [Facts, Dist, List.map_cons, List.map_nil, List.forall_mem_cons, false_implies, ne_eq, not_false_eq_true, List.not_mem_nil, not_false_eq_true, true_implies, forall_const, List.mem_cons, or_false, implies_true, and_true, true_and, Nat.le_refl, List.setIfInBounds_toArray, List.set_cons_zero, List.set_cons_succ] at hF)
          go_wp2
          (try simp only [Exit.inBlock, Exit.then]); refine bodyPost_ret (by simp [results, Tryd.results39, go_sem, *]; try rfl) rfl ?_
          exact ⟨_, rfl, hown2, hK2⟩
        · simp only [if_true] at hq
          injection hq with h1 h2
          injection h2 with h2 h3
          obtain rfl := ba_ext h2
          subst h1; subst h3
          go_wp2_with (go_at_call 57; refine hdone.mono ?_)
          first | (rintro e2 W2 rfl hown2 hK2) | (rintro e2 W2 ⟨rfl, hown2, hK2⟩)
          clear hL hF hdone
          have hL := hK2
          (try simp only [List.setIfInBounds_toArray, List.set_cons_zero, List.set_cons_succ, List.cons_append, List.nil_append] at hL); have hF := hL.facts; (try simp only [Facts, Dist, List.map_cons, List.map_nil, List.forall_mem_cons, false_implies, ne_eq, not_false_eq_true, List.not_mem_nil, not_false_eq_true, true_implies, forall_const, List.mem_cons, or_false, implies_true, and_true, true_and, Nat.le_refl, List.setIfInBounds_toArray, List.set_cons_zero, List.set_cons_succ] at hF)
          go_wp2
          (try simp only [Exit.inBlock, Exit.then]); refine bodyPost_ret (by simp [results, Tryd.results39, go_sem, *]; try rfl) rfl ?_
          exact ⟨_, rfl, ⟨rfl, .inl ⟨rfl, rfl⟩⟩, hK2⟩
      · have hnil := hgo2 rfl
        have hfr0 : closeR 93 ⟨q.data.toList, true⟩ = failR := by simp only at hnil; rw [hnil]; rfl
        rw [hfr0] at hc
        unfold failR at hc
        injection hc with h4 h5
        subst h5
        simp only [if_true] at hq
        injection hq with h1 h2
        injection h2 with h2 h3
        obtain rfl := ba_ext h2
        subst h1; subst h3
        obtain rfl : q = z3 := ba_ext (by rw [← h4]; exact hnil)
        clear hdone hspec hend hroom hlen hfr hown hgo2 hgq h4 hnil h2 hfr0
        by_cases hjm3 : (j : Int) < m
        · go_wp2
          (try simp only [Exit.inBlock, Exit.then]); refine bodyPost_ret (by simp [results, Tryd.results39, go_sem, *]; try rfl) rfl ?_
          exact ⟨_, rfl, ⟨rfl, .inl ⟨rfl, rfl⟩⟩, hK⟩
        · go_wp2
          (try simp only [Exit.inBlock, Exit.then]); refine bodyPost_ret (by simp [results, Tryd.results39, go_sem, *]; try rfl) rfl ?_
          exact ⟨_, rfl, ⟨rfl, .inl ⟨rfl, rfl⟩⟩, hK⟩

end Go.Proofs.YtedifjdhdhcbhaaDoor
