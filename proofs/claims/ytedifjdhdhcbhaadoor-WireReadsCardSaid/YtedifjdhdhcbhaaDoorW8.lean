import Derived.Test.YtedifjdhdhcbhaaDoorProg
import Derived.WalkKit
import Derived.Handy
import Derived.Deep.Light
import Derived.WalkSmall
import Derived.StillTailTactics
import Derived.Lib.Hide
import Derived.Test.YtedifjdhdhcbhaaDoorW0
import Derived.Test.YtedifjdhdhcbhaaDoorIt
import Derived.Test.YtedifjdhdhcbhaaDoorW7
import Derived.Test.YtedifjdhdhcbhaaDoorApp
import Derived.Laws.AppendOwn
import Derived.OwnWalk
namespace Go.Proofs.YtedifjdhdhcbhaaDoor
open Go Go.RowKit
set_option linter.unusedSimpArgs false
set_option linter.unusedVariables false

theorem num_max (e : UInt8) (least : Int) (r : Rd) (h : least ≤ 0) : (numR e least r).1 ≤ maxInt := by
  unfold numR
  split
  · simp [maxInt]
  · split
    · rename_i n hn
      split
      · simp [maxInt]
      · have := (canon_some hn).2.2
        unfold maxInt; simp only; omega
    · simp [maxInt]
theorem num_shrink (e : UInt8) (least : Int) (r : Rd) : (numR e least r).2.rest.length ≤ r.rest.length := by
  unfold numR
  split
  · simp [failR]
  · split
    · split
      · simp [failR]
      · simp
    · simp [failR]
theorem Int_one (b : Nat) (s : ByteArray) (bd : Bool) (w : World) (hT : Tab w) (hb6 : 6 ≤ b) (hs : w.heap[b]? = some (.cells #[.string s, .bool bd] 54 (0, 0))) (x : Int) (rs : ByteArray) (bd1 : Bool) (hq : intR ⟨s.data.toList, bd⟩ = (x, ⟨rs.data.toList, bd1⟩)) :
    Calls Tryd.prog 24 #[.pointer (some ⟨b, 0, none⟩)] w fun e w' => e = .returned (.int .i64 x) ∧ Kn [b] w w' [(b, .cells #[.string rs, .bool bd1] 54 (0, 0))] := Int_q b s bd w hT hb6 hs x rs bd1 hq
theorem Text_one (b : Nat) (s : ByteArray) (bd : Bool) (w : World) (hT : Tab w) (hb6 : 6 ≤ b) (hs : w.heap[b]? = some (.cells #[.string s, .bool bd] 54 (0, 0))) (x : Bytes) (rs : ByteArray) (bd1 : Bool) (hq : textR ⟨s.data.toList, bd⟩ = (x, ⟨rs.data.toList, bd1⟩)) :
    Calls Tryd.prog 25 #[.pointer (some ⟨b, 0, none⟩)] w fun e w' => e = .returned (.string ⟨x.toArray⟩) ∧ Kn [b] w w' [(b, .cells #[.string rs, .bool bd1] 54 (0, 0))] := Text_q b s bd w hT hb6 hs ⟨x.toArray⟩ rs bd1 hq

theorem Int_shrink (s : Bytes) (x : Int) (r : Rd) (h : intR ⟨s, false⟩ = (x, r)) (hb : r.bad = false) : r.rest.length + 1 ≤ s.length := by
  have h := int_again s x r h hb
  rw [h.1]
  simp [encInt]
  try omega
theorem infoInt : (Tryd.prog.info? 3).map (fun i => (i.zero, i.size, i.bytes)) = some (some (.int .i64 0), 1, 8) := by kernel_rfl
set_option maxRecDepth 20000 in
set_option maxHeartbeats 4000000 in
theorem items_Int (b : Nat) (s : ByteArray) (bd : Bool) (w : World) (hT : Tab w) (hb6 : 6 ≤ b) (hs : w.heap[b]? = some (.cells #[.string s, .bool bd] 54 (0, 0))) (hsz : s.size ≤ 100000000) (xs : List Int) (rs : ByteArray) (bd1 : Bool) (hq : itemsR intR ⟨s.data.toList, bd⟩ = (xs, ⟨rs.data.toList, bd1⟩)) :
    Calls Tryd.prog 51 #[.pointer (some ⟨b, 0, none⟩), .func (.func 24) #[.pointer (some ⟨b, 0, none⟩)] #[]] w fun e w' => ∃ v, e = .returned v ∧ w'.ownsRow w.heap.size 3 1 v xs.length (xs.map fun x => .int .i64 x) ∧ Kn [b] w w' [(b, .cells #[.string rs, .bool bd1] 54 (0, 0))] := by
  obtain ⟨i0, hi, hz0, hz1, hz2⟩ := info_parts infoInt
  obtain ⟨n, r, e⟩ : ∃ n r, numR 91 0 ⟨s.data.toList, bd⟩ = (n, r) := ⟨_, _, rfl⟩
  have h0 := num_ge 91 0 ⟨s.data.toList, bd⟩ (Int.le_refl _)
  rw [e] at h0
  have hmx := num_max 91 0 ⟨s.data.toList, bd⟩ (by decide)
  rw [e] at hmx
  unfold maxInt at hmx
  obtain ⟨m, rfl⟩ := Int.eq_ofNat_of_zero_le h0
  simp only at hmx
  obtain ⟨z, bdz, rfl⟩ := rd_eq r
  have hnum := e
  unfold itemsR at hq
  rw [e] at hq
  simp only [Int.toNat_natCast] at hq
  have hL : Kn [b] w w [(b, .cells #[.string s, .bool bd] 54 (0, 0))] := Kn.one hs; (try simp only [List.setIfInBounds_toArray, List.set_cons_zero, List.set_cons_succ, List.cons_append, List.nil_append] at hL); have hF := hL.facts; (try simp only [Facts, Dist, List.map_cons, List.map_nil, List.forall_mem_cons, false_implies, ne_eq, not_false_eq_true, List.not_mem_nil, not_false_eq_true, true_implies, forall_const, List.mem_cons, or_false, implies_true, and_true, true_and, Nat.le_refl, List.setIfInBounds_toArray, List.set_cons_zero, List.set_cons_succ] at hF); go_enter Tryd.func51, Tryd.ntmps51
  go_wp2_with (first | ((with_reducible refine kn_list_set ?_); (try clear hF); clear hL; intro W hL; (try simp only [List.setIfInBounds_toArray, List.set_cons_zero, List.set_cons_succ, List.cons_append, List.nil_append] at hL); have hF := hL.facts; (try simp only [Facts, Dist, List.map_cons, List.map_nil, List.forall_mem_cons, false_implies, ne_eq, not_false_eq_true, List.not_mem_nil, not_false_eq_true, true_implies, forall_const, List.mem_cons, or_false, implies_true, and_true, true_and, Nat.le_refl, List.setIfInBounds_toArray, List.set_cons_zero, List.set_cons_succ] at hF)) | (go_at_call 48; refine kn_calls ?_; (try clear hF); clear hL; intro W hL; (try simp only [List.setIfInBounds_toArray, List.set_cons_zero, List.set_cons_succ, List.cons_append, List.nil_append] at hL); have hF := hL.facts; (try simp only [Facts, Dist, List.map_cons, List.map_nil, List.forall_mem_cons, false_implies, ne_eq, not_false_eq_true, List.not_mem_nil, not_false_eq_true, true_implies, forall_const, List.mem_cons, or_false, implies_true, and_true, true_and, Nat.le_refl, List.setIfInBounds_toArray, List.set_cons_zero, List.set_cons_succ] at hF); (with_reducible refine (number_q _ _ _ 91 91 n91 (0) _ (hT.one hL hb6) hb6 (hL.has _ (by repeat (first | (with_reducible exact List.mem_cons_self) | (with_reducible apply List.mem_cons_of_mem)))) _ _ _ hnum).mono ?_); rintro e W ⟨rfl, hb⟩; (first | (replace hL := hL.join1 0 rfl hb) | (replace hL := hL.join1 1 rfl hb) | (replace hL := hL.join1 2 rfl hb) | (replace hL := hL.join1 3 rfl hb) | (replace hL := hL.join1 4 rfl hb) | (replace hL := hL.join1 5 rfl hb) | (replace hL := hL.join1 6 rfl hb) | (replace hL := hL.join1 7 rfl hb)); clear hb; (try clear hF); (try simp only [List.eraseIdx_cons_zero, List.eraseIdx_cons_succ, List.cons_append, List.nil_append] at hL); (try simp only [List.setIfInBounds_toArray, List.set_cons_zero, List.set_cons_succ, List.cons_append, List.nil_append] at hL); have hF := hL.facts; (try simp only [Facts, Dist, List.map_cons, List.map_nil, List.forall_mem_cons, false_implies, ne_eq, not_false_eq_true, List.not_mem_nil, not_false_eq_true, true_implies, forall_const, List.mem_cons, or_false, implies_true, and_true, true_and, Nat.le_refl, List.setIfInBounds_toArray, List.set_cons_zero, List.set_cons_succ] at hF)))
  have hz : z.size ≤ s.size := by
    have h := num_shrink 91 0 ⟨s.data.toList, bd⟩
    rw [e] at h
    simpa using h
  go_loopw [5, 6] (fun v i wr => ∃ (j : Nat) (q : ByteArray) (bq : Bool) (ys : List Int), j ≤ m ∧ i = .int .i64 j ∧ Kn [b] w wr [(b, .cells #[.string q, .bool bq] 54 (0, 0))]
    ∧ wr.ownsRow w.heap.size 3 1 v ys.length (ys.map fun x => .int .i64 x) ∧ Fresh v [(b, .cells #[.string q, .bool bq] 54 (0, 0))] ∧ loopR intR m ⟨z.data.toList, bdz⟩ = (ys ++ (loopR intR j ⟨q.data.toList, bq⟩).1, (loopR intR j ⟨q.data.toList, bq⟩).2)
    ∧ ys.length ≤ 100000001 ∧ (bq = false → ys.length + q.size ≤ 100000000)) (fun _ i _ => (intOf i).toNat)
  case atStart =>
    refine ⟨m, z, bdz, [], Nat.le_refl _, rfl, hL, ?_, ?_, ?_, ?_, ?_⟩
    · exact ⟨rfl, .inl ⟨rfl, rfl⟩⟩
    · intro g hg; cases hg
    · simp
    · simp
    · intro _; simp; omega
  case round =>
    obtain ⟨j, q, bq, ys, hjm, rfl, hK, hown, hfr, hspec, hlen, hroom⟩ := hrel
    clear hL hF hz
    have hL := hK
    (try simp only [List.setIfInBounds_toArray, List.set_cons_zero, List.set_cons_succ, List.cons_append, List.nil_append] at hL); have hF := hL.facts; (try simp only [Facts, Dist, List.map_cons, List.map_nil, List.forall_mem_cons, false_implies, ne_eq, not_false_eq_true, List.not_mem_nil, not_false_eq_true, true_implies, forall_const, List.mem_cons, or_false, implies_true, and_true, true_and, Nat.le_refl, List.setIfInBounds_toArray, List.set_cons_zero, List.set_cons_succ] at hF)
    by_cases hgo : 0 < j ∧ bq = false
    · obtain ⟨hj, rfl⟩ := hgo
      have hroom2 := hroom rfl
      clear hroom
      obtain ⟨x, rx, hx⟩ : ∃ x rx, intR ⟨q.data.toList, false⟩ = (x, rx) := ⟨_, _, rfl⟩
      obtain ⟨q2, b2, rfl⟩ := rd_eq rx
      go_wp2_with (go_at_call 24; refine (Int_one b q false wr (hT.one hK hb6) hb6 (hK.has _ List.mem_cons_self) x q2 b2 hx).mono ?_)
      rintro e2 W2 ⟨rfl, hK1⟩
      have hK2 := hK.join1 0 rfl hK1
      simp only [List.eraseIdx_cons_zero, List.nil_append, List.append_nil, List.cons_append] at hK2
      have hown2 := owns_one hown hK1 (fun hg => hfr b hg (by simp))
      clear hL hF hK hown hK1
      have hal : ∀ o, Kn [b] w (W2.alloc o) [(b, .cells #[.string q2, .bool b2] 54 (0, 0))] := fun o => hK2.below ((Below.refl _ _).alloc (Nat.le_refl _) _)
      go_wp2_with (at_builtin; refine wpList_append_kn rfl _ _ 22 rfl 3 i0 _ Tryd.underlying22 hi hz0 (by rw [hz1]; rfl) (by rw [hz1]; decide) _ _ _ rfl (hal _) (by rw [hz1]; exact owns_below hown2 ((Below.refl _ _).alloc (Nat.le_refl _) _)) (fun g hg hm => hfr g hg (by simpa using hm)) ⟨W2.heap.size, 0, none⟩ 1 1 [.int .i64 x] rfl (by rw [hz1]; rfl) ?c1 ?c2 ?c3 ?c4 ?_)
      case c1 =>
        intro i u hu
        match i, hu with
        | 0, hu => simp at hu; subst hu; simp [Addr.add]
      case c2 => intro u hu; simp at hu; subst hu; rfl
      case c3 => unfold maxLen; omega
      case c4 => rw [hz2]; omega
      intro v3 W3 hK3 hown3 hfr3
      clear hK2 hown2 hal hfr
      go_wp2
      go_roundw
      case rel =>
        obtain ⟨i, rfl⟩ : ∃ i, j = i + 1 := ⟨j - 1, by omega⟩
        refine ⟨i, q2, b2, ys ++ [x], by omega, by go_num, hK3, ?_, hfr3, ?_, ?_, ?_⟩
        · rw [List.length_append, List.map_append]; exact hown3
        · rw [hspec]; simp [loopR, hx]
        · simp; omega
        · rintro rfl
          have h1 := Int_shrink _ _ _ hx rfl
          simp at h1
          simp; omega
      case measure =>
        have hw : wrap64 ((j : Int) - 1) = j - 1 := by unfold wrap64; omega
        simp [intOf, hw]; omega
    · have hend : loopR intR j ⟨q.data.toList, bq⟩ = ([], ⟨q.data.toList, bq⟩) := by
        cases j with
        | zero => rfl
        | succ j =>
          cases bq with
          | true => rfl
          | false => exact absurd ⟨by omega, rfl⟩ hgo
      rw [hend] at hspec
      simp only [List.append_nil] at hspec
      rw [hspec] at hq
      obtain ⟨z3, b3, hc⟩ := rd_eq (closeR 93 ⟨q.data.toList, bq⟩)
      simp only [hc] at hq
      have hdone : Calls Tryd.prog 50 #[.pointer (some ⟨b, 0, none⟩), .string ⟨#[93]⟩] wr fun e w' => e = .returned (.tuple #[]) ∧ (w'.ownsRow w.heap.size 3 1 u5 ys.length (ys.map fun x => .int .i64 x) ∧ Kn [b] w w' [(b, .cells #[.string z3, .bool b3] 54 (0, 0))]) := by
        refine (close_q b q bq 93 wr (hK.has _ List.mem_cons_self) z3 b3 hc).mono ?_
        rintro e2 W2 ⟨rfl, hK1⟩
        have hK2 := hK.join1 0 rfl hK1
        simp only [List.eraseIdx_cons_zero, List.nil_append, List.append_nil, List.cons_append] at hK2
        exact ⟨rfl, owns_one hown hK1 (fun hg => hfr b hg (by simp)), hK2⟩
      clear hspec hend hroom hlen hfr hown hc
      have hcase : (j = 0) ∨ (0 < j ∧ bq = true) := by
        rcases Nat.eq_zero_or_pos j with h | h
        · exact .inl h
        · cases bq
          · exact absurd ⟨h, rfl⟩ hgo
          · exact .inr ⟨h, rfl⟩
      clear hgo
      cases b3
      · simp only [Bool.false_eq_true, if_false] at hq
        injection hq with h1 h2
        injection h2 with h2 h3
        obtain rfl := ba_ext h2
        subst h1; subst h3
        rcases hcase with rfl | ⟨hj, rfl⟩
        · go_wp2_with (go_at_call 50; refine hdone.mono ?_)
          first | (rintro e2 W2 rfl hown2 hK2) | (rintro e2 W2 ⟨rfl, hown2, hK2⟩)
          clear hL hF hdone
          have hL := hK2
          (try simp only [List.setIfInBounds_toArray, List.set_cons_zero, List.set_cons_succ, List.cons_append, List.nil_append] at hL); have hF := hL.facts; (try simp only [Facts, Dist, List.map_cons, List.map_nil, List.forall_mem_cons, false_implies, ne_eq, not_false_eq_true, List.not_mem_nil, not_false_eq_true, true_implies, forall_const, List.mem_cons, or_false, implies_true, and_true, true_and, Nat.le_refl, List.setIfInBounds_toArray, List.set_cons_zero, List.set_cons_succ] at hF)
          go_wp2
          (try simp only [Exit.inBlock, Exit.then]); refine bodyPost_ret (by simp [results, Tryd.results51, go_sem, *]; try rfl) rfl ?_
          exact ⟨_, rfl, hown2, hK2⟩
        · go_wp2_with (go_at_call 50; refine hdone.mono ?_)
          first | (rintro e2 W2 rfl hown2 hK2) | (rintro e2 W2 ⟨rfl, hown2, hK2⟩)
          clear hL hF hdone
          have hL := hK2
          (try simp only [List.setIfInBounds_toArray, List.set_cons_zero, List.set_cons_succ, List.cons_append, List.nil_append] at hL); have hF := hL.facts; (try simp only [Facts, Dist, List.map_cons, List.map_nil, List.forall_mem_cons, false_implies, ne_eq, not_false_eq_true, List.not_mem_nil, not_false_eq_true, true_implies, forall_const, List.mem_cons, or_false, implies_true, and_true, true_and, Nat.le_refl, List.setIfInBounds_toArray, List.set_cons_zero, List.set_cons_succ] at hF)
          go_wp2
          (try simp only [Exit.inBlock, Exit.then]); refine bodyPost_ret (by simp [results, Tryd.results51, go_sem, *]; try rfl) rfl ?_
          exact ⟨_, rfl, hown2, hK2⟩
      · simp only [if_true] at hq
        injection hq with h1 h2
        injection h2 with h2 h3
        obtain rfl := ba_ext h2
        subst h1; subst h3
        rcases hcase with rfl | ⟨hj, rfl⟩
        · go_wp2_with (go_at_call 50; refine hdone.mono ?_)
          first | (rintro e2 W2 rfl hown2 hK2) | (rintro e2 W2 ⟨rfl, hown2, hK2⟩)
          clear hL hF hdone
          have hL := hK2
          (try simp only [List.setIfInBounds_toArray, List.set_cons_zero, List.set_cons_succ, List.cons_append, List.nil_append] at hL); have hF := hL.facts; (try simp only [Facts, Dist, List.map_cons, List.map_nil, List.forall_mem_cons, false_implies, ne_eq, not_false_eq_true, List.not_mem_nil, not_false_eq_true, true_implies, forall_const, List.mem_cons, or_false, implies_true, and_true, true_and, Nat.le_refl, List.setIfInBounds_toArray, List.set_cons_zero, List.set_cons_succ] at hF)
          go_wp2
          (try simp only [Exit.inBlock, Exit.then]); refine bodyPost_ret (by simp [results, Tryd.results51, go_sem, *]; try rfl) rfl ?_
          exact ⟨_, rfl, ⟨rfl, .inl ⟨rfl, rfl⟩⟩, hK2⟩
        · go_wp2_with (go_at_call 50; refine hdone.mono ?_)
          first | (rintro e2 W2 rfl hown2 hK2) | (rintro e2 W2 ⟨rfl, hown2, hK2⟩)
          clear hL hF hdone
          have hL := hK2
          (try simp only [List.setIfInBounds_toArray, List.set_cons_zero, List.set_cons_succ, List.cons_append, List.nil_append] at hL); have hF := hL.facts; (try simp only [Facts, Dist, List.map_cons, List.map_nil, List.forall_mem_cons, false_implies, ne_eq, not_false_eq_true, List.not_mem_nil, not_false_eq_true, true_implies, forall_const, List.mem_cons, or_false, implies_true, and_true, true_and, Nat.le_refl, List.setIfInBounds_toArray, List.set_cons_zero, List.set_cons_succ] at hF)
          go_wp2
          (try simp only [Exit.inBlock, Exit.then]); refine bodyPost_ret (by simp [results, Tryd.results51, go_sem, *]; try rfl) rfl ?_
          exact ⟨_, rfl, ⟨rfl, .inl ⟨rfl, rfl⟩⟩, hK2⟩

theorem Text_shrink (s : Bytes) (x : Bytes) (r : Rd) (h : textR ⟨s, false⟩ = (x, r)) (hb : r.bad = false) : r.rest.length + 1 ≤ s.length := by
  have h := text_again h hb
  rw [h.1]
  simp [encText]
  try omega
theorem infoText : (Tryd.prog.info? 9).map (fun i => (i.zero, i.size, i.bytes)) = some (some (.string ⟨#[]⟩), 1, 16) := by kernel_rfl
set_option maxRecDepth 20000 in
set_option maxHeartbeats 4000000 in
theorem items_Text (b : Nat) (s : ByteArray) (bd : Bool) (w : World) (hT : Tab w) (hb6 : 6 ≤ b) (hs : w.heap[b]? = some (.cells #[.string s, .bool bd] 54 (0, 0))) (hsz : s.size ≤ 100000000) (xs : List Bytes) (rs : ByteArray) (bd1 : Bool) (hq : itemsR textR ⟨s.data.toList, bd⟩ = (xs, ⟨rs.data.toList, bd1⟩)) :
    Calls Tryd.prog 52 #[.pointer (some ⟨b, 0, none⟩), .func (.func 25) #[.pointer (some ⟨b, 0, none⟩)] #[]] w fun e w' => ∃ v, e = .returned v ∧ w'.ownsRow w.heap.size 9 1 v xs.length (xs.map fun x => .string ⟨x.toArray⟩) ∧ Kn [b] w w' [(b, .cells #[.string rs, .bool bd1] 54 (0, 0))] := by
  obtain ⟨i0, hi, hz0, hz1, hz2⟩ := info_parts infoText
  obtain ⟨n, r, e⟩ : ∃ n r, numR 91 0 ⟨s.data.toList, bd⟩ = (n, r) := ⟨_, _, rfl⟩
  have h0 := num_ge 91 0 ⟨s.data.toList, bd⟩ (Int.le_refl _)
  rw [e] at h0
  have hmx := num_max 91 0 ⟨s.data.toList, bd⟩ (by decide)
  rw [e] at hmx
  unfold maxInt at hmx
  obtain ⟨m, rfl⟩ := Int.eq_ofNat_of_zero_le h0
  simp only at hmx
  obtain ⟨z, bdz, rfl⟩ := rd_eq r
  have hnum := e
  unfold itemsR at hq
  rw [e] at hq
  simp only [Int.toNat_natCast] at hq
  have hL : Kn [b] w w [(b, .cells #[.string s, .bool bd] 54 (0, 0))] := Kn.one hs; (try simp only [List.setIfInBounds_toArray, List.set_cons_zero, List.set_cons_succ, List.cons_append, List.nil_append] at hL); have hF := hL.facts; (try simp only [Facts, Dist, List.map_cons, List.map_nil, List.forall_mem_cons, false_implies, ne_eq, not_false_eq_true, List.not_mem_nil, not_false_eq_true, true_implies, forall_const, List.mem_cons, or_false, implies_true, and_true, true_and, Nat.le_refl, List.setIfInBounds_toArray, List.set_cons_zero, List.set_cons_succ] at hF); go_enter Tryd.func52, Tryd.ntmps52
  go_wp2_with (first | ((with_reducible refine kn_list_set ?_); (try clear hF); clear hL; intro W hL; (try simp only [List.setIfInBounds_toArray, List.set_cons_zero, List.set_cons_succ, List.cons_append, List.nil_append] at hL); have hF := hL.facts; (try simp only [Facts, Dist, List.map_cons, List.map_nil, List.forall_mem_cons, false_implies, ne_eq, not_false_eq_true, List.not_mem_nil, not_false_eq_true, true_implies, forall_const, List.mem_cons, or_false, implies_true, and_true, true_and, Nat.le_refl, List.setIfInBounds_toArray, List.set_cons_zero, List.set_cons_succ] at hF)) | (go_at_call 48; refine kn_calls ?_; (try clear hF); clear hL; intro W hL; (try simp only [List.setIfInBounds_toArray, List.set_cons_zero, List.set_cons_succ, List.cons_append, List.nil_append] at hL); have hF := hL.facts; (try simp only [Facts, Dist, List.map_cons, List.map_nil, List.forall_mem_cons, false_implies, ne_eq, not_false_eq_true, List.not_mem_nil, not_false_eq_true, true_implies, forall_const, List.mem_cons, or_false, implies_true, and_true, true_and, Nat.le_refl, List.setIfInBounds_toArray, List.set_cons_zero, List.set_cons_succ] at hF); (with_reducible refine (number_q _ _ _ 91 91 n91 (0) _ (hT.one hL hb6) hb6 (hL.has _ (by repeat (first | (with_reducible exact List.mem_cons_self) | (with_reducible apply List.mem_cons_of_mem)))) _ _ _ hnum).mono ?_); rintro e W ⟨rfl, hb⟩; (first | (replace hL := hL.join1 0 rfl hb) | (replace hL := hL.join1 1 rfl hb) | (replace hL := hL.join1 2 rfl hb) | (replace hL := hL.join1 3 rfl hb) | (replace hL := hL.join1 4 rfl hb) | (replace hL := hL.join1 5 rfl hb) | (replace hL := hL.join1 6 rfl hb) | (replace hL := hL.join1 7 rfl hb)); clear hb; (try clear hF); (try simp only [List.eraseIdx_cons_zero, List.eraseIdx_cons_succ, List.cons_append, List.nil_append] at hL); (try simp only [List.setIfInBounds_toArray, List.set_cons_zero, List.set_cons_succ, List.cons_append, List.nil_append] at hL); have hF := hL.facts; (try simp only [Facts, Dist, List.map_cons, List.map_nil, List.forall_mem_cons, false_implies, ne_eq, not_false_eq_true, List.not_mem_nil, not_false_eq_true, true_implies, forall_const, List.mem_cons, or_false, implies_true, and_true, true_and, Nat.le_refl, List.setIfInBounds_toArray, List.set_cons_zero, List.set_cons_succ] at hF)))
  have hz : z.size ≤ s.size := by
    have h := num_shrink 91 0 ⟨s.data.toList, bd⟩
    rw [e] at h
    simpa using h
  go_loopw [5, 6] (fun v i wr => ∃ (j : Nat) (q : ByteArray) (bq : Bool) (ys : List Bytes), j ≤ m ∧ i = .int .i64 j ∧ Kn [b] w wr [(b, .cells #[.string q, .bool bq] 54 (0, 0))]
    ∧ wr.ownsRow w.heap.size 9 1 v ys.length (ys.map fun x => .string ⟨x.toArray⟩) ∧ Fresh v [(b, .cells #[.string q, .bool bq] 54 (0, 0))] ∧ loopR textR m ⟨z.data.toList, bdz⟩ = (ys ++ (loopR textR j ⟨q.data.toList, bq⟩).1, (loopR textR j ⟨q.data.toList, bq⟩).2)
    ∧ ys.length ≤ 100000001 ∧ (bq = false → ys.length + q.size ≤ 100000000)) (fun _ i _ => (intOf i).toNat)
  case atStart =>
    refine ⟨m, z, bdz, [], Nat.le_refl _, rfl, hL, ?_, ?_, ?_, ?_, ?_⟩
    · exact ⟨rfl, .inl ⟨rfl, rfl⟩⟩
    · intro g hg; cases hg
    · simp
    · simp
    · intro _; simp; omega
  case round =>
    obtain ⟨j, q, bq, ys, hjm, rfl, hK, hown, hfr, hspec, hlen, hroom⟩ := hrel
    clear hL hF hz
    have hL := hK
    (try simp only [List.setIfInBounds_toArray, List.set_cons_zero, List.set_cons_succ, List.cons_append, List.nil_append] at hL); have hF := hL.facts; (try simp only [Facts, Dist, List.map_cons, List.map_nil, List.forall_mem_cons, false_implies, ne_eq, not_false_eq_true, List.not_mem_nil, not_false_eq_true, true_implies, forall_const, List.mem_cons, or_false, implies_true, and_true, true_and, Nat.le_refl, List.setIfInBounds_toArray, List.set_cons_zero, List.set_cons_succ] at hF)
    by_cases hgo : 0 < j ∧ bq = false
    · obtain ⟨hj, rfl⟩ := hgo
      have hroom2 := hroom rfl
      clear hroom
      obtain ⟨x, rx, hx⟩ : ∃ x rx, textR ⟨q.data.toList, false⟩ = (x, rx) := ⟨_, _, rfl⟩
      obtain ⟨q2, b2, rfl⟩ := rd_eq rx
      go_wp2_with (go_at_call 25; refine (Text_one b q false wr (hT.one hK hb6) hb6 (hK.has _ List.mem_cons_self) x q2 b2 hx).mono ?_)
      rintro e2 W2 ⟨rfl, hK1⟩
      have hK2 := hK.join1 0 rfl hK1
      simp only [List.eraseIdx_cons_zero, List.nil_append, List.append_nil, List.cons_append] at hK2
      have hown2 := owns_one hown hK1 (fun hg => hfr b hg (by simp))
      clear hL hF hK hown hK1
      have hal : ∀ o, Kn [b] w (W2.alloc o) [(b, .cells #[.string q2, .bool b2] 54 (0, 0))] := fun o => hK2.below ((Below.refl _ _).alloc (Nat.le_refl _) _)
      go_wp2_with (at_builtin; refine wpList_append_kn rfl _ _ 23 rfl 9 i0 _ Tryd.underlying23 hi hz0 (by rw [hz1]; rfl) (by rw [hz1]; decide) _ _ _ rfl (hal _) (by rw [hz1]; exact owns_below hown2 ((Below.refl _ _).alloc (Nat.le_refl _) _)) (fun g hg hm => hfr g hg (by simpa using hm)) ⟨W2.heap.size, 0, none⟩ 1 1 [.string ⟨x.toArray⟩] rfl (by rw [hz1]; rfl) ?c1 ?c2 ?c3 ?c4 ?_)
      case c1 =>
        intro i u hu
        match i, hu with
        | 0, hu => simp at hu; subst hu; simp [Addr.add]
      case c2 => intro u hu; simp at hu; subst hu; rfl
      case c3 => unfold maxLen; omega
      case c4 => rw [hz2]; omega
      intro v3 W3 hK3 hown3 hfr3
      clear hK2 hown2 hal hfr
      go_wp2
      go_roundw
      case rel =>
        obtain ⟨i, rfl⟩ : ∃ i, j = i + 1 := ⟨j - 1, by omega⟩
        refine ⟨i, q2, b2, ys ++ [x], by omega, by go_num, hK3, ?_, hfr3, ?_, ?_, ?_⟩
        · rw [List.length_append, List.map_append]; exact hown3
        · rw [hspec]; simp [loopR, hx]
        · simp; omega
        · rintro rfl
          have h1 := Text_shrink _ _ _ hx rfl
          simp at h1
          simp; omega
      case measure =>
        have hw : wrap64 ((j : Int) - 1) = j - 1 := by unfold wrap64; omega
        simp [intOf, hw]; omega
    · have hend : loopR textR j ⟨q.data.toList, bq⟩ = ([], ⟨q.data.toList, bq⟩) := by
        cases j with
        | zero => rfl
        | succ j =>
          cases bq with
          | true => rfl
          | false => exact absurd ⟨by omega, rfl⟩ hgo
      rw [hend] at hspec
      simp only [List.append_nil] at hspec
      rw [hspec] at hq
      obtain ⟨z3, b3, hc⟩ := rd_eq (closeR 93 ⟨q.data.toList, bq⟩)
      simp only [hc] at hq
      have hdone : Calls Tryd.prog 50 #[.pointer (some ⟨b, 0, none⟩), .string ⟨#[93]⟩] wr fun e w' => e = .returned (.tuple #[]) ∧ (w'.ownsRow w.heap.size 9 1 u5 ys.length (ys.map fun x => .string ⟨x.toArray⟩) ∧ Kn [b] w w' [(b, .cells #[.string z3, .bool b3] 54 (0, 0))]) := by
        refine (close_q b q bq 93 wr (hK.has _ List.mem_cons_self) z3 b3 hc).mono ?_
        rintro e2 W2 ⟨rfl, hK1⟩
        have hK2 := hK.join1 0 rfl hK1
        simp only [List.eraseIdx_cons_zero, List.nil_append, List.append_nil, List.cons_append] at hK2
        exact ⟨rfl, owns_one hown hK1 (fun hg => hfr b hg (by simp)), hK2⟩
      clear hspec hend hroom hlen hfr hown hc
      have hcase : (j = 0) ∨ (0 < j ∧ bq = true) := by
        rcases Nat.eq_zero_or_pos j with h | h
        · exact .inl h
        · cases bq
          · exact absurd ⟨h, rfl⟩ hgo
          · exact .inr ⟨h, rfl⟩
      clear hgo
      cases b3
      · simp only [Bool.false_eq_true, if_false] at hq
        injection hq with h1 h2
        injection h2 with h2 h3
        obtain rfl := ba_ext h2
        subst h1; subst h3
        rcases hcase with rfl | ⟨hj, rfl⟩
        · go_wp2_with (go_at_call 50; refine hdone.mono ?_)
          first | (rintro e2 W2 rfl hown2 hK2) | (rintro e2 W2 ⟨rfl, hown2, hK2⟩)
          clear hL hF hdone
          have hL := hK2
          (try simp only [List.setIfInBounds_toArray, List.set_cons_zero, List.set_cons_succ, List.cons_append, List.nil_append] at hL); have hF := hL.facts; (try simp only [Facts, Dist, List.map_cons, List.map_nil, List.forall_mem_cons, false_implies, ne_eq, not_false_eq_true, List.not_mem_nil, not_false_eq_true, true_implies, forall_const, List.mem_cons, or_false, implies_true, and_true, true_and, Nat.le_refl, List.setIfInBounds_toArray, List.set_cons_zero, List.set_cons_succ] at hF)
          go_wp2
          (try simp only [Exit.inBlock, Exit.then]); refine bodyPost_ret (by simp [results, Tryd.results52, go_sem, *]; try rfl) rfl ?_
          exact ⟨_, rfl, hown2, hK2⟩
        · go_wp2_with (go_at_call 50; refine hdone.mono ?_)
          first | (rintro e2 W2 rfl hown2 hK2) | (rintro e2 W2 ⟨rfl, hown2, hK2⟩)
          clear hL hF hdone
          have hL := hK2
          (try simp only [List.setIfInBounds_toArray, List.set_cons_zero, List.set_cons_succ, List.cons_append, List.nil_append] at hL); have hF := hL.facts; (try simp only [Facts, Dist, List.map_cons, List.map_nil, List.forall_mem_cons, false_implies, ne_eq, not_false_eq_true, List.not_mem_nil, not_false_eq_true, true_implies, forall_const, List.mem_cons, or_false, implies_true, and_true, true_and, Nat.le_refl, List.setIfInBounds_toArray, List.set_cons_zero, List.set_cons_succ] at hF)
          go_wp2
          (try simp only [Exit.inBlock, Exit.then]); refine bodyPost_ret (by simp [results, Tryd.results52, go_sem, *]; try rfl) rfl ?_
          exact ⟨_, rfl, hown2, hK2⟩
      · simp only [if_true] at hq
        injection hq with h1 h2
        injection h2 with h2 h3
        obtain rfl := ba_ext h2
        subst h1; subst h3
        rcases hcase with rfl | ⟨hj, rfl⟩
        · go_wp2_with (go_at_call 50; refine hdone.mono ?_)
          first | (rintro e2 W2 rfl hown2 hK2) | (rintro e2 W2 ⟨rfl, hown2, hK2⟩)
          clear hL hF hdone
          have hL := hK2
          (try simp only [List.setIfInBounds_toArray, List.set_cons_zero, List.set_cons_succ, List.cons_append, List.nil_append] at hL); have hF := hL.facts; (try simp only [Facts, Dist, List.map_cons, List.map_nil, List.forall_mem_cons, false_implies, ne_eq, not_false_eq_true, List.not_mem_nil, not_false_eq_true, true_implies, forall_const, List.mem_cons, or_false, implies_true, and_true, true_and, Nat.le_refl, List.setIfInBounds_toArray, List.set_cons_zero, List.set_cons_succ] at hF)
          go_wp2
          (try simp only [Exit.inBlock, Exit.then]); refine bodyPost_ret (by simp [results, Tryd.results52, go_sem, *]; try rfl) rfl ?_
          exact ⟨_, rfl, ⟨rfl, .inl ⟨rfl, rfl⟩⟩, hK2⟩
        · go_wp2_with (go_at_call 50; refine hdone.mono ?_)
          first | (rintro e2 W2 rfl hown2 hK2) | (rintro e2 W2 ⟨rfl, hown2, hK2⟩)
          clear hL hF hdone
          have hL := hK2
          (try simp only [List.setIfInBounds_toArray, List.set_cons_zero, List.set_cons_succ, List.cons_append, List.nil_append] at hL); have hF := hL.facts; (try simp only [Facts, Dist, List.map_cons, List.map_nil, List.forall_mem_cons, false_implies, ne_eq, not_false_eq_true, List.not_mem_nil, not_false_eq_true, true_implies, forall_const, List.mem_cons, or_false, implies_true, and_true, true_and, Nat.le_refl, List.setIfInBounds_toArray, List.set_cons_zero, List.set_cons_succ] at hF)
          go_wp2
          (try simp only [Exit.inBlock, Exit.then]); refine bodyPost_ret (by simp [results, Tryd.results52, go_sem, *]; try rfl) rfl ?_
          exact ⟨_, rfl, ⟨rfl, .inl ⟨rfl, rfl⟩⟩, hK2⟩

end Go.Proofs.YtedifjdhdhcbhaaDoor
