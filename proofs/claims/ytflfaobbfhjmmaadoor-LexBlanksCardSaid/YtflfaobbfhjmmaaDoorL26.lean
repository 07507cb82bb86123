import Derived.Test.YtflfaobbfhjmmaaDoorProg
import Derived.WalkKit
import Derived.Handy
import Derived.Deep.Light
import Derived.WalkSmall
import Derived.StillTailTactics
import Derived.Lib.Hide
import Derived.Test.YtflfaobbfhjmmaaDoorT0
import Derived.Test.YtflfaobbfhjmmaaDoorIt
import Derived.Test.YtflfaobbfhjmmaaDoorL25
namespace Go.Proofs.YtflfaobbfhjmmaaDoor
open Go Go.RowKit
set_option linter.unusedSimpArgs false
set_option linter.unusedVariables false

theorem map_fst_cons {α β : Type} {l : List (α × β)} {t : α} {ts : List α} (h : l.map (·.1) = t :: ts) : ∃ p l', l = (t, p) :: l' ∧ l'.map (·.1) = ts := by
  cases l with
  | nil => cases h
  | cons a l =>
    obtain ⟨a1, a2⟩ := a
    simp only [List.map_cons, List.cons.injEq] at h
    exact ⟨a2, l, by rw [h.1], h.2⟩
theorem map_fst_nil {α β : Type} {l : List (α × β)} (h : l.map (·.1) = []) : l = [] := by simpa using h
theorem rowk_open {k : Nat} {w : World} {v : Value} {xs : List (List Value)} (h : RowK k w v xs) (hne : 0 < xs.length) : ∃ g o cap, v = .slice (some ⟨g, o, none⟩) xs.length cap ∧ ∀ (j : Nat) cs, xs[j]? = some cs → ∀ (c : Nat) x, cs[c]? = some x → w.cell? ⟨g, o + j * k + c, none⟩ = some x := by
  obtain ⟨ao, cap, rfl, h2⟩ := h
  cases xs with
  | nil => simp at hne
  | cons y ys =>
    obtain ⟨g, o, rfl, _⟩ := h2 0 y rfl
    refine ⟨g, o, cap, rfl, fun j cs hj c x hc => ?_⟩
    obtain ⟨g', o', e, h4⟩ := h2 j cs hj
    injection e with e
    injection e with e1 e2
    subst e1; subst e2
    exact h4 c x hc
set_option maxRecDepth 20000 in
set_option maxHeartbeats 4000000 in
theorem small_is (w : World) : Calls Tryd.prog 7 #[] w fun e w' => e = .returned (.bool true) ∧ Below w.heap.size w w' := by
  have HX0 : Hid (∀ W, Calls Tryd.prog 9 #[.string ⟨#[101, 99, 104, 111, 32, 34, 97, 32, 36, 120, 34, 39, 98, 39, 32, 35, 32, 99]⟩] W fun e w' => Below W.heap.size W w' ∧ ∃ v, e = .returned (.tuple #[v, .int .i64 0, .int .i64 0]) ∧ TokRow w' v [⟨0, [], [101, 99, 104, 111], [⟨0, [101, 99, 104, 111], false⟩], -1, 1⟩, ⟨0, [], [], [⟨0, [97, 32], true⟩, ⟨1, [120], true⟩, ⟨0, [98], true⟩], -1, 1⟩, ⟨4, [], [], [], -1, 1⟩]) := Lib.hid fun W => by
    have h := Lex_is ⟨#[101, 99, 104, 111, 32, 34, 97, 32, 36, 120, 34, 39, 98, 39, 32, 35, 32, 99]⟩ (by decide) W
    unfold LPost at h
    rw [show lex (⟨#[101, 99, 104, 111, 32, 34, 97, 32, 36, 120, 34, 39, 98, 39, 32, 35, 32, 99]⟩ : ByteArray).data.toList = .ok [⟨0, [], [101, 99, 104, 111], [⟨0, [101, 99, 104, 111], false⟩], -1, 1⟩, ⟨0, [], [], [⟨0, [97, 32], true⟩, ⟨1, [120], true⟩, ⟨0, [98], true⟩], -1, 1⟩, ⟨4, [], [], [], -1, 1⟩] from by kernel_rfl] at h
    exact h
  have HX1 : Hid (∀ W, Calls Tryd.prog 9 #[.string ⟨#[108, 115, 32, 50, 62, 38, 49, 32, 62, 62, 102, 38, 38, 120]⟩] W fun e w' => Below W.heap.size W w' ∧ ∃ v, e = .returned (.tuple #[v, .int .i64 0, .int .i64 0]) ∧ TokRow w' v [⟨0, [], [108, 115], [⟨0, [108, 115], false⟩], -1, 1⟩, ⟨2, [62, 38], [], [], 2, 1⟩, ⟨0, [], [49], [⟨0, [49], false⟩], -1, 1⟩, ⟨2, [62, 62], [], [], -1, 1⟩, ⟨0, [], [102], [⟨0, [102], false⟩], -1, 1⟩, ⟨1, [38, 38], [], [], -1, 1⟩, ⟨0, [], [120], [⟨0, [120], false⟩], -1, 1⟩, ⟨4, [], [], [], -1, 1⟩]) := Lib.hid fun W => by
    have h := Lex_is ⟨#[108, 115, 32, 50, 62, 38, 49, 32, 62, 62, 102, 38, 38, 120]⟩ (by decide) W
    unfold LPost at h
    rw [show lex (⟨#[108, 115, 32, 50, 62, 38, 49, 32, 62, 62, 102, 38, 38, 120]⟩ : ByteArray).data.toList = .ok [⟨0, [], [108, 115], [⟨0, [108, 115], false⟩], -1, 1⟩, ⟨2, [62, 38], [], [], 2, 1⟩, ⟨0, [], [49], [⟨0, [49], false⟩], -1, 1⟩, ⟨2, [62, 62], [], [], -1, 1⟩, ⟨0, [], [102], [⟨0, [102], false⟩], -1, 1⟩, ⟨1, [38, 38], [], [], -1, 1⟩, ⟨0, [], [120], [⟨0, [120], false⟩], -1, 1⟩, ⟨4, [], [], [], -1, 1⟩] from by kernel_rfl] at h
    exact h
  have HX2 : Hid (∀ W, Calls Tryd.prog 9 #[.string ⟨#[36, 40, 101, 99, 104, 111, 32, 34, 41, 34, 41, 36]⟩] W fun e w' => Below W.heap.size W w' ∧ ∃ v, e = .returned (.tuple #[v, .int .i64 0, .int .i64 0]) ∧ TokRow w' v [⟨0, [], [], [⟨2, [101, 99, 104, 111, 32, 34, 41, 34], false⟩, ⟨0, [36], true⟩], -1, 1⟩, ⟨4, [], [], [], -1, 1⟩]) := Lib.hid fun W => by
    have h := Lex_is ⟨#[36, 40, 101, 99, 104, 111, 32, 34, 41, 34, 41, 36]⟩ (by decide) W
    unfold LPost at h
    rw [show lex (⟨#[36, 40, 101, 99, 104, 111, 32, 34, 41, 34, 41, 36]⟩ : ByteArray).data.toList = .ok [⟨0, [], [], [⟨2, [101, 99, 104, 111, 32, 34, 41, 34], false⟩, ⟨0, [36], true⟩], -1, 1⟩, ⟨4, [], [], [], -1, 1⟩] from by kernel_rfl] at h
    exact h
  have HX3 : Hid (∀ W, Calls Tryd.prog 9 #[.string ⟨#[97, 39, 98]⟩] W fun e w' => Below W.heap.size W w' ∧ e = .returned (.tuple #[.slice none 0 0, .int .i64 27, .int .i64 1])) := Lib.hid fun W => by
    have h := Lex_is ⟨#[97, 39, 98]⟩ (by decide) W
    unfold LPost at h
    rw [show lex (⟨#[97, 39, 98]⟩ : ByteArray).data.toList = .err false 1 from by kernel_rfl] at h
    exact h
  have HX4 : Hid (∀ W, Calls Tryd.prog 9 #[.string ⟨#[36, 123, 120, 45, 121, 125]⟩] W fun e w' => Below W.heap.size W w' ∧ e = .returned (.tuple #[.slice none 0 0, .int .i64 27, .int .i64 1])) := Lib.hid fun W => by
    have h := Lex_is ⟨#[36, 123, 120, 45, 121, 125]⟩ (by decide) W
    unfold LPost at h
    rw [show lex (⟨#[36, 123, 120, 45, 121, 125]⟩ : ByteArray).data.toList = .err false 1 from by kernel_rfl] at h
    exact h
  have hL : Kn [] w w [] := Kn.refl [] w; (try simp only [kfb] at hL); have hF := hL.facts; (try simp only [Facts, Dist, kfa, implies_true, forall_const] at hF); go_enter Tryd.func7, Tryd.ntmps7
  go_upto_region 6 with (first | (go_at_call 9; (((with_reducible refine (HX0.out _).mono ?_))); rintro e W ⟨hb, v0, rfl, hTn⟩; (try replace hT0 := hT0.ext hb); (try replace hT1 := hT1.ext hb); (try replace hT2 := hT2.ext hb); (try replace hT3 := hT3.ext hb); (try replace hT4 := hT4.ext hb); (try replace hT5 := hT5.ext hb); (try replace hT6 := hT6.ext hb); (try replace hT7 := hT7.ext hb); have hT0 := hTn; clear hTn; replace hL := hL.below hb; clear hb; (try clear hF); (try simp only [kfb] at hL); have hF := hL.facts; (try simp only [Facts, Dist, kfa, implies_true, forall_const] at hF)) | (go_at_call 9; (((with_reducible refine (HX1.out _).mono ?_))); rintro e W ⟨hb, v1, rfl, hTn⟩; (try replace hT0 := hT0.ext hb); (try replace hT1 := hT1.ext hb); (try replace hT2 := hT2.ext hb); (try replace hT3 := hT3.ext hb); (try replace hT4 := hT4.ext hb); (try replace hT5 := hT5.ext hb); (try replace hT6 := hT6.ext hb); (try replace hT7 := hT7.ext hb); have hT1 := hTn; clear hTn; replace hL := hL.below hb; clear hb; (try clear hF); (try simp only [kfb] at hL); have hF := hL.facts; (try simp only [Facts, Dist, kfa, implies_true, forall_const] at hF)) | (go_at_call 9; (((with_reducible refine (HX2.out _).mono ?_))); rintro e W ⟨hb, v2, rfl, hTn⟩; (try replace hT0 := hT0.ext hb); (try replace hT1 := hT1.ext hb); (try replace hT2 := hT2.ext hb); (try replace hT3 := hT3.ext hb); (try replace hT4 := hT4.ext hb); (try replace hT5 := hT5.ext hb); (try replace hT6 := hT6.ext hb); (try replace hT7 := hT7.ext hb); have hT2 := hTn; clear hTn; replace hL := hL.below hb; clear hb; (try clear hF); (try simp only [kfb] at hL); have hF := hL.facts; (try simp only [Facts, Dist, kfa, implies_true, forall_const] at hF)) | (go_at_call 9; (((with_reducible refine (HX3.out _).mono ?_))); rintro e W ⟨hb, rfl⟩; (try replace hT0 := hT0.ext hb); (try replace hT1 := hT1.ext hb); (try replace hT2 := hT2.ext hb); (try replace hT3 := hT3.ext hb); (try replace hT4 := hT4.ext hb); (try replace hT5 := hT5.ext hb); (try replace hT6 := hT6.ext hb); (try replace hT7 := hT7.ext hb); replace hL := hL.below hb; clear hb; (try clear hF); (try simp only [kfb] at hL); have hF := hL.facts; (try simp only [Facts, Dist, kfa, implies_true, forall_const] at hF)) | (go_at_call 9; (((with_reducible refine (HX4.out _).mono ?_))); rintro e W ⟨hb, rfl⟩; (try replace hT0 := hT0.ext hb); (try replace hT1 := hT1.ext hb); (try replace hT2 := hT2.ext hb); (try replace hT3 := hT3.ext hb); (try replace hT4 := hT4.ext hb); (try replace hT5 := hT5.ext hb); (try replace hT6 := hT6.ext hb); (try replace hT7 := hT7.ext hb); replace hL := hL.below hb; clear hb; (try clear hF); (try simp only [kfb] at hL); have hF := hL.facts; (try simp only [Facts, Dist, kfa, implies_true, forall_const] at hF)))
  obtain ⟨_, tvs0, hm0_0, hr0, hp0⟩ := hT0
  obtain ⟨p0_0, l0_0, hl0_0, hm0_1⟩ := map_fst_cons hm0_0; clear hm0_0; subst hl0_0
  obtain ⟨p0_1, l0_1, hl0_1, hm0_2⟩ := map_fst_cons hm0_1; clear hm0_1; subst hl0_1
  obtain ⟨p0_2, l0_2, hl0_2, hm0_3⟩ := map_fst_cons hm0_2; clear hm0_2; subst hl0_2
  have hn0 := map_fst_nil hm0_3; clear hm0_3; subst hn0
  have hq0_1 := hp0 (_, _) (by exact List.mem_cons_of_mem _ (List.mem_cons_self))
  obtain ⟨g0_1, o0_1, cap0_1, hv0_1, hc0_1⟩ := rowk_open hq0_1 (by simp)
  simp only at hv0_1
  subst hv0_1
  obtain ⟨g0, o0, cap0, rfl, hc0⟩ := rowk_open hr0 (by simp)
  have c0_0_2 := hc0 0 _ rfl 2 _ rfl
  have c0_1_3 := hc0 1 _ rfl 3 _ rfl
  have c0_2_0 := hc0 2 _ rfl 0 _ rfl
  have d0_1_0_0 := hc0_1 0 _ rfl 0 _ rfl
  have d0_1_0_1 := hc0_1 0 _ rfl 1 _ rfl
  have d0_1_0_2 := hc0_1 0 _ rfl 2 _ rfl
  have d0_1_1_0 := hc0_1 1 _ rfl 0 _ rfl
  have d0_1_1_1 := hc0_1 1 _ rfl 1 _ rfl
  have d0_1_1_2 := hc0_1 1 _ rfl 2 _ rfl
  have d0_1_2_0 := hc0_1 2 _ rfl 0 _ rfl
  have d0_1_2_1 := hc0_1 2 _ rfl 1 _ rfl
  have d0_1_2_2 := hc0_1 2 _ rfl 2 _ rfl
  clear hr0 hp0 hc0 hq0_1 hc0_1
  obtain ⟨_, tvs1, hm1_0, hr1, hp1⟩ := hT1
  obtain ⟨p1_0, l1_0, hl1_0, hm1_1⟩ := map_fst_cons hm1_0; clear hm1_0; subst hl1_0
  obtain ⟨p1_1, l1_1, hl1_1, hm1_2⟩ := map_fst_cons hm1_1; clear hm1_1; subst hl1_1
  obtain ⟨p1_2, l1_2, hl1_2, hm1_3⟩ := map_fst_cons hm1_2; clear hm1_2; subst hl1_2
  obtain ⟨p1_3, l1_3, hl1_3, hm1_4⟩ := map_fst_cons hm1_3; clear hm1_3; subst hl1_3
  obtain ⟨p1_4, l1_4, hl1_4, hm1_5⟩ := map_fst_cons hm1_4; clear hm1_4; subst hl1_4
  obtain ⟨p1_5, l1_5, hl1_5, hm1_6⟩ := map_fst_cons hm1_5; clear hm1_5; subst hl1_5
  obtain ⟨p1_6, l1_6, hl1_6, hm1_7⟩ := map_fst_cons hm1_6; clear hm1_6; subst hl1_6
  obtain ⟨p1_7, l1_7, hl1_7, hm1_8⟩ := map_fst_cons hm1_7; clear hm1_7; subst hl1_7
  have hn1 := map_fst_nil hm1_8; clear hm1_8; subst hn1
  obtain ⟨g1, o1, cap1, rfl, hc1⟩ := rowk_open hr1 (by simp)
  have c1_1_1 := hc1 1 _ rfl 1 _ rfl
  have c1_1_4 := hc1 1 _ rfl 4 _ rfl
  have c1_2_2 := hc1 2 _ rfl 2 _ rfl
  have c1_3_1 := hc1 3 _ rfl 1 _ rfl
  have c1_3_4 := hc1 3 _ rfl 4 _ rfl
  have c1_5_1 := hc1 5 _ rfl 1 _ rfl
  clear hr1 hp1 hc1 
  obtain ⟨_, tvs2, hm2_0, hr2, hp2⟩ := hT2
  obtain ⟨p2_0, l2_0, hl2_0, hm2_1⟩ := map_fst_cons hm2_0; clear hm2_0; subst hl2_0
  obtain ⟨p2_1, l2_1, hl2_1, hm2_2⟩ := map_fst_cons hm2_1; clear hm2_1; subst hl2_1
  have hn2 := map_fst_nil hm2_2; clear hm2_2; subst hn2
  have hq2_0 := hp2 (_, _) (by exact List.mem_cons_self)
  obtain ⟨g2_0, o2_0, cap2_0, hv2_0, hc2_0⟩ := rowk_open hq2_0 (by simp)
  simp only at hv2_0
  subst hv2_0
  obtain ⟨g2, o2, cap2, rfl, hc2⟩ := rowk_open hr2 (by simp)
  have c2_0_3 := hc2 0 _ rfl 3 _ rfl
  have d2_0_0_0 := hc2_0 0 _ rfl 0 _ rfl
  have d2_0_0_1 := hc2_0 0 _ rfl 1 _ rfl
  have d2_0_0_2 := hc2_0 0 _ rfl 2 _ rfl
  have d2_0_1_0 := hc2_0 1 _ rfl 0 _ rfl
  have d2_0_1_1 := hc2_0 1 _ rfl 1 _ rfl
  have d2_0_1_2 := hc2_0 1 _ rfl 2 _ rfl
  clear hr2 hp2 hc2 hq2_0 hc2_0
  clear HX0 HX1 HX2 HX3 HX4
  simp (config := { failIfUnchanged := false }) only [bs, List.length_cons, List.length_nil, List.map_cons, List.map_nil, Nat.zero_add, Nat.reduceAdd, Nat.reduceMul, Nat.zero_mul, Nat.one_mul, Nat.add_zero] at *
  go_wp2
  (try simp only [Exit.inBlock, Exit.then]); refine bodyPost_ret (by simp [results, Tryd.results7, go_sem, *]; try rfl) rfl ?_
  exact ⟨rfl, hL.below0⟩

end Go.Proofs.YtflfaobbfhjmmaaDoor
