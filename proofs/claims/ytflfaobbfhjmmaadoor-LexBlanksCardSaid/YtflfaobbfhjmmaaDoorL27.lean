import Derived.Test.YtflfaobbfhjmmaaDoorProg
import Derived.WalkKit
import Derived.Handy
import Derived.Deep.Light
import Derived.WalkSmall
import Derived.StillTailTactics
import Derived.Lib.Hide
import Derived.Test.YtflfaobbfhjmmaaDoorT0
import Derived.Test.YtflfaobbfhjmmaaDoorIt
import Derived.Test.YtflfaobbfhjmmaaDoorL26
namespace Go.Proofs.YtflfaobbfhjmmaaDoor
open Go Go.RowKit
set_option linter.unusedSimpArgs false
set_option linter.unusedVariables false
set_option maxRecDepth 20000 in
set_option maxHeartbeats 4000000 in
theorem one_is (src s : ByteArray) (hs : src.size ≤ 8000) (m : Nat) (h : lex src.data.toList = .ok [quo s.data.toList 1, endT m]) (w : World) : Calls Tryd.prog 8 #[.string src, .string s] w fun e w' => e = .returned (.bool true) ∧ Below w.heap.size w w' := by
  have HX0 : Hid (∀ W, Calls Tryd.prog 9 #[.string src] W fun e w' => Below W.heap.size W w' ∧ ∃ v, e = .returned (.tuple #[v, .int .i64 0, .int .i64 0]) ∧ TokRow w' v [⟨0, [], [], [⟨0, s.data.toList, true⟩], -1, 1⟩, ⟨4, [], [], [], -1, m⟩]) := Lib.hid fun W => by
    have h1 := Lex_is src hs W
    unfold LPost at h1
    rw [h] at h1
    exact h1
  clear h
  have hL : Kn [] w w [] := Kn.refl [] w; (try simp only [kfb] at hL); have hF := hL.facts; (try simp only [Facts, Dist, kfa, implies_true, forall_const] at hF); go_enter Tryd.func8, Tryd.ntmps8
  go_upto_region 2 with (go_at_call 9; (((with_reducible refine (HX0.out _).mono ?_))); rintro e W ⟨hb, v0, rfl, hTn⟩; (try replace hT0 := hT0.ext hb); (try replace hT1 := hT1.ext hb); (try replace hT2 := hT2.ext hb); (try replace hT3 := hT3.ext hb); (try replace hT4 := hT4.ext hb); (try replace hT5 := hT5.ext hb); (try replace hT6 := hT6.ext hb); (try replace hT7 := hT7.ext hb); have hT0 := hTn; clear hTn; replace hL := hL.below hb; clear hb; (try clear hF); (try simp only [kfb] at hL); have hF := hL.facts; (try simp only [Facts, Dist, kfa, implies_true, forall_const] at hF))
  obtain ⟨_, tvs0, hm0_0, hr0, hp0⟩ := hT0
  obtain ⟨p0_0, l0_0, hl0_0, hm0_1⟩ := map_fst_cons hm0_0; clear hm0_0; subst hl0_0
  obtain ⟨p0_1, l0_1, hl0_1, hm0_2⟩ := map_fst_cons hm0_1; clear hm0_1; subst hl0_1
  have hn0 := map_fst_nil hm0_2; clear hm0_2; subst hn0
  have hq0_0 := hp0 (_, _) (by exact List.mem_cons_self)
  obtain ⟨g0_0, o0_0, cap0_0, hv0_0, hc0_0⟩ := rowk_open hq0_0 (by simp)
  simp only at hv0_0
  subst hv0_0
  obtain ⟨g0, o0, cap0, rfl, hc0⟩ := rowk_open hr0 (by simp)
  have c0_0_3 := hc0 0 _ rfl 3 _ rfl
  have c0_0_0 := hc0 0 _ rfl 0 _ rfl
  have c0_0_2 := hc0 0 _ rfl 2 _ rfl
  have c0_1_0 := hc0 1 _ rfl 0 _ rfl
  have d0_0_0_0 := hc0_0 0 _ rfl 0 _ rfl
  have d0_0_0_1 := hc0_0 0 _ rfl 1 _ rfl
  have d0_0_0_2 := hc0_0 0 _ rfl 2 _ rfl
  clear hr0 hp0 hc0 hq0_0 hc0_0
  clear HX0
  simp (config := { failIfUnchanged := false }) only [bs_list] at *
  simp (config := { failIfUnchanged := false }) only [bs, List.length_cons, List.length_nil, List.map_cons, List.map_nil, Nat.zero_add, Nat.reduceAdd, Nat.reduceMul, Nat.zero_mul, Nat.one_mul, Nat.add_zero] at *
  go_wp2
  (try simp only [Exit.inBlock, Exit.then]); refine bodyPost_ret (by simp [results, Tryd.results8, go_sem, *]; try rfl) rfl ?_
  exact ⟨rfl, hL.below0⟩

end Go.Proofs.YtflfaobbfhjmmaaDoor
