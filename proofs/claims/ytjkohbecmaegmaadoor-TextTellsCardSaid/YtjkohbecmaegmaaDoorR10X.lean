import Derived.Test.YtjkohbecmaegmaaDoorProg
import Derived.WalkKit
import Derived.Handy
import Derived.Deep.Light
import Derived.WalkSmall
import Derived.StillTailTactics
import Derived.Lib.Hide
import Derived.Test.YtjkohbecmaegmaaDoorT0
import Derived.Test.YtjkohbecmaegmaaDoorIt
import Derived.Test.YtjkohbecmaegmaaDoorR9X
import Derived.Test.YtjkohbecmaegmaaDoorPatM
import Derived.Laws.MakeOwn
namespace Go.Proofs.YtjkohbecmaegmaaDoor
open Go Go.RowKit
set_option linter.unusedSimpArgs false
set_option linter.unusedVariables false

def prevB (f : Nat → Bool) : Nat → Bool
  | 0 => false
  | k + 1 => f k
def bl (l : List Bool) : Array Value := (l.map Value.bool).toArray
theorem dp_step (N : Nat) (f : Nat → Bool) (k : Nat) (hk : k < N) (b : Bool) (hb : f k = b) : ((List.range N).map fun j => decide (j < k) && f j).set k b = (List.range N).map fun j => decide (j < k + 1) && f j := by
  apply List.ext_getElem?
  intro j
  rw [List.getElem?_set, List.getElem?_map, List.getElem?_map]
  rcases Nat.lt_or_ge j N with h | h
  · rw [List.getElem?_range h]
    by_cases hj : k = j
    · subst hj; simp [h, hb]
    · rw [if_neg hj]
      simp only [Option.map_some]
      rw [decide_eq_decide.2 (show j < k ↔ j < k + 1 by omega)]
  · rw [List.getElem?_eq_none (show (List.range N).length ≤ j by simpa using h), if_neg (by omega)]; rfl
theorem dp_same (N : Nat) (f : Nat → Bool) (k : Nat) (hb : f k = false) : ((List.range N).map fun j => decide (j < k) && f j) = (List.range N).map fun j => decide (j < k + 1) && f j := by
  refine List.map_congr_left fun j _ => ?_
  by_cases hj : j = k
  · subst hj; simp [hb]
  · rw [decide_eq_decide.2 (show j < k ↔ j < k + 1 by omega)]
theorem bl_set (l : List Bool) (k : Nat) (b : Bool) : (bl l).setIfInBounds k (.bool b) = bl (l.set k b) := by
  unfold bl
  rw [List.setIfInBounds_toArray, List.map_set]
theorem bl_range (N : Nat) (f : Nat → Bool) (k : Nat) (h : k < N) : (bl ((List.range N).map f))[k]? = some (.bool (f k)) := by
  unfold bl
  simp [h]
theorem infoBool : (Tryd.prog.info? 4).map (fun i => (i.zero, i.size, i.bytes)) = some (some (.bool false), 1, 1) := by kernel_rfl
theorem make_bools (n : Nat) (hn : n ≤ 1000000) (W : World) : (Instr.makeSlice 64 (.int .i64 (n : Int)) (.int .i64 (n : Int))).run Tryd.prog W = .ok (.slice (some ⟨W.heap.size, 0, none⟩) n n) (W.alloc (.cells (bl (List.replicate n false)) 4)) := by
  obtain ⟨i0, hi, hz0, hz1, hz2⟩ := info_parts infoBool
  have e : madeCells #[Value.bool false] n = bl (List.replicate n false) := by
    unfold madeCells bl
    apply Array.ext_getElem?
    intro j
    rcases Nat.lt_or_ge j n with h | h
    · simp [h, Nat.mod_one]
    · simp [h]
  have h := run_make (P := Tryd.prog) W 64 4 i0 _ Tryd.underlying64 hi hz0 .i64 .i64 n n (by omega) (by omega) (by rw [hz2]; omega) (by omega)
  rw [hz1, Int.toNat_natCast, Nat.mul_one] at h
  rw [show (Value.bool false).cells = #[Value.bool false] from rfl, e] at h
  exact h
set_option maxRecDepth 20000 in
set_option maxHeartbeats 4000000 in
theorem refPattern_is (p s : ByteArray) (hp : p.size ≤ 100000) (hs : s.size ≤ 100000) (w : World) :
    Calls Tryd.prog 28 #[.string p, .string s] w fun e w' => e = .returned (.bool (mt (parse p.data.toList) s.data.toList)) ∧ Below w.heap.size w w' := by
  have htxt := pts_text p.data.toList.length p.data.toList (Nat.le_refl _)
  have hps := pts_parse p.data.toList.length p.data.toList (Nat.le_refl _)
  rw [← hps]
  obtain ⟨L, hL0⟩ : ∃ L, pts p.data.toList = L := ⟨_, rfl⟩
  have hLl : L.length ≤ 1000000 := by
    have := pts_len p.data.toList.length p.data.toList (Nat.le_refl _)
    rw [hL0, szl] at this; omega
  have hPT : Hid (∀ W, Calls Tryd.prog 46 #[.string p] W fun e w' => ∃ ao cap, e = .returned (.slice ao L.length cap) ∧ RowK 5 w' (.slice ao L.length cap) (L.map pcells) ∧ Below W.heap.size W w') := Lib.hid fun W => by
    have := Parts_row p (by omega) W
    rw [hL0] at this; exact this
  rw [hL0] at htxt ⊢
  have hset : Hid (∀ x ∈ L, (setP x.1).length ≤ 1000000) := Lib.hid fun x hx => by
    obtain ⟨h1, h2⟩ := htxt x hx
    rw [szl] at h2
    obtain ⟨y, t⟩ := x
    cases y with
    | cls n a =>
      simp only [setP]
      rcases h1 with h3 | ⟨d, h3, _⟩
      · simp only at h3 h2
        rw [h3] at h2
        simp only [wrP, List.length_cons, List.length_append] at h2
        omega
      · cases h3
    | _ => simp [setP]
  clear hL0 hps htxt
  obtain ⟨ps, hps⟩ : ∃ ps, L.map (·.1) = ps := ⟨_, rfl⟩
  rw [hps]
  have hpl : ps.length = L.length := by rw [← hps, List.length_map]
  have HPS := Lib.hid hps
  clear hps
  have hsl := szl s
  obtain ⟨v, hv0⟩ : ∃ v, mt ps s.data.toList = v := ⟨_, rfl⟩
  rw [hv0]
  have hv := Lib.hid hv0
  clear hv0
  have hN : s.size + 1 ≤ 1000000 := by omega
  have hmk : ∀ W, (Instr.makeSlice 64 (.int .i64 ((s.size : Int) + 1)) (.int .i64 ((s.size : Int) + 1))).run Tryd.prog W = .ok (.slice (some ⟨W.heap.size, 0, none⟩) (s.size + 1) (s.size + 1)) (W.alloc (.cells (bl (List.replicate (s.size + 1) false)) 4)) := fun W => by
    have := make_bools (s.size + 1) hN W
    simpa using this
  go_enter Tryd.func28, Tryd.ntmps28
  go_wp2_with (go_at_call 46; (with_reducible refine (hPT.out _).mono ?_); rintro e W1 ⟨ao, cap, rfl, hrow, hbW⟩; have hL : Kn [] W1 W1 [] := Kn.refl [] W1)
  have hb0 : (bl (List.replicate (s.size + 1) false))[0]? = some (.bool false) := by unfold bl; simp
  have hN0 : 0 < s.size + 1 := by omega
  go_wp2
  go_loopw [6, 7] (fun c i wr => ∃ (k gc : Nat) (cur : Array Value), k ≤ L.length ∧ i = .int .i64 k ∧ c = .slice (some ⟨gc, 0, none⟩) (s.size + 1) (s.size + 1) ∧ Kn [] W1 wr [(gc, .cells cur 4 (0, 0))] ∧ Hid (cur = (bl ((List.range (s.size + 1)).map fun j => mt ((ps.take (k))) (s.data.toList.take j))))) (fun _ i _ => L.length - (intOf i).toNat)
  case atStart =>
    refine ⟨0, W1.heap.size, _, by omega, rfl, rfl, kn_here, Lib.hid ?_⟩
    rw [bl_set]
    congr 1
    apply List.ext_getElem?
    intro j
    rw [List.getElem?_set, List.getElem?_map, List.getElem?_replicate]
    rcases Nat.lt_or_ge j (s.size + 1) with h | h
    · rw [List.getElem?_range h]
      by_cases hj : 0 = j
      · subst hj; simp [mt]
      · rw [if_neg hj, if_pos h, Option.map_some, List.take_zero, mt]
        have : (s.data.toList.take j).isEmpty = false := by
          rw [List.isEmpty_eq_false_iff]
          intro e
          have := congrArg List.length e
          rw [List.length_take] at this
          simp only [List.length_nil] at this; omega
        rw [this]
    · rw [List.getElem?_eq_none (show (List.range (s.size + 1)).length ≤ j by simpa using h)]
      simp [show ¬ j < s.size + 1 by omega]
      omega
  case round =>
    obtain ⟨i, gc, cur, hi, rfl, rfl, hK, hcur⟩ := hrel
    clear hL
    have hL := hK
    clear hK
    (try simp only [List.setIfInBounds_toArray, List.set_cons_zero, List.set_cons_succ, List.cons_append, List.nil_append] at hL); have hF := hL.facts; (try simp only [Facts, Dist, List.map_cons, List.map_nil, List.forall_mem_cons, false_implies, ne_eq, not_false_eq_true, List.not_mem_nil, not_false_eq_true, true_implies, forall_const, List.mem_cons, or_false, implies_true, and_true, true_and, Nat.le_refl, List.setIfInBounds_toArray, List.set_cons_zero, List.set_cons_succ] at hF)
    by_cases hlt : i < L.length
    · obtain ⟨x, hx⟩ : ∃ x, L[i]? = some x := ⟨_, List.getElem?_eq_getElem hlt⟩
      have hpx : ps[i]? = some x.1 := by rw [← HPS.out, List.getElem?_map, hx]; rfl
      obtain ⟨qs, hqs⟩ : ∃ qs, ps.take i = qs := ⟨_, rfl⟩
      have hq1 : ps.take (i + 1) = qs ++ [x.1] := by rw [List.take_add_one, hpx, hqs]; rfl
      have HQ1 := Lib.hid hq1
      have hcur2 : Hid (cur = bl ((List.range (s.size + 1)).map fun j => mt qs (s.data.toList.take j))) := Lib.hid (by rw [hcur.out, hqs])
      obtain ⟨g, o, rfl, hg, c0, c1, c2, c3, c4⟩ := prow_at hrow hx
      have hsz := hset.out x (List.mem_of_getElem? hx)
      have FT0 := fun (h : x.1 ≠ .star) c W => fits_is x h hsz c W
      obtain ⟨kd, hkd⟩ : ∃ z, kindP x.1 = z := ⟨_, rfl⟩
      obtain ⟨by_, hby⟩ : ∃ z : Int, ((byteP x.1).toNat : Int) = z := ⟨_, rfl⟩
      obtain ⟨st, hst⟩ : ∃ z : ByteArray, (⟨(setP x.1).toArray⟩ : ByteArray) = z := ⟨_, rfl⟩
      obtain ⟨nt, hnt⟩ : ∃ z, notP x.1 = z := ⟨_, rfl⟩
      obtain ⟨tx, htx⟩ : ∃ z : ByteArray, (⟨x.2.toArray⟩ : ByteArray) = z := ⟨_, rfl⟩
      have FT : Hid (x.1 ≠ .star → ∀ (c : UInt8) W, Calls Tryd.prog 47 #[.agg #[.int .i64 kd, .int .u8 by_, .string st, .bool nt, .string tx], .int .u8 c.toNat] W fun e w' => e = .returned (.bool (fit x.1 c)) ∧ Below W.heap.size W w') := Lib.hid fun h c W => by
        have := FT0 h c W
        unfold pcells at this
        rw [hkd, hby, hst, hnt, htx] at this
        exact this
      rw [hkd] at c0
      rw [hby] at c1
      rw [hst] at c2
      rw [hnt] at c3
      rw [htx] at c4
      have hkst : kd = 1 ↔ x.1 = .star := by rw [← hkd]; cases x.1 <;> simp [kindP]
      clear FT0 hby hst hnt htx hq1 hpx hx hqs hsz hkd
      go_wp2
      obtain ⟨f, hf⟩ : ∃ f : Nat → Bool, f = fun j => mt (qs ++ [x.1]) (s.data.toList.take j) := ⟨_, rfl⟩
      have HF := Lib.hid hf
      clear hf
      go_loopw [9] (fun j wz => ∃ (k : Nat) (nx : Array Value), k ≤ s.size + 1 ∧ j = .int .i64 k ∧ Kn [] W1 wz [(wr.heap.size, .cells nx 4 (0, 0)), (gc, .cells cur 4 (0, 0))] ∧ Hid (nx = bl ((List.range (s.size + 1)).map fun j => decide (j < k) && f j))) (fun j _ => s.size + 1 - (intOf j).toNat)
      case atStart =>
        refine ⟨0, _, by omega, rfl, kn_here, Lib.hid ?_⟩
        congr 1
        apply List.ext_getElem?
        intro j
        rcases Nat.lt_or_ge j (s.size + 1) with h | h <;> simp [h, List.getElem?_replicate]
      case round =>
        obtain ⟨k, nx, hk, rfl, hK, hnx⟩ := hrel
        clear hL hF
        have hL := hK
        clear hK
        (try simp only [List.setIfInBounds_toArray, List.set_cons_zero, List.set_cons_succ, List.cons_append, List.nil_append] at hL); have hF := hL.facts; (try simp only [Facts, Dist, List.map_cons, List.map_nil, List.forall_mem_cons, false_implies, ne_eq, not_false_eq_true, List.not_mem_nil, not_false_eq_true, true_implies, forall_const, List.mem_cons, or_false, implies_true, and_true, true_and, Nat.le_refl, List.setIfInBounds_toArray, List.set_cons_zero, List.set_cons_succ] at hF)
        by_cases hkl : (k : Int) ≤ s.size
        · have hnk : nx[k]? = some (.bool false) := by rw [hnx.out, bl_range _ _ _ (by omega)]; simp
          have hck : cur[k]? = some (.bool (mt qs (s.data.toList.take k))) := by rw [hcur2.out, bl_range _ _ _ (by omega)]
          have hkN : k < s.size + 1 := by omega
          by_cases hxs : x.1 = .star
          · have hk1 := hkst.2 hxs
            have hfk : Hid (f k = (mt qs (s.data.toList.take k) || prevB f k)) := Lib.hid (by
              have e1 := mt_snoc_star qs s.data.toList k (by omega)
              rw [← hxs] at e1
              have e2 : ∀ m, f m = mt (qs ++ [x.1]) (s.data.toList.take m) := fun m => by rw [HF.out]
              rw [e2 k, e1]
              congr 1
              cases k with
              | zero => rfl
              | succ m => exact (e2 m).symm)
            subst hk1
            obtain ⟨a, ha⟩ : ∃ a, mt qs (s.data.toList.take k) = a := ⟨_, rfl⟩
            rw [ha] at hck hfk
            clear ha hkst FT
            cases a
            · cases k with
              | zero =>
                have hnx2 : Hid (nx.setIfInBounds 0 (.bool false) = bl ((List.range (s.size + 1)).map fun j => decide (j < 0 + 1) && f j)) := Lib.hid (by rw [hnx.out, bl_set, dp_step _ _ _ hkN false (by rw [hfk.out]; rfl)])
                go_wp2
                go_roundw
                case rel => exact ⟨0 + 1, _, by omega, by go_num, kn_here, hnx2⟩
                case measure => simp [intOf]
              | succ j =>
                have hnj : nx[j]? = some (.bool (f j)) := by rw [hnx.out, bl_range _ _ _ (by omega)]; simp
                obtain ⟨b, hb⟩ : ∃ b, f j = b := ⟨_, rfl⟩
                rw [hb] at hnj
                have hnx2 : Hid (nx.setIfInBounds (j + 1) (.bool b) = bl ((List.range (s.size + 1)).map fun i => decide (i < j + 1 + 1) && f i)) := Lib.hid (by rw [hnx.out, bl_set, dp_step _ _ _ hkN b (by rw [hfk.out]; show (false || f j) = b; rw [Bool.false_or]; exact hb)])
                clear hb
                have hjN : j < s.size + 1 := by omega
                go_wp2
                go_roundw
                case rel => exact ⟨j + 1 + 1, _, by omega, by go_num, kn_here, hnx2⟩
                case measure => simp [intOf]; omega
            · have hnx2 : Hid (nx.setIfInBounds k (.bool true) = bl ((List.range (s.size + 1)).map fun j => decide (j < k + 1) && f j)) := Lib.hid (by rw [hnx.out, bl_set, dp_step _ _ _ hkN true (by rw [hfk.out]; rfl)])
              go_wp2
              go_roundw
              case rel => exact ⟨k + 1, _, by omega, by go_num, kn_here, hnx2⟩
              case measure => simp [intOf]; omega
          · have hkd1 : (kd == 1) = false := beq_false_of_ne fun h => hxs (hkst.1 h)
            cases k with
            | zero =>
              have hnx2 : Hid (nx = bl ((List.range (s.size + 1)).map fun j => decide (j < 0 + 1) && f j)) := Lib.hid (by rw [hnx.out, dp_same _ _ _ (by rw [HF.out]; simp only [List.take_zero]; exact mt_snoc_nil _ hxs)])
              clear hkst FT
              go_wp2
              go_roundw
              case rel => exact ⟨0 + 1, _, by omega, by go_num, kn_here, hnx2⟩
              case measure => simp [intOf]
            | succ j =>
              obtain ⟨c, hcj⟩ : ∃ c, s.data.toList[j]? = some c := ⟨_, List.getElem?_eq_getElem (by omega)⟩
              have hjs : j < s.size := by omega
              have hjN : j < s.size + 1 := by omega
              have eb := byte_at hcj hjs
              have hfk : Hid (f (j + 1) = (mt qs (s.data.toList.take j) && fit x.1 c)) := Lib.hid (by
                rw [HF.out]
                simp only
                rw [List.take_add_one, hcj]
                exact mt_snoc qs hxs _ c)
              have hcj2 : cur[j]? = some (.bool (mt qs (s.data.toList.take j))) := by rw [hcur2.out, bl_range _ _ _ (by omega)]
              obtain ⟨a, ha⟩ : ∃ a, mt qs (s.data.toList.take j) = a := ⟨_, rfl⟩
              rw [ha] at hcj2 hfk
              have FC := Lib.hid (FT.out hxs c)
              clear ha hkst FT hcj hck
              cases a
              · have hnx2 : Hid (nx.setIfInBounds (j + 1) (.bool false) = bl ((List.range (s.size + 1)).map fun i => decide (i < j + 1 + 1) && f i)) := Lib.hid (by rw [hnx.out, bl_set, dp_step _ _ _ hkN false (by rw [hfk.out]; rfl)])
                go_wp2_with (first | ((with_reducible refine kn_list_set ?_); (try clear hF); clear hL; intro W hL; (try simp only [List.setIfInBounds_toArray, List.set_cons_zero, List.set_cons_succ, List.cons_append, List.nil_append] at hL); have hF := hL.facts; (try simp only [Facts, Dist, List.map_cons, List.map_nil, List.forall_mem_cons, false_implies, ne_eq, not_false_eq_true, List.not_mem_nil, not_false_eq_true, true_implies, forall_const, List.mem_cons, or_false, implies_true, and_true, true_and, Nat.le_refl, List.setIfInBounds_toArray, List.set_cons_zero, List.set_cons_succ] at hF)) | ((with_reducible refine at_region 14 ?_); refine kn_wp ?_; (try clear hF); clear hL; intro W hL; (try simp only [List.setIfInBounds_toArray, List.set_cons_zero, List.set_cons_succ, List.cons_append, List.nil_append] at hL); have hF := hL.facts; (try simp only [Facts, Dist, List.map_cons, List.map_nil, List.forall_mem_cons, false_implies, ne_eq, not_false_eq_true, List.not_mem_nil, not_false_eq_true, true_implies, forall_const, List.mem_cons, or_false, implies_true, and_true, true_and, Nat.le_refl, List.setIfInBounds_toArray, List.set_cons_zero, List.set_cons_succ] at hF); refine kn_region [0, 1, 2, 3, 4, 5, 6, 7, 8, 9, 10, 11, 12, 13, 14, 15, 16, 17, 18, 19] [0, 1, 2, 3, 4, 5, 6, 7, 8, 9, 10, 11, 12, 13, 14, 15, 17, 18] [16, 19] [0, 1, 2, 3, 4, 5, 7, 8, 9, 10, 12, 13, 14, 15, 17, 18] (by kernel_rfl) (by kernel_rfl) (List.Sublist.refl _) ?_; (try clear hF); clear hL; intro ι F hne hC hFF; have hG := fun n => (hFF n).facts; clear hFF; (try simp only [Facts, Dist, List.map_cons, List.map_nil, List.forall_mem_cons, false_implies, ne_eq, not_false_eq_true, List.not_mem_nil, not_false_eq_true, true_implies, forall_const, List.mem_cons, or_false, implies_true, and_true, true_and, Nat.le_refl, List.setIfInBounds_toArray, List.set_cons_zero, List.set_cons_succ] at hG); (repeat (first | (refine cwk_skip rfl (by rfl) ?_; (try simp only [Act.put, List.setIfInBounds_toArray, List.set_cons_zero, List.set_cons_succ])) | (refine cwk_float rfl rfl (by rfl) (by rfl) (by rfl) hC ?_; intro K hK; go_big_quiet_op; go_big_quiet_on) | (refine cwk_pure rfl rfl (by rfl) (by rfl) ?_; intro K hK; go_big_quiet_op; go_big_quiet_on) | (refine cwk_call rfl (by rfl) (by rfl) (fun _ => rfl) ?_; intro W hL; (try simp only [List.setIfInBounds_toArray, List.set_cons_zero, List.set_cons_succ, List.cons_append, List.nil_append] at hL); have hF := hL.facts; (try simp only [Facts, Dist, List.map_cons, List.map_nil, List.forall_mem_cons, false_implies, ne_eq, not_false_eq_true, List.not_mem_nil, not_false_eq_true, true_implies, forall_const, List.mem_cons, or_false, implies_true, and_true, true_and, Nat.le_refl, List.setIfInBounds_toArray, List.set_cons_zero, List.set_cons_succ] at hF); simp only [List.map_toArray, List.map_cons, List.map_nil, Array.empty_append, Array.append_empty, Act.eval, Array.getD_eq_getD_getElem?, List.getElem?_toArray, List.getElem?_cons_zero, List.getElem?_cons_succ, Option.getD_some]; go_at_call 47; (with_reducible refine (FC.out _).mono ?_); rintro e W ⟨rfl, hb⟩; replace hL := hL.below hb; clear hb; (try clear hF); (try simp only [List.setIfInBounds_toArray, List.set_cons_zero, List.set_cons_succ, List.cons_append, List.nil_append] at hL); have hF := hL.facts; (try simp only [Facts, Dist, List.map_cons, List.map_nil, List.forall_mem_cons, false_implies, ne_eq, not_false_eq_true, List.not_mem_nil, not_false_eq_true, true_implies, forall_const, List.mem_cons, or_false, implies_true, and_true, true_and, Nat.le_refl, List.setIfInBounds_toArray, List.set_cons_zero, List.set_cons_succ] at hF); refine owed_ret ?_; (first | (refine owedB _ (by rfl) ?_; clear hL; (try clear hF); clear hC hG; intro ι F hne hC hFF; have hG := fun n => (hFF n).facts; clear hFF; (try simp only [Facts, Dist, List.map_cons, List.map_nil, List.forall_mem_cons, false_implies, ne_eq, not_false_eq_true, List.not_mem_nil, not_false_eq_true, true_implies, forall_const, List.mem_cons, or_false, implies_true, and_true, true_and, Nat.le_refl, List.setIfInBounds_toArray, List.set_cons_zero, List.set_cons_succ] at hG)) | (refine owed0 _ (by repeat' (first | (with_reducible exact List.Sublist.refl _) | (with_reducible apply List.Sublist.cons_cons) | (with_reducible apply List.Sublist.cons))) ?_; clear hL; (try clear hF))); (try simp only [Act.put, List.setIfInBounds_toArray, List.set_cons_zero, List.set_cons_succ])) | (refine cwk_anch rfl rfl (by rfl) (by rfl) ?_; intro W hL; (try simp only [List.setIfInBounds_toArray, List.set_cons_zero, List.set_cons_succ, List.cons_append, List.nil_append] at hL); have hF := hL.facts; (try simp only [Facts, Dist, List.map_cons, List.map_nil, List.forall_mem_cons, false_implies, ne_eq, not_false_eq_true, List.not_mem_nil, not_false_eq_true, true_implies, forall_const, List.mem_cons, or_false, implies_true, and_true, true_and, Nat.le_refl, List.setIfInBounds_toArray, List.set_cons_zero, List.set_cons_succ] at hF); go_wp2; refine anchQ_normal ?_; (first | (refine owedB _ (by rfl) ?_; clear hL; (try clear hF); clear hC hG; intro ι F hne hC hFF; have hG := fun n => (hFF n).facts; clear hFF; (try simp only [Facts, Dist, List.map_cons, List.map_nil, List.forall_mem_cons, false_implies, ne_eq, not_false_eq_true, List.not_mem_nil, not_false_eq_true, true_implies, forall_const, List.mem_cons, or_false, implies_true, and_true, true_and, Nat.le_refl, List.setIfInBounds_toArray, List.set_cons_zero, List.set_cons_succ] at hG)) | (refine owed0 _ (by repeat' (first | (with_reducible exact List.Sublist.refl _) | (with_reducible apply List.Sublist.cons_cons) | (with_reducible apply List.Sublist.cons))) ?_; clear hL; (try clear hF)))))); refine cwk_nil ?_; clear hC hG; intro W hL; (try simp only [List.setIfInBounds_toArray, List.set_cons_zero, List.set_cons_succ, List.cons_append, List.nil_append] at hL); have hF := hL.facts; (try simp only [Facts, Dist, List.map_cons, List.map_nil, List.forall_mem_cons, false_implies, ne_eq, not_false_eq_true, List.not_mem_nil, not_false_eq_true, true_implies, forall_const, List.mem_cons, or_false, implies_true, and_true, true_and, Nat.le_refl, List.setIfInBounds_toArray, List.set_cons_zero, List.set_cons_succ] at hF)))
                go_roundw
                case rel => exact ⟨j + 1 + 1, _, by omega, by go_num, kn_here, hnx2⟩
                case measure => simp [intOf]; omega
              · obtain ⟨b, hb⟩ : ∃ b, fit x.1 c = b := ⟨_, rfl⟩
                rw [hb] at FC hfk
                have hnx2 : Hid (nx.setIfInBounds (j + 1) (.bool b) = bl ((List.range (s.size + 1)).map fun i => decide (i < j + 1 + 1) && f i)) := Lib.hid (by rw [hnx.out, bl_set, dp_step _ _ _ hkN b (by rw [hfk.out]; rfl)])
                clear hb
                go_wp2_with (first | ((with_reducible refine kn_list_set ?_); (try clear hF); clear hL; intro W hL; (try simp only [List.setIfInBounds_toArray, List.set_cons_zero, List.set_cons_succ, List.cons_append, List.nil_append] at hL); have hF := hL.facts; (try simp only [Facts, Dist, List.map_cons, List.map_nil, List.forall_mem_cons, false_implies, ne_eq, not_false_eq_true, List.not_mem_nil, not_false_eq_true, true_implies, forall_const, List.mem_cons, or_false, implies_true, and_true, true_and, Nat.le_refl, List.setIfInBounds_toArray, List.set_cons_zero, List.set_cons_succ] at hF)) | ((with_reducible refine at_region 14 ?_); refine kn_wp ?_; (try clear hF); clear hL; intro W hL; (try simp only [List.setIfInBounds_toArray, List.set_cons_zero, List.set_cons_succ, List.cons_append, List.nil_append] at hL); have hF := hL.facts; (try simp only [Facts, Dist, List.map_cons, List.map_nil, List.forall_mem_cons, false_implies, ne_eq, not_false_eq_true, List.not_mem_nil, not_false_eq_true, true_implies, forall_const, List.mem_cons, or_false, implies_true, and_true, true_and, Nat.le_refl, List.setIfInBounds_toArray, List.set_cons_zero, List.set_cons_succ] at hF); refine kn_region [0, 1, 2, 3, 4, 5, 6, 7, 8, 9, 10, 11, 12, 13, 14, 15, 16, 17, 18, 19] [0, 1, 2, 3, 4, 5, 6, 7, 8, 9, 10, 11, 12, 13, 14, 15, 17, 18] [16, 19] [0, 1, 2, 3, 4, 5, 7, 8, 9, 10, 12, 13, 14, 15, 17, 18] (by kernel_rfl) (by kernel_rfl) (List.Sublist.refl _) ?_; (try clear hF); clear hL; intro ι F hne hC hFF; have hG := fun n => (hFF n).facts; clear hFF; (try simp only [Facts, Dist, List.map_cons, List.map_nil, List.forall_mem_cons, false_implies, ne_eq, not_false_eq_true, List.not_mem_nil, not_false_eq_true, true_implies, forall_const, List.mem_cons, or_false, implies_true, and_true, true_and, Nat.le_refl, List.setIfInBounds_toArray, List.set_cons_zero, List.set_cons_succ] at hG); (repeat (first | (refine cwk_skip rfl (by rfl) ?_; (try simp only [Act.put, List.setIfInBounds_toArray, List.set_cons_zero, List.set_cons_succ])) | (refine cwk_float rfl rfl (by rfl) (by rfl) (by rfl) hC ?_; intro K hK; go_big_quiet_op; go_big_quiet_on) | (refine cwk_pure rfl rfl (by rfl) (by rfl) ?_; intro K hK; go_big_quiet_op; go_big_quiet_on) | (refine cwk_call rfl (by rfl) (by rfl) (fun _ => rfl) ?_; intro W hL; (try simp only [List.setIfInBounds_toArray, List.set_cons_zero, List.set_cons_succ, List.cons_append, List.nil_append] at hL); have hF := hL.facts; (try simp only [Facts, Dist, List.map_cons, List.map_nil, List.forall_mem_cons, false_implies, ne_eq, not_false_eq_true, List.not_mem_nil, not_false_eq_true, true_implies, forall_const, List.mem_cons, or_false, implies_true, and_true, true_and, Nat.le_refl, List.setIfInBounds_toArray, List.set_cons_zero, List.set_cons_succ] at hF); simp only [List.map_toArray, List.map_cons, List.map_nil, Array.empty_append, Array.append_empty, Act.eval, Array.getD_eq_getD_getElem?, List.getElem?_toArray, List.getElem?_cons_zero, List.getElem?_cons_succ, Option.getD_some]; go_at_call 47; (with_reducible refine (FC.out _).mono ?_); rintro e W ⟨rfl, hb⟩; replace hL := hL.below hb; clear hb; (try clear hF); (try simp only [List.setIfInBounds_toArray, List.set_cons_zero, List.set_cons_succ, List.cons_append, List.nil_append] at hL); have hF := hL.facts; (try simp only [Facts, Dist, List.map_cons, List.map_nil, List.forall_mem_cons, false_implies, ne_eq, not_false_eq_true, List.not_mem_nil, not_false_eq_true, true_implies, forall_const, List.mem_cons, or_false, implies_true, and_true, true_and, Nat.le_refl, List.setIfInBounds_toArray, List.set_cons_zero, List.set_cons_succ] at hF); refine owed_ret ?_; (first | (refine owedB _ (by rfl) ?_; clear hL; (try clear hF); clear hC hG; intro ι F hne hC hFF; have hG := fun n => (hFF n).facts; clear hFF; (try simp only [Facts, Dist, List.map_cons, List.map_nil, List.forall_mem_cons, false_implies, ne_eq, not_false_eq_true, List.not_mem_nil, not_false_eq_true, true_implies, forall_const, List.mem_cons, or_false, implies_true, and_true, true_and, Nat.le_refl, List.setIfInBounds_toArray, List.set_cons_zero, List.set_cons_succ] at hG)) | (refine owed0 _ (by repeat' (first | (with_reducible exact List.Sublist.refl _) | (with_reducible apply List.Sublist.cons_cons) | (with_reducible apply List.Sublist.cons))) ?_; clear hL; (try clear hF))); (try simp only [Act.put, List.setIfInBounds_toArray, List.set_cons_zero, List.set_cons_succ])) | (refine cwk_anch rfl rfl (by rfl) (by rfl) ?_; intro W hL; (try simp only [List.setIfInBounds_toArray, List.set_cons_zero, List.set_cons_succ, List.cons_append, List.nil_append] at hL); have hF := hL.facts; (try simp only [Facts, Dist, List.map_cons, List.map_nil, List.forall_mem_cons, false_implies, ne_eq, not_false_eq_true, List.not_mem_nil, not_false_eq_true, true_implies, forall_const, List.mem_cons, or_false, implies_true, and_true, true_and, Nat.le_refl, List.setIfInBounds_toArray, List.set_cons_zero, List.set_cons_succ] at hF); go_wp2; refine anchQ_normal ?_; (first | (refine owedB _ (by rfl) ?_; clear hL; (try clear hF); clear hC hG; intro ι F hne hC hFF; have hG := fun n => (hFF n).facts; clear hFF; (try simp only [Facts, Dist, List.map_cons, List.map_nil, List.forall_mem_cons, false_implies, ne_eq, not_false_eq_true, List.not_mem_nil, not_false_eq_true, true_implies, forall_const, List.mem_cons, or_false, implies_true, and_true, true_and, Nat.le_refl, List.setIfInBounds_toArray, List.set_cons_zero, List.set_cons_succ] at hG)) | (refine owed0 _ (by repeat' (first | (with_reducible exact List.Sublist.refl _) | (with_reducible apply List.Sublist.cons_cons) | (with_reducible apply List.Sublist.cons))) ?_; clear hL; (try clear hF)))))); refine cwk_nil ?_; clear hC hG; intro W hL; (try simp only [List.setIfInBounds_toArray, List.set_cons_zero, List.set_cons_succ, List.cons_append, List.nil_append] at hL); have hF := hL.facts; (try simp only [Facts, Dist, List.map_cons, List.map_nil, List.forall_mem_cons, false_implies, ne_eq, not_false_eq_true, List.not_mem_nil, not_false_eq_true, true_implies, forall_const, List.mem_cons, or_false, implies_true, and_true, true_and, Nat.le_refl, List.setIfInBounds_toArray, List.set_cons_zero, List.set_cons_succ] at hF)))
                go_roundw
                case rel => exact ⟨j + 1 + 1, _, by omega, by go_num, kn_here, hnx2⟩
                case measure => simp [intOf]; omega
        · obtain rfl : k = s.size + 1 := by omega
          have hfin : Hid (nx = (bl ((List.range (s.size + 1)).map fun j => mt ((ps.take (i + 1))) (s.data.toList.take j)))) := Lib.hid (by
            rw [hnx.out, HQ1.out]
            congr 1
            refine List.map_congr_left fun j hj => ?_
            rw [List.mem_range] at hj
            rw [decide_eq_true hj, HF.out]; rfl)
          go_wp2
          go_roundw
          case rel => exact ⟨i + 1, _, nx, by omega, by go_num, rfl, hL.sub (List.Sublist.cons_cons _ (List.nil_sublist _)), hfin⟩
          case measure => simp [intOf]; omega
    · obtain rfl : i = L.length := by omega
      have hcv : (cur[s.size]? = some (.bool v)) := by
        rw [hcur.out, bl_range _ _ _ (by omega), ← hpl, List.take_length, List.take_of_length_le (by omega), hv.out]
      go_wp2
      (try simp only [Exit.inBlock, Exit.then]); refine bodyPost_ret (by simp [results, Tryd.results28, go_sem, *]; try rfl) rfl ?_
      exact ⟨rfl, hbW.trans (hL.below0.mono hbW.size)⟩

end Go.Proofs.YtjkohbecmaegmaaDoor

