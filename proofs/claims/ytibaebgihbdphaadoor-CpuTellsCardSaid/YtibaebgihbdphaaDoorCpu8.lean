import Derived.Test.YtibaebgihbdphaaDoorProg
import Derived.WalkKit
import Derived.Handy
import Derived.Deep.Light
import Derived.WalkSmall
import Derived.StillTailTactics
import Derived.Lib.Hide
import Derived.Test.YtibaebgihbdphaaDoorReg
import Derived.Test.YtibaebgihbdphaaDoorCpu0
import Derived.Test.YtibaebgihbdphaaDoorCpu1
import Derived.Test.YtibaebgihbdphaaDoorCpu2
import Derived.Test.YtibaebgihbdphaaDoorCpu3
import Derived.Test.YtibaebgihbdphaaDoorCpu4
import Derived.Test.YtibaebgihbdphaaDoorCpu5
import Derived.Test.YtibaebgihbdphaaDoorMix
import Derived.Test.YtibaebgihbdphaaDoorCpu6
import Derived.Test.YtibaebgihbdphaaDoorCpu6b
import Derived.Test.YtibaebgihbdphaaDoorKnow
namespace Go.Proofs.YtibaebgihbdphaaDoor
open Go Go.RowKit
set_option linter.unusedSimpArgs false
set_option linter.unusedVariables false

theorem calculate_quiet (op a b : Int) (w : World) (n : Nat) :
    Calls Tryd.prog 21 #[.int .i64 op, .int .i64 a, .int .i64 b] (w.drewN n) fun e w' => e = .returned (.tuple #[.int .i64 (calcN op a b), .bool (calcOk op b)]) ∧ ∃ m, w' = w.drewN m :=
  (calculate_any op a b (w.drewN n)).mono fun _ _ h => ⟨h.1, n, h.2.symm⟩

set_option maxRecDepth 20000 in
set_option maxHeartbeats 4000000 in
theorem Exec_bad (r0 r1 r2 r3 r4 r5 r6 r7 pc op a b c : Int) (w : World) (hT : Tab w) (hv : valid op a b c = true) (hf : form op = 3) (ho : (op == 31) = false) (hA : 0 ≤ a ∧ a ≤ 7) (hB : 0 ≤ b ∧ b ≤ 7) (hC : 0 ≤ c ∧ c ≤ 7) (hk : calcOk op (Rg.sel (Rg.wrap ⟨r0, r1, r2, r3, r4, r5, r6, r7, pc⟩) c) = false) :
    Calls Tryd.prog 13 #[.agg #[.int .i64 r0, .int .i64 r1, .int .i64 r2, .int .i64 r3, .int .i64 r4, .int .i64 r5, .int .i64 r6, .int .i64 r7, .int .i64 pc], .agg #[.int .i64 op, .int .i64 a, .int .i64 b, .int .i64 c]] w fun e w' => e = .returned (.tuple #[.agg #[.int .i64 (execS op a b c ⟨r0, r1, r2, r3, r4, r5, r6, r7, pc⟩).1.r0, .int .i64 (execS op a b c ⟨r0, r1, r2, r3, r4, r5, r6, r7, pc⟩).1.r1, .int .i64 (execS op a b c ⟨r0, r1, r2, r3, r4, r5, r6, r7, pc⟩).1.r2, .int .i64 (execS op a b c ⟨r0, r1, r2, r3, r4, r5, r6, r7, pc⟩).1.r3, .int .i64 (execS op a b c ⟨r0, r1, r2, r3, r4, r5, r6, r7, pc⟩).1.r4, .int .i64 (execS op a b c ⟨r0, r1, r2, r3, r4, r5, r6, r7, pc⟩).1.r5, .int .i64 (execS op a b c ⟨r0, r1, r2, r3, r4, r5, r6, r7, pc⟩).1.r6, .int .i64 (execS op a b c ⟨r0, r1, r2, r3, r4, r5, r6, r7, pc⟩).1.r7, .int .i64 (execS op a b c ⟨r0, r1, r2, r3, r4, r5, r6, r7, pc⟩).1.pc], .agg #[.int .i64 (execS op a b c ⟨r0, r1, r2, r3, r4, r5, r6, r7, pc⟩).2.kind, .int .i64 (execS op a b c ⟨r0, r1, r2, r3, r4, r5, r6, r7, pc⟩).2.at_, .int .i64 (execS op a b c ⟨r0, r1, r2, r3, r4, r5, r6, r7, pc⟩).2.size, .int .i64 (execS op a b c ⟨r0, r1, r2, r3, r4, r5, r6, r7, pc⟩).2.reg, .int .i64 (execS op a b c ⟨r0, r1, r2, r3, r4, r5, r6, r7, pc⟩).2.value, .int .i64 (execS op a b c ⟨r0, r1, r2, r3, r4, r5, r6, r7, pc⟩).2.n]]) ∧ Below w.heap.size w w' := by
  have hd1 := @setCell_drewN
  have hd2 := @alloc_drewN
  have h1 := @sel_get
  have h2 := @upd_set
  go_enter Tryd.func13, Tryd.ntmps13
  obtain ⟨ha, ha'⟩ := hA
  obtain ⟨hb, hb'⟩ := hB
  obtain ⟨hc, hc'⟩ := hC
  simp only [Rg.wrap] at hk
  go_wp2_with (first | (go_at_call 19; refine calls_know [w.heap.size, w.heap.size + 1, w.heap.size + 1 + 1, w.heap.size + 1 + 1 + 1] (fun W1 hk1 hB1 hs1 => ?_); simp only [List.forall_mem_cons, List.not_mem_nil, false_implies, implies_true, and_true] at hk1; simp (disch := (first | omega | (simp only [World.size_alloc, World.size_setCell, World.size_drew, heap_drewN, heap_drew]; done) | (simp only [World.size_alloc, World.size_setCell, World.size_drew, heap_drewN, heap_drew]; omega))) only [heap_at, heap_past, heap_drewN, heap_drew, heap_same, heap_set_far, Option.map_some, setObj_cells, List.setIfInBounds_toArray, List.set_cons_zero, List.set_cons_succ] at hk1; have hw1 := hB1 w.heap.size w (by (repeat' (first | (with_reducible exact Below.refl _ _) | (with_reducible assumption) | (with_reducible refine below_drewN ?_ _) | (with_reducible refine Below.alloc ?_ ?_ _) | (with_reducible refine Below.drew ?_) | (with_reducible refine Below.setCell ?_ ?_ _) | (with_reducible exact Nat.le_refl _) | omega | (simp only [World.size_alloc, World.size_setCell, World.size_drew, heap_drewN, heap_drew]; done) | (simp only [World.size_alloc, World.size_setCell, World.size_drew, heap_drewN, heap_drew]; omega) | (dsimp only; omega)))); clear hB1; (try simp only [World.size_alloc, World.size_setCell, World.size_drew, heap_drewN, heap_drew] at hs1); obtain ⟨k1_0, k1_1, k1_2, k1_3⟩ := hk1; refine (wrapRegs_any _ _ _ _ _ _ _ _ _ _).mono ?_; rintro e w1 ⟨rfl, hb1⟩; have j1_0 := (hb1.block (w.heap.size) (blk_lt k1_0)).trans k1_0; have c1_0 := blk_cell j1_0; have f1_0 := blk_frozen j1_0; have l1_0 := blk_lt j1_0; clear k1_0; have j1_1 := (hb1.block (w.heap.size + 1) (blk_lt k1_1)).trans k1_1; have c1_1 := blk_cell j1_1; have f1_1 := blk_frozen j1_1; have l1_1 := blk_lt j1_1; clear k1_1; have j1_2 := (hb1.block (w.heap.size + 1 + 1) (blk_lt k1_2)).trans k1_2; have c1_2 := blk_cell j1_2; have f1_2 := blk_frozen j1_2; have l1_2 := blk_lt j1_2; clear k1_2; have j1_3 := (hb1.block (w.heap.size + 1 + 1 + 1) (blk_lt k1_3)).trans k1_3; have c1_3 := blk_cell j1_3; have f1_3 := blk_frozen j1_3; have l1_3 := blk_lt j1_3; clear k1_3; have hv1 := hw1.trans (hb1.mono hw1.size); have ho1 := old_cell hv1; have hz1 := hb1.size; clear hb1 hw1) | (go_at_call 17; refine calls_know [w.heap.size, w.heap.size + 1, w.heap.size + 1 + 1, w.heap.size + 1 + 1 + 1] (fun W2 hk2 hB2 hs2 => ?_); simp only [List.forall_mem_cons, List.not_mem_nil, false_implies, implies_true, and_true] at hk2; simp (disch := (first | omega | (simp only [World.size_alloc, World.size_setCell, World.size_drew, heap_drewN, heap_drew]; done) | (simp only [World.size_alloc, World.size_setCell, World.size_drew, heap_drewN, heap_drew]; omega))) only [heap_at, heap_past, heap_drewN, heap_drew, heap_same, heap_set_far, Option.map_some, setObj_cells, List.setIfInBounds_toArray, List.set_cons_zero, List.set_cons_succ, j1_0, j1_1, j1_2, j1_3] at hk2; have hw2 := hB2 w.heap.size w (by (repeat' (first | (with_reducible exact Below.refl _ _) | (with_reducible assumption) | (with_reducible refine below_drewN ?_ _) | (with_reducible refine Below.alloc ?_ ?_ _) | (with_reducible refine Below.drew ?_) | (with_reducible refine Below.setCell ?_ ?_ _) | (with_reducible exact Nat.le_refl _) | omega | (simp only [World.size_alloc, World.size_setCell, World.size_drew, heap_drewN, heap_drew]; done) | (simp only [World.size_alloc, World.size_setCell, World.size_drew, heap_drewN, heap_drew]; omega) | (dsimp only; omega)))); clear hB2; (try simp only [World.size_alloc, World.size_setCell, World.size_drew, heap_drewN, heap_drew] at hs2); obtain ⟨k2_0, k2_1, k2_2, k2_3⟩ := hk2; refine (Valid_any _ _ _ _ _ (hT.below hw2 hT.1)).mono ?_; rintro e w2 ⟨rfl, hb2⟩; have j2_0 := (hb2.block (w.heap.size) (blk_lt k2_0)).trans k2_0; have c2_0 := blk_cell j2_0; have f2_0 := blk_frozen j2_0; have l2_0 := blk_lt j2_0; clear k2_0; have j2_1 := (hb2.block (w.heap.size + 1) (blk_lt k2_1)).trans k2_1; have c2_1 := blk_cell j2_1; have f2_1 := blk_frozen j2_1; have l2_1 := blk_lt j2_1; clear k2_1; have j2_2 := (hb2.block (w.heap.size + 1 + 1) (blk_lt k2_2)).trans k2_2; have c2_2 := blk_cell j2_2; have f2_2 := blk_frozen j2_2; have l2_2 := blk_lt j2_2; clear k2_2; have j2_3 := (hb2.block (w.heap.size + 1 + 1 + 1) (blk_lt k2_3)).trans k2_3; have c2_3 := blk_cell j2_3; have f2_3 := blk_frozen j2_3; have l2_3 := blk_lt j2_3; clear k2_3; have hv2 := hw2.trans (hb2.mono hw2.size); have ho2 := old_cell hv2; have hz2 := hb2.size; clear hb2 hw2; clear j1_0 j1_1 j1_2 j1_3 c1_0 c1_1 c1_2 c1_3 f1_0 f1_1 f1_2 f1_3 l1_0 l1_1 l1_2 l1_3 hs1 hv1 ho1 hz1) | (go_at_call 20; refine (Form_any _ _ (hT.below (B := w.heap.size) (by (repeat' (first | (with_reducible exact Below.refl _ _) | (with_reducible assumption) | (with_reducible refine below_drewN ?_ _) | (with_reducible refine Below.alloc ?_ ?_ _) | (with_reducible refine Below.drew ?_) | (with_reducible refine Below.setCell ?_ ?_ _) | (with_reducible exact Nat.le_refl _) | omega | (simp only [World.size_alloc, World.size_setCell, World.size_drew, heap_drewN, heap_drew]; done) | (simp only [World.size_alloc, World.size_setCell, World.size_drew, heap_drewN, heap_drew]; omega) | (dsimp only; omega)))) hT.1)).mono ?_; rintro e w' ⟨rfl, rfl⟩))
  refine wp_region_quiet_lit (by kernel_rfl) (by kernel_rfl) ?_
  (repeat (go_big_quiet_step ((exact calculate_quiet _ _ _ _ _))))
  refine wpQuiet_nil ?_
  rintro _ ⟨nq, rfl⟩
  repeat go_step
  (try simp only [Exit.inBlock, Exit.then]); refine bodyPost_ret (by simp [results, Tryd.results13, go_sem, c2_2, c2_3, l2_2, l2_3]; try rfl) rfl ?_
  refine ⟨?_, by (repeat' (first | (with_reducible exact Below.refl _ _) | (with_reducible assumption) | (with_reducible refine below_drewN ?_ _) | (with_reducible refine Below.alloc ?_ ?_ _) | (with_reducible refine Below.drew ?_) | (with_reducible refine Below.setCell ?_ ?_ _) | (with_reducible exact Nat.le_refl _) | omega | (simp only [World.size_alloc, World.size_setCell, World.size_drew, heap_drewN, heap_drew]; done) | (simp only [World.size_alloc, World.size_setCell, World.size_drew, heap_drewN, heap_drew]; omega) | (dsimp only; omega)))⟩
  simp only [execS, hv, if_true, Bool.true_eq_false, if_false, hf, hk, Rg.wrap, WalkArith.int_ne ho]
  rfl

end Go.Proofs.YtibaebgihbdphaaDoor
