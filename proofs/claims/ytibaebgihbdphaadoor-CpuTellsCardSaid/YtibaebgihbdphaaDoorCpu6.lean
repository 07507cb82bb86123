import Derived.Test.YtibaebgihbdphaaDoorProg
import Derived.WalkKit
import Derived.Handy
import Derived.Deep.Light
import Derived.WalkSmall
import Derived.StillTailTactics
import Derived.Lib.Hide
import Derived.Test.YtibaebgihbdphaaDoorReg
import Derived.Test.YtibaebgihbdphaaDoorCpu0
import Derived.Test.YtibaebgihbdphaaDoorCpu1
import Derived.Test.YtibaebgihbdphaaDoorCpu2
import Derived.Test.YtibaebgihbdphaaDoorCpu3
import Derived.Test.YtibaebgihbdphaaDoorCpu4
import Derived.Test.YtibaebgihbdphaaDoorCpu5
import Derived.Test.YtibaebgihbdphaaDoorMix
namespace Go.Proofs.YtibaebgihbdphaaDoor
open Go Go.RowKit
set_option linter.unusedSimpArgs false
set_option linter.unusedVariables false

set_option maxHeartbeats 4000000 in
theorem access_any (r0 r1 r2 r3 r4 r5 r6 r7 pc op a b c : Int) (ha : 0 ≤ a) (ha' : a ≤ 7) (hb : 0 ≤ b) (hb' : b ≤ 7) (w : World) :
    Calls Tryd.prog 22 #[.agg #[.int .i64 r0, .int .i64 r1, .int .i64 r2, .int .i64 r3, .int .i64 r4, .int .i64 r5, .int .i64 r6, .int .i64 r7, .int .i64 pc], .agg #[.int .i64 op, .int .i64 a, .int .i64 b, .int .i64 c]] w fun e w' => e = .returned (.tuple #[.agg #[.int .i64 (accessS op a b c ⟨r0, r1, r2, r3, r4, r5, r6, r7, pc⟩).1.r0, .int .i64 (accessS op a b c ⟨r0, r1, r2, r3, r4, r5, r6, r7, pc⟩).1.r1, .int .i64 (accessS op a b c ⟨r0, r1, r2, r3, r4, r5, r6, r7, pc⟩).1.r2, .int .i64 (accessS op a b c ⟨r0, r1, r2, r3, r4, r5, r6, r7, pc⟩).1.r3, .int .i64 (accessS op a b c ⟨r0, r1, r2, r3, r4, r5, r6, r7, pc⟩).1.r4, .int .i64 (accessS op a b c ⟨r0, r1, r2, r3, r4, r5, r6, r7, pc⟩).1.r5, .int .i64 (accessS op a b c ⟨r0, r1, r2, r3, r4, r5, r6, r7, pc⟩).1.r6, .int .i64 (accessS op a b c ⟨r0, r1, r2, r3, r4, r5, r6, r7, pc⟩).1.r7, .int .i64 (accessS op a b c ⟨r0, r1, r2, r3, r4, r5, r6, r7, pc⟩).1.pc], .agg #[.int .i64 (accessS op a b c ⟨r0, r1, r2, r3, r4, r5, r6, r7, pc⟩).2.kind, .int .i64 (accessS op a b c ⟨r0, r1, r2, r3, r4, r5, r6, r7, pc⟩).2.at_, .int .i64 (accessS op a b c ⟨r0, r1, r2, r3, r4, r5, r6, r7, pc⟩).2.size, .int .i64 (accessS op a b c ⟨r0, r1, r2, r3, r4, r5, r6, r7, pc⟩).2.reg, .int .i64 (accessS op a b c ⟨r0, r1, r2, r3, r4, r5, r6, r7, pc⟩).2.value, .int .i64 (accessS op a b c ⟨r0, r1, r2, r3, r4, r5, r6, r7, pc⟩).2.n]]) ∧ Below w.heap.size w w' := by
  have h1 := @sel_get
  have h2 := @upd_set
  have h3 := @and255
  have hd1 := @setCell_drewN
  have hd2 := @alloc_drewN
  go_enter Tryd.func22, Tryd.ntmps22
  go_wp2
  go_quiet (fail)
  go_wp2
  · refine mix [(5, w.heap.size + 1 + 1), (6, w.heap.size + 1 + 1 + 1)] (by kernel_rfl) (by kernel_rfl) (by first | (simp; done) | (simp; omega)) (by first | (simp; done) | (simp; omega)) (fun ι F hne hC hK hFc => ?_)
    simp only [List.map_cons, List.map_nil, List.mem_cons, List.not_mem_nil, or_false, not_false_eq_true, forall_const, heap_drewN, heap_drew, World.size_alloc, World.size_setCell] at hFc
    have hFo := fun n b o (h : b < w.heap.size) => hFc n b o (by omega) (by omega)
    have hF0 := fun n o => hFc n (w.heap.size) o (by omega) (by omega)
    have hF1 := fun n o => hFc n (w.heap.size + 1) o (by omega) (by omega)
    clear hFc
    repeat (first
      | (refine mix_plain (by rfl) (by rfl) (by rfl) hC ?_; intro K hK; go_big_quiet_op; go_big_quiet_on)
      | (refine mix_skip (by rfl) (by rfl) ?_; (try simp only [Act.put, List.setIfInBounds_toArray, List.set_cons_zero, List.set_cons_succ]))
      | (refine mix_store (by rfl) (by rfl) ?_; apply Exists.intro; refine ⟨fun w' hk hb => ?_, ?_⟩; (· (simp (disch := simp) only [heap_at, heap_past, heap_drewN, heap_drew, heap_other] at hb; have hs1 := blk_cell hb; have hs2 := blk_frozen hb; have hs3 := blk_lt hb; go_simp; simp only [setCell_blk hb, setBlk_setCell _ _ _ hs3, List.setIfInBounds_toArray, List.set_cons_zero, List.set_cons_succ]; rfl)); (try simp only [Act.put, List.setIfInBounds_toArray, List.set_cons_zero, List.set_cons_succ]))
      | (refine mix_call (by rfl) (by rfl) (fun _ => rfl) ?_; apply Exists.intro; refine ⟨fun w' hk => ?_, ?_⟩; (· (obtain ⟨n, rfl⟩ := hC w' hk; (try simp only [List.map_toArray, List.map_cons, List.map_nil, List.append_toArray, List.nil_append, List.append_nil]); fail)); (try simp only [Act.put, List.setIfInBounds_toArray, List.set_cons_zero, List.set_cons_succ])))
    refine mix_nil ?_
    clear hC hK hFo hF0 hF1
    intro w2 w2b w2c w2z w2x
    (try simp only [List.map_cons, List.map_nil, List.mem_cons, List.not_mem_nil, or_false, not_false_eq_true, forall_const] at w2c)
    simp only [List.forall_mem_cons, List.not_mem_nil, false_implies, implies_true, and_true] at w2b w2x
    (try simp only [heap_drewN, heap_drew, World.size_alloc, World.size_setCell] at w2b w2c w2z)
    obtain ⟨w2x1, w2x0⟩ := w2x
    have w2k0 := blk_cell w2x0
    have w2k1 := blk_cell w2x1
    go_wp2
    (try simp only [Exit.inBlock, Exit.then]); refine bodyPost_ret (by simp [results, Tryd.results22, go_sem, w2k0, w2k1]; try rfl) rfl ?_
    refine ⟨?_, w2b w.heap.size w (by (repeat' apply And.intro) <;> omega) (by first | omega | simp | (simp; omega)) (by (repeat' (first | (with_reducible exact Below.refl _ _) | (with_reducible assumption) | (with_reducible refine below_drewN ?_ _) | (with_reducible refine Below.alloc ?_ ?_ _) | (with_reducible refine Below.drew ?_) | (with_reducible refine Below.setCell ?_ ?_ _) | (with_reducible exact Nat.le_refl _) | omega | (simp only [World.size_alloc, World.size_setCell, World.size_drew, heap_drewN, heap_drew]; done) | (simp only [World.size_alloc, World.size_setCell, World.size_drew, heap_drewN, heap_drew]; omega) | (dsimp only; omega))))⟩
    go_light
    have e := WalkArith.int_eq ‹(op == 19) = true›; subst e; rfl
  · refine mix [(5, w.heap.size + 1 + 1), (6, w.heap.size + 1 + 1 + 1)] (by kernel_rfl) (by kernel_rfl) (by first | (simp; done) | (simp; omega)) (by first | (simp; done) | (simp; omega)) (fun ι F hne hC hK hFc => ?_)
    simp only [List.map_cons, List.map_nil, List.mem_cons, List.not_mem_nil, or_false, not_false_eq_true, forall_const, heap_drewN, heap_drew, World.size_alloc, World.size_setCell] at hFc
    have hFo := fun n b o (h : b < w.heap.size) => hFc n b o (by omega) (by omega)
    have hF0 := fun n o => hFc n (w.heap.size) o (by omega) (by omega)
    have hF1 := fun n o => hFc n (w.heap.size + 1) o (by omega) (by omega)
    clear hFc
    repeat (first
      | (refine mix_plain (by rfl) (by rfl) (by rfl) hC ?_; intro K hK; go_big_quiet_op; go_big_quiet_on)
      | (refine mix_skip (by rfl) (by rfl) ?_; (try simp only [Act.put, List.setIfInBounds_toArray, List.set_cons_zero, List.set_cons_succ]))
      | (refine mix_store (by rfl) (by rfl) ?_; apply Exists.intro; refine ⟨fun w' hk hb => ?_, ?_⟩; (· (simp (disch := simp) only [heap_at, heap_past, heap_drewN, heap_drew, heap_other] at hb; have hs1 := blk_cell hb; have hs2 := blk_frozen hb; have hs3 := blk_lt hb; go_simp; simp only [setCell_blk hb, setBlk_setCell _ _ _ hs3, List.setIfInBounds_toArray, List.set_cons_zero, List.set_cons_succ]; rfl)); (try simp only [Act.put, List.setIfInBounds_toArray, List.set_cons_zero, List.set_cons_succ]))
      | (refine mix_call (by rfl) (by rfl) (fun _ => rfl) ?_; apply Exists.intro; refine ⟨fun w' hk => ?_, ?_⟩; (· (obtain ⟨n, rfl⟩ := hC w' hk; (try simp only [List.map_toArray, List.map_cons, List.map_nil, List.append_toArray, List.nil_append, List.append_nil]); fail)); (try simp only [Act.put, List.setIfInBounds_toArray, List.set_cons_zero, List.set_cons_succ])))
    refine mix_nil ?_
    clear hC hK hFo hF0 hF1
    intro w2 w2b w2c w2z w2x
    (try simp only [List.map_cons, List.map_nil, List.mem_cons, List.not_mem_nil, or_false, not_false_eq_true, forall_const] at w2c)
    simp only [List.forall_mem_cons, List.not_mem_nil, false_implies, implies_true, and_true] at w2b w2x
    (try simp only [heap_drewN, heap_drew, World.size_alloc, World.size_setCell] at w2b w2c w2z)
    obtain ⟨w2x1, w2x0⟩ := w2x
    have w2k0 := blk_cell w2x0
    have w2k1 := blk_cell w2x1
    go_wp2
    (try simp only [Exit.inBlock, Exit.then]); refine bodyPost_ret (by simp [results, Tryd.results22, go_sem, w2k0, w2k1]; try rfl) rfl ?_
    refine ⟨?_, w2b w.heap.size w (by (repeat' apply And.intro) <;> omega) (by first | omega | simp | (simp; omega)) (by (repeat' (first | (with_reducible exact Below.refl _ _) | (with_reducible assumption) | (with_reducible refine below_drewN ?_ _) | (with_reducible refine Below.alloc ?_ ?_ _) | (with_reducible refine Below.drew ?_) | (with_reducible refine Below.setCell ?_ ?_ _) | (with_reducible exact Nat.le_refl _) | omega | (simp only [World.size_alloc, World.size_setCell, World.size_drew, heap_drewN, heap_drew]; done) | (simp only [World.size_alloc, World.size_setCell, World.size_drew, heap_drewN, heap_drew]; omega) | (dsimp only; omega))))⟩
    go_light
    have e := WalkArith.int_eq ‹(op == 20) = true›; subst e; rfl
  · go_returns
    refine ⟨?_, by (repeat' (first | (with_reducible exact Below.refl _ _) | (with_reducible assumption) | (with_reducible refine below_drewN ?_ _) | (with_reducible refine Below.alloc ?_ ?_ _) | (with_reducible refine Below.drew ?_) | (with_reducible refine Below.setCell ?_ ?_ _) | (with_reducible exact Nat.le_refl _) | omega | (simp only [World.size_alloc, World.size_setCell, World.size_drew, heap_drewN, heap_drew]; done) | (simp only [World.size_alloc, World.size_setCell, World.size_drew, heap_drewN, heap_drew]; omega) | (dsimp only; omega)))⟩
    go_light
    have e := WalkArith.int_eq ‹(op == 21) = true›; subst e; rfl
  · go_returns
    refine ⟨?_, by (repeat' (first | (with_reducible exact Below.refl _ _) | (with_reducible assumption) | (with_reducible refine below_drewN ?_ _) | (with_reducible refine Below.alloc ?_ ?_ _) | (with_reducible refine Below.drew ?_) | (with_reducible refine Below.setCell ?_ ?_ _) | (with_reducible exact Nat.le_refl _) | omega | (simp only [World.size_alloc, World.size_setCell, World.size_drew, heap_drewN, heap_drew]; done) | (simp only [World.size_alloc, World.size_setCell, World.size_drew, heap_drewN, heap_drew]; omega) | (dsimp only; omega)))⟩
    go_light
    have e := WalkArith.int_eq ‹(op == 22) = true›; subst e; rfl
  · refine mix [(6, w.heap.size + 1 + 1), (7, w.heap.size + 1 + 1 + 1)] (by kernel_rfl) (by kernel_rfl) (by first | (simp; done) | (simp; omega)) (by first | (simp; done) | (simp; omega)) (fun ι F hne hC hK hFc => ?_)
    simp only [List.map_cons, List.map_nil, List.mem_cons, List.not_mem_nil, or_false, not_false_eq_true, forall_const, heap_drewN, heap_drew, World.size_alloc, World.size_setCell] at hFc
    have hFo := fun n b o (h : b < w.heap.size) => hFc n b o (by omega) (by omega)
    have hF0 := fun n o => hFc n (w.heap.size) o (by omega) (by omega)
    have hF1 := fun n o => hFc n (w.heap.size + 1) o (by omega) (by omega)
    clear hFc
    repeat (first
      | (refine mix_plain (by rfl) (by rfl) (by rfl) hC ?_; intro K hK; go_big_quiet_op; go_big_quiet_on)
      | (refine mix_skip (by rfl) (by rfl) ?_; (try simp only [Act.put, List.setIfInBounds_toArray, List.set_cons_zero, List.set_cons_succ]))
      | (refine mix_store (by rfl) (by rfl) ?_; apply Exists.intro; refine ⟨fun w' hk hb => ?_, ?_⟩; (· (simp (disch := simp) only [heap_at, heap_past, heap_drewN, heap_drew, heap_other] at hb; have hs1 := blk_cell hb; have hs2 := blk_frozen hb; have hs3 := blk_lt hb; go_simp; simp only [setCell_blk hb, setBlk_setCell _ _ _ hs3, List.setIfInBounds_toArray, List.set_cons_zero, List.set_cons_succ]; rfl)); (try simp only [Act.put, List.setIfInBounds_toArray, List.set_cons_zero, List.set_cons_succ]))
      | (refine mix_call (by rfl) (by rfl) (fun _ => rfl) ?_; apply Exists.intro; refine ⟨fun w' hk => ?_, ?_⟩; (· (obtain ⟨n, rfl⟩ := hC w' hk; (try simp only [List.map_toArray, List.map_cons, List.map_nil, List.append_toArray, List.nil_append, List.append_nil]); fail)); (try simp only [Act.put, List.setIfInBounds_toArray, List.set_cons_zero, List.set_cons_succ])))
    refine mix_nil ?_
    clear hC hK hFo hF0 hF1
    intro w2 w2b w2c w2z w2x
    (try simp only [List.map_cons, List.map_nil, List.mem_cons, List.not_mem_nil, or_false, not_false_eq_true, forall_const] at w2c)
    simp only [List.forall_mem_cons, List.not_mem_nil, false_implies, implies_true, and_true] at w2b w2x
    (try simp only [heap_drewN, heap_drew, World.size_alloc, World.size_setCell] at w2b w2c w2z)
    obtain ⟨w2x1, w2x0⟩ := w2x
    have w2k0 := blk_cell w2x0
    have w2k1 := blk_cell w2x1
    go_wp2
    (try simp only [Exit.inBlock, Exit.then]); refine bodyPost_ret (by simp [results, Tryd.results22, go_sem, w2k0, w2k1]; try rfl) rfl ?_
    refine ⟨?_, w2b w.heap.size w (by (repeat' apply And.intro) <;> omega) (by first | omega | simp | (simp; omega)) (by (repeat' (first | (with_reducible exact Below.refl _ _) | (with_reducible assumption) | (with_reducible refine below_drewN ?_ _) | (with_reducible refine Below.alloc ?_ ?_ _) | (with_reducible refine Below.drew ?_) | (with_reducible refine Below.setCell ?_ ?_ _) | (with_reducible exact Nat.le_refl _) | omega | (simp only [World.size_alloc, World.size_setCell, World.size_drew, heap_drewN, heap_drew]; done) | (simp only [World.size_alloc, World.size_setCell, World.size_drew, heap_drewN, heap_drew]; omega) | (dsimp only; omega))))⟩
    go_light
    have e := WalkArith.int_eq ‹(op == 23) = true›; subst e; rfl
  · refine mix [(2, w.heap.size + 1 + 1), (3, w.heap.size + 1 + 1 + 1)] (by kernel_rfl) (by kernel_rfl) (by first | (simp; done) | (simp; omega)) (by first | (simp; done) | (simp; omega)) (fun ι F hne hC hK hFc => ?_)
    simp only [List.map_cons, List.map_nil, List.mem_cons, List.not_mem_nil, or_false, not_false_eq_true, forall_const, heap_drewN, heap_drew, World.size_alloc, World.size_setCell] at hFc
    have hFo := fun n b o (h : b < w.heap.size) => hFc n b o (by omega) (by omega)
    have hF0 := fun n o => hFc n (w.heap.size) o (by omega) (by omega)
    have hF1 := fun n o => hFc n (w.heap.size + 1 + 1 + 1 + 1) o (by omega) (by omega)
    clear hFc
    repeat (first
      | (refine mix_plain (by rfl) (by rfl) (by rfl) hC ?_; intro K hK; go_big_quiet_op; go_big_quiet_on)
      | (refine mix_skip (by rfl) (by rfl) ?_; (try simp only [Act.put, List.setIfInBounds_toArray, List.set_cons_zero, List.set_cons_succ]))
      | (refine mix_store (by rfl) (by rfl) ?_; apply Exists.intro; refine ⟨fun w' hk hb => ?_, ?_⟩; (· (simp (disch := simp) only [heap_at, heap_past, heap_drewN, heap_drew, heap_other] at hb; have hs1 := blk_cell hb; have hs2 := blk_frozen hb; have hs3 := blk_lt hb; go_simp; simp only [setCell_blk hb, setBlk_setCell _ _ _ hs3, List.setIfInBounds_toArray, List.set_cons_zero, List.set_cons_succ]; rfl)); (try simp only [Act.put, List.setIfInBounds_toArray, List.set_cons_zero, List.set_cons_succ]))
      | (refine mix_call (by rfl) (by rfl) (fun _ => rfl) ?_; apply Exists.intro; refine ⟨fun w' hk => ?_, ?_⟩; (· (obtain ⟨n, rfl⟩ := hC w' hk; (try simp only [List.map_toArray, List.map_cons, List.map_nil, List.append_toArray, List.nil_append, List.append_nil]); fail)); (try simp only [Act.put, List.setIfInBounds_toArray, List.set_cons_zero, List.set_cons_succ])))
    refine mix_nil ?_
    clear hC hK hFo hF0 hF1
    intro w2 w2b w2c w2z w2x
    (try simp only [List.map_cons, List.map_nil, List.mem_cons, List.not_mem_nil, or_false, not_false_eq_true, forall_const] at w2c)
    simp only [List.forall_mem_cons, List.not_mem_nil, false_implies, implies_true, and_true] at w2b w2x
    (try simp only [heap_drewN, heap_drew, World.size_alloc, World.size_setCell] at w2b w2c w2z)
    obtain ⟨w2x1, w2x0⟩ := w2x
    have w2k0 := blk_cell w2x0
    have w2k1 := blk_cell w2x1
    go_wp2
    (try simp only [Exit.inBlock, Exit.then]); refine bodyPost_ret (by simp [results, Tryd.results22, go_sem, w2k0, w2k1]; try rfl) rfl ?_
    refine ⟨?_, w2b w.heap.size w (by (repeat' apply And.intro) <;> omega) (by first | omega | simp | (simp; omega)) (by (repeat' (first | (with_reducible exact Below.refl _ _) | (with_reducible assumption) | (with_reducible refine below_drewN ?_ _) | (with_reducible refine Below.alloc ?_ ?_ _) | (with_reducible refine Below.drew ?_) | (with_reducible refine Below.setCell ?_ ?_ _) | (with_reducible exact Nat.le_refl _) | omega | (simp only [World.size_alloc, World.size_setCell, World.size_drew, heap_drewN, heap_drew]; done) | (simp only [World.size_alloc, World.size_setCell, World.size_drew, heap_drewN, heap_drew]; omega) | (dsimp only; omega))))⟩
    go_light
    simp_all [accessS]

end Go.Proofs.YtibaebgihbdphaaDoor
