import Derived.Test.YtibaebgihbdphaaDoorProg
import Derived.WalkKit
import Derived.Handy
import Derived.Deep.Light
import Derived.WalkSmall
import Derived.StillTailTactics
import Derived.Lib.Hide
import Derived.Test.YtibaebgihbdphaaDoorReg
import Derived.Test.YtibaebgihbdphaaDoorCpu0
import Derived.Test.YtibaebgihbdphaaDoorCpu1
import Derived.Test.YtibaebgihbdphaaDoorCpu2
import Derived.Test.YtibaebgihbdphaaDoorCpu3
import Derived.Test.YtibaebgihbdphaaDoorCpu4
import Derived.Test.YtibaebgihbdphaaDoorCpu5
import Derived.Test.YtibaebgihbdphaaDoorMix
import Derived.Test.YtibaebgihbdphaaDoorCpu6
import Derived.Test.YtibaebgihbdphaaDoorCpu6b
import Derived.Test.YtibaebgihbdphaaDoorKnow
import Derived.Test.YtibaebgihbdphaaDoorCpu7
import Derived.Test.YtibaebgihbdphaaDoorCpu8
import Derived.Test.YtibaebgihbdphaaDoorCpu10
import Derived.Test.YtibaebgihbdphaaDoorCpu9
import Derived.Test.YtibaebgihbdphaaDoorCpuAa
import Derived.Test.YtibaebgihbdphaaDoorCpuAb
import Derived.Test.YtibaebgihbdphaaDoorCpuJa
import Derived.Test.YtibaebgihbdphaaDoorCpuJb
import Derived.Test.YtibaebgihbdphaaDoorCpuMa
import Derived.Test.YtibaebgihbdphaaDoorCpuMb
namespace Go.Proofs.YtibaebgihbdphaaDoor
open Go Go.RowKit
set_option linter.unusedSimpArgs false
set_option linter.unusedVariables false

def loadedS (kind size reg v : Int) (r : Rg) : Rg :=
  if kind = 1 ∧ 0 ≤ reg ∧ reg < 8 then (if size = 1 then r.set reg (v % 256) else if size = 4 then r.set reg (wrap32 v) else r) else r
set_option maxHeartbeats 4000000 in
theorem Loaded_any (r0 r1 r2 r3 r4 r5 r6 r7 pc y0 y1 y2 y3 y4 y5 v : Int) (w : World) :
    Calls Tryd.prog 15 #[.agg #[.int .i64 r0, .int .i64 r1, .int .i64 r2, .int .i64 r3, .int .i64 r4, .int .i64 r5, .int .i64 r6, .int .i64 r7, .int .i64 pc], .agg #[.int .i64 y0, .int .i64 y1, .int .i64 y2, .int .i64 y3, .int .i64 y4, .int .i64 y5], .int .i64 v] w fun e w' => e = .returned (.agg #[.int .i64 (loadedS y0 y2 y3 v ⟨r0, r1, r2, r3, r4, r5, r6, r7, pc⟩).r0, .int .i64 (loadedS y0 y2 y3 v ⟨r0, r1, r2, r3, r4, r5, r6, r7, pc⟩).r1, .int .i64 (loadedS y0 y2 y3 v ⟨r0, r1, r2, r3, r4, r5, r6, r7, pc⟩).r2, .int .i64 (loadedS y0 y2 y3 v ⟨r0, r1, r2, r3, r4, r5, r6, r7, pc⟩).r3, .int .i64 (loadedS y0 y2 y3 v ⟨r0, r1, r2, r3, r4, r5, r6, r7, pc⟩).r4, .int .i64 (loadedS y0 y2 y3 v ⟨r0, r1, r2, r3, r4, r5, r6, r7, pc⟩).r5, .int .i64 (loadedS y0 y2 y3 v ⟨r0, r1, r2, r3, r4, r5, r6, r7, pc⟩).r6, .int .i64 (loadedS y0 y2 y3 v ⟨r0, r1, r2, r3, r4, r5, r6, r7, pc⟩).r7, .int .i64 (loadedS y0 y2 y3 v ⟨r0, r1, r2, r3, r4, r5, r6, r7, pc⟩).pc]) ∧ Below w.heap.size w w' := by
  have h1 := @sel_get
  have h2 := @upd_set
  have h3 := @and255
  have hd1 := @setCell_drewN
  have hd2 := @alloc_drewN
  by_cases hr : 0 ≤ y3 ∧ y3 ≤ 7
  · obtain ⟨ha, ha'⟩ := hr
    have hlt : (y3 < 0) = False := by simp; omega
    have hge : (8 ≤ y3) = False := by simp; omega
    go_enter Tryd.func15, Tryd.ntmps15
    go_wp2_with (go_at_call 12; refine (Wrap_any _ _).mono ?_; rintro e w' ⟨rfl, rfl⟩)
    repeat any_goals (first | (refine drew_tail 5 (by kernel_rfl) (by kernel_rfl) ?_ ; simp only [List.take_succ_cons, List.take_zero] ; (repeat (go_big_quiet_step ((go_at_call 12; exact Calls.quiet_of_same ((Wrap_any _ _).mono fun e w' h => ⟨h.1, h.2.symm⟩))))) ; refine wpQuiet_nil ?_ ; rintro _ ⟨nt, rfl⟩ ; simp only [List.drop_succ_cons, List.drop_zero]) ; go_wp2)
    all_goals (try go_returns)
    all_goals (try (refine ⟨?_, by (repeat' (first | (with_reducible exact Below.refl _ _) | (with_reducible assumption) | (with_reducible refine below_drewN ?_ _) | (with_reducible refine Below.alloc ?_ ?_ _) | (with_reducible refine Below.drew ?_) | (with_reducible refine Below.setCell ?_ ?_ _) | (with_reducible exact Nat.le_refl _) | omega | (simp only [World.size_alloc, World.size_setCell, World.size_drew, heap_drewN, heap_drew]; done) | (simp only [World.size_alloc, World.size_setCell, World.size_drew, heap_drewN, heap_drew]; omega) | (dsimp only; omega)))⟩))
    all_goals go_light
    all_goals (try (simp_all [loadedS, Rg.set]; done))
  · go_enter Tryd.func15, Tryd.ntmps15
    go_wp2_with (go_at_call 12; refine (Wrap_any _ _).mono ?_; rintro e w' ⟨rfl, rfl⟩)
    all_goals go_returns
    all_goals refine ⟨?_, by (repeat' (first | (with_reducible exact Below.refl _ _) | (with_reducible assumption) | (with_reducible refine below_drewN ?_ _) | (with_reducible refine Below.alloc ?_ ?_ _) | (with_reducible refine Below.drew ?_) | (with_reducible refine Below.setCell ?_ ?_ _) | (with_reducible exact Nat.le_refl _) | omega | (simp only [World.size_alloc, World.size_setCell, World.size_drew, heap_drewN, heap_drew]; done) | (simp only [World.size_alloc, World.size_setCell, World.size_drew, heap_drewN, heap_drew]; omega) | (dsimp only; omega)))⟩
    all_goals go_light
    all_goals (have hn : ¬ (0 ≤ y3 ∧ y3 < 8) := by omega)
    all_goals (simp only [loadedS, hn, and_false, if_false])

end Go.Proofs.YtibaebgihbdphaaDoor
