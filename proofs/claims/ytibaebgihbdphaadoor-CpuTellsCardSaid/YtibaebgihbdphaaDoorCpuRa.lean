import Derived.Test.YtibaebgihbdphaaDoorProg
import Derived.WalkKit
import Derived.Handy
import Derived.Deep.Light
import Derived.WalkSmall
import Derived.Lib.Hide
import Derived.Test.YtibaebgihbdphaaDoorSt
import Derived.Test.YtibaebgihbdphaaDoorCpu0
import Derived.Test.YtibaebgihbdphaaDoorCpuX
import Derived.Test.YtibaebgihbdphaaDoorCpuL
import Derived.Test.YtibaebgihbdphaaDoorCpuW
import Derived.Deep.Cut
import Derived.Deep.CutBlock
import Derived.Test.YtibaebgihbdphaaDoorCpuP
namespace Go.Proofs.YtibaebgihbdphaaDoor
open Go Go.RowKit
set_option linter.unusedSimpArgs false
set_option linter.unusedVariables false

theorem kn_cut {P : Program} {s : Code} {K : Act → World → Prop} {Q' : Exit → Act → World → Prop} {a : Act} {W w0 : World} {A : Act} {L : List (Nat × Obj)}
    (first : ∀ (J K' : Act → World → Prop), (∀ a' w', a' = A → Kn [] w0 w' L → J a' w') → (∀ a' w', Met J a' w' → K' a' w') → s.wp P (Exit.then K' Q') a W)
    (rest : ∀ w', Kn [] w0 w' L → K A w') : s.wp P (Exit.then K Q') a W :=
  wp_cut (fun a' w' => a' = A ∧ Kn [] w0 w' L) (fun a' w' ⟨e, h⟩ => by rw [e]; exact rest w' h) (fun J K' h1 h2 => first J K' (fun a' w' e h => h1 a' w' ⟨e, h⟩) h2)
theorem met_end {J : Act → World → Prop} {a A : Act} {W w0 : World} {L L0 : List (Nat × Obj)} [h : Kn [] w0 W L0] (hJ : ∀ a' w', a' = A → Kn [] w0 w' L → J a' w') (e : a = A) (k : L0 = L) : J a W := hJ a W e (k ▸ h)
theorem z64 : wrap64 0 = 0 := by unfold wrap64; omega
theorem upd_setL (a v r0 r1 r2 r3 r4 r5 r6 r7 pc : Int) (h0 : 0 ≤ a) (h7 : a ≤ 7) :
    [Value.int .i64 r0, .int .i64 r1, .int .i64 r2, .int .i64 r3, .int .i64 r4, .int .i64 r5, .int .i64 r6, .int .i64 r7, .int .i64 pc].set a.toNat (.int .i64 v) =
    [Value.int .i64 (upd 0 a v r0), .int .i64 (upd 1 a v r1), .int .i64 (upd 2 a v r2), .int .i64 (upd 3 a v r3), .int .i64 (upd 4 a v r4), .int .i64 (upd 5 a v r5), .int .i64 (upd 6 a v r6), .int .i64 (upd 7 a v r7), .int .i64 pc] := by
  have : a = 0 ∨ a = 1 ∨ a = 2 ∨ a = 3 ∨ a = 4 ∨ a = 5 ∨ a = 6 ∨ a = 7 := by omega
  rcases this with h | h | h | h | h | h | h | h <;> subst h <;> rfl

theorem ex_mov {op a b c : Int} {r : Rg} (hv : valid op a b c = true) (h1 : op ≠ 31) (h2 : form op ≠ 3) (h3 : ¬ (19 ≤ op ∧ op ≤ 24)) (h4 : ¬ (25 ≤ op ∧ op ≤ 30)) : execS op a b c r = ((moveS op a b (r.wrap.go (wrap64 (r.wrap.pc + 4)))).wrap, ⟨0, 0, 0, 0, 0, 0⟩) := by
  unfold execS
  rw [if_neg (by rw [hv]; simp), if_neg h1, if_neg h2, if_neg h3, if_neg h4]
theorem ex_jmp {op a b c : Int} {r : Rg} (hv : valid op a b c = true) (h1 : op ≠ 31) (h2 : form op ≠ 3) (h3 : ¬ (19 ≤ op ∧ op ≤ 24)) (h4 : 25 ≤ op ∧ op ≤ 30) : execS op a b c r = ((jumpS op a b (r.wrap.go (wrap64 (r.wrap.pc + 4)))).wrap, ⟨0, 0, 0, 0, 0, 0⟩) := by
  unfold execS
  rw [if_neg (by rw [hv]; simp), if_neg h1, if_neg h2, if_neg h3, if_pos h4]
theorem ex_acc {op a b c : Int} {r : Rg} (hv : valid op a b c = true) (h1 : op ≠ 31) (h2 : form op ≠ 3) (h3 : 19 ≤ op ∧ op ≤ 24) : execS op a b c r = ((accessS op a b c (r.wrap.go (wrap64 (r.wrap.pc + 4)))).1.wrap, ⟨(accessS op a b c (r.wrap.go (wrap64 (r.wrap.pc + 4)))).2.kind, wrap32 (accessS op a b c (r.wrap.go (wrap64 (r.wrap.pc + 4)))).2.at_, (accessS op a b c (r.wrap.go (wrap64 (r.wrap.pc + 4)))).2.size, (accessS op a b c (r.wrap.go (wrap64 (r.wrap.pc + 4)))).2.reg, (accessS op a b c (r.wrap.go (wrap64 (r.wrap.pc + 4)))).2.value, (accessS op a b c (r.wrap.go (wrap64 (r.wrap.pc + 4)))).2.n⟩) := by
  unfold execS
  rw [if_neg (by rw [hv]; simp), if_neg h1, if_neg h2, if_pos h3]
theorem ex_alu {op a b c : Int} {r : Rg} (hv : valid op a b c = true) (h1 : op ≠ 31) (h2 : form op = 3) (hk : calcOk op (r.wrap.sel c) = true) : execS op a b c r = (((r.wrap.go (wrap64 (r.wrap.pc + 4))).set a (calcN op (r.wrap.sel b) (r.wrap.sel c))).wrap, ⟨0, 0, 0, 0, 0, 0⟩) := by
  unfold execS
  rw [if_neg (by rw [hv]; simp), if_neg h1, if_pos h2, if_pos hk]
theorem ex_bad {op a b c : Int} {r : Rg} (hv : valid op a b c = false) : execS op a b c r = (r.wrap, ⟨4, 0, 0, 0, 0, 14⟩) := by
  unfold execS
  rw [if_pos hv]
theorem ex_call {a b c : Int} {r : Rg} (hv : valid 31 a b c = true) : execS 31 a b c r = (r.wrap, ⟨3, 0, 0, 0, 0, b⟩) := by
  unfold execS
  rw [if_neg (by rw [hv]; simp), if_pos rfl]
theorem ex_zero {op a b c : Int} {r : Rg} (hv : valid op a b c = true) (h1 : op ≠ 31) (h2 : form op = 3) (hk : calcOk op (r.wrap.sel c) = false) : execS op a b c r = (r.wrap, ⟨4, 0, 0, 0, 0, 14⟩) := by
  unfold execS
  rw [if_neg (by rw [hv]; simp), if_neg h1, if_pos h2, if_neg (by rw [hk]; simp)]
theorem w6464 (n : Int) : wrap64 (wrap64 n) = wrap64 n := by unfold wrap64; omega
theorem go_pc' (r : Rg) (n : Int) : (r.go n).pc = n := by cases r; rfl
theorem go_go' (r : Rg) (n m : Int) : (r.go n).go m = r.go m := by cases r; rfl
theorem one_true : one true = 1 := rfl
theorem one_false : one false = 0 := rfl
theorem exS_0 {a b c va vb : Int} {r : Rg} (hv : valid 0 a b c = true) (hA : Rg.sel r.wrap a = va) : execS 0 a b c r = (((r.wrap.go (wrap64 (r.wrap.pc + 4)))).wrap, ⟨0, 0, 0, 0, 0, 0⟩) := by
  rw [ex_mov hv (by decide) (by decide) (by decide) (by decide)]
  unfold moveS
  rw [if_neg (by decide), if_neg (by decide), if_neg (by decide), if_neg (by decide)]
theorem exS_1 {a b c va vb : Int} {r : Rg} (hv : valid 1 a b c = true) (hA : Rg.sel r.wrap a = va) (hB : Rg.sel r.wrap b = vb) : execS 1 a b c r = (((r.wrap.go (wrap64 (r.wrap.pc + 4))).set a vb).wrap, ⟨0, 0, 0, 0, 0, 0⟩) := by
  rw [ex_mov hv (by decide) (by decide) (by decide) (by decide)]
  unfold moveS
  rw [if_pos rfl, sel_go, hB]
theorem exS_2 {a b c va vb : Int} {r : Rg} (hv : valid 2 a b c = true) (hA : Rg.sel r.wrap a = va) : execS 2 a b c r = (((r.wrap.go (wrap64 (r.wrap.pc + 4))).set a b).wrap, ⟨0, 0, 0, 0, 0, 0⟩) := by
  rw [ex_mov hv (by decide) (by decide) (by decide) (by decide)]
  unfold moveS
  rw [if_neg (by decide), if_pos rfl]
theorem exS_3 {a b c va vb : Int} {r : Rg} (hv : valid 3 a b c = true) (hA : Rg.sel r.wrap a = va) : execS 3 a b c r = (((r.wrap.go (wrap64 (r.wrap.pc + 4))).set a (wrap64 (va % 65536 + wrap64 (65536 * b)))).wrap, ⟨0, 0, 0, 0, 0, 0⟩) := by
  rw [ex_mov hv (by decide) (by decide) (by decide) (by decide)]
  unfold moveS
  rw [if_neg (by decide), if_neg (by decide), if_pos rfl, sel_go, hA, Int.mul_comm b 65536]
theorem exS_18 {a b c va vb : Int} {r : Rg} (hv : valid 18 a b c = true) (hA : Rg.sel r.wrap a = va) : execS 18 a b c r = (((r.wrap.go (wrap64 (r.wrap.pc + 4))).set a (wrap64 (va + b))).wrap, ⟨0, 0, 0, 0, 0, 0⟩) := by
  rw [ex_mov hv (by decide) (by decide) (by decide) (by decide)]
  unfold moveS
  rw [if_neg (by decide), if_neg (by decide), if_neg (by decide), if_pos rfl, sel_go, hA]
theorem exS_19 {a b c va vb : Int} {r : Rg} (hv : valid 19 a b c = true) (hA : Rg.sel r.wrap a = va) (hB : Rg.sel r.wrap b = vb) : execS 19 a b c r = ((r.wrap.go (wrap64 (r.wrap.pc + 4))).wrap, ⟨1, wrap32 (wrap64 (vb + c)), 1, a, 0, 0⟩) := by
  rw [ex_acc hv (by decide) (by decide) (by decide)]
  have e : accessS 19 a b c (r.wrap.go (wrap64 (r.wrap.pc + 4))) = ((r.wrap.go (wrap64 (r.wrap.pc + 4))), ⟨1, wrap64 (vb + c), 1, a, 0, 0⟩) := by
    unfold accessS
    rw [if_pos rfl]
    rw [sel_go, hB]
  rw [e]
theorem exS_20 {a b c va vb : Int} {r : Rg} (hv : valid 20 a b c = true) (hA : Rg.sel r.wrap a = va) (hB : Rg.sel r.wrap b = vb) : execS 20 a b c r = ((r.wrap.go (wrap64 (r.wrap.pc + 4))).wrap, ⟨1, wrap32 (wrap64 (vb + c)), 4, a, 0, 0⟩) := by
  rw [ex_acc hv (by decide) (by decide) (by decide)]
  have e : accessS 20 a b c (r.wrap.go (wrap64 (r.wrap.pc + 4))) = ((r.wrap.go (wrap64 (r.wrap.pc + 4))), ⟨1, wrap64 (vb + c), 4, a, 0, 0⟩) := by
    unfold accessS
    rw [if_neg (by decide), if_pos rfl]
    rw [sel_go, hB]
  rw [e]
theorem exS_21 {a b c va vb : Int} {r : Rg} (hv : valid 21 a b c = true) (hA : Rg.sel r.wrap a = va) (hB : Rg.sel r.wrap b = vb) : execS 21 a b c r = ((r.wrap.go (wrap64 (r.wrap.pc + 4))).wrap, ⟨2, wrap32 (wrap64 (vb + c)), 1, 0, va % 256, 0⟩) := by
  rw [ex_acc hv (by decide) (by decide) (by decide)]
  have e : accessS 21 a b c (r.wrap.go (wrap64 (r.wrap.pc + 4))) = ((r.wrap.go (wrap64 (r.wrap.pc + 4))), ⟨2, wrap64 (vb + c), 1, 0, va % 256, 0⟩) := by
    unfold accessS
    rw [if_neg (by decide), if_neg (by decide), if_pos rfl]
    rw [sel_go, hB, sel_go, hA]
  rw [e]
theorem exS_22 {a b c va vb : Int} {r : Rg} (hv : valid 22 a b c = true) (hA : Rg.sel r.wrap a = va) (hB : Rg.sel r.wrap b = vb) : execS 22 a b c r = ((r.wrap.go (wrap64 (r.wrap.pc + 4))).wrap, ⟨2, wrap32 (wrap64 (vb + c)), 4, 0, va, 0⟩) := by
  rw [ex_acc hv (by decide) (by decide) (by decide)]
  have e : accessS 22 a b c (r.wrap.go (wrap64 (r.wrap.pc + 4))) = ((r.wrap.go (wrap64 (r.wrap.pc + 4))), ⟨2, wrap64 (vb + c), 4, 0, va, 0⟩) := by
    unfold accessS
    rw [if_neg (by decide), if_neg (by decide), if_neg (by decide), if_pos rfl]
    rw [sel_go, hB, sel_go, hA]
  rw [e]
theorem exS_23 {a b c va vb : Int} {r : Rg} (hv : valid 23 a b c = true) (hA : Rg.sel r.wrap a = va) : execS 23 a b c r = ((⟨r.wrap.r0, r.wrap.r1, r.wrap.r2, r.wrap.r3, r.wrap.r4, r.wrap.r5, r.wrap.r6, wrap64 (r.wrap.r7 - 4), wrap64 (r.wrap.pc + 4)⟩ : Rg).wrap, ⟨2, wrap32 (wrap64 (r.wrap.r7 - 4)), 4, 0, va, 0⟩) := by
  rw [ex_acc hv (by decide) (by decide) (by decide)]
  have e : accessS 23 a b c (r.wrap.go (wrap64 (r.wrap.pc + 4))) = ((⟨r.wrap.r0, r.wrap.r1, r.wrap.r2, r.wrap.r3, r.wrap.r4, r.wrap.r5, r.wrap.r6, wrap64 (r.wrap.r7 - 4), wrap64 (r.wrap.pc + 4)⟩ : Rg), ⟨2, wrap64 (r.wrap.r7 - 4), 4, 0, va, 0⟩) := by
    unfold accessS
    rw [if_neg (by decide), if_neg (by decide), if_neg (by decide), if_neg (by decide), if_pos rfl]
    rw [sel_go, hA]; rfl
  rw [e]
theorem exS_24 {a b c va vb : Int} {r : Rg} (hv : valid 24 a b c = true) (hA : Rg.sel r.wrap a = va) : execS 24 a b c r = ((⟨r.wrap.r0, r.wrap.r1, r.wrap.r2, r.wrap.r3, r.wrap.r4, r.wrap.r5, r.wrap.r6, wrap64 (r.wrap.r7 + 4), wrap64 (r.wrap.pc + 4)⟩ : Rg).wrap, ⟨1, wrap32 r.wrap.r7, 4, a, 0, 0⟩) := by
  rw [ex_acc hv (by decide) (by decide) (by decide)]
  have e : accessS 24 a b c (r.wrap.go (wrap64 (r.wrap.pc + 4))) = ((⟨r.wrap.r0, r.wrap.r1, r.wrap.r2, r.wrap.r3, r.wrap.r4, r.wrap.r5, r.wrap.r6, wrap64 (r.wrap.r7 + 4), wrap64 (r.wrap.pc + 4)⟩ : Rg), ⟨1, r.wrap.r7, 4, a, 0, 0⟩) := by
    unfold accessS
    rw [if_neg (by decide), if_neg (by decide), if_neg (by decide), if_neg (by decide), if_neg (by decide)]
    rfl
  rw [e]
theorem exS_25 {a b c va vb : Int} {r : Rg} (hv : valid 25 a b c = true) (hA : Rg.sel r.wrap a = va) : execS 25 a b c r = (((r.wrap.go (wrap64 (r.wrap.pc + 4))).go (wrap64 ((r.wrap.go (wrap64 (r.wrap.pc + 4))).pc + b))).wrap, ⟨0, 0, 0, 0, 0, 0⟩) := by
  rw [ex_jmp hv (by decide) (by decide) (by decide) (by decide)]
  unfold jumpS
  rw [if_pos rfl]
theorem exS_26t {a b c va : Int} {r : Rg} (hv : valid 26 a b c = true) (hA : Rg.sel r.wrap a = va) (hz : (va == 0) = true) : execS 26 a b c r = (((r.wrap.go (wrap64 (r.wrap.pc + 4))).go (wrap64 ((r.wrap.go (wrap64 (r.wrap.pc + 4))).pc + b))).wrap, ⟨0, 0, 0, 0, 0, 0⟩) := by
  rw [ex_jmp hv (by decide) (by decide) (by decide) (by decide)]
  unfold jumpS
  rw [if_neg (by decide), if_pos rfl, sel_go, hA, show (va == 0) = true by exact hz, one_true]
  have hb : -32768 ≤ b ∧ b ≤ 32767 := by simp [valid, validF, form, formsL, inR] at hv; omega
  rw [Int.mul_one, show wrap64 b = b by unfold wrap64; omega]
theorem exS_26f {a b c va : Int} {r : Rg} (hv : valid 26 a b c = true) (hA : Rg.sel r.wrap a = va) (hz : (va == 0) = false) : execS 26 a b c r = (((r.wrap.go (wrap64 (r.wrap.pc + 4)))).wrap, ⟨0, 0, 0, 0, 0, 0⟩) := by
  rw [ex_jmp hv (by decide) (by decide) (by decide) (by decide)]
  unfold jumpS
  rw [if_neg (by decide), if_pos rfl, sel_go, hA, show (va == 0) = false by exact hz, one_false]
  rw [Int.mul_zero, z64, Int.add_zero, go_pc', w6464, go_go']
theorem exS_27t {a b c va : Int} {r : Rg} (hv : valid 27 a b c = true) (hA : Rg.sel r.wrap a = va) (hz : (va == 0) = true) : execS 27 a b c r = (((r.wrap.go (wrap64 (r.wrap.pc + 4)))).wrap, ⟨0, 0, 0, 0, 0, 0⟩) := by
  rw [ex_jmp hv (by decide) (by decide) (by decide) (by decide)]
  unfold jumpS
  rw [if_neg (by decide), if_neg (by decide), if_pos rfl, sel_go, hA, show (va != 0) = false by unfold bne; rw [hz]; rfl, one_false]
  rw [Int.mul_zero, z64, Int.add_zero, go_pc', w6464, go_go']
theorem exS_27f {a b c va : Int} {r : Rg} (hv : valid 27 a b c = true) (hA : Rg.sel r.wrap a = va) (hz : (va == 0) = false) : execS 27 a b c r = (((r.wrap.go (wrap64 (r.wrap.pc + 4))).go (wrap64 ((r.wrap.go (wrap64 (r.wrap.pc + 4))).pc + b))).wrap, ⟨0, 0, 0, 0, 0, 0⟩) := by
  rw [ex_jmp hv (by decide) (by decide) (by decide) (by decide)]
  unfold jumpS
  rw [if_neg (by decide), if_neg (by decide), if_pos rfl, sel_go, hA, show (va != 0) = true by unfold bne; rw [hz]; rfl, one_true]
  have hb : -32768 ≤ b ∧ b ≤ 32767 := by simp [valid, validF, form, formsL, inR] at hv; omega
  rw [Int.mul_one, show wrap64 b = b by unfold wrap64; omega]
theorem exS_28 {a b c va vb : Int} {r : Rg} (hv : valid 28 a b c = true) (hA : Rg.sel r.wrap a = va) : execS 28 a b c r = ((((r.wrap.go (wrap64 (r.wrap.pc + 4))).set a (r.wrap.go (wrap64 (r.wrap.pc + 4))).pc).go (wrap64 ((r.wrap.go (wrap64 (r.wrap.pc + 4))).pc + b))).wrap, ⟨0, 0, 0, 0, 0, 0⟩) := by
  rw [ex_jmp hv (by decide) (by decide) (by decide) (by decide)]
  unfold jumpS
  rw [if_neg (by decide), if_neg (by decide), if_neg (by decide), if_pos rfl]
theorem exS_29 {a b c va vb : Int} {r : Rg} (hv : valid 29 a b c = true) (hA : Rg.sel r.wrap a = va) : execS 29 a b c r = (((r.wrap.go (wrap64 (r.wrap.pc + 4))).go va).wrap, ⟨0, 0, 0, 0, 0, 0⟩) := by
  rw [ex_jmp hv (by decide) (by decide) (by decide) (by decide)]
  unfold jumpS
  rw [if_neg (by decide), if_neg (by decide), if_neg (by decide), if_neg (by decide), if_pos rfl, sel_go, hA]
theorem exS_30 {a b c va vb : Int} {r : Rg} (hv : valid 30 a b c = true) (hA : Rg.sel r.wrap a = va) : execS 30 a b c r = (((r.wrap.go (wrap64 (r.wrap.pc + 4))).set a (wrap64 ((r.wrap.go (wrap64 (r.wrap.pc + 4))).pc + b))).wrap, ⟨0, 0, 0, 0, 0, 0⟩) := by
  rw [ex_jmp hv (by decide) (by decide) (by decide) (by decide)]
  unfold jumpS
  rw [if_neg (by decide), if_neg (by decide), if_neg (by decide), if_neg (by decide), if_neg (by decide), if_pos rfl]

end Go.Proofs.YtibaebgihbdphaaDoor
