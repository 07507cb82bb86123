/- Lemmas and walks for the law of this seat (part 8). -/
import Derived.Test.YtfdlifhkeicnnaaGreatDoorPc7
import Derived.WalkKit
import Derived.Lib.LaidTab
import Derived.Test.YtfdlifhkeicnnaaGreatDoorProg
import Derived.Handy
import Derived.Deep.Light
import Derived.WalkSmall
import Derived.StillTailTactics
import Derived.Lib.Hide
import Derived.Laws.BytesArg
import Derived.Deep.Cut
import Derived.Lib.IndexLaws
import Derived.IntWalk
/- Plain facts of the instruction set. -/
namespace Go.Proofs.YtfdlifhkeicnnaaGreatDoor
open Go Go.RowKit
set_option linter.unusedSimpArgs false
set_option linter.unusedVariables false
def formsL : List Int := [0, 2, 5, 5, 0, 0, 0, 0, 0, 0, 0, 0, 0, 0, 0, 0, 0, 0, 5, 4, 4, 4, 4, 1, 1, 6, 5, 5, 5, 1, 5, 6]

def kindsL : List ByteArray := [⟨#[]⟩, ⟨#[114]⟩, ⟨#[114, 114]⟩, ⟨#[114, 114, 114]⟩, ⟨#[114, 114, 111]⟩, ⟨#[114, 110]⟩, ⟨#[110]⟩]

def form (op : Int) : Int := if op < 0 ∨ 32 ≤ op then -1 else if 4 ≤ op ∧ op ≤ 17 then 3 else formsL.getD op.toNat 0

def inR (n a b : Int) : Bool := decide (a ≤ n ∧ n ≤ b)

def validF (f a b c : Int) : Bool :=
  if f = 0 then decide (a = 0 ∧ b = 0 ∧ c = 0)
  else if f = 1 then inR a 0 7 && decide (b = 0 ∧ c = 0)
  else if f = 2 then inR a 0 7 && inR b 0 7 && decide (c = 0)
  else if f = 3 then inR a 0 7 && inR b 0 7 && inR c 0 7
  else if f = 4 then inR a 0 7 && inR b 0 7 && inR c (-128) 127
  else if f = 5 then inR a 0 7 && inR b (-32768) 32767 && decide (c = 0)
  else if f = 6 then inR b (-32768) 32767 && decide (a = 0 ∧ c = 0)
  else false

def valid (op a b c : Int) : Bool := validF (form op) a b c

theorem and_mask (k : Nat) (hk : k ≤ 62) (x : Int) : bits .and .i64 x (2 ^ k - 1) = x % 2 ^ k := by
  have h1 : ((2 : Int) ^ k - 1) = ((2 ^ k - 1 : Nat) : Int) := by rw [Int.natCast_sub (Nat.two_pow_pos k)]; simp
  have h2 : 2 ^ k ≤ 2 ^ 62 := Nat.pow_le_pow_right (by decide) hk
  have h3 : (BitVec.ofInt 64 ((2 ^ k - 1 : Nat) : Int)).toNat = 2 ^ k - 1 := by
    rw [BitVec.ofInt_natCast, BitVec.toNat_ofNat, Nat.mod_eq_of_lt (by omega)]
  have h4 : ((BitVec.ofInt 64 x).toNat : Int) = x % 18446744073709551616 := by
    rw [BitVec.toNat_ofInt]; omega
  have h5 : (x % 18446744073709551616) % 2 ^ k = x % 2 ^ k := by
    refine Int.emod_emod_of_dvd _ ?_
    have : (2 : Int) ^ k * 2 ^ (64 - k) = 2 ^ 64 := by rw [← Int.pow_add]; congr 1; omega
    exact ⟨2 ^ (64 - k), by rw [this]; rfl⟩
  have h6 : (0 : Int) < 2 ^ k := Int.pow_pos (by decide)
  have h7 : (2 : Int) ^ k ≤ 2 ^ 62 := by exact_mod_cast h2
  have h8 := Int.emod_nonneg x (Int.ne_of_gt h6)
  have h9 := Int.emod_lt_of_pos x h6
  rw [h1]
  show IntKind.i64.wrap ((BitVec.ofInt 64 x &&& BitVec.ofInt 64 ((2 ^ k - 1 : Nat) : Int)).toNat : Int) = _
  rw [BitVec.toNat_and, h3, Nat.and_two_pow_sub_one_eq_mod]
  push_cast
  rw [h4, h5]
  exact IntWalk.i64_in _ (by simp at h7; omega)

theorem and32 (x : Int) : bits .and .i64 x 4294967295 = x % 4294967296 := and_mask 32 (by decide) x

def namesB : List ByteArray := [⟨#[110, 111, 112]⟩, ⟨#[109, 111, 118]⟩, ⟨#[115, 101, 116]⟩, ⟨#[104, 105, 103, 104]⟩, ⟨#[97, 100, 100]⟩, ⟨#[115, 117, 98]⟩, ⟨#[109, 117, 108]⟩, ⟨#[100, 105, 118]⟩, ⟨#[109, 111, 100]⟩, ⟨#[97, 110, 100]⟩, ⟨#[111, 114]⟩, ⟨#[120, 111, 114]⟩, ⟨#[115, 104, 108]⟩, ⟨#[115, 104, 114]⟩, ⟨#[101, 113]⟩, ⟨#[110, 101]⟩, ⟨#[108, 116]⟩, ⟨#[108, 101]⟩, ⟨#[97, 100, 100, 105]⟩, ⟨#[108, 100, 98]⟩, ⟨#[108, 100, 119]⟩, ⟨#[115, 116, 98]⟩, ⟨#[115, 116, 119]⟩, ⟨#[112, 117, 115, 104]⟩, ⟨#[112, 111, 112]⟩, ⟨#[106, 109, 112]⟩, ⟨#[106, 122]⟩, ⟨#[106, 110, 122]⟩, ⟨#[108, 105, 110, 107]⟩, ⟨#[106, 114]⟩, ⟨#[97, 100, 100, 114]⟩, ⟨#[99, 97, 108, 108]⟩]
/-- The tables of the instruction set, and the powers of ten of strconv. -/
def TabI (w : World) : Prop := 7 ≤ w.heap.size ∧ (∀ k : Nat, k < 32 → w.cell? ⟨2, k, none⟩ = some (.int .i64 (formsL.getD k 0))) ∧ (∀ k : Nat, k < 7 → w.cell? ⟨0, k, none⟩ = some (.string (kindsL.getD k ByteArray.empty)))
  ∧ (∀ k : Nat, k < 32 → w.cell? ⟨1, k, none⟩ = some (.string (namesB.getD k ByteArray.empty))) ∧ Lib.TabIs Tryz.prog w "internal/strconv.uint64pow10" .u64 Lib.pow10Tab
theorem tabIs_belowI {w w' : World} {B : Nat} {n : String} {k : IntKind} {zs : List Int} {g : Nat} (hg : Tryz.prog.globalNamed n = some g) (h : Lib.TabIs Tryz.prog w n k zs) (hb : Below B w w') (hB : g < B) : Lib.TabIs Tryz.prog w' n k zs := by
  unfold Lib.TabIs at h ⊢
  rw [← h]
  unfold World.var?
  rw [hg]
  simp only [Option.bind_some, hb.block g hB]
theorem gPowI : Tryz.prog.globalNamed "internal/strconv.uint64pow10" = some 5 := by kernel_rfl
theorem TabI.below {w w' : World} {B : Nat} (h : TabI w) (hb : Below B w w') (hB : 7 ≤ B) : TabI w' := by
  refine ⟨Nat.le_trans h.1 hb.size, fun k hk => ?_, fun k hk => ?_, fun k hk => ?_, tabIs_belowI gPowI h.2.2.2.2 hb (Nat.lt_of_lt_of_le (by decide) hB)⟩
  · rw [hb.cell (show (⟨2, k, none⟩ : Addr).block < B from Nat.lt_of_lt_of_le (show 2 < 7 by decide) hB)]; exact h.2.1 k hk
  · rw [hb.cell (show (⟨0, k, none⟩ : Addr).block < B from Nat.lt_of_lt_of_le (show 0 < 7 by decide) hB)]; exact h.2.2.1 k hk
  · rw [hb.cell (show (⟨1, k, none⟩ : Addr).block < B from Nat.lt_of_lt_of_le (show 1 < 7 by decide) hB)]; exact h.2.2.2.1 k hk
theorem TabI.ext {w w' : World} (h : TabI w) (hb : Below w.heap.size w w') : TabI w' := h.below hb h.1
theorem TabI.alloc {w : World} (h : TabI w) (o : Obj) : TabI (w.alloc o) := h.ext ((Below.refl _ _).alloc (Nat.le_refl _) _)
theorem TabI.drew {w : World} (h : TabI w) : TabI w.drew := h.ext (Below.refl _ _).drew
end Go.Proofs.YtfdlifhkeicnnaaGreatDoor
namespace Go.Proofs.YtfdlifhkeicnnaaGreatDoor
open Go Go.RowKit
set_option linter.unusedSimpArgs false
set_option linter.unusedVariables false
theorem Form_any (op : Int) (w : World) (h : TabI w) :
    Calls Tryz.prog 39 #[.int .i64 op] w fun e w' => e = .returned (.int .i64 (form op)) ∧ w = w' := by
  have hk : 0 ≤ op → op < 32 → w.cell? ⟨2, op.toNat, none⟩ = some (.int .i64 (formsL.getD op.toNat 0)) := fun _ _ => h.2.1 _ (by omega)
  clear h
  go_enter Tryz.func39, Tryz.ntmps39
  go_wp2
  all_goals go_ret
  all_goals exact ⟨by unfold form; congr 2; (repeat' split) <;> first | rfl | omega | simp, rfl⟩

end Go.Proofs.YtfdlifhkeicnnaaGreatDoor
namespace Go.Proofs.YtfdlifhkeicnnaaGreatDoor
open Go Go.RowKit
set_option linter.unusedSimpArgs false
set_option linter.unusedVariables false
theorem Valid_no (op a b c : Int) (w : World) (h : TabI w) (hf : form op = -1)  :
    Calls Tryz.prog 18 #[.agg #[.int .i64 op, .int .i64 a, .int .i64 b, .int .i64 c]] w fun e w' => e = .returned (.bool (validF (-1) a b c)) ∧ Below w.heap.size w w' := by
  have hs := h.1
  have hs0 : 0 < w.heap.size := by omega
  have hs1 : 1 < w.heap.size := by omega
  go_enter Tryz.func18, Tryz.ntmps18
  go_wp2_with (first | (go_at_call 39; refine (Form_any _ _ (by repeat (first | exact h | refine TabI.alloc ?_ _ | refine TabI.drew ?_))).mono ?_; rintro e w' ⟨rfl, rfl⟩) | (go_at_call 40; go_enter Tryz.func40, Tryz.ntmps40))
  repeat any_goals (first | (rw [rounds_succ]; go_wp2_with (first | (go_at_call 39; refine (Form_any _ _ (by repeat (first | exact h | refine TabI.alloc ?_ _ | refine TabI.drew ?_))).mono ?_; rintro e w' ⟨rfl, rfl⟩) | (go_at_call 40; go_enter Tryz.func40, Tryz.ntmps40))) | (refine wp_loop_rounds 5 ?_) | (go_region; go_wp2_with (first | (go_at_call 39; refine (Form_any _ _ (by repeat (first | exact h | refine TabI.alloc ?_ _ | refine TabI.drew ?_))).mono ?_; rintro e w' ⟨rfl, rfl⟩) | (go_at_call 40; go_enter Tryz.func40, Tryz.ntmps40))))
  all_goals go_returns
  all_goals refine ⟨congrArg (fun z => Ending.returned (.bool z)) ?_, by (try unfold World.iter); go_grown⟩
  all_goals try simp only [Bool.not_eq_true', Bool.not_eq_false', bne_iff_ne, ne_eq, bne_eq_false_iff_eq, beq_iff_eq, beq_eq_false_iff_ne, Int.not_lt, Int.not_le] at *
  all_goals first | (subst_vars; rfl) | (simp [validF, inR]; omega)

theorem Valid_0 (op a b c : Int) (w : World) (h : TabI w) (hf : form op = 0)  :
    Calls Tryz.prog 18 #[.agg #[.int .i64 op, .int .i64 a, .int .i64 b, .int .i64 c]] w fun e w' => e = .returned (.bool (validF (0) a b c)) ∧ Below w.heap.size w w' := by
  have hs := h.1
  have hs0 : 0 < w.heap.size := by omega
  have hs1 : 1 < w.heap.size := by omega
  have hop : w.cell? ⟨0, 0, none⟩ = some (.string ⟨#[]⟩) := h.2.2.1 0 (by decide)
  have hic := iter_cell
  have hnE := fun w n ty => next_end (P := Tryz.prog) ⟨#[]⟩ 0 w n ty (by decide)
  go_enter Tryz.func18, Tryz.ntmps18
  go_wp2_with (first | (go_at_call 39; refine (Form_any _ _ (by repeat (first | exact h | refine TabI.alloc ?_ _ | refine TabI.drew ?_))).mono ?_; rintro e w' ⟨rfl, rfl⟩) | (go_at_call 40; go_enter Tryz.func40, Tryz.ntmps40))
  repeat any_goals (first | (rw [rounds_succ]; go_wp2_with (first | (go_at_call 39; refine (Form_any _ _ (by repeat (first | exact h | refine TabI.alloc ?_ _ | refine TabI.drew ?_))).mono ?_; rintro e w' ⟨rfl, rfl⟩) | (go_at_call 40; go_enter Tryz.func40, Tryz.ntmps40))) | (refine wp_loop_rounds 5 ?_) | (go_region; go_wp2_with (first | (go_at_call 39; refine (Form_any _ _ (by repeat (first | exact h | refine TabI.alloc ?_ _ | refine TabI.drew ?_))).mono ?_; rintro e w' ⟨rfl, rfl⟩) | (go_at_call 40; go_enter Tryz.func40, Tryz.ntmps40))))
  all_goals go_returns
  all_goals refine ⟨congrArg (fun z => Ending.returned (.bool z)) ?_, by (try unfold World.iter); go_grown⟩
  all_goals try simp only [Bool.not_eq_true', Bool.not_eq_false', bne_iff_ne, ne_eq, bne_eq_false_iff_eq, beq_iff_eq, beq_eq_false_iff_ne, Int.not_lt, Int.not_le] at *
  all_goals first | (subst_vars; rfl) | (simp [validF, inR]; omega)

theorem Valid_1 (op a b c : Int) (w : World) (h : TabI w) (hf : form op = 1)  :
    Calls Tryz.prog 18 #[.agg #[.int .i64 op, .int .i64 a, .int .i64 b, .int .i64 c]] w fun e w' => e = .returned (.bool (validF (1) a b c)) ∧ Below w.heap.size w w' := by
  have hs := h.1
  have hs0 : 0 < w.heap.size := by omega
  have hs1 : 1 < w.heap.size := by omega
  have hop : w.cell? ⟨0, 1, none⟩ = some (.string ⟨#[114]⟩) := h.2.2.1 1 (by decide)
  have hic := iter_cell
  have hn0 := fun w n ty => next_is (P := Tryz.prog) ⟨#[114]⟩ 0 114 w n ty rfl (by decide)
  have hnE := fun w n ty => next_end (P := Tryz.prog) ⟨#[114]⟩ 1 w n ty (by decide)
  go_enter Tryz.func18, Tryz.ntmps18
  go_wp2_with (first | (go_at_call 39; refine (Form_any _ _ (by repeat (first | exact h | refine TabI.alloc ?_ _ | refine TabI.drew ?_))).mono ?_; rintro e w' ⟨rfl, rfl⟩) | (go_at_call 40; go_enter Tryz.func40, Tryz.ntmps40))
  repeat any_goals (first | (rw [rounds_succ]; go_wp2_with (first | (go_at_call 39; refine (Form_any _ _ (by repeat (first | exact h | refine TabI.alloc ?_ _ | refine TabI.drew ?_))).mono ?_; rintro e w' ⟨rfl, rfl⟩) | (go_at_call 40; go_enter Tryz.func40, Tryz.ntmps40))) | (refine wp_loop_rounds 5 ?_) | (go_region; go_wp2_with (first | (go_at_call 39; refine (Form_any _ _ (by repeat (first | exact h | refine TabI.alloc ?_ _ | refine TabI.drew ?_))).mono ?_; rintro e w' ⟨rfl, rfl⟩) | (go_at_call 40; go_enter Tryz.func40, Tryz.ntmps40))))
  all_goals go_returns
  all_goals refine ⟨congrArg (fun z => Ending.returned (.bool z)) ?_, by (try unfold World.iter); go_grown⟩
  all_goals try simp only [Bool.not_eq_true', Bool.not_eq_false', bne_iff_ne, ne_eq, bne_eq_false_iff_eq, beq_iff_eq, beq_eq_false_iff_ne, Int.not_lt, Int.not_le] at *
  all_goals first | (subst_vars; rfl) | (simp [validF, inR]; omega)

theorem Valid_2 (op a b c : Int) (w : World) (h : TabI w) (hf : form op = 2)  :
    Calls Tryz.prog 18 #[.agg #[.int .i64 op, .int .i64 a, .int .i64 b, .int .i64 c]] w fun e w' => e = .returned (.bool (validF (2) a b c)) ∧ Below w.heap.size w w' := by
  have hs := h.1
  have hs0 : 0 < w.heap.size := by omega
  have hs1 : 1 < w.heap.size := by omega
  have hop : w.cell? ⟨0, 2, none⟩ = some (.string ⟨#[114, 114]⟩) := h.2.2.1 2 (by decide)
  have hic := iter_cell
  have hn0 := fun w n ty => next_is (P := Tryz.prog) ⟨#[114, 114]⟩ 0 114 w n ty rfl (by decide)
  have hn1 := fun w n ty => next_is (P := Tryz.prog) ⟨#[114, 114]⟩ 1 114 w n ty rfl (by decide)
  have hnE := fun w n ty => next_end (P := Tryz.prog) ⟨#[114, 114]⟩ 2 w n ty (by decide)
  go_enter Tryz.func18, Tryz.ntmps18
  go_wp2_with (first | (go_at_call 39; refine (Form_any _ _ (by repeat (first | exact h | refine TabI.alloc ?_ _ | refine TabI.drew ?_))).mono ?_; rintro e w' ⟨rfl, rfl⟩) | (go_at_call 40; go_enter Tryz.func40, Tryz.ntmps40))
  repeat any_goals (first | (rw [rounds_succ]; go_wp2_with (first | (go_at_call 39; refine (Form_any _ _ (by repeat (first | exact h | refine TabI.alloc ?_ _ | refine TabI.drew ?_))).mono ?_; rintro e w' ⟨rfl, rfl⟩) | (go_at_call 40; go_enter Tryz.func40, Tryz.ntmps40))) | (refine wp_loop_rounds 5 ?_) | (go_region; go_wp2_with (first | (go_at_call 39; refine (Form_any _ _ (by repeat (first | exact h | refine TabI.alloc ?_ _ | refine TabI.drew ?_))).mono ?_; rintro e w' ⟨rfl, rfl⟩) | (go_at_call 40; go_enter Tryz.func40, Tryz.ntmps40))))
  all_goals go_returns
  all_goals refine ⟨congrArg (fun z => Ending.returned (.bool z)) ?_, by (try unfold World.iter); go_grown⟩
  all_goals try simp only [Bool.not_eq_true', Bool.not_eq_false', bne_iff_ne, ne_eq, bne_eq_false_iff_eq, beq_iff_eq, beq_eq_false_iff_ne, Int.not_lt, Int.not_le] at *
  all_goals first | (subst_vars; rfl) | (simp [validF, inR]; omega)

theorem Valid_3 (op a b c : Int) (w : World) (h : TabI w) (hf : form op = 3)  :
    Calls Tryz.prog 18 #[.agg #[.int .i64 op, .int .i64 a, .int .i64 b, .int .i64 c]] w fun e w' => e = .returned (.bool (validF (3) a b c)) ∧ Below w.heap.size w w' := by
  have hs := h.1
  have hs0 : 0 < w.heap.size := by omega
  have hs1 : 1 < w.heap.size := by omega
  have hop : w.cell? ⟨0, 3, none⟩ = some (.string ⟨#[114, 114, 114]⟩) := h.2.2.1 3 (by decide)
  have hic := iter_cell
  have hn0 := fun w n ty => next_is (P := Tryz.prog) ⟨#[114, 114, 114]⟩ 0 114 w n ty rfl (by decide)
  have hn1 := fun w n ty => next_is (P := Tryz.prog) ⟨#[114, 114, 114]⟩ 1 114 w n ty rfl (by decide)
  have hn2 := fun w n ty => next_is (P := Tryz.prog) ⟨#[114, 114, 114]⟩ 2 114 w n ty rfl (by decide)
  have hnE := fun w n ty => next_end (P := Tryz.prog) ⟨#[114, 114, 114]⟩ 3 w n ty (by decide)
  go_enter Tryz.func18, Tryz.ntmps18
  go_wp2_with (first | (go_at_call 39; refine (Form_any _ _ (by repeat (first | exact h | refine TabI.alloc ?_ _ | refine TabI.drew ?_))).mono ?_; rintro e w' ⟨rfl, rfl⟩) | (go_at_call 40; go_enter Tryz.func40, Tryz.ntmps40))
  repeat any_goals (first | (rw [rounds_succ]; go_wp2_with (first | (go_at_call 39; refine (Form_any _ _ (by repeat (first | exact h | refine TabI.alloc ?_ _ | refine TabI.drew ?_))).mono ?_; rintro e w' ⟨rfl, rfl⟩) | (go_at_call 40; go_enter Tryz.func40, Tryz.ntmps40))) | (refine wp_loop_rounds 5 ?_) | (go_region; go_wp2_with (first | (go_at_call 39; refine (Form_any _ _ (by repeat (first | exact h | refine TabI.alloc ?_ _ | refine TabI.drew ?_))).mono ?_; rintro e w' ⟨rfl, rfl⟩) | (go_at_call 40; go_enter Tryz.func40, Tryz.ntmps40))))
  all_goals go_returns
  all_goals refine ⟨congrArg (fun z => Ending.returned (.bool z)) ?_, by (try unfold World.iter); go_grown⟩
  all_goals try simp only [Bool.not_eq_true', Bool.not_eq_false', bne_iff_ne, ne_eq, bne_eq_false_iff_eq, beq_iff_eq, beq_eq_false_iff_ne, Int.not_lt, Int.not_le] at *
  all_goals first | (subst_vars; rfl) | (simp [validF, inR]; omega)

theorem Valid_4 (op a b c : Int) (w : World) (h : TabI w) (hf : form op = 4)  :
    Calls Tryz.prog 18 #[.agg #[.int .i64 op, .int .i64 a, .int .i64 b, .int .i64 c]] w fun e w' => e = .returned (.bool (validF (4) a b c)) ∧ Below w.heap.size w w' := by
  have hs := h.1
  have hs0 : 0 < w.heap.size := by omega
  have hs1 : 1 < w.heap.size := by omega
  have hop : w.cell? ⟨0, 4, none⟩ = some (.string ⟨#[114, 114, 111]⟩) := h.2.2.1 4 (by decide)
  have hic := iter_cell
  have hn0 := fun w n ty => next_is (P := Tryz.prog) ⟨#[114, 114, 111]⟩ 0 114 w n ty rfl (by decide)
  have hn1 := fun w n ty => next_is (P := Tryz.prog) ⟨#[114, 114, 111]⟩ 1 114 w n ty rfl (by decide)
  have hn2 := fun w n ty => next_is (P := Tryz.prog) ⟨#[114, 114, 111]⟩ 2 111 w n ty rfl (by decide)
  have hnE := fun w n ty => next_end (P := Tryz.prog) ⟨#[114, 114, 111]⟩ 3 w n ty (by decide)
  go_enter Tryz.func18, Tryz.ntmps18
  go_wp2_with (first | (go_at_call 39; refine (Form_any _ _ (by repeat (first | exact h | refine TabI.alloc ?_ _ | refine TabI.drew ?_))).mono ?_; rintro e w' ⟨rfl, rfl⟩) | (go_at_call 40; go_enter Tryz.func40, Tryz.ntmps40))
  repeat any_goals (first | (rw [rounds_succ]; go_wp2_with (first | (go_at_call 39; refine (Form_any _ _ (by repeat (first | exact h | refine TabI.alloc ?_ _ | refine TabI.drew ?_))).mono ?_; rintro e w' ⟨rfl, rfl⟩) | (go_at_call 40; go_enter Tryz.func40, Tryz.ntmps40))) | (refine wp_loop_rounds 5 ?_) | (go_region; go_wp2_with (first | (go_at_call 39; refine (Form_any _ _ (by repeat (first | exact h | refine TabI.alloc ?_ _ | refine TabI.drew ?_))).mono ?_; rintro e w' ⟨rfl, rfl⟩) | (go_at_call 40; go_enter Tryz.func40, Tryz.ntmps40))))
  all_goals go_returns
  all_goals refine ⟨congrArg (fun z => Ending.returned (.bool z)) ?_, by (try unfold World.iter); go_grown⟩
  all_goals try simp only [Bool.not_eq_true', Bool.not_eq_false', bne_iff_ne, ne_eq, bne_eq_false_iff_eq, beq_iff_eq, beq_eq_false_iff_ne, Int.not_lt, Int.not_le] at *
  all_goals first | (subst_vars; rfl) | (simp [validF, inR]; omega)

theorem Valid_5 (op a b c : Int) (w : World) (h : TabI w) (hf : form op = 5)  :
    Calls Tryz.prog 18 #[.agg #[.int .i64 op, .int .i64 a, .int .i64 b, .int .i64 c]] w fun e w' => e = .returned (.bool (validF (5) a b c)) ∧ Below w.heap.size w w' := by
  have hs := h.1
  have hs0 : 0 < w.heap.size := by omega
  have hs1 : 1 < w.heap.size := by omega
  have hop : w.cell? ⟨0, 5, none⟩ = some (.string ⟨#[114, 110]⟩) := h.2.2.1 5 (by decide)
  have hic := iter_cell
  have hn0 := fun w n ty => next_is (P := Tryz.prog) ⟨#[114, 110]⟩ 0 114 w n ty rfl (by decide)
  have hn1 := fun w n ty => next_is (P := Tryz.prog) ⟨#[114, 110]⟩ 1 110 w n ty rfl (by decide)
  have hnE := fun w n ty => next_end (P := Tryz.prog) ⟨#[114, 110]⟩ 2 w n ty (by decide)
  go_enter Tryz.func18, Tryz.ntmps18
  go_wp2_with (first | (go_at_call 39; refine (Form_any _ _ (by repeat (first | exact h | refine TabI.alloc ?_ _ | refine TabI.drew ?_))).mono ?_; rintro e w' ⟨rfl, rfl⟩) | (go_at_call 40; go_enter Tryz.func40, Tryz.ntmps40))
  repeat any_goals (first | (rw [rounds_succ]; go_wp2_with (first | (go_at_call 39; refine (Form_any _ _ (by repeat (first | exact h | refine TabI.alloc ?_ _ | refine TabI.drew ?_))).mono ?_; rintro e w' ⟨rfl, rfl⟩) | (go_at_call 40; go_enter Tryz.func40, Tryz.ntmps40))) | (refine wp_loop_rounds 5 ?_) | (go_region; go_wp2_with (first | (go_at_call 39; refine (Form_any _ _ (by repeat (first | exact h | refine TabI.alloc ?_ _ | refine TabI.drew ?_))).mono ?_; rintro e w' ⟨rfl, rfl⟩) | (go_at_call 40; go_enter Tryz.func40, Tryz.ntmps40))))
  all_goals go_returns
  all_goals refine ⟨congrArg (fun z => Ending.returned (.bool z)) ?_, by (try unfold World.iter); go_grown⟩
  all_goals try simp only [Bool.not_eq_true', Bool.not_eq_false', bne_iff_ne, ne_eq, bne_eq_false_iff_eq, beq_iff_eq, beq_eq_false_iff_ne, Int.not_lt, Int.not_le] at *
  all_goals first | (subst_vars; rfl) | (simp [validF, inR]; omega)

theorem Valid_6z (op a b c : Int) (w : World) (h : TabI w) (hf : form op = 6) (ha : (a == 0) = true) :
    Calls Tryz.prog 18 #[.agg #[.int .i64 op, .int .i64 a, .int .i64 b, .int .i64 c]] w fun e w' => e = .returned (.bool (validF (6) a b c)) ∧ Below w.heap.size w w' := by
  have hs := h.1
  have hs0 : 0 < w.heap.size := by omega
  have hs1 : 1 < w.heap.size := by omega
  have hop : w.cell? ⟨0, 6, none⟩ = some (.string ⟨#[110]⟩) := h.2.2.1 6 (by decide)
  have hic := iter_cell
  have hn0 := fun w n ty => next_is (P := Tryz.prog) ⟨#[110]⟩ 0 110 w n ty rfl (by decide)
  have hnE := fun w n ty => next_end (P := Tryz.prog) ⟨#[110]⟩ 1 w n ty (by decide)
  go_enter Tryz.func18, Tryz.ntmps18
  go_wp2_with (first | (go_at_call 39; refine (Form_any _ _ (by repeat (first | exact h | refine TabI.alloc ?_ _ | refine TabI.drew ?_))).mono ?_; rintro e w' ⟨rfl, rfl⟩) | (go_at_call 40; go_enter Tryz.func40, Tryz.ntmps40))
  repeat any_goals (first | (rw [rounds_succ]; go_wp2_with (first | (go_at_call 39; refine (Form_any _ _ (by repeat (first | exact h | refine TabI.alloc ?_ _ | refine TabI.drew ?_))).mono ?_; rintro e w' ⟨rfl, rfl⟩) | (go_at_call 40; go_enter Tryz.func40, Tryz.ntmps40))) | (refine wp_loop_rounds 5 ?_) | (go_region; go_wp2_with (first | (go_at_call 39; refine (Form_any _ _ (by repeat (first | exact h | refine TabI.alloc ?_ _ | refine TabI.drew ?_))).mono ?_; rintro e w' ⟨rfl, rfl⟩) | (go_at_call 40; go_enter Tryz.func40, Tryz.ntmps40))))
  all_goals go_returns
  all_goals refine ⟨congrArg (fun z => Ending.returned (.bool z)) ?_, by (try unfold World.iter); go_grown⟩
  all_goals try simp only [Bool.not_eq_true', Bool.not_eq_false', bne_iff_ne, ne_eq, bne_eq_false_iff_eq, beq_iff_eq, beq_eq_false_iff_ne, Int.not_lt, Int.not_le] at *
  all_goals first | (subst_vars; rfl) | (simp [validF, inR]; omega)

theorem Valid_6 (op a b c : Int) (w : World) (h : TabI w) (hf : form op = 6) (ha : (a == 0) = false) :
    Calls Tryz.prog 18 #[.agg #[.int .i64 op, .int .i64 a, .int .i64 b, .int .i64 c]] w fun e w' => e = .returned (.bool (validF (6) a b c)) ∧ Below w.heap.size w w' := by
  have hs := h.1
  have hs0 : 0 < w.heap.size := by omega
  have hs1 : 1 < w.heap.size := by omega
  have hop : w.cell? ⟨0, 6, none⟩ = some (.string ⟨#[110]⟩) := h.2.2.1 6 (by decide)
  have hic := iter_cell
  have hn0 := fun w n ty => next_is (P := Tryz.prog) ⟨#[110]⟩ 0 110 w n ty rfl (by decide)
  have hnE := fun w n ty => next_end (P := Tryz.prog) ⟨#[110]⟩ 1 w n ty (by decide)
  go_enter Tryz.func18, Tryz.ntmps18
  go_wp2_with (first | (go_at_call 39; refine (Form_any _ _ (by repeat (first | exact h | refine TabI.alloc ?_ _ | refine TabI.drew ?_))).mono ?_; rintro e w' ⟨rfl, rfl⟩) | (go_at_call 40; go_enter Tryz.func40, Tryz.ntmps40))
  repeat any_goals (first | (rw [rounds_succ]; go_wp2_with (first | (go_at_call 39; refine (Form_any _ _ (by repeat (first | exact h | refine TabI.alloc ?_ _ | refine TabI.drew ?_))).mono ?_; rintro e w' ⟨rfl, rfl⟩) | (go_at_call 40; go_enter Tryz.func40, Tryz.ntmps40))) | (refine wp_loop_rounds 5 ?_) | (go_region; go_wp2_with (first | (go_at_call 39; refine (Form_any _ _ (by repeat (first | exact h | refine TabI.alloc ?_ _ | refine TabI.drew ?_))).mono ?_; rintro e w' ⟨rfl, rfl⟩) | (go_at_call 40; go_enter Tryz.func40, Tryz.ntmps40))))
  all_goals go_returns
  all_goals refine ⟨congrArg (fun z => Ending.returned (.bool z)) ?_, by (try unfold World.iter); go_grown⟩
  all_goals try simp only [Bool.not_eq_true', Bool.not_eq_false', bne_iff_ne, ne_eq, bne_eq_false_iff_eq, beq_iff_eq, beq_eq_false_iff_ne, Int.not_lt, Int.not_le] at *
  all_goals first | (subst_vars; rfl) | (simp [validF, inR]; omega)

theorem form_vals (op : Int) : form op = -1 ∨ form op = 0 ∨ form op = 1 ∨ form op = 2 ∨ form op = 3 ∨ form op = 4 ∨ form op = 5 ∨ form op = 6 := by
  by_cases h : op < 0 ∨ 32 ≤ op
  · left; unfold form; rw [if_pos h]
  · obtain ⟨k, rfl⟩ := Int.eq_ofNat_of_zero_le (show 0 ≤ op by omega)
    have hk : k < 32 := by omega
    have : ∀ k : Fin 32, form (k.val : Int) = -1 ∨ form (k.val : Int) = 0 ∨ form (k.val : Int) = 1 ∨ form (k.val : Int) = 2 ∨ form (k.val : Int) = 3 ∨ form (k.val : Int) = 4 ∨ form (k.val : Int) = 5 ∨ form (k.val : Int) = 6 := by decide
    exact this ⟨k, hk⟩

theorem Valid_any (op a b c : Int) (w : World) (h : TabI w) :
    Calls Tryz.prog 18 #[.agg #[.int .i64 op, .int .i64 a, .int .i64 b, .int .i64 c]] w fun e w' => e = .returned (.bool (valid op a b c)) ∧ Below w.heap.size w w' := by
  unfold valid
  rcases form_vals op with hf | hf | hf | hf | hf | hf | hf | hf <;> rw [hf]
  · exact Valid_no op a b c w h hf
  · exact Valid_0 op a b c w h hf
  · exact Valid_1 op a b c w h hf
  · exact Valid_2 op a b c w h hf
  · exact Valid_3 op a b c w h hf
  · exact Valid_4 op a b c w h hf
  · exact Valid_5 op a b c w h hf
  · cases ha : (a == 0)
    · exact Valid_6 op a b c w h hf ha
    · exact Valid_6z op a b c w h hf ha

end Go.Proofs.YtfdlifhkeicnnaaGreatDoor
namespace Go.Proofs.YtfdlifhkeicnnaaGreatDoor
open Go Go.RowKit
set_option linter.unusedSimpArgs false
set_option linter.unusedVariables false

def numB (op : Int) : Bool := form op == 5 || form op == 6
theorem numbered_any (op : Int) (w : World) (hT : TabI w) :
    Calls Tryz.prog 42 #[.int .i64 op] w fun e w' => e = .returned (.bool (numB op)) ∧ w = w' := by
  unfold numB
  go_enter Tryz.func42, Tryz.ntmps42
  cases h5 : (form op == 5) <;> cases h6 : (form op == 6)
  all_goals
    go_wp2_with (go_at_call 39; (with_reducible refine (Form_any _ _ hT).mono ?_); rintro e w' ⟨rfl, rfl⟩)
    go_ret
    exact ⟨rfl, rfl⟩
/-- The bytes of an instruction. -/
def encB (op a b c : Int) : ByteArray := ⟨#[UInt8.ofNat (op % 256).toNat, UInt8.ofNat (a % 256).toNat, UInt8.ofNat (b % 256).toNat, UInt8.ofNat ((if numB op then b / 256 else c) % 256).toNat]⟩
def encS (op a b c : Int) : ByteArray := if valid op a b c then encB op a b c else ⟨#[]⟩
/-- Four bytes of the call's own, read as a string. -/
theorem conv4 (w : World) (x y z t : Int) : (convert 47 9 (.slice (some ⟨w.heap.size, 0, none⟩) 4 4)).run Tryz.prog (w.alloc (.cells #[.int .u8 x, .int .u8 y, .int .u8 z, .int .u8 t] 5)) =
    .ok (.string ⟨#[UInt8.ofNat x.toNat, UInt8.ofNat y.toNat, UInt8.ofNat z.toNat, UInt8.ofNat t.toNat]⟩) (w.alloc (.cells #[.int .u8 x, .int .u8 y, .int .u8 z, .int .u8 t] 5)) :=
  run_convert_bytes_arg (P := Tryz.prog) _ 47 5 Tryz.underlying47 Tryz.underlying5 w.heap.size 0 4 4 [x, y, z, t] rfl (fun i hi => by
    have : i = 0 ∨ i = 1 ∨ i = 2 ∨ i = 3 := by omega
    rcases this with h | h | h | h <;> subst h <;> (rw [World.cell?_alloc_new]; rfl)) 9 Tryz.underlying9
set_option maxRecDepth 20000 in
set_option maxHeartbeats 2000000 in
theorem Encode_any (op a b c : Int) (w : World) (hT : TabI w) :
    Calls Tryz.prog 20 #[.agg #[.int .i64 op, .int .i64 a, .int .i64 b, .int .i64 c]] w fun e w' => e = .returned (.string (encS op a b c)) ∧ Below w.heap.size w w' := by
  have hcv := @conv4
  cases hv : valid op a b c
  · have hL : Kn [] w w [] := Kn.refl [] w; (try simp only [kfb] at hL); have hF := hL.facts; (try simp only [Facts, Dist, kd] at hF); go_enter Tryz.func20, Tryz.ntmps20
    go_wp2_with (first | ((with_reducible refine kn_list_set ?_); (try clear hF); clear hL; intro W hL; (try simp only [kfb] at hL); have hF := hL.facts; (try simp only [Facts, Dist, kd] at hF)) | (go_at_call 18; refine kn_calls ?_; (try clear hF); clear hL; intro W hL; (try simp only [kfb] at hL); have hF := hL.facts; (try simp only [Facts, Dist, kd] at hF); (((with_reducible refine (Valid_any _ _ _ _ _ (hT.ext hL.below0)).mono ?_))); rintro e W ⟨rfl, hb⟩; replace hL := hL.below hb; clear hb; (try clear hF); (try simp only [kfb] at hL); have hF := hL.facts; (try simp only [Facts, Dist, kd] at hF)) | (go_at_call 42; refine kn_calls ?_; (try clear hF); clear hL; intro W hL; (try simp only [kfb] at hL); have hF := hL.facts; (try simp only [Facts, Dist, kd] at hF); (with_reducible refine (numbered_any _ _ (hT.ext hL.below0)).mono ?_); rintro e w' ⟨rfl, rfl⟩))
    (try simp only [Exit.inBlock, Exit.then]); refine bodyPost_ret (by simp [results, Tryz.results20, go_sem, *]; try rfl) rfl ?_
    exact ⟨by rw [encS, if_neg (by rw [hv]; simp)], kn_here.below0⟩
  · cases hn : numB op
    · have hL : Kn [] w w [] := Kn.refl [] w; (try simp only [kfb] at hL); have hF := hL.facts; (try simp only [Facts, Dist, kd] at hF); go_enter Tryz.func20, Tryz.ntmps20
      go_wp2_with (first | ((with_reducible refine kn_list_set ?_); (try clear hF); clear hL; intro W hL; (try simp only [kfb] at hL); have hF := hL.facts; (try simp only [Facts, Dist, kd] at hF)) | (go_at_call 18; refine kn_calls ?_; (try clear hF); clear hL; intro W hL; (try simp only [kfb] at hL); have hF := hL.facts; (try simp only [Facts, Dist, kd] at hF); (((with_reducible refine (Valid_any _ _ _ _ _ (hT.ext hL.below0)).mono ?_))); rintro e W ⟨rfl, hb⟩; replace hL := hL.below hb; clear hb; (try clear hF); (try simp only [kfb] at hL); have hF := hL.facts; (try simp only [Facts, Dist, kd] at hF)) | (go_at_call 42; refine kn_calls ?_; (try clear hF); clear hL; intro W hL; (try simp only [kfb] at hL); have hF := hL.facts; (try simp only [Facts, Dist, kd] at hF); (with_reducible refine (numbered_any _ _ (hT.ext hL.below0)).mono ?_); rintro e w' ⟨rfl, rfl⟩))
      (try simp only [Exit.inBlock, Exit.then]); refine bodyPost_ret (by simp [results, Tryz.results20, go_sem, *]; try rfl) rfl ?_
      exact ⟨by rw [encS, if_pos hv, encB, hn]; rfl, kn_here.below0⟩
    · have hL : Kn [] w w [] := Kn.refl [] w; (try simp only [kfb] at hL); have hF := hL.facts; (try simp only [Facts, Dist, kd] at hF); go_enter Tryz.func20, Tryz.ntmps20
      go_wp2_with (first | ((with_reducible refine kn_list_set ?_); (try clear hF); clear hL; intro W hL; (try simp only [kfb] at hL); have hF := hL.facts; (try simp only [Facts, Dist, kd] at hF)) | (go_at_call 18; refine kn_calls ?_; (try clear hF); clear hL; intro W hL; (try simp only [kfb] at hL); have hF := hL.facts; (try simp only [Facts, Dist, kd] at hF); (((with_reducible refine (Valid_any _ _ _ _ _ (hT.ext hL.below0)).mono ?_))); rintro e W ⟨rfl, hb⟩; replace hL := hL.below hb; clear hb; (try clear hF); (try simp only [kfb] at hL); have hF := hL.facts; (try simp only [Facts, Dist, kd] at hF)) | (go_at_call 42; refine kn_calls ?_; (try clear hF); clear hL; intro W hL; (try simp only [kfb] at hL); have hF := hL.facts; (try simp only [Facts, Dist, kd] at hF); (with_reducible refine (numbered_any _ _ (hT.ext hL.below0)).mono ?_); rintro e w' ⟨rfl, rfl⟩))
      (try simp only [Exit.inBlock, Exit.then]); refine bodyPost_ret (by simp [results, Tryz.results20, go_sem, *]; try rfl) rfl ?_
      exact ⟨by rw [encS, if_pos hv, encB, hn]; rfl, kn_here.below0⟩

end Go.Proofs.YtfdlifhkeicnnaaGreatDoor
namespace Go.Proofs.YtfdlifhkeicnnaaGreatDoor
open Go Go.RowKit
set_option linter.unusedSimpArgs false
set_option linter.unusedVariables false

theorem namesB_len : namesB.length = 32 := rfl
def findI (s : ByteArray) : Int := Lib.idxOfS namesB s
theorem findI_lt (s : ByteArray) : -1 ≤ findI s ∧ findI s < 32 := by
  unfold findI Lib.idxOfS
  have key : ∀ (zs : List ByteArray) (i : Nat), -1 ≤ Lib.idxFromS zs s i ∧ (Lib.idxFromS zs s i < i + zs.length) := by
    intro zs
    induction zs with
    | nil => intro i; simp [Lib.idxFromS]; omega
    | cons z zs ih =>
      intro i
      unfold Lib.idxFromS
      split
      · simp; omega
      · have := ih (i + 1); simp at this ⊢; omega
  have := key namesB 0
  rw [namesB_len] at this
  simpa using this
theorem Index_names (s : ByteArray) (w : World) (hT : TabI w) : Calls Tryz.prog 51 #[.slice (some ⟨1, 0, none⟩) 32 32, .string s] w fun e w' => e = .returned (.int .i64 (findI s)) ∧ w = w' :=
  (Tryz.slices_Index_string 1 0 32 32 namesB s w (by decide) (by decide) (fun j hj => by rw [Nat.zero_add]; exact hT.2.2.2.1 j hj)).mono fun e w' ⟨h1, h2⟩ => ⟨h1, h2.symm⟩
theorem Find_any (s : ByteArray) (w : World) (hT : TabI w) : Calls Tryz.prog 61 #[.string s] w fun e w' => e = .returned (.tuple #[.int .i64 (max (findI s) 0), .bool (decide (0 ≤ findI s))]) ∧ Below w.heap.size w w' := by
  have hL : Kn [] w w [] := Kn.refl [] w; (try simp only [kfb] at hL); have hF := hL.facts; (try simp only [Facts, Dist, kd] at hF); go_enter Tryz.func61, Tryz.ntmps61
  go_wp2_with (first | ((with_reducible refine kn_list_set ?_); (try clear hF); clear hL; intro W hL; (try simp only [kfb] at hL); have hF := hL.facts; (try simp only [Facts, Dist, kd] at hF)) | (go_at_call 51; refine kn_calls ?_; (try clear hF); clear hL; intro W hL; (try simp only [kfb] at hL); have hF := hL.facts; (try simp only [Facts, Dist, kd] at hF); (with_reducible refine (Index_names s _ (hT.ext hL.below0)).mono ?_); rintro e w' ⟨rfl, rfl⟩))
  all_goals (try simp only [Exit.inBlock, Exit.then]); refine bodyPost_ret (by simp [results, Tryz.results61, go_sem, *]; try rfl) rfl ?_
  all_goals exact ⟨by first | rfl | (congr 4; simp; omega), kn_here.below0⟩
end Go.Proofs.YtfdlifhkeicnnaaGreatDoor
namespace Go.Proofs.YtfdlifhkeicnnaaGreatDoor
open Go Go.RowKit
set_option linter.unusedSimpArgs false
set_option linter.unusedVariables false
theorem Index_any (s : ByteArray) (c : UInt8) (r : Int) (hr : Lib.indexByte s.data.toList c = r) (n : Int) (hn : (c.toNat : Int) = n) (w : World) :
    Calls Tryz.prog 122 #[.string s, .int .u8 n] w fun x w' => x = .returned (.int .i64 r) ∧ w' = w :=
  (Tryz.strings_IndexByte s n w).mono fun x w' ⟨h1, h2⟩ => ⟨by rw [h1, ← hr, ← hn]; congr 3; simp, h2⟩

end Go.Proofs.YtfdlifhkeicnnaaGreatDoor
/- Reading back what is quoted. Of no program. -/
namespace Go.Proofs.YtfdlifhkeicnnaaGreatDoor
open Go
/-- How far a reader of a quotation has come: what is read is d's beginning. -/
def UR (s : Bytes) (k : Nat) (o : Bytes) : Prop := ∀ d, quoteB d = s → ∃ d2, d = o ++ d2 ∧ s.drop k = d2.flatMap qb ++ [34]
theorem UR.start (s : Bytes) : UR s 1 [] := fun d h => ⟨d, rfl, by rw [← h]; rfl⟩
/-- What a byte's notation begins with. -/
theorem qb_cases (c : UInt8) : (c = 34 ∧ qb c = [92, 34]) ∨ (c = 92 ∧ qb c = [92, 92]) ∨ (c = 10 ∧ qb c = [92, 110]) ∨ (c ≠ 92 ∧ c ≠ 34 ∧ qb c = [c]) ∨ qb c = [92, 120, hexB (c.toNat / 16), hexB (c.toNat % 16)] := by
  unfold qb
  by_cases h1 : c = 34
  · subst h1; left; exact ⟨rfl, rfl⟩
  by_cases h2 : c = 92
  · subst h2; right; left; exact ⟨rfl, rfl⟩
  by_cases h3 : c = 10
  · subst h3; right; right; left; exact ⟨rfl, rfl⟩
  rw [if_neg (by simp [h1, h2]), if_neg h3]
  split
  · right; right; right; left; exact ⟨h2, h1, rfl⟩
  · right; right; right; right; rfl
theorem UR.next {s o : Bytes} {k : Nat} (h : UR s k o) {d : Bytes} (hd : quoteB d = s) (hk : k + 1 < s.length) : ∃ c d2, d = o ++ c :: d2 ∧ s.drop k = qb c ++ (d2.flatMap qb ++ [34]) := by
  obtain ⟨d2, h1, h2⟩ := h d hd
  cases d2 with
  | nil =>
    have := congrArg List.length h2
    rw [List.length_drop] at this
    simp at this; omega
  | cons c d2 => exact ⟨c, d2, h1, by rw [h2]; simp⟩
theorem drop_at {s : Bytes} {k j : Nat} {c : UInt8} (h : s[k + j]? = some c) : (s.drop k)[j]? = some c := by rw [List.getElem?_drop]; exact h
/-- A byte that begins no escape. -/
theorem UR.plain {s o : Bytes} {k : Nat} {c0 : UInt8} (h : UR s k o) (hk : k + 1 < s.length) (hc : s[k]? = some c0) (he : c0 ≠ 92 ∨ ¬ k + 2 < s.length) : UR s (k + 1) (o ++ [c0]) := by
  intro d hd
  obtain ⟨c, d2, h1, h2⟩ := h.next hd hk
  have hl := congrArg List.length h2
  rw [List.length_drop, List.length_append, List.length_append, List.length_singleton] at hl
  have h0 := drop_at (j := 0) hc
  have key : ∀ x, qb c = 92 :: x → False := by
    intro x e
    rw [h2, e] at h0
    simp only [List.cons_append, List.getElem?_cons_zero, Option.some.injEq] at h0
    rcases he with he | he
    · exact he h0.symm
    · have hx : x ≠ [] := by
        rintro rfl
        rcases qb_cases c with ⟨_, q⟩ | ⟨_, q⟩ | ⟨_, q⟩ | ⟨q1, _, q⟩ | q <;> rw [q] at e <;> simp at e
        exact q1 e
      have := List.length_pos_iff.2 hx
      rw [e, List.length_cons] at hl; omega
  rcases qb_cases c with ⟨_, q⟩ | ⟨_, q⟩ | ⟨_, q⟩ | ⟨q1, _, q⟩ | q
  · exact (key _ q).elim
  · exact (key _ q).elim
  · exact (key _ q).elim
  · rw [h2, q] at h0
    simp at h0
    subst h0
    refine ⟨d2, by rw [h1]; simp, ?_⟩
    rw [← List.drop_drop, h2, q]; rfl
  · exact (key _ q).elim
/-- .. and an escape. -/
theorem UR.esc {s o : Bytes} {k : Nat} (h : UR s k o) (hk : k + 2 < s.length) (hc : s[k]? = some 92) {c1 : UInt8} (hc1 : s[k + 1]? = some c1) {d : Bytes} (hd : quoteB d = s) :
    ∃ c d2, d = o ++ c :: d2 ∧ s.drop k = qb c ++ (d2.flatMap qb ++ [34]) ∧ ((c1 = c ∧ (c = 34 ∨ c = 92) ∧ qb c = [92, c]) ∨ (c1 = 110 ∧ c = 10 ∧ qb c = [92, 110]) ∨ (c1 = 120 ∧ qb c = [92, 120, hexB (c.toNat / 16), hexB (c.toNat % 16)])) := by
  obtain ⟨c, d2, h1, h2⟩ := h.next hd (by omega)
  have h0 := drop_at (j := 0) hc
  have h3 := drop_at hc1
  refine ⟨c, d2, h1, h2, ?_⟩
  rw [h2] at h0 h3
  rcases qb_cases c with ⟨q0, q⟩ | ⟨q0, q⟩ | ⟨q0, q⟩ | ⟨q1, _, q⟩ | q
  · rw [q] at h3; simp at h3; exact .inl ⟨by rw [← h3, q0], .inl q0, by rw [q, q0]⟩
  · rw [q] at h3; simp at h3; exact .inl ⟨by rw [← h3, q0], .inr q0, by rw [q, q0]⟩
  · rw [q] at h3; simp at h3; exact .inr (.inl ⟨h3.symm, q0, q⟩)
  · rw [q] at h0; simp at h0; exact absurd h0 q1
  · rw [q] at h3; simp at h3; exact .inr (.inr ⟨h3.symm, q⟩)
theorem UR.letter {s o : Bytes} {k : Nat} (h : UR s k o) (hk : k + 2 < s.length) (hc : s[k]? = some 92) (hc1 : s[k + 1]? = some 110) : UR s (k + 2) (o ++ [10]) := by
  intro d hd
  obtain ⟨c, d2, h1, h2, h3⟩ := h.esc hk hc hc1 hd
  rcases h3 with ⟨rfl, h4, _⟩ | ⟨_, rfl, q⟩ | ⟨h4, _⟩
  · rcases h4 with h4 | h4 <;> cases h4
  · exact ⟨d2, by rw [h1]; simp, by rw [← List.drop_drop, h2, q]; rfl⟩
  · cases h4
theorem UR.other {s o : Bytes} {k : Nat} (h : UR s k o) (hk : k + 2 < s.length) (hc : s[k]? = some 92) {c1 : UInt8} (hc1 : s[k + 1]? = some c1) (h110 : c1 ≠ 110) (h120 : c1 ≠ 120 ∨ ¬ k + 4 < s.length) : UR s (k + 2) (o ++ [c1]) := by
  intro d hd
  obtain ⟨c, d2, h1, h2, h3⟩ := h.esc hk hc hc1 hd
  rcases h3 with ⟨rfl, h4, q⟩ | ⟨h4, _⟩ | ⟨h4, q⟩
  · exact ⟨d2, by rw [h1]; simp, by rw [← List.drop_drop, h2, q]; rfl⟩
  · exact absurd h4 h110
  · have hl := congrArg List.length h2
    rw [List.length_drop, List.length_append, List.length_append, q] at hl
    simp only [List.length_cons, List.length_nil] at hl
    rcases h120 with h5 | h5
    · exact absurd h4 h5
    · omega
def hexs : Bytes := [48, 49, 50, 51, 52, 53, 54, 55, 56, 57, 97, 98, 99, 100, 101, 102]
theorem hex_index : ∀ n : Nat, n < 16 → Lib.indexByte hexs (hexB n) = n := by decide
theorem UR.hex {s o : Bytes} {k : Nat} (h : UR s k o) (hk : k + 4 < s.length) (hc : s[k]? = some 92) (hc1 : s[k + 1]? = some 120) {c2 c3 x : UInt8} (hc2 : s[k + 2]? = some c2) (hc3 : s[k + 3]? = some c3)
    (hx : ∀ a b : Nat, a < 16 → b < 16 → Lib.indexByte hexs c2 = a → Lib.indexByte hexs c3 = b → x.toNat = 16 * a + b) : UR s (k + 4) (o ++ [x]) := by
  intro d hd
  obtain ⟨c, d2, h1, h2, h3⟩ := h.esc (by omega) hc hc1 hd
  have h4 := drop_at hc2
  have h5 := drop_at hc3
  rw [h2] at h4 h5
  have hq : qb c = [92, 120, hexB (c.toNat / 16), hexB (c.toNat % 16)] := by
    rcases h3 with ⟨rfl, h4, q⟩ | ⟨h4, _⟩ | ⟨h4, q⟩
    · rcases h4 with h4 | h4 <;> cases h4
    · cases h4
    · exact q
  rw [hq] at h4 h5
  simp only [List.cons_append, List.nil_append, List.getElem?_cons_succ, List.getElem?_cons_zero, Option.some.injEq] at h4 h5
  have hlt := c.toNat_lt
  have := hx (c.toNat / 16) (c.toNat % 16) (by omega) (by omega) (by rw [← h4]; exact hex_index _ (by omega)) (by rw [← h5]; exact hex_index _ (by omega))
  have hxc : x = c := UInt8.toNat_inj.1 (by omega)
  subst hxc
  exact ⟨d2, by rw [h1]; simp, by rw [← List.drop_drop, h2, hq]; rfl⟩
theorem UR.done {s o : Bytes} {k : Nat} (h : UR s k o) (hk : ¬ k + 1 < s.length) {d : Bytes} (hd : quoteB d = s) : d = o := by
  obtain ⟨d2, h1, h2⟩ := h d hd
  cases d2 with
  | nil => simpa using h1
  | cons c d2 =>
    have hl := congrArg List.length h2
    rw [List.length_drop] at hl
    have hq : 1 ≤ (qb c).length := by rcases qb_cases c with ⟨_, q⟩ | ⟨_, q⟩ | ⟨_, q⟩ | ⟨_, _, q⟩ | q <;> rw [q] <;> simp
    simp at hl; omega
end Go.Proofs.YtfdlifhkeicnnaaGreatDoor
namespace Go.Proofs.YtfdlifhkeicnnaaGreatDoor
open Go Go.RowKit
set_option linter.unusedSimpArgs false
set_option linter.unusedVariables false

theorem or_hex : ∀ a b : Fin 16, bits BinOp.or IntKind.i64 (wrap64 ((a.val : Int) * 16)) (b.val : Int) % 256 = ((16 * a.val + b.val : Nat) : Int) := by decide +kernel
theorem hex_byte (r2 r3 : Int) : ∃ x : UInt8, (x.toNat : Int) = bits BinOp.or IntKind.i64 (wrap64 (r2 * 16)) r3 % 256 ∧ ∀ a b : Nat, a < 16 → b < 16 → r2 = a → r3 = b → x.toNat = 16 * a + b := by
  obtain ⟨z, hz⟩ : ∃ z, bits BinOp.or IntKind.i64 (wrap64 (r2 * 16)) r3 % 256 = z := ⟨_, rfl⟩
  have h0 : 0 ≤ z ∧ z < 256 := by rw [← hz]; omega
  have hx : (UInt8.ofNat z.toNat).toNat = z.toNat := by rw [UInt8.toNat_ofNat']; omega
  refine ⟨UInt8.ofNat z.toNat, by rw [hz, hx]; omega, ?_⟩
  rintro a b ha hb rfl rfl
  have := or_hex ⟨a, ha⟩ ⟨b, hb⟩
  simp only at this
  rw [hx]; omega
theorem below_drew (w : World) : Below w.heap.size w w.drew := ⟨rfl, rfl, rfl, Nat.le_refl _, fun _ _ => rfl⟩
theorem nb120 : ((120 : UInt8).toNat : Int) = 120 := rfl
theorem Index_c (s : ByteArray) (c : UInt8) (r : Int) (hr : Lib.indexByte s.data.toList c = r) (w : World) :
    Calls Tryz.prog 122 #[.string s, .int .u8 (c.toNat : Int)] w fun x w' => x = .returned (.int .i64 r) ∧ w' = w :=
  Index_any s c r hr _ rfl w
def UnqPost (s : ByteArray) (w : World) (e : Ending) (w' : World) : Prop := ((∃ o : Bytes, quoteB o = s.data.toList ∧ (∀ d, quoteB d = s.data.toList → d = o) ∧ e = .returned (.tuple #[.string ⟨o.toArray⟩, .bool true])) ∨ ((∀ d, quoteB d ≠ s.data.toList) ∧ e = .returned (.tuple #[.string ⟨#[]⟩, .bool false]))) ∧ Below w.heap.size w w'
set_option maxRecDepth 20000 in
set_option maxHeartbeats 4000000 in
theorem Unquote_is (s : ByteArray) (hs : s.size ≤ 900000) (w : World) : Calls Tryz.prog 129 #[.string s] w (UnqPost s w) := by
  have hI : BIs w.heap.size w.heap.size [] (w.alloc (.cells #[.pointer none, .slice none 0 0] 49)) := BIs.fresh (heap_alloc_new w _)
  have hW : Below w.heap.size w (w.alloc (.cells #[.pointer none, .slice none 0 0] 49)) := (Below.refl _ _).alloc (Nat.le_refl _) _
  go_enter Tryz.func129, Tryz.ntmps129
  go_wp2
  go_loopw [5] (fun i wr => ∃ (k : Nat) (o : Bytes), 1 ≤ k ∧ k ≤ s.size + 1 ∧ o.length ≤ k ∧ i = .int .i64 k ∧ BIs w.heap.size w.heap.size o wr ∧ Below w.heap.size w wr ∧ Hid (UR s.data.toList k o)) (fun i _ => s.size + 1 - (intOf i).toNat)
  case atStart => exact ⟨1, [], by omega, by omega, by simp, rfl, hI, hW, Lib.hid (UR.start _)⟩
  case round =>
    obtain ⟨k, o, hk1, hk, hol, rfl, hI1, hW1, hinv⟩ := hrel
    clear hI hW
    have hI := hI1
    have hW := hW1
    clear hI1 hW1
    have hsl := szl s
    by_cases hlt : (k : Int) < (s.size : Int) - 1
    · obtain ⟨c0, hc0⟩ : ∃ c, s.data.toList[k]? = some c := ⟨_, List.getElem?_eq_getElem (by rw [szl]; omega)⟩
      have hks : k < s.size := by omega
      have eb0 := byte_at hc0 hks
      by_cases h92 : c0 = 92
      · by_cases h2 : (k : Int) + 1 < (s.size : Int) - 1
        · have h2n : ¬ ((k : Int) + 1 ≥ (s.size : Int) - 1) := by omega
          have hk1s : k + 1 < s.size := by omega
          obtain ⟨c1, hc1⟩ : ∃ c, s.data.toList[k + 1]? = some c := ⟨_, List.getElem?_eq_getElem (by rw [szl]; omega)⟩
          have eb1 := byte_at hc1 hk1s
          subst h92
          by_cases h110 : c1 = 110
          · subst h110
            have hv2 : Hid (UR s.data.toList (k + 2) (o ++ [10])) := Lib.hid (hinv.out.letter (by omega) hc0 hc1)
            clear hc0 hc1 hinv hsl
            go_wp2_with (first | ((with_reducible refine kn_list_set ?_); (try clear hF); clear hL; intro W hL; (try simp only [kfb] at hL); have hF := hL.facts; (try simp only [Facts, Dist, kd] at hF)) | (go_at_call 27; (((first | (with_reducible refine (WB _ _ _ 10 10 nb10 _ hI (by (try simp only [List.length_append, List.length_cons, List.length_nil]); omega) hW.size).mono ?_)))); rintro e W1 ⟨rfl, hI1, hb1⟩; (try clear hb0); replace hW := hW.trans hb1; clear hb1 hI; have hI := hI1; clear hI1))
            go_roundw
            case rel => exact ⟨k + 2, o ++ [10], by omega, by omega, by simp; omega, by go_num, hI, hW, hv2⟩
            case measure => simp [intOf]; omega
          have f110 : ((c1.toNat : Int) == 110) = false := beq_false_of_ne fun h => h110 (UInt8.toNat_inj.1 (show c1.toNat = 110 by omega))
          by_cases h120 : c1 = 120 ∧ (k : Int) + 1 + 2 < (s.size : Int) - 1
          · obtain ⟨h120, h4⟩ := h120
            subst h120
            have hk2s : k + 2 < s.size := by omega
            have hk3s : k + 3 < s.size := by omega
            obtain ⟨c2, hc2⟩ : ∃ c, s.data.toList[k + 2]? = some c := ⟨_, List.getElem?_eq_getElem (by rw [szl]; omega)⟩
            obtain ⟨c3, hc3⟩ : ∃ c, s.data.toList[k + 3]? = some c := ⟨_, List.getElem?_eq_getElem (by rw [szl]; omega)⟩
            have eb2 := byte_at hc2 hk2s
            have eb3 := byte_at hc3 hk3s
            obtain ⟨r2, hr2⟩ : ∃ r, Lib.indexByte hexs c2 = r := ⟨_, rfl⟩
            obtain ⟨r3, hr3⟩ : ∃ r, Lib.indexByte hexs c3 = r := ⟨_, rfl⟩
            have HR2 := Lib.hid hr2
            have HR3 := Lib.hid hr3
            clear hr2 hr3
            go_wp2_with fail
            have s1 : IntKind.i64.wrap ((k : Int) + 1 + 1) = (k : Int) + 2 := by rw [IntWalk.i64_in _ (by omega)]; omega
            have s2 : IntKind.i64.wrap ((k : Int) + 1 + 2) = (k : Int) + 3 := by rw [IntWalk.i64_in _ (by omega)]; omega
            have s3 : 0 ≤ (k : Int) + 2 := by omega
            have s4 : (k : Int) + 2 < s.size := by omega
            have s5 : ((k : Int) + 2).toNat = k + 2 := by omega
            have s6 : 0 ≤ (k : Int) + 3 := by omega
            have s7 : (k : Int) + 3 < s.size := by omega
            have s8 : ((k : Int) + 3).toNat = k + 3 := by omega
            refine wp_region_still_tail 13 (by kernel_rfl) (by kernel_rfl) ?_
            simp only [List.take_succ_cons, List.take_zero, List.drop_succ_cons, List.drop_zero]
            repeat (first | still_step | (still_call (Index_c _ _ _ HR2.out _)) | (still_call (Index_c _ _ _ HR3.out _)))
            refine wpStill_nil ?_
            have hI2 : BIs w.heap.size w.heap.size o wr.drew := hI.ext (below_drew wr)
            have hW2 : Below w.heap.size w wr.drew := hW.trans ((below_drew wr).mono hW.size)
            clear hI hW
            change wpList _ _ _ _ _ wr.drew
            generalize wr.drew = W2 at hI2 hW2 ⊢
            have hI := hI2
            have hW := hW2
            clear hI2 hW2
            obtain ⟨x, hx, hx2⟩ := hex_byte r2 r3
            have hv2 : Hid (UR s.data.toList (k + 4) (o ++ [x])) := Lib.hid (hinv.out.hex (by omega) hc0 hc1 hc2 hc3 fun a b ha hb h2 h3 => hx2 a b ha hb (by rw [← HR2.out]; exact h2) (by rw [← HR3.out]; exact h3))
            have HX := Lib.hid hx
            clear hx hx2 s1 s2 s3 s4 s5 s6 s7 s8 hc0 hc1 hc2 hc3 hinv hsl
            go_wp2_with (first | ((with_reducible refine kn_list_set ?_); (try clear hF); clear hL; intro W hL; (try simp only [kfb] at hL); have hF := hL.facts; (try simp only [Facts, Dist, kd] at hF)) | (go_at_call 27; (((first | (with_reducible refine (WB _ _ _ x _ HX.out _ hI (by (try simp only [List.length_append, List.length_cons, List.length_nil]); omega) hW.size).mono ?_)))); rintro e W1 ⟨rfl, hI1, hb1⟩; (try clear hb0); replace hW := hW.trans hb1; clear hb1 hI; have hI := hI1; clear hI1))
            go_roundw
            case rel => exact ⟨k + 4, o ++ [x], by omega, by omega, by simp; omega, by go_num, hI, hW, hv2⟩
            case measure => simp [intOf]; omega
          · have hor : c1 ≠ 120 ∨ ¬ k + 4 < s.data.toList.length := by
              by_cases h : c1 = 120
              · right; intro h5; exact h120 ⟨h, by omega⟩
              · exact .inl h
            have hv2 : Hid (UR s.data.toList (k + 2) (o ++ [c1])) := Lib.hid (hinv.out.other (by omega) hc0 hc1 h110 hor)
            clear hor hc0 hc1 hinv hsl
            by_cases h120b : c1 = 120
            · have h4 : ¬ (k : Int) + 1 + 2 < (s.size : Int) - 1 := fun h => h120 ⟨h120b, h⟩
              clear h120
              subst h120b
              go_wp2_with (first | ((with_reducible refine kn_list_set ?_); (try clear hF); clear hL; intro W hL; (try simp only [kfb] at hL); have hF := hL.facts; (try simp only [Facts, Dist, kd] at hF)) | (go_at_call 27; (((first | (with_reducible refine (WB _ _ _ 120 120 nb120 _ hI (by (try simp only [List.length_append, List.length_cons, List.length_nil]); omega) hW.size).mono ?_)))); rintro e W1 ⟨rfl, hI1, hb1⟩; (try clear hb0); replace hW := hW.trans hb1; clear hb1 hI; have hI := hI1; clear hI1))
              go_roundw
              case rel => exact ⟨k + 2, o ++ [120], by omega, by omega, by simp; omega, by go_num, hI, hW, hv2⟩
              case measure => simp [intOf]; omega
            · have f120 : ((c1.toNat : Int) == 120) = false := beq_false_of_ne fun h => h120b (UInt8.toNat_inj.1 (show c1.toNat = 120 by omega))
              clear h120
              go_wp2_with (first | ((with_reducible refine kn_list_set ?_); (try clear hF); clear hL; intro W hL; (try simp only [kfb] at hL); have hF := hL.facts; (try simp only [Facts, Dist, kd] at hF)) | (go_at_call 27; (((first | (with_reducible refine (WB _ _ _ c1 _ rfl _ hI (by (try simp only [List.length_append, List.length_cons, List.length_nil]); omega) hW.size).mono ?_)))); rintro e W1 ⟨rfl, hI1, hb1⟩; (try clear hb0); replace hW := hW.trans hb1; clear hb1 hI; have hI := hI1; clear hI1))
              go_roundw
              case rel => exact ⟨k + 2, o ++ [c1], by omega, by omega, by simp; omega, by go_num, hI, hW, hv2⟩
              case measure => simp [intOf]; omega
        · have hv2 : Hid (UR s.data.toList (k + 1) (o ++ [c0])) := Lib.hid (hinv.out.plain (by omega) hc0 (.inr (by omega)))
          have h2n : (k : Int) + 1 ≥ (s.size : Int) - 1 := by omega
          have h2b : decide ((s.size : Int) - 1 ≤ (k : Int) + 1) = true := by simp; omega
          have h2c : (s.size : Int) ≤ (k : Int) + 1 + 1 := by omega
          subst h92
          clear hc0 hinv hsl
          go_wp2_with (first | ((with_reducible refine kn_list_set ?_); (try clear hF); clear hL; intro W hL; (try simp only [kfb] at hL); have hF := hL.facts; (try simp only [Facts, Dist, kd] at hF)) | (go_at_call 27; (((first | (with_reducible refine (WB _ _ _ 92 92 nb92 _ hI (by (try simp only [List.length_append, List.length_cons, List.length_nil]); omega) hW.size).mono ?_)))); rintro e W1 ⟨rfl, hI1, hb1⟩; (try clear hb0); replace hW := hW.trans hb1; clear hb1 hI; have hI := hI1; clear hI1))
          go_roundw
          case rel => exact ⟨k + 1, o ++ [92], by omega, by omega, by simp; omega, by go_num, hI, hW, hv2⟩
          case measure => simp [intOf]; omega
      · have hv2 : Hid (UR s.data.toList (k + 1) (o ++ [c0])) := Lib.hid (hinv.out.plain (by omega) hc0 (.inl h92))
        have f92 : ((c0.toNat : Int) == 92) = false := beq_false_of_ne fun h => h92 (UInt8.toNat_inj.1 (show c0.toNat = 92 by omega))
        have f92b : ((c0.toNat : Int) != 92) = true := by unfold bne; rw [f92]; rfl
        clear hc0 hinv hsl
        go_wp2_with (first | ((with_reducible refine kn_list_set ?_); (try clear hF); clear hL; intro W hL; (try simp only [kfb] at hL); have hF := hL.facts; (try simp only [Facts, Dist, kd] at hF)) | (go_at_call 27; (((first | (with_reducible refine (WB _ _ _ c0 _ rfl _ hI (by (try simp only [List.length_append, List.length_cons, List.length_nil]); omega) hW.size).mono ?_)))); rintro e W1 ⟨rfl, hI1, hb1⟩; (try clear hb0); replace hW := hW.trans hb1; clear hb1 hI; have hI := hI1; clear hI1))
        go_roundw
        case rel => exact ⟨k + 1, o ++ [c0], by omega, by omega, by simp; omega, by go_num, hI, hW, hv2⟩
        case measure => simp [intOf]; omega
    · have hdone : ∀ d, quoteB d = s.data.toList → d = o := fun d hd => hinv.out.done (by omega) hd
      obtain ⟨t, ht⟩ : ∃ t : ByteArray, t.data.toList = o := ⟨⟨o.toArray⟩, by simp⟩
      have htz : t.size ≤ 1000000 := by rw [← szl, ht]; omega
      have hto : (⟨o.toArray⟩ : ByteArray) = t := ba_ext (by rw [← ht])
      by_cases hq : quoteB t.data.toList = s.data.toList
      · have hE : (⟨(quoteB t.data.toList).toArray⟩ : ByteArray) = s := ba_ext (by simpa using hq)
        have QC : Hid (∀ W, Calls Tryz.prog 9 #[.string t] W fun e w' => e = .returned (.string s) ∧ Below W.heap.size W w') := Lib.hid fun W => by
          have := Quote_any t htz W
          rw [hE] at this; exact this
        have hfin : Hid (∃ o : Bytes, quoteB o = s.data.toList ∧ (∀ d, quoteB d = s.data.toList → d = o) ∧ Ending.returned (.tuple #[.string t, .bool true]) = Ending.returned (.tuple #[.string ⟨o.toArray⟩, .bool true])) := Lib.hid ⟨o, by rw [← ht]; exact hq, hdone, by rw [hto]⟩
        clear hdone hinv hsl hE hq hto
        go_wp2_with (first | ((with_reducible refine kn_list_set ?_); (try clear hF); clear hL; intro W hL; (try simp only [kfb] at hL); have hF := hL.facts; (try simp only [Facts, Dist, kd] at hF)) | (go_at_call 29; (((with_reducible refine (BS _ _ _ _ hI hW.size t ht).mono ?_))); rintro e W1 ⟨rfl, hI1, hb1⟩; (try clear hb0); replace hW := hW.trans hb1; clear hb1 hI; have hI := hI1; clear hI1) | (go_at_call 9; (with_reducible refine (QC.out _).mono ?_); rintro e1 W1 ⟨rfl, hb1⟩; have hI1 := hI.ext hb1; (try clear hb0); replace hW := hW.trans (hb1.mono hW.size); clear hb1 hI; have hI := hI1; clear hI1))
        go_ret2
        exact ⟨.inl hfin.out, hW⟩
      · obtain ⟨q, hE⟩ : ∃ q : ByteArray, (⟨(quoteB t.data.toList).toArray⟩ : ByteArray) = q := ⟨_, rfl⟩
        have QC : Hid (∀ W, Calls Tryz.prog 9 #[.string t] W fun e w' => e = .returned (.string q) ∧ Below W.heap.size W w') := Lib.hid fun W => by
          have := Quote_any t htz W
          rw [hE] at this; exact this
        have hqs : q.data.toList ≠ s.data.toList := by rw [← hE]; simpa using hq
        have hne : (q.toList == s.toList) = false := (Lib.bytes_beq_false_iff _ _).2 fun e => hqs (by rw [e])
        have hne2 : (q.toList != s.toList) = true := by unfold bne; rw [hne]; rfl
        have hfin : Hid (∀ d, quoteB d ≠ s.data.toList) := Lib.hid fun d hd => by
          have := hdone d hd
          subst this
          rw [ht] at hq; exact hq hd
        clear hdone hinv hsl hE hq hto hqs
        go_wp2_with (first | ((with_reducible refine kn_list_set ?_); (try clear hF); clear hL; intro W hL; (try simp only [kfb] at hL); have hF := hL.facts; (try simp only [Facts, Dist, kd] at hF)) | (go_at_call 29; (((with_reducible refine (BS _ _ _ _ hI hW.size t ht).mono ?_))); rintro e W1 ⟨rfl, hI1, hb1⟩; (try clear hb0); replace hW := hW.trans hb1; clear hb1 hI; have hI := hI1; clear hI1) | (go_at_call 9; (with_reducible refine (QC.out _).mono ?_); rintro e1 W1 ⟨rfl, hb1⟩; have hI1 := hI.ext hb1; (try clear hb0); replace hW := hW.trans (hb1.mono hW.size); clear hb1 hI; have hI := hI1; clear hI1))
        go_ret2
        exact ⟨.inr ⟨hfin.out, rfl⟩, hW⟩

end Go.Proofs.YtfdlifhkeicnnaaGreatDoor
