/- Lemmas and walks for the law LawTells (part 6). -/
import Derived.Test.YtfdlifhkeicnnaaGreatDoorWPt5
import Derived.Test.YtfdlifhkeicnnaaGreatDoorProg
import Derived.WalkKit
import Derived.Handy
import Derived.Deep.Light
import Derived.WalkSmall
import Derived.StillTailTactics
import Derived.Lib.Hide
import Derived.StillTail
import Derived.Deep.Quiet
import Derived.Deep.QuietTactic
import Derived.Below
import Derived.BigQuiet
import Derived.Lib.LaidTab
import Derived.Laws.BytesArg
import Derived.Deep.Cut
import Derived.Lib.IndexLaws
set_option maxRecDepth 20000
set_option maxHeartbeats 4000000
set_option linter.unusedVariables false
set_option linter.unusedSimpArgs false
namespace Go.Proofs.YtfdlifhkeicnnaaGreatDoor
open Go Go.RowKit
theorem address_is (ab mb : Nat) (es : Array MapEntry) (clock : Nat) (L : Labs) (s : ByteArray) (hs : s.size ≤ 1000000) (last : Bool) (w : World) (hA : w.cell? ⟨ab, 0, none⟩ = some (.map (some mb))) (hmb : w.heap[mb]? = some (.map es clock)) (hM : MapV Tryz.prog 9 es (lv L)) : Calls Tryz.prog 128 #[.pointer (some ⟨ab, 0, none⟩), .string s, .bool last] w fun e w' => RegN (address L s.data.toList last) e ∧ Below w.heap.size w w' := by
 have l1 := cell_lt hA
 have l2 := lt_of_has hmb
 cases hN : named s.data.toList with
 | false =>
  have HN := Lib.hid hN
  clear hN
  have hr : address L s.data.toList last = .bad 2 := by unfold address; rw [HN.out]; rfl
  rw [hr]
  clear hr
  have hL : Kn [] w w [] := Kn.refl [] w; have hF := hL.fx; go_enter Tryz.func128, Tryz.ntmps128
  go_wp2_with (first | ((with_reducible refine ks ?_); clear hL; intro W hL hF) | (go_at_call 64; refine kc (fun W hL => named_eq s (by omega) _ HN _) ?_; clear hF hL; intro W hL hF) | (go_at_call 100; (with_reducible refine (need_bad _ _).mono ?_); rintro e w' ⟨rfl, rfl⟩))
  exact ⟨rfl, rfl, hL.below0⟩
 | true =>
  have HN := Lib.hid hN
  clear hN
  cases hl : look L s.data.toList with
  | some n =>
   have HH := Lib.hid (look_hit hl)
   have HL := Lib.hid hl
   clear hl
   have hr : address L s.data.toList last = .ok n := by unfold address; rw [HN.out]; rw [HL.out]; rfl
   rw [hr]
   clear hr
   have hL : Kn [] w w [] := Kn.refl [] w; have hF := hL.fx; go_enter Tryz.func128, Tryz.ntmps128
   go_wp2_with (first | ((with_reducible refine ks ?_); clear hL; intro W hL hF) | (go_at_call 64; refine kc (fun W hL => named_eq s (by omega) _ HN _) ?_; clear hF hL; intro W hL hF) | (go_at_call 100; (with_reducible refine (need_ok _ _).mono ?_); rintro e w' ⟨rfl, rfl⟩) | (at_lookup; go_loud (refine wpList_hit rfl _ _ _ rfl strlaw under_labs ((hL.block mb (by omega) (by simp)).trans hmb) hM rfl _ (.int .i64 n) rfl HH.out ?_); simp only [if_true]))
   refine bodyPost_ret (by simp [results, Tryz.results128, go_sem, *]; try rfl) rfl ?_
   exact ⟨rfl, hL.below0⟩
  | none =>
   have HH := Lib.hid (look_miss hl)
   have HL := Lib.hid hl
   clear hl
   cases last with
   | true =>
    have hr : address L s.data.toList true = .bad 4 := by unfold address; rw [HN.out]; rw [HL.out]; rfl
    rw [hr]
    clear hr
    have hL : Kn [] w w [] := Kn.refl [] w; have hF := hL.fx; go_enter Tryz.func128, Tryz.ntmps128
    go_wp2_with (first | ((with_reducible refine ks ?_); clear hL; intro W hL hF) | (go_at_call 64; refine kc (fun W hL => named_eq s (by omega) _ HN _) ?_; clear hF hL; intro W hL hF) | (go_at_call 100; (((first | (with_reducible refine (need_ok _ _).mono ?_) | (with_reducible refine (need_bad _ _).mono ?_)))); rintro e w' ⟨rfl, rfl⟩) | (at_lookup; go_loud (refine wpList_miss rfl _ _ _ rfl strlaw under_labs _ zeroI ((hL.block mb (by omega) (by simp)).trans hmb) hM rfl _ _ rfl (strkey s hs) HH.out ?_); simp only [if_true]))
    exact ⟨rfl, rfl, hL.below0⟩
   | false =>
    have hr : address L s.data.toList false = .ok 0 := by unfold address; rw [HN.out]; rw [HL.out]; rfl
    rw [hr]
    clear hr
    have hL : Kn [] w w [] := Kn.refl [] w; have hF := hL.fx; go_enter Tryz.func128, Tryz.ntmps128
    go_wp2_with (first | ((with_reducible refine ks ?_); clear hL; intro W hL hF) | (go_at_call 64; refine kc (fun W hL => named_eq s (by omega) _ HN _) ?_; clear hF hL; intro W hL hF) | (go_at_call 100; (with_reducible refine (need_ok _ _).mono ?_); rintro e w' ⟨rfl, rfl⟩) | (at_lookup; go_loud (refine wpList_miss rfl _ _ _ rfl strlaw under_labs _ zeroI ((hL.block mb (by omega) (by simp)).trans hmb) hM rfl _ _ rfl (strkey s hs) HH.out ?_); simp only [if_true]))
    refine bodyPost_ret (by simp [results, Tryz.results128, go_sem, *]; try rfl) rfl ?_
    exact ⟨rfl, hL.below0⟩
section
variable {P : Program} {ops : Array Oper} {md : Region.Mode} {C : World → Prop}
end
section
variable {P : Program}
def Fam (w : World) (ι : Type) (F : ι → World) : Prop :=
 (∀ n, Below w.heap.size w (F n)) ∧ (∀ n w', Below (F n).heap.size (F n) w' → ∃ m, w' = F m)
theorem Fam.ext {w : World} {ι : Type} {F : ι → World} (h : Fam w ι F) (n : ι) : Below w.heap.size w (F n) := h.1 n
theorem Fam.call {w : World} {ι : Type} {F : ι → World} (h : Fam w ι F) {n : ι} {f : FuncId} {args : Array Value} {v : Value}
  (c : Calls P f args (F n) fun e w' => e = .returned v ∧ Below (F n).heap.size (F n) w') : Calls P f args (F n) fun e w' => e = .returned v ∧ ∃ m, w' = F m :=
 c.mono fun _ w' hw => ⟨hw.1, h.2 n w' hw.2⟩
theorem Fam.same {ι : Type} {F : ι → World} {n : ι} {f : FuncId} {args : Array Value} {v : Value}
  (c : Calls P f args (F n) fun e w' => e = .returned v ∧ F n = w') : Calls P f args (F n) fun e w' => e = .returned v ∧ ∃ m, w' = F m :=
 c.mono fun _ _ hw => ⟨hw.1, n, hw.2.symm⟩
theorem next_is (s : ByteArray) (pos c : Nat) (w : World) (n : Nat) (ty : TypeId) (hc : s.data[pos]? = some (UInt8.ofNat c)) (hlt : c < 128) (hn : n = w.heap.size) :
  (Instr.next (.pointer (some ⟨n, 0, none⟩)) true ty).run P (w.iter s pos) = .ok (.tuple #[.bool true, .int .i64 pos, .int .i32 c]) (w.iter s (pos + 1)) := by
 subst hn
 obtain ⟨h, he⟩ := Array.getElem?_eq_some_iff.1 hc
 have e : (s[pos]'h).toNat = c := by
  show (s.data[pos]'h).toNat = c
  rw [he]; simp; omega
 rw [run_next_ascii w s pos ty h (by omega), e]
theorem next_end (s : ByteArray) (pos : Nat) (w : World) (n : Nat) (ty : TypeId) (hs : ¬ pos < s.size) (hn : n = w.heap.size) :
  (Instr.next (.pointer (some ⟨n, 0, none⟩)) true ty).run P (w.iter s pos) = .ok (.tuple #[.bool false]) (w.iter s pos) := by
 subst hn; exact run_next_end w s pos ty hs
theorem iter_cell (w : World) (s : ByteArray) (p b o : Nat) (h : b < w.heap.size) : (w.iter s p).cell? ⟨b, o, none⟩ = w.cell? ⟨b, o, none⟩ := World.cell?_alloc_lt w _ ⟨b, o, none⟩ h
end
end Go.Proofs.YtfdlifhkeicnnaaGreatDoor
namespace Go.Proofs.YtfdlifhkeicnnaaGreatDoor
open Go Go.RowKit
def formsL : List Int := [0, 2, 5, 5, 0, 0, 0, 0, 0, 0, 0, 0, 0, 0, 0, 0, 0, 0, 5, 4, 4, 4, 4, 1, 1, 6, 5, 5, 5, 1, 5, 6]
def kindsL : List ByteArray := [⟨#[]⟩, ⟨#[114]⟩, ⟨#[114, 114]⟩, ⟨#[114, 114, 114]⟩, ⟨#[114, 114, 111]⟩, ⟨#[114, 110]⟩, ⟨#[110]⟩]
def form (op : Int) : Int := if op < 0 ∨ 32 ≤ op then -1 else if 4 ≤ op ∧ op ≤ 17 then 3 else formsL.getD op.toNat 0
def inR (n a b : Int) : Bool := decide (a ≤ n ∧ n ≤ b)
def validF (f a b c : Int) : Bool :=
 if f = 0 then decide (a = 0 ∧ b = 0 ∧ c = 0)
 else if f = 1 then inR a 0 7 && decide (b = 0 ∧ c = 0)
 else if f = 2 then inR a 0 7 && inR b 0 7 && decide (c = 0)
 else if f = 3 then inR a 0 7 && inR b 0 7 && inR c 0 7
 else if f = 4 then inR a 0 7 && inR b 0 7 && inR c (-128) 127
 else if f = 5 then inR a 0 7 && inR b (-32768) 32767 && decide (c = 0)
 else if f = 6 then inR b (-32768) 32767 && decide (a = 0 ∧ c = 0)
 else false
def valid (op a b c : Int) : Bool := validF (form op) a b c
theorem and_mask (k : Nat) (hk : k ≤ 62) (x : Int) : bits .and .i64 x (2 ^ k - 1) = x % 2 ^ k := by
 have h1 : ((2 : Int) ^ k - 1) = ((2 ^ k - 1 : Nat) : Int) := by rw [Int.natCast_sub (Nat.two_pow_pos k)]; simp
 have h2 : 2 ^ k ≤ 2 ^ 62 := Nat.pow_le_pow_right (by decide) hk
 have h3 : (BitVec.ofInt 64 ((2 ^ k - 1 : Nat) : Int)).toNat = 2 ^ k - 1 := by
  rw [BitVec.ofInt_natCast, BitVec.toNat_ofNat, Nat.mod_eq_of_lt (by omega)]
 have h4 : ((BitVec.ofInt 64 x).toNat : Int) = x % 18446744073709551616 := by
  rw [BitVec.toNat_ofInt]; omega
 have h5 : (x % 18446744073709551616) % 2 ^ k = x % 2 ^ k := by
  refine Int.emod_emod_of_dvd _ ?_
  have : (2 : Int) ^ k * 2 ^ (64 - k) = 2 ^ 64 := by rw [← Int.pow_add]; congr 1; omega
  exact ⟨2 ^ (64 - k), by rw [this]; rfl⟩
 have h6 : (0 : Int) < 2 ^ k := Int.pow_pos (by decide)
 have h7 : (2 : Int) ^ k ≤ 2 ^ 62 := by exact_mod_cast h2
 have h8 := Int.emod_nonneg x (Int.ne_of_gt h6)
 have h9 := Int.emod_lt_of_pos x h6
 rw [h1]
 show IntKind.i64.wrap ((BitVec.ofInt 64 x &&& BitVec.ofInt 64 ((2 ^ k - 1 : Nat) : Int)).toNat : Int) = _
 rw [BitVec.toNat_and, h3, Nat.and_two_pow_sub_one_eq_mod]
 push_cast
 rw [h4, h5]
 exact IntWalk.i64_in _ (by simp at h7; omega)
theorem and255 (x : Int) : bits .and .i64 x 255 = x % 256 := and_mask 8 (by decide) x
def namesB : List ByteArray := [⟨#[110, 111, 112]⟩, ⟨#[109, 111, 118]⟩, ⟨#[115, 101, 116]⟩, ⟨#[104, 105, 103, 104]⟩, ⟨#[97, 100, 100]⟩, ⟨#[115, 117, 98]⟩, ⟨#[109, 117, 108]⟩, ⟨#[100, 105, 118]⟩, ⟨#[109, 111, 100]⟩, ⟨#[97, 110, 100]⟩, ⟨#[111, 114]⟩, ⟨#[120, 111, 114]⟩, ⟨#[115, 104, 108]⟩, ⟨#[115, 104, 114]⟩, ⟨#[101, 113]⟩, ⟨#[110, 101]⟩, ⟨#[108, 116]⟩, ⟨#[108, 101]⟩, ⟨#[97, 100, 100, 105]⟩, ⟨#[108, 100, 98]⟩, ⟨#[108, 100, 119]⟩, ⟨#[115, 116, 98]⟩, ⟨#[115, 116, 119]⟩, ⟨#[112, 117, 115, 104]⟩, ⟨#[112, 111, 112]⟩, ⟨#[106, 109, 112]⟩, ⟨#[106, 122]⟩, ⟨#[106, 110, 122]⟩, ⟨#[108, 105, 110, 107]⟩, ⟨#[106, 114]⟩, ⟨#[97, 100, 100, 114]⟩, ⟨#[99, 97, 108, 108]⟩]
/-- The tables of the instruction set, and the powers of ten of strconv. -/
def TabI (w : World) : Prop := 7 ≤ w.heap.size ∧ (∀ k : Nat, k < 32 → w.cell? ⟨2, k, none⟩ = some (.int .i64 (formsL.getD k 0))) ∧ (∀ k : Nat, k < 7 → w.cell? ⟨0, k, none⟩ = some (.string (kindsL.getD k ByteArray.empty)))
 ∧ (∀ k : Nat, k < 32 → w.cell? ⟨1, k, none⟩ = some (.string (namesB.getD k ByteArray.empty))) ∧ Lib.TabIs Tryz.prog w "internal/strconv.uint64pow10" .u64 Lib.pow10Tab
theorem tabIs_belowI {w w' : World} {B : Nat} {n : String} {k : IntKind} {zs : List Int} {g : Nat} (hg : Tryz.prog.globalNamed n = some g) (h : Lib.TabIs Tryz.prog w n k zs) (hb : Below B w w') (hB : g < B) : Lib.TabIs Tryz.prog w' n k zs := by
 unfold Lib.TabIs at h ⊢
 rw [← h]
 unfold World.var?
 rw [hg]
 simp only [Option.bind_some, hb.block g hB]
theorem gPowI : Tryz.prog.globalNamed "internal/strconv.uint64pow10" = some 5 := by kernel_rfl
theorem TabI.below {w w' : World} {B : Nat} (h : TabI w) (hb : Below B w w') (hB : 7 ≤ B) : TabI w' := by
 refine ⟨Nat.le_trans h.1 hb.size, fun k hk => ?_, fun k hk => ?_, fun k hk => ?_, tabIs_belowI gPowI h.2.2.2.2 hb (Nat.lt_of_lt_of_le (by decide) hB)⟩
 ·rw [hb.cell (show (⟨2, k, none⟩ : Addr).block < B from Nat.lt_of_lt_of_le (show 2 < 7 by decide) hB)]; exact h.2.1 k hk
 ·rw [hb.cell (show (⟨0, k, none⟩ : Addr).block < B from Nat.lt_of_lt_of_le (show 0 < 7 by decide) hB)]; exact h.2.2.1 k hk
 ·rw [hb.cell (show (⟨1, k, none⟩ : Addr).block < B from Nat.lt_of_lt_of_le (show 1 < 7 by decide) hB)]; exact h.2.2.2.1 k hk
theorem TabI.ext {w w' : World} (h : TabI w) (hb : Below w.heap.size w w') : TabI w' := h.below hb h.1
theorem TabI.alloc {w : World} (h : TabI w) (o : Obj) : TabI (w.alloc o) := h.ext ((Below.refl _ _).alloc (Nat.le_refl _) _)
theorem TabI.drew {w : World} (h : TabI w) : TabI w.drew := h.ext (Below.refl _ _).drew
theorem Form_any (op : Int) (w : World) (h : TabI w) :
  Calls Tryz.prog 39 #[.int .i64 op] w fun e w' => e = .returned (.int .i64 (form op)) ∧ w = w' := by
 have hk : 0 ≤ op → op < 32 → w.cell? ⟨2, op.toNat, none⟩ = some (.int .i64 (formsL.getD op.toNat 0)) := fun _ _ => h.2.1 _ (by omega)
 clear h
 go_enter Tryz.func39, Tryz.ntmps39
 go_wp2
 all_goals go_ret
 all_goals exact ⟨by unfold form; congr 2; (repeat' split) <;> first | rfl | omega, rfl⟩
theorem in_any (n a b : Int) (w : World) :
  Calls Tryz.prog 113 #[.int .i64 n, .int .i64 a, .int .i64 b] w fun e w' => e = .returned (.bool (inR n a b)) ∧ w = w' := by
 go_enter Tryz.func113, Tryz.ntmps113
 go_wp2
 all_goals go_ret
 all_goals exact ⟨by unfold inR; congr 2; simp; omega, rfl⟩
theorem refForm_any (op : Int) (w : World) :
  Calls Tryz.prog 75 #[.int .i64 op] w fun e w' => e = .returned (.int .i64 (form op)) ∧ w = w' := by
 go_enter Tryz.func75, Tryz.ntmps75
 go_wp2
 all_goals go_ret
 all_goals first
  | (rename_i h; have e := WalkArith.int_eq h; subst e; exact ⟨rfl, rfl⟩)
  | (simp only [beq_eq_false_iff_ne, ne_eq] at *; refine ⟨?_, trivial⟩; unfold form; congr 2; (repeat' split) <;> first | rfl | omega)
theorem Valid_no (op a b c : Int) (w : World) (h : TabI w) (hf : form op = -1)  :
  Calls Tryz.prog 18 #[.agg #[.int .i64 op, .int .i64 a, .int .i64 b, .int .i64 c]] w fun e w' => e = .returned (.bool (validF (-1) a b c)) ∧ Below w.heap.size w w' := by
 have hs := h.1
 have hs0 : 0 < w.heap.size := by omega
 have hs1 : 1 < w.heap.size := by omega
 go_enter Tryz.func18, Tryz.ntmps18
 go_wp2_with (first | (go_at_call 39; refine (Form_any _ _ (by repeat (first | exact h | refine TabI.alloc ?_ _))).mono ?_; rintro e w' ⟨rfl, rfl⟩) | (go_at_call 40; go_enter Tryz.func40, Tryz.ntmps40))
 repeat any_goals (first | (rw [rounds_succ]; go_wp2_with (first | (go_at_call 39; refine (Form_any _ _ (by repeat ((exact h)))).mono ?_; rintro e w' ⟨rfl, rfl⟩) | (go_at_call 40; go_enter Tryz.func40, Tryz.ntmps40))) | (refine wp_loop_rounds 5 ?_) | (go_region; go_wp2_with (first | (go_at_call 39; refine (Form_any _ _ (by repeat ((exact h)))).mono ?_; rintro e w' ⟨rfl, rfl⟩) | (go_at_call 40; go_enter Tryz.func40, Tryz.ntmps40))))
 all_goals go_returns
 all_goals refine ⟨congrArg (fun z => Ending.returned (.bool z)) ?_, by go_grown⟩
 all_goals try simp only [Bool.not_eq_true', Bool.not_eq_false', bne_iff_ne, ne_eq, bne_eq_false_iff_eq, beq_iff_eq, beq_eq_false_iff_ne, Int.not_lt, Int.not_le] at *
 all_goals (subst_vars; rfl)
theorem Valid_0 (op a b c : Int) (w : World) (h : TabI w) (hf : form op = 0)  :
  Calls Tryz.prog 18 #[.agg #[.int .i64 op, .int .i64 a, .int .i64 b, .int .i64 c]] w fun e w' => e = .returned (.bool (validF (0) a b c)) ∧ Below w.heap.size w w' := by
 have hs := h.1
 have hs0 : 0 < w.heap.size := by omega
 have hs1 : 1 < w.heap.size := by omega
 have hop : w.cell? ⟨0, 0, none⟩ = some (.string ⟨#[]⟩) := h.2.2.1 0 (by decide)
 have hic := iter_cell
 have hnE := fun w n ty => next_end (P := Tryz.prog) ⟨#[]⟩ 0 w n ty (by decide)
 go_enter Tryz.func18, Tryz.ntmps18
 go_wp2_with (first | (go_at_call 39; refine (Form_any _ _ (by repeat (first | exact h | refine TabI.alloc ?_ _))).mono ?_; rintro e w' ⟨rfl, rfl⟩) | (go_at_call 40; go_enter Tryz.func40, Tryz.ntmps40))
 repeat any_goals (first | (rw [rounds_succ]; go_wp2_with (first | (go_at_call 39; refine (Form_any _ _ (by repeat (first | exact h | refine TabI.alloc ?_ _))).mono ?_; rintro e w' ⟨rfl, rfl⟩) | (go_at_call 40; go_enter Tryz.func40, Tryz.ntmps40))) | (refine wp_loop_rounds 5 ?_) | (go_region; go_wp2_with (first | (go_at_call 39; refine (Form_any _ _ (by repeat ((exact h)))).mono ?_; rintro e w' ⟨rfl, rfl⟩) | (go_at_call 40; go_enter Tryz.func40, Tryz.ntmps40))))
 all_goals go_returns
 all_goals refine ⟨congrArg (fun z => Ending.returned (.bool z)) ?_, by (try unfold World.iter); go_grown⟩
 all_goals try simp only [Bool.not_eq_true', Bool.not_eq_false', bne_iff_ne, ne_eq, bne_eq_false_iff_eq, beq_iff_eq, beq_eq_false_iff_ne, Int.not_lt, Int.not_le] at *
 all_goals first | (subst_vars; rfl) | (simp [validF, inR]; omega)
theorem Valid_1 (op a b c : Int) (w : World) (h : TabI w) (hf : form op = 1)  :
  Calls Tryz.prog 18 #[.agg #[.int .i64 op, .int .i64 a, .int .i64 b, .int .i64 c]] w fun e w' => e = .returned (.bool (validF (1) a b c)) ∧ Below w.heap.size w w' := by
 have hs := h.1
 have hs0 : 0 < w.heap.size := by omega
 have hs1 : 1 < w.heap.size := by omega
 have hop : w.cell? ⟨0, 1, none⟩ = some (.string ⟨#[114]⟩) := h.2.2.1 1 (by decide)
 have hic := iter_cell
 have hn0 := fun w n ty => next_is (P := Tryz.prog) ⟨#[114]⟩ 0 114 w n ty rfl (by decide)
 have hnE := fun w n ty => next_end (P := Tryz.prog) ⟨#[114]⟩ 1 w n ty (by decide)
 go_enter Tryz.func18, Tryz.ntmps18
 go_wp2_with (first | (go_at_call 39; refine (Form_any _ _ (by repeat (first | exact h | refine TabI.alloc ?_ _))).mono ?_; rintro e w' ⟨rfl, rfl⟩) | (go_at_call 40; go_enter Tryz.func40, Tryz.ntmps40))
 repeat any_goals (first | (rw [rounds_succ]; go_wp2_with (first | (go_at_call 39; refine (Form_any _ _ (by repeat (first | exact h | refine TabI.alloc ?_ _))).mono ?_; rintro e w' ⟨rfl, rfl⟩) | (go_at_call 40; go_enter Tryz.func40, Tryz.ntmps40))) | (refine wp_loop_rounds 5 ?_) | (go_region; go_wp2_with (first | (go_at_call 39; refine (Form_any _ _ (by repeat ((exact h)))).mono ?_; rintro e w' ⟨rfl, rfl⟩) | (go_at_call 40; go_enter Tryz.func40, Tryz.ntmps40))))
 all_goals go_returns
 all_goals refine ⟨congrArg (fun z => Ending.returned (.bool z)) ?_, by (try unfold World.iter); go_grown⟩
 all_goals try simp only [Bool.not_eq_true', Bool.not_eq_false', bne_iff_ne, ne_eq, bne_eq_false_iff_eq, beq_iff_eq, beq_eq_false_iff_ne, Int.not_lt, Int.not_le] at *
 all_goals (simp [validF, inR]; omega)
theorem Valid_2 (op a b c : Int) (w : World) (h : TabI w) (hf : form op = 2)  :
  Calls Tryz.prog 18 #[.agg #[.int .i64 op, .int .i64 a, .int .i64 b, .int .i64 c]] w fun e w' => e = .returned (.bool (validF (2) a b c)) ∧ Below w.heap.size w w' := by
 have hs := h.1
 have hs0 : 0 < w.heap.size := by omega
 have hs1 : 1 < w.heap.size := by omega
 have hop : w.cell? ⟨0, 2, none⟩ = some (.string ⟨#[114, 114]⟩) := h.2.2.1 2 (by decide)
 have hic := iter_cell
 have hn0 := fun w n ty => next_is (P := Tryz.prog) ⟨#[114, 114]⟩ 0 114 w n ty rfl (by decide)
 have hn1 := fun w n ty => next_is (P := Tryz.prog) ⟨#[114, 114]⟩ 1 114 w n ty rfl (by decide)
 have hnE := fun w n ty => next_end (P := Tryz.prog) ⟨#[114, 114]⟩ 2 w n ty (by decide)
 go_enter Tryz.func18, Tryz.ntmps18
 go_wp2_with (first | (go_at_call 39; refine (Form_any _ _ (by repeat (first | exact h | refine TabI.alloc ?_ _))).mono ?_; rintro e w' ⟨rfl, rfl⟩) | (go_at_call 40; go_enter Tryz.func40, Tryz.ntmps40))
 repeat any_goals (first | (rw [rounds_succ]; go_wp2_with (first | (go_at_call 39; refine (Form_any _ _ (by repeat (first | exact h | refine TabI.alloc ?_ _))).mono ?_; rintro e w' ⟨rfl, rfl⟩) | (go_at_call 40; go_enter Tryz.func40, Tryz.ntmps40))) | (refine wp_loop_rounds 5 ?_) | (go_region; go_wp2_with (first | (go_at_call 39; refine (Form_any _ _ (by repeat ((exact h)))).mono ?_; rintro e w' ⟨rfl, rfl⟩) | (go_at_call 40; go_enter Tryz.func40, Tryz.ntmps40))))
 all_goals go_returns
 all_goals refine ⟨congrArg (fun z => Ending.returned (.bool z)) ?_, by (try unfold World.iter); go_grown⟩
 all_goals try simp only [Bool.not_eq_true', Bool.not_eq_false', bne_iff_ne, ne_eq, bne_eq_false_iff_eq, beq_iff_eq, beq_eq_false_iff_ne, Int.not_lt, Int.not_le] at *
 all_goals (simp [validF, inR]; omega)
theorem Valid_3 (op a b c : Int) (w : World) (h : TabI w) (hf : form op = 3)  :
  Calls Tryz.prog 18 #[.agg #[.int .i64 op, .int .i64 a, .int .i64 b, .int .i64 c]] w fun e w' => e = .returned (.bool (validF (3) a b c)) ∧ Below w.heap.size w w' := by
 have hs := h.1
 have hs0 : 0 < w.heap.size := by omega
 have hs1 : 1 < w.heap.size := by omega
 have hop : w.cell? ⟨0, 3, none⟩ = some (.string ⟨#[114, 114, 114]⟩) := h.2.2.1 3 (by decide)
 have hic := iter_cell
 have hn0 := fun w n ty => next_is (P := Tryz.prog) ⟨#[114, 114, 114]⟩ 0 114 w n ty rfl (by decide)
 have hn1 := fun w n ty => next_is (P := Tryz.prog) ⟨#[114, 114, 114]⟩ 1 114 w n ty rfl (by decide)
 have hn2 := fun w n ty => next_is (P := Tryz.prog) ⟨#[114, 114, 114]⟩ 2 114 w n ty rfl (by decide)
 have hnE := fun w n ty => next_end (P := Tryz.prog) ⟨#[114, 114, 114]⟩ 3 w n ty (by decide)
 go_enter Tryz.func18, Tryz.ntmps18
 go_wp2_with (first | (go_at_call 39; refine (Form_any _ _ (by repeat (first | exact h | refine TabI.alloc ?_ _))).mono ?_; rintro e w' ⟨rfl, rfl⟩) | (go_at_call 40; go_enter Tryz.func40, Tryz.ntmps40))
 repeat any_goals (first | (rw [rounds_succ]; go_wp2_with (first | (go_at_call 39; refine (Form_any _ _ (by repeat (first | exact h | refine TabI.alloc ?_ _))).mono ?_; rintro e w' ⟨rfl, rfl⟩) | (go_at_call 40; go_enter Tryz.func40, Tryz.ntmps40))) | (refine wp_loop_rounds 5 ?_) | (go_region; go_wp2_with (first | (go_at_call 39; refine (Form_any _ _ (by repeat ((exact h)))).mono ?_; rintro e w' ⟨rfl, rfl⟩) | (go_at_call 40; go_enter Tryz.func40, Tryz.ntmps40))))
 all_goals go_returns
 all_goals refine ⟨congrArg (fun z => Ending.returned (.bool z)) ?_, by unfold World.iter; go_grown⟩
 all_goals try simp only [Bool.not_eq_true', Bool.not_eq_false', bne_iff_ne, ne_eq, bne_eq_false_iff_eq, beq_iff_eq, beq_eq_false_iff_ne, Int.not_lt, Int.not_le] at *
 all_goals (simp [validF, inR]; omega)
theorem Valid_4 (op a b c : Int) (w : World) (h : TabI w) (hf : form op = 4)  :
  Calls Tryz.prog 18 #[.agg #[.int .i64 op, .int .i64 a, .int .i64 b, .int .i64 c]] w fun e w' => e = .returned (.bool (validF (4) a b c)) ∧ Below w.heap.size w w' := by
 have hs := h.1
 have hs0 : 0 < w.heap.size := by omega
 have hs1 : 1 < w.heap.size := by omega
 have hop : w.cell? ⟨0, 4, none⟩ = some (.string ⟨#[114, 114, 111]⟩) := h.2.2.1 4 (by decide)
 have hic := iter_cell
 have hn0 := fun w n ty => next_is (P := Tryz.prog) ⟨#[114, 114, 111]⟩ 0 114 w n ty rfl (by decide)
 have hn1 := fun w n ty => next_is (P := Tryz.prog) ⟨#[114, 114, 111]⟩ 1 114 w n ty rfl (by decide)
 have hn2 := fun w n ty => next_is (P := Tryz.prog) ⟨#[114, 114, 111]⟩ 2 111 w n ty rfl (by decide)
 have hnE := fun w n ty => next_end (P := Tryz.prog) ⟨#[114, 114, 111]⟩ 3 w n ty (by decide)
 go_enter Tryz.func18, Tryz.ntmps18
 go_wp2_with (first | (go_at_call 39; refine (Form_any _ _ (by repeat (first | exact h | refine TabI.alloc ?_ _))).mono ?_; rintro e w' ⟨rfl, rfl⟩) | (go_at_call 40; go_enter Tryz.func40, Tryz.ntmps40))
 repeat any_goals (first | (rw [rounds_succ]; go_wp2_with (first | (go_at_call 39; refine (Form_any _ _ (by repeat (first | exact h | refine TabI.alloc ?_ _))).mono ?_; rintro e w' ⟨rfl, rfl⟩) | (go_at_call 40; go_enter Tryz.func40, Tryz.ntmps40))) | (refine wp_loop_rounds 5 ?_) | (go_region; go_wp2_with (first | (go_at_call 39; refine (Form_any _ _ (by repeat ((exact h)))).mono ?_; rintro e w' ⟨rfl, rfl⟩) | (go_at_call 40; go_enter Tryz.func40, Tryz.ntmps40))))
 all_goals go_returns
 all_goals refine ⟨congrArg (fun z => Ending.returned (.bool z)) ?_, by unfold World.iter; go_grown⟩
 all_goals try simp only [Bool.not_eq_true', Bool.not_eq_false', bne_iff_ne, ne_eq, bne_eq_false_iff_eq, beq_iff_eq, beq_eq_false_iff_ne, Int.not_lt, Int.not_le] at *
 all_goals (simp [validF, inR]; omega)
theorem Valid_5 (op a b c : Int) (w : World) (h : TabI w) (hf : form op = 5)  :
  Calls Tryz.prog 18 #[.agg #[.int .i64 op, .int .i64 a, .int .i64 b, .int .i64 c]] w fun e w' => e = .returned (.bool (validF (5) a b c)) ∧ Below w.heap.size w w' := by
 have hs := h.1
 have hs0 : 0 < w.heap.size := by omega
 have hs1 : 1 < w.heap.size := by omega
 have hop : w.cell? ⟨0, 5, none⟩ = some (.string ⟨#[114, 110]⟩) := h.2.2.1 5 (by decide)
 have hic := iter_cell
 have hn0 := fun w n ty => next_is (P := Tryz.prog) ⟨#[114, 110]⟩ 0 114 w n ty rfl (by decide)
 have hn1 := fun w n ty => next_is (P := Tryz.prog) ⟨#[114, 110]⟩ 1 110 w n ty rfl (by decide)
 have hnE := fun w n ty => next_end (P := Tryz.prog) ⟨#[114, 110]⟩ 2 w n ty (by decide)
 go_enter Tryz.func18, Tryz.ntmps18
 go_wp2_with (first | (go_at_call 39; refine (Form_any _ _ (by repeat (first | exact h | refine TabI.alloc ?_ _))).mono ?_; rintro e w' ⟨rfl, rfl⟩) | (go_at_call 40; go_enter Tryz.func40, Tryz.ntmps40))
 repeat any_goals (first | (rw [rounds_succ]; go_wp2_with (first | (go_at_call 39; refine (Form_any _ _ (by repeat (first | exact h | refine TabI.alloc ?_ _))).mono ?_; rintro e w' ⟨rfl, rfl⟩) | (go_at_call 40; go_enter Tryz.func40, Tryz.ntmps40))) | (refine wp_loop_rounds 5 ?_) | (go_region; go_wp2_with (first | (go_at_call 39; refine (Form_any _ _ (by repeat ((exact h)))).mono ?_; rintro e w' ⟨rfl, rfl⟩) | (go_at_call 40; go_enter Tryz.func40, Tryz.ntmps40))))
 all_goals go_returns
 all_goals refine ⟨congrArg (fun z => Ending.returned (.bool z)) ?_, by (try unfold World.iter); go_grown⟩
 all_goals try simp only [Bool.not_eq_true', Bool.not_eq_false', bne_iff_ne, ne_eq, bne_eq_false_iff_eq, beq_iff_eq, beq_eq_false_iff_ne, Int.not_lt, Int.not_le] at *
 all_goals (simp [validF, inR]; omega)
theorem Valid_6z (op a b c : Int) (w : World) (h : TabI w) (hf : form op = 6) (ha : (a == 0) = true) :
  Calls Tryz.prog 18 #[.agg #[.int .i64 op, .int .i64 a, .int .i64 b, .int .i64 c]] w fun e w' => e = .returned (.bool (validF (6) a b c)) ∧ Below w.heap.size w w' := by
 have hs := h.1
 have hs0 : 0 < w.heap.size := by omega
 have hs1 : 1 < w.heap.size := by omega
 have hop : w.cell? ⟨0, 6, none⟩ = some (.string ⟨#[110]⟩) := h.2.2.1 6 (by decide)
 have hic := iter_cell
 have hn0 := fun w n ty => next_is (P := Tryz.prog) ⟨#[110]⟩ 0 110 w n ty rfl (by decide)
 have hnE := fun w n ty => next_end (P := Tryz.prog) ⟨#[110]⟩ 1 w n ty (by decide)
 go_enter Tryz.func18, Tryz.ntmps18
 go_wp2_with (first | (go_at_call 39; refine (Form_any _ _ (by repeat (first | exact h | refine TabI.alloc ?_ _))).mono ?_; rintro e w' ⟨rfl, rfl⟩) | (go_at_call 40; go_enter Tryz.func40, Tryz.ntmps40))
 repeat any_goals (first | (rw [rounds_succ]; go_wp2_with (first | (go_at_call 39; refine (Form_any _ _ (by repeat ((exact h)))).mono ?_; rintro e w' ⟨rfl, rfl⟩) | (go_at_call 40; go_enter Tryz.func40, Tryz.ntmps40))) | (refine wp_loop_rounds 5 ?_) | (go_region; go_wp2_with (first | (go_at_call 39; refine (Form_any _ _ (by repeat (first | exact h | refine TabI.alloc ?_ _))).mono ?_; rintro e w' ⟨rfl, rfl⟩) | (go_at_call 40; go_enter Tryz.func40, Tryz.ntmps40))))
 all_goals go_returns
 all_goals refine ⟨congrArg (fun z => Ending.returned (.bool z)) ?_, by (try unfold World.iter); go_grown⟩
 all_goals try simp only [Bool.not_eq_true', Bool.not_eq_false', bne_iff_ne, ne_eq, bne_eq_false_iff_eq, beq_iff_eq, beq_eq_false_iff_ne, Int.not_lt, Int.not_le] at *
 all_goals (simp [validF, inR]; omega)
theorem Valid_6 (op a b c : Int) (w : World) (h : TabI w) (hf : form op = 6) (ha : (a == 0) = false) :
  Calls Tryz.prog 18 #[.agg #[.int .i64 op, .int .i64 a, .int .i64 b, .int .i64 c]] w fun e w' => e = .returned (.bool (validF (6) a b c)) ∧ Below w.heap.size w w' := by
 have hs := h.1
 have hs0 : 0 < w.heap.size := by omega
 have hs1 : 1 < w.heap.size := by omega
 have hop : w.cell? ⟨0, 6, none⟩ = some (.string ⟨#[110]⟩) := h.2.2.1 6 (by decide)
 have hic := iter_cell
 have hn0 := fun w n ty => next_is (P := Tryz.prog) ⟨#[110]⟩ 0 110 w n ty rfl (by decide)
 have hnE := fun w n ty => next_end (P := Tryz.prog) ⟨#[110]⟩ 1 w n ty (by decide)
 go_enter Tryz.func18, Tryz.ntmps18
 go_wp2_with (first | (go_at_call 39; refine (Form_any _ _ (by repeat (first | exact h | refine TabI.alloc ?_ _))).mono ?_; rintro e w' ⟨rfl, rfl⟩) | (go_at_call 40; go_enter Tryz.func40, Tryz.ntmps40))
 repeat any_goals (first | (rw [rounds_succ]; go_wp2_with (first | (go_at_call 39; refine (Form_any _ _ (by repeat ((exact h)))).mono ?_; rintro e w' ⟨rfl, rfl⟩) | (go_at_call 40; go_enter Tryz.func40, Tryz.ntmps40))) | (refine wp_loop_rounds 5 ?_) | (go_region; go_wp2_with (first | (go_at_call 39; refine (Form_any _ _ (by repeat ((exact h)))).mono ?_; rintro e w' ⟨rfl, rfl⟩) | (go_at_call 40; go_enter Tryz.func40, Tryz.ntmps40))))
 all_goals go_returns
 all_goals refine ⟨congrArg (fun z => Ending.returned (.bool z)) ?_, by go_grown⟩
 all_goals try simp only [Bool.not_eq_true', Bool.not_eq_false', bne_iff_ne, ne_eq, bne_eq_false_iff_eq, beq_iff_eq, beq_eq_false_iff_ne, Int.not_lt, Int.not_le] at *
 all_goals (simp [validF, inR]; omega)
theorem form_vals (op : Int) : form op = -1 ∨ form op = 0 ∨ form op = 1 ∨ form op = 2 ∨ form op = 3 ∨ form op = 4 ∨ form op = 5 ∨ form op = 6 := by
 by_cases h : op < 0 ∨ 32 ≤ op
 ·left; unfold form; rw [if_pos h]
 ·obtain ⟨k, rfl⟩ := Int.eq_ofNat_of_zero_le (show 0 ≤ op by omega)
  have hk : k < 32 := by omega
  have : ∀ k : Fin 32, form (k.val : Int) = -1 ∨ form (k.val : Int) = 0 ∨ form (k.val : Int) = 1 ∨ form (k.val : Int) = 2 ∨ form (k.val : Int) = 3 ∨ form (k.val : Int) = 4 ∨ form (k.val : Int) = 5 ∨ form (k.val : Int) = 6 := by decide
  exact this ⟨k, hk⟩
theorem Valid_any (op a b c : Int) (w : World) (h : TabI w) :
  Calls Tryz.prog 18 #[.agg #[.int .i64 op, .int .i64 a, .int .i64 b, .int .i64 c]] w fun e w' => e = .returned (.bool (valid op a b c)) ∧ Below w.heap.size w w' := by
 unfold valid
 rcases form_vals op with hf | hf | hf | hf | hf | hf | hf | hf <;> rw [hf]
 ·exact Valid_no op a b c w h hf
 ·exact Valid_0 op a b c w h hf
 ·exact Valid_1 op a b c w h hf
 ·exact Valid_2 op a b c w h hf
 ·exact Valid_3 op a b c w h hf
 ·exact Valid_4 op a b c w h hf
 ·exact Valid_5 op a b c w h hf
 ·cases ha : (a == 0)
  ·exact Valid_6 op a b c w h hf ha
  ·exact Valid_6z op a b c w h hf ha
theorem refValid_any (op a b c : Int) (w : World) :
  Calls Tryz.prog 79 #[.agg #[.int .i64 op, .int .i64 a, .int .i64 b, .int .i64 c]] w fun e w' => e = .returned (.bool (valid op a b c)) ∧ Below w.heap.size w w' := by
 go_enter Tryz.func79, Tryz.ntmps79
 go_wp2_with (first | (go_at_call 113; refine (in_any _ _ _ _).mono ?_; rintro e w' ⟨rfl, rfl⟩) | (go_at_call 75; refine (refForm_any _ _).mono ?_; rintro e w' ⟨rfl, rfl⟩))
 all_goals go_ret
 all_goals refine ⟨congrArg (fun z => Ending.returned (.bool z)) ?_, by go_grown⟩
 all_goals go_light
 all_goals (simp_all [valid, validF]; try (rw [Bool.eq_iff_iff]; simp; done))
def numB (op : Int) : Bool := form op == 5 || form op == 6
theorem numbered_any (op : Int) (w : World) (hT : TabI w) :
  Calls Tryz.prog 42 #[.int .i64 op] w fun e w' => e = .returned (.bool (numB op)) ∧ w = w' := by
 unfold numB
 go_enter Tryz.func42, Tryz.ntmps42
 cases h5 : (form op == 5) <;> cases h6 : (form op == 6)
 all_goals
  go_wp2_with (go_at_call 39; (with_reducible refine (Form_any _ _ hT).mono ?_); rintro e w' ⟨rfl, rfl⟩)
  go_ret
  exact ⟨rfl, rfl⟩
/-- The bytes of an instruction. -/
def encB (op a b c : Int) : ByteArray := ⟨#[UInt8.ofNat (op % 256).toNat, UInt8.ofNat (a % 256).toNat, UInt8.ofNat (b % 256).toNat, UInt8.ofNat ((if numB op then b / 256 else c) % 256).toNat]⟩
def encS (op a b c : Int) : ByteArray := if valid op a b c then encB op a b c else ⟨#[]⟩
/-- Four bytes of the call's own, read as a string. -/
theorem conv4 (w : World) (x y z t : Int) : (convert 47 9 (.slice (some ⟨w.heap.size, 0, none⟩) 4 4)).run Tryz.prog (w.alloc (.cells #[.int .u8 x, .int .u8 y, .int .u8 z, .int .u8 t] 5)) =
  .ok (.string ⟨#[UInt8.ofNat x.toNat, UInt8.ofNat y.toNat, UInt8.ofNat z.toNat, UInt8.ofNat t.toNat]⟩) (w.alloc (.cells #[.int .u8 x, .int .u8 y, .int .u8 z, .int .u8 t] 5)) :=
 run_convert_bytes_arg (P := Tryz.prog) _ 47 5 Tryz.underlying47 Tryz.underlying5 w.heap.size 0 4 4 [x, y, z, t] rfl (fun i hi => by
  have : i = 0 ∨ i = 1 ∨ i = 2 ∨ i = 3 := by omega
  rcases this with h | h | h | h <;> subst h <;> (rw [World.cell?_alloc_new]; rfl)) 9 Tryz.underlying9
theorem Encode_any (op a b c : Int) (w : World) (hT : TabI w) :
  Calls Tryz.prog 20 #[.agg #[.int .i64 op, .int .i64 a, .int .i64 b, .int .i64 c]] w fun e w' => e = .returned (.string (encS op a b c)) ∧ Below w.heap.size w w' := by
 have hcv := @conv4
 cases hv : valid op a b c
 ·have hL : Kn [] w w [] := Kn.refl [] w; have hF := hL.fx; go_enter Tryz.func20, Tryz.ntmps20
  go_wp2_with ((go_at_call 18; refine kc (fun W hL => Valid_any _ _ _ _ _ (hT.ext hL.below0)) ?_; clear hF hL; intro W hL hF))
  refine bodyPost_ret (by simp [results, Tryz.results20, go_sem, *]; try rfl) rfl ?_
  exact ⟨by rw [encS, if_neg (by rw [hv]; simp)], kn_here.below0⟩
 ·cases hn : numB op
  ·have hL : Kn [] w w [] := Kn.refl [] w; have hF := hL.fx; go_enter Tryz.func20, Tryz.ntmps20
   go_wp2_with (first | (go_at_call 18; refine kc (fun W hL => Valid_any _ _ _ _ _ (hT.ext hL.below0)) ?_; clear hF hL; intro W hL hF) | (go_at_call 42; refine kp (fun W hL => numbered_any _ _ (hT.ext hL.below0)) ?_; clear hF hL; intro W hL hF))
   refine bodyPost_ret (by simp [results, Tryz.results20, go_sem, *]; try rfl) rfl ?_
   exact ⟨by rw [encS, if_pos hv, encB, hn]; rfl, kn_here.below0⟩
  ·have hL : Kn [] w w [] := Kn.refl [] w; have hF := hL.fx; go_enter Tryz.func20, Tryz.ntmps20
   go_wp2_with (first | ((with_reducible refine ks ?_); clear hF hL; intro W hL hF) | (go_at_call 18; refine kc (fun W hL => Valid_any _ _ _ _ _ (hT.ext hL.below0)) ?_; clear hF hL; intro W hL hF) | (go_at_call 42; refine kp (fun W hL => numbered_any _ _ (hT.ext hL.below0)) ?_; clear hF hL; intro W hL hF))
   refine bodyPost_ret (by simp [results, Tryz.results20, go_sem, *]; try rfl) rfl ?_
   exact ⟨by rw [encS, if_pos hv, encB, hn]; rfl, kn_here.below0⟩
theorem namesB_len : namesB.length = 32 := rfl
def findI (s : ByteArray) : Int := Lib.idxOfS namesB s
theorem findI_lt (s : ByteArray) : -1 ≤ findI s ∧ findI s < 32 := by
 unfold findI Lib.idxOfS
 have key : ∀ (zs : List ByteArray) (i : Nat), -1 ≤ Lib.idxFromS zs s i ∧ (Lib.idxFromS zs s i < i + zs.length) := by
  intro zs
  induction zs with
  | nil => intro i; simp [Lib.idxFromS]; omega
  | cons z zs ih =>
   intro i
   unfold Lib.idxFromS
   split
   ·simp; omega
   ·have := ih (i + 1); simp at this ⊢; omega
 have := key namesB 0
 rw [namesB_len] at this
 simpa using this
theorem Index_names (s : ByteArray) (w : World) (hT : TabI w) : Calls Tryz.prog 51 #[.slice (some ⟨1, 0, none⟩) 32 32, .string s] w fun e w' => e = .returned (.int .i64 (findI s)) ∧ w = w' :=
 (Tryz.slices_Index_string 1 0 32 32 namesB s w (by decide) (by decide) (fun j hj => by rw [Nat.zero_add]; exact hT.2.2.2.1 j hj)).mono fun e w' ⟨h1, h2⟩ => ⟨h1, h2.symm⟩
theorem Find_any (s : ByteArray) (w : World) (hT : TabI w) : Calls Tryz.prog 61 #[.string s] w fun e w' => e = .returned (.tuple #[.int .i64 (max (findI s) 0), .bool (decide (0 ≤ findI s))]) ∧ Below w.heap.size w w' := by
 have hL : Kn [] w w [] := Kn.refl [] w; have hF := hL.fx; go_enter Tryz.func61, Tryz.ntmps61
 go_wp2_with ((go_at_call 51; refine kp (fun W hL => Index_names s _ (hT.ext hL.below0)) ?_; clear hF hL; intro W hL hF))
 all_goals refine bodyPost_ret (by simp [results, Tryz.results61, go_sem, *]; try rfl) rfl ?_
 all_goals exact ⟨by (rfl), kn_here.below0⟩
theorem refNames_any (w : World) : Calls Tryz.prog 72 #[] w fun e w' =>
  ∃ b, e = .returned (.slice (some ⟨b, 0, none⟩) 32 32) ∧ Kn [] w w' [(b, .cells #[.string ⟨#[110, 111, 112]⟩, .string ⟨#[109, 111, 118]⟩, .string ⟨#[115, 101, 116]⟩, .string ⟨#[104, 105, 103, 104]⟩, .string ⟨#[97, 100, 100]⟩, .string ⟨#[115, 117, 98]⟩, .string ⟨#[109, 117, 108]⟩, .string ⟨#[100, 105, 118]⟩, .string ⟨#[109, 111, 100]⟩, .string ⟨#[97, 110, 100]⟩, .string ⟨#[111, 114]⟩, .string ⟨#[120, 111, 114]⟩, .string ⟨#[115, 104, 108]⟩, .string ⟨#[115, 104, 114]⟩, .string ⟨#[101, 113]⟩, .string ⟨#[110, 101]⟩, .string ⟨#[108, 116]⟩, .string ⟨#[108, 101]⟩, .string ⟨#[97, 100, 100, 105]⟩, .string ⟨#[108, 100, 98]⟩, .string ⟨#[108, 100, 119]⟩, .string ⟨#[115, 116, 98]⟩, .string ⟨#[115, 116, 119]⟩, .string ⟨#[112, 117, 115, 104]⟩, .string ⟨#[112, 111, 112]⟩, .string ⟨#[106, 109, 112]⟩, .string ⟨#[106, 122]⟩, .string ⟨#[106, 110, 122]⟩, .string ⟨#[108, 105, 110, 107]⟩, .string ⟨#[106, 114]⟩, .string ⟨#[97, 100, 100, 114]⟩, .string ⟨#[99, 97, 108, 108]⟩] 9 (0, 0))] := by
 have hL : Kn [] w w [] := Kn.refl [] w; have hF := hL.fx; go_enter Tryz.func72, Tryz.ntmps72
 go_wp2
 refine bodyPost_ret (by simp [results, Tryz.results72, go_sem, *]; try rfl) rfl ?_
 exact ⟨_, rfl, kn_here⟩
theorem Index_any (s : ByteArray) (c : UInt8) (r : Int) (hr : Lib.indexByte s.data.toList c = r) (n : Int) (hn : (c.toNat : Int) = n) (w : World) :
  Calls Tryz.prog 122 #[.string s, .int .u8 n] w fun x w' => x = .returned (.int .i64 r) ∧ w' = w :=
 (Tryz.strings_IndexByte s n w).mono fun x w' ⟨h1, h2⟩ => ⟨by rw [h1, ← hr, ← hn]; congr 3; simp, h2⟩
end Go.Proofs.YtfdlifhkeicnnaaGreatDoor
namespace Go.Proofs.YtfdlifhkeicnnaaGreatDoor
open Go
/-- How far a reader of a quotation has come: what is read is d's beginning. -/
def UR (s : Bytes) (k : Nat) (o : Bytes) : Prop := ∀ d, quoteB d = s → ∃ d2, d = o ++ d2 ∧ s.drop k = d2.flatMap qb ++ [34]
theorem UR.start (s : Bytes) : UR s 1 [] := fun d h => ⟨d, rfl, by rw [← h]; rfl⟩
/-- What a byte's notation begins with. -/
theorem qb_cases (c : UInt8) : (c = 34 ∧ qb c = [92, 34]) ∨ (c = 92 ∧ qb c = [92, 92]) ∨ (c = 10 ∧ qb c = [92, 110]) ∨ (c ≠ 92 ∧ c ≠ 34 ∧ qb c = [c]) ∨ qb c = [92, 120, hexB (c.toNat / 16), hexB (c.toNat % 16)] := by
 unfold qb
 by_cases h1 : c = 34
 ·subst h1; left; exact ⟨rfl, rfl⟩
 by_cases h2 : c = 92
 ·subst h2; right; left; exact ⟨rfl, rfl⟩
 by_cases h3 : c = 10
 ·subst h3; right; right; left; exact ⟨rfl, rfl⟩
 rw [if_neg (by simp [h1, h2]), if_neg h3]
 split
 ·right; right; right; left; exact ⟨h2, h1, rfl⟩
 ·right; right; right; right; rfl
theorem UR.next {s o : Bytes} {k : Nat} (h : UR s k o) {d : Bytes} (hd : quoteB d = s) (hk : k + 1 < s.length) : ∃ c d2, d = o ++ c :: d2 ∧ s.drop k = qb c ++ (d2.flatMap qb ++ [34]) := by
 obtain ⟨d2, h1, h2⟩ := h d hd
 cases d2 with
 | nil =>
  have := congrArg List.length h2
  rw [List.length_drop] at this
  simp at this; omega
 | cons c d2 => exact ⟨c, d2, h1, by rw [h2]; simp⟩
theorem drop_at {s : Bytes} {k j : Nat} {c : UInt8} (h : s[k + j]? = some c) : (s.drop k)[j]? = some c := by rw [List.getElem?_drop]; exact h
/-- A byte that begins no escape. -/
theorem UR.plain {s o : Bytes} {k : Nat} {c0 : UInt8} (h : UR s k o) (hk : k + 1 < s.length) (hc : s[k]? = some c0) (he : c0 ≠ 92 ∨ ¬ k + 2 < s.length) : UR s (k + 1) (o ++ [c0]) := by
 intro d hd
 obtain ⟨c, d2, h1, h2⟩ := h.next hd hk
 have hl := congrArg List.length h2
 rw [List.length_drop, List.length_append, List.length_append, List.length_singleton] at hl
 have h0 := drop_at (j := 0) hc
 have key : ∀ x, qb c = 92 :: x → False := by
  intro x e
  rw [h2, e] at h0
  simp only [List.cons_append, List.getElem?_cons_zero, Option.some.injEq] at h0
  rcases he with he | he
  ·exact he h0.symm
  ·have hx : x ≠ [] := by
    rintro rfl
    rcases qb_cases c with ⟨_, q⟩ | ⟨_, q⟩ | ⟨_, q⟩ | ⟨q1, _, q⟩ | q <;> rw [q] at e <;> simp at e
    exact q1 e
   have := List.length_pos_iff.2 hx
   rw [e, List.length_cons] at hl; omega
 rcases qb_cases c with ⟨_, q⟩ | ⟨_, q⟩ | ⟨_, q⟩ | ⟨q1, _, q⟩ | q
 ·exact (key _ q).elim
 ·exact (key _ q).elim
 ·exact (key _ q).elim
 ·rw [h2, q] at h0
  simp at h0
  subst h0
  refine ⟨d2, by rw [h1]; simp, ?_⟩
  rw [← List.drop_drop, h2, q]; rfl
 ·exact (key _ q).elim
/-- .. and an escape. -/
theorem UR.esc {s o : Bytes} {k : Nat} (h : UR s k o) (hk : k + 2 < s.length) (hc : s[k]? = some 92) {c1 : UInt8} (hc1 : s[k + 1]? = some c1) {d : Bytes} (hd : quoteB d = s) :
  ∃ c d2, d = o ++ c :: d2 ∧ s.drop k = qb c ++ (d2.flatMap qb ++ [34]) ∧ ((c1 = c ∧ (c = 34 ∨ c = 92) ∧ qb c = [92, c]) ∨ (c1 = 110 ∧ c = 10 ∧ qb c = [92, 110]) ∨ (c1 = 120 ∧ qb c = [92, 120, hexB (c.toNat / 16), hexB (c.toNat % 16)])) := by
 obtain ⟨c, d2, h1, h2⟩ := h.next hd (by omega)
 have h0 := drop_at (j := 0) hc
 have h3 := drop_at hc1
 refine ⟨c, d2, h1, h2, ?_⟩
 rw [h2] at h0 h3
 rcases qb_cases c with ⟨q0, q⟩ | ⟨q0, q⟩ | ⟨q0, q⟩ | ⟨q1, _, q⟩ | q
 ·rw [q] at h3; simp at h3; exact .inl ⟨by rw [← h3, q0], .inl q0, by rw [q, q0]⟩
 ·rw [q] at h3; simp at h3; exact .inl ⟨by rw [← h3, q0], .inr q0, by rw [q, q0]⟩
 ·rw [q] at h3; simp at h3; exact .inr (.inl ⟨h3.symm, q0, q⟩)
 ·rw [q] at h0; simp at h0; exact absurd h0 q1
 ·rw [q] at h3; simp at h3; exact .inr (.inr ⟨h3.symm, q⟩)
theorem UR.letter {s o : Bytes} {k : Nat} (h : UR s k o) (hk : k + 2 < s.length) (hc : s[k]? = some 92) (hc1 : s[k + 1]? = some 110) : UR s (k + 2) (o ++ [10]) := by
 intro d hd
 obtain ⟨c, d2, h1, h2, h3⟩ := h.esc hk hc hc1 hd
 rcases h3 with ⟨rfl, h4, _⟩ | ⟨_, rfl, q⟩ | ⟨h4, _⟩
 ·rcases h4 with h4 | h4 <;> cases h4
 ·exact ⟨d2, by rw [h1]; simp, by rw [← List.drop_drop, h2, q]; rfl⟩
 ·cases h4
theorem UR.other {s o : Bytes} {k : Nat} (h : UR s k o) (hk : k + 2 < s.length) (hc : s[k]? = some 92) {c1 : UInt8} (hc1 : s[k + 1]? = some c1) (h110 : c1 ≠ 110) (h120 : c1 ≠ 120 ∨ ¬ k + 4 < s.length) : UR s (k + 2) (o ++ [c1]) := by
 intro d hd
 obtain ⟨c, d2, h1, h2, h3⟩ := h.esc hk hc hc1 hd
 rcases h3 with ⟨rfl, h4, q⟩ | ⟨h4, _⟩ | ⟨h4, q⟩
 ·exact ⟨d2, by rw [h1]; simp, by rw [← List.drop_drop, h2, q]; rfl⟩
 ·exact absurd h4 h110
 ·have hl := congrArg List.length h2
  rw [List.length_drop, List.length_append, List.length_append, q] at hl
  simp only [List.length_cons, List.length_nil] at hl
  rcases h120 with h5 | h5
  ·exact absurd h4 h5
  ·omega
def hexs : Bytes := [48, 49, 50, 51, 52, 53, 54, 55, 56, 57, 97, 98, 99, 100, 101, 102]
theorem hex_index : ∀ n : Nat, n < 16 → Lib.indexByte hexs (hexB n) = n := by decide
theorem UR.hex {s o : Bytes} {k : Nat} (h : UR s k o) (hk : k + 4 < s.length) (hc : s[k]? = some 92) (hc1 : s[k + 1]? = some 120) {c2 c3 x : UInt8} (hc2 : s[k + 2]? = some c2) (hc3 : s[k + 3]? = some c3)
  (hx : ∀ a b : Nat, a < 16 → b < 16 → Lib.indexByte hexs c2 = a → Lib.indexByte hexs c3 = b → x.toNat = 16 * a + b) : UR s (k + 4) (o ++ [x]) := by
 intro d hd
 obtain ⟨c, d2, h1, h2, h3⟩ := h.esc (by omega) hc hc1 hd
 have h4 := drop_at hc2
 have h5 := drop_at hc3
 rw [h2] at h4 h5
 have hq : qb c = [92, 120, hexB (c.toNat / 16), hexB (c.toNat % 16)] := by
  rcases h3 with ⟨rfl, h4, q⟩ | ⟨h4, _⟩ | ⟨h4, q⟩
  ·rcases h4 with h4 | h4 <;> cases h4
  ·cases h4
  ·exact q
 rw [hq] at h4 h5
 simp only [List.cons_append, List.nil_append, List.getElem?_cons_succ, List.getElem?_cons_zero, Option.some.injEq] at h4 h5
 have hlt := c.toNat_lt
 have := hx (c.toNat / 16) (c.toNat % 16) (by omega) (by omega) (by rw [← h4]; exact hex_index _ (by omega)) (by rw [← h5]; exact hex_index _ (by omega))
 have hxc : x = c := UInt8.toNat_inj.1 (by omega)
 subst hxc
 exact ⟨d2, by rw [h1]; simp, by rw [← List.drop_drop, h2, hq]; rfl⟩
theorem UR.done {s o : Bytes} {k : Nat} (h : UR s k o) (hk : ¬ k + 1 < s.length) {d : Bytes} (hd : quoteB d = s) : d = o := by
 obtain ⟨d2, h1, h2⟩ := h d hd
 cases d2 with
 | nil => simpa using h1
 | cons c d2 =>
  have hl := congrArg List.length h2
  rw [List.length_drop] at hl
  have hq : 1 ≤ (qb c).length := by rcases qb_cases c with ⟨_, q⟩ | ⟨_, q⟩ | ⟨_, q⟩ | ⟨_, _, q⟩ | q <;> rw [q] <;> simp
  simp at hl; omega
end Go.Proofs.YtfdlifhkeicnnaaGreatDoor
