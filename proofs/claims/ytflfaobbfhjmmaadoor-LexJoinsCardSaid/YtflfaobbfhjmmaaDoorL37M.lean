import Derived.Test.YtflfaobbfhjmmaaDoorProg
import Derived.WalkKit
import Derived.Handy
import Derived.Deep.Light
import Derived.WalkSmall
import Derived.StillTailTactics
import Derived.Lib.Hide
import Derived.Test.YtflfaobbfhjmmaaDoorT0
import Derived.Test.YtflfaobbfhjmmaaDoorIt
import Derived.Test.YtflfaobbfhjmmaaDoorL33M
namespace Go.Proofs.YtflfaobbfhjmmaaDoor
open Go Go.RowKit
set_option linter.unusedSimpArgs false
set_option linter.unusedVariables false
set_option maxRecDepth 20000 in
set_option maxHeartbeats 4000000 in
theorem joins_e0 (a b c : ByteArray) (hc : a ++ ⟨#[10]⟩ ++ b = c) (ha3 : a.size ≤ 3000) (hb3 : b.size ≤ 3000) (HS : Hid (∀ W, Calls Tryd.prog 7 #[] W fun e w' => e = .returned (.bool true) ∧ Below W.heap.size W w')) (w : World) (q3 : a.toList.isEmpty = true) (er em : Int) (her : (er != 0) = true) (HX0 : Hid (∀ W, Calls Tryd.prog 9 #[.string a] W fun e w' => Below W.heap.size W w' ∧ e = .returned (.tuple #[.slice none 0 0, .int .i64 er, .int .i64 em]))) (HX1 : Hid (∀ W, Calls Tryd.prog 9 #[.string b] W fun e w' => Below W.heap.size W w' ∧ ∃ (v : Value) (er m : Int), e = .returned (.tuple #[v, .int .i64 er, .int .i64 m]))) (HX2 : Hid (∀ W, Calls Tryd.prog 9 #[.string c] W fun e w' => Below W.heap.size W w' ∧ ∃ (v : Value) (er m : Int), e = .returned (.tuple #[v, .int .i64 er, .int .i64 m]))) : Calls Tryd.prog 4 #[.string a, .string b] w fun e w' => e = .returned (.bool true) ∧ Below w.heap.size w w' := by
  have q0 : decide ((3000 : Int) < (a.size : Int)) = false := decide_eq_false (by omega)
  have q1 : decide ((3000 : Int) < (b.size : Int)) = false := decide_eq_false (by omega)
  have hmax : IntKind.i64.max = 9223372036854775807 := by decide
  have m1 : ¬ IntKind.i64.max < ((a.size + (⟨#[10]⟩ : ByteArray).size : Nat) : Int) := by rw [hmax, one_sz]; omega
  have m2 : ¬ IntKind.i64.max < (((a ++ ⟨#[10]⟩).size + b.size : Nat) : Int) := by rw [hmax, ByteArray.size_append, one_sz]; omega
  clear hmax
  skip
  have hL : Kn [] w w [] := Kn.refl [] w; (try simp only [kfb] at hL); have hF := hL.facts; (try simp only [Facts, Dist, kfa, implies_true, forall_const] at hF); go_enter Tryd.func4, Tryd.ntmps4
  go_wp2_with (first | ((with_reducible refine kn_list_set ?_); (try clear hF); clear hL; intro W hL; (try simp only [kfb] at hL); have hF := hL.facts; (try simp only [Facts, Dist, kfa, implies_true, forall_const] at hF)) | (go_at_call 7; refine kn_calls ?_; (try clear hF); clear hL; intro W hL; (try simp only [kfb] at hL); have hF := hL.facts; (try simp only [Facts, Dist, kfa, implies_true, forall_const] at hF); (((with_reducible refine (HS.out _).mono ?_))); rintro e W ⟨rfl, hb⟩; replace hL := hL.below hb; clear hb; (try clear hF); (try simp only [kfb] at hL); have hF := hL.facts; (try simp only [Facts, Dist, kfa, implies_true, forall_const] at hF)) | (go_at_call 9; (((with_reducible refine (HX0.out _).mono ?_))); rintro e W ⟨hb, rfl⟩; (try replace hT0 := hT0.ext hb); (try replace hT1 := hT1.ext hb); (try replace hT2 := hT2.ext hb); (try replace hT3 := hT3.ext hb); (try replace hT4 := hT4.ext hb); (try replace hT5 := hT5.ext hb); (try replace hT6 := hT6.ext hb); (try replace hT7 := hT7.ext hb); replace hL := hL.below hb; clear hb; (try clear hF); (try simp only [kfb] at hL); have hF := hL.facts; (try simp only [Facts, Dist, kfa, implies_true, forall_const] at hF)) | (go_at_call 9; (((with_reducible refine (HX1.out _).mono ?_))); rintro e W ⟨hb, v1, er1, mm1, rfl⟩; (try replace hT0 := hT0.ext hb); (try replace hT1 := hT1.ext hb); (try replace hT2 := hT2.ext hb); (try replace hT3 := hT3.ext hb); (try replace hT4 := hT4.ext hb); (try replace hT5 := hT5.ext hb); (try replace hT6 := hT6.ext hb); (try replace hT7 := hT7.ext hb); replace hL := hL.below hb; clear hb; (try clear hF); (try simp only [kfb] at hL); have hF := hL.facts; (try simp only [Facts, Dist, kfa, implies_true, forall_const] at hF)) | (go_at_call 9; (((with_reducible refine (HX2.out _).mono ?_))); rintro e W ⟨hb, v2, er2, mm2, rfl⟩; (try replace hT0 := hT0.ext hb); (try replace hT1 := hT1.ext hb); (try replace hT2 := hT2.ext hb); (try replace hT3 := hT3.ext hb); (try replace hT4 := hT4.ext hb); (try replace hT5 := hT5.ext hb); (try replace hT6 := hT6.ext hb); (try replace hT7 := hT7.ext hb); replace hL := hL.below hb; clear hb; (try clear hF); (try simp only [kfb] at hL); have hF := hL.facts; (try simp only [Facts, Dist, kfa, implies_true, forall_const] at hF)))
  (try simp only [Exit.inBlock, Exit.then]); refine bodyPost_ret (by simp [results, Tryd.results4, go_sem, *]; try rfl) rfl ?_
  exact ⟨rfl, hL.below0⟩
set_option maxRecDepth 20000 in
set_option maxHeartbeats 4000000 in
theorem joins_e1 (a b c : ByteArray) (hc : a ++ ⟨#[10]⟩ ++ b = c) (ha3 : a.size ≤ 3000) (hb3 : b.size ≤ 3000) (HS : Hid (∀ W, Calls Tryd.prog 7 #[] W fun e w' => e = .returned (.bool true) ∧ Below W.heap.size W w')) (w : World) (j : Nat) (HAJ : Hid (a.size = j + 1)) (q3 : a.toList.isEmpty = false) (c0 : UInt8) (hc0 : a.data.toList[j]? = some c0) (h92 : c0 ≠ 92) (er em : Int) (her : (er != 0) = true) (HX0 : Hid (∀ W, Calls Tryd.prog 9 #[.string a] W fun e w' => Below W.heap.size W w' ∧ e = .returned (.tuple #[.slice none 0 0, .int .i64 er, .int .i64 em]))) (HX1 : Hid (∀ W, Calls Tryd.prog 9 #[.string b] W fun e w' => Below W.heap.size W w' ∧ ∃ (v : Value) (er m : Int), e = .returned (.tuple #[v, .int .i64 er, .int .i64 m]))) (HX2 : Hid (∀ W, Calls Tryd.prog 9 #[.string c] W fun e w' => Below W.heap.size W w' ∧ ∃ (v : Value) (er m : Int), e = .returned (.tuple #[v, .int .i64 er, .int .i64 m]))) : Calls Tryd.prog 4 #[.string a, .string b] w fun e w' => e = .returned (.bool true) ∧ Below w.heap.size w w' := by
  have q0 : decide ((3000 : Int) < (a.size : Int)) = false := decide_eq_false (by omega)
  have q1 : decide ((3000 : Int) < (b.size : Int)) = false := decide_eq_false (by omega)
  have hmax : IntKind.i64.max = 9223372036854775807 := by decide
  have m1 : ¬ IntKind.i64.max < ((a.size + (⟨#[10]⟩ : ByteArray).size : Nat) : Int) := by rw [hmax, one_sz]; omega
  have m2 : ¬ IntKind.i64.max < (((a ++ ⟨#[10]⟩).size + b.size : Nat) : Int) := by rw [hmax, ByteArray.size_append, one_sz]; omega
  clear hmax
  have s9 : IntKind.i64.wrap ((a.size : Int) - 1) = (j : Int) := by have := HAJ.out; rw [IntWalk.i64_in _ (by omega)]; omega
  have s9' : (j : Int) < a.size := by have := HAJ.out; omega
  have s9'' : (0 : Int) ≤ j := by omega
  have eb0 := byte_at hc0 (by have := HAJ.out; omega)
  have f92 : ((c0.toNat : Int) == 92) = false := beq_false_of_ne (fun h => h92 (UInt8.toNat_inj.1 (show c0.toNat = 92 by omega)))
  skip
  have hL : Kn [] w w [] := Kn.refl [] w; (try simp only [kfb] at hL); have hF := hL.facts; (try simp only [Facts, Dist, kfa, implies_true, forall_const] at hF); go_enter Tryd.func4, Tryd.ntmps4
  go_wp2_with (first | ((with_reducible refine kn_list_set ?_); (try clear hF); clear hL; intro W hL; (try simp only [kfb] at hL); have hF := hL.facts; (try simp only [Facts, Dist, kfa, implies_true, forall_const] at hF)) | (go_at_call 7; refine kn_calls ?_; (try clear hF); clear hL; intro W hL; (try simp only [kfb] at hL); have hF := hL.facts; (try simp only [Facts, Dist, kfa, implies_true, forall_const] at hF); (((with_reducible refine (HS.out _).mono ?_))); rintro e W ⟨rfl, hb⟩; replace hL := hL.below hb; clear hb; (try clear hF); (try simp only [kfb] at hL); have hF := hL.facts; (try simp only [Facts, Dist, kfa, implies_true, forall_const] at hF)) | (go_at_call 9; (((with_reducible refine (HX0.out _).mono ?_))); rintro e W ⟨hb, rfl⟩; (try replace hT0 := hT0.ext hb); (try replace hT1 := hT1.ext hb); (try replace hT2 := hT2.ext hb); (try replace hT3 := hT3.ext hb); (try replace hT4 := hT4.ext hb); (try replace hT5 := hT5.ext hb); (try replace hT6 := hT6.ext hb); (try replace hT7 := hT7.ext hb); replace hL := hL.below hb; clear hb; (try clear hF); (try simp only [kfb] at hL); have hF := hL.facts; (try simp only [Facts, Dist, kfa, implies_true, forall_const] at hF)) | (go_at_call 9; (((with_reducible refine (HX1.out _).mono ?_))); rintro e W ⟨hb, v1, er1, mm1, rfl⟩; (try replace hT0 := hT0.ext hb); (try replace hT1 := hT1.ext hb); (try replace hT2 := hT2.ext hb); (try replace hT3 := hT3.ext hb); (try replace hT4 := hT4.ext hb); (try replace hT5 := hT5.ext hb); (try replace hT6 := hT6.ext hb); (try replace hT7 := hT7.ext hb); replace hL := hL.below hb; clear hb; (try clear hF); (try simp only [kfb] at hL); have hF := hL.facts; (try simp only [Facts, Dist, kfa, implies_true, forall_const] at hF)) | (go_at_call 9; (((with_reducible refine (HX2.out _).mono ?_))); rintro e W ⟨hb, v2, er2, mm2, rfl⟩; (try replace hT0 := hT0.ext hb); (try replace hT1 := hT1.ext hb); (try replace hT2 := hT2.ext hb); (try replace hT3 := hT3.ext hb); (try replace hT4 := hT4.ext hb); (try replace hT5 := hT5.ext hb); (try replace hT6 := hT6.ext hb); (try replace hT7 := hT7.ext hb); replace hL := hL.below hb; clear hb; (try clear hF); (try simp only [kfb] at hL); have hF := hL.facts; (try simp only [Facts, Dist, kfa, implies_true, forall_const] at hF)))
  (try simp only [Exit.inBlock, Exit.then]); refine bodyPost_ret (by simp [results, Tryd.results4, go_sem, *]; try rfl) rfl ?_
  exact ⟨rfl, hL.below0⟩

end Go.Proofs.YtflfaobbfhjmmaaDoor

namespace Go.Proofs.YtflfaobbfhjmmaaDoor
open Go Go.RowKit
set_option linter.unusedSimpArgs false
set_option linter.unusedVariables false
set_option maxRecDepth 20000 in
set_option maxHeartbeats 4000000 in
theorem joins_m0 (a b c : ByteArray) (hc : a ++ ⟨#[10]⟩ ++ b = c) (ha3 : a.size ≤ 3000) (hb3 : b.size ≤ 3000) (HS : Hid (∀ W, Calls Tryd.prog 7 #[] W fun e w' => e = .returned (.bool true) ∧ Below W.heap.size W w')) (w : World) (q3 : a.toList.isEmpty = true) (n0 nx m : Nat) (HN0 : Hid (n0 = nx + 1)) (hnx : nx ≤ 2000) (hm : m ≤ 9000) (ta : List Tok) (HTA : Hid (ta[nx]? = some (endT m))) (n1 : Nat) (tb : List Tok) (hmany : n0 + n1 > 2001) (hn1 : n1 ≤ 10000) (HX0 : Hid (∀ W, Calls Tryd.prog 9 #[.string a] W fun e w' => Below W.heap.size W w' ∧ ∃ g o cap, e = .returned (.tuple #[.slice (some ⟨g, o, none⟩) n0 cap, .int .i64 0, .int .i64 0]) ∧ n0 ≤ cap ∧ TokRow w' (.slice (some ⟨g, o, none⟩) n0 cap) (ta))) (HX1 : Hid (∀ W, Calls Tryd.prog 9 #[.string b] W fun e w' => Below W.heap.size W w' ∧ ∃ g o cap, e = .returned (.tuple #[.slice (some ⟨g, o, none⟩) n1 cap, .int .i64 0, .int .i64 0]) ∧ n1 ≤ cap ∧ TokRow w' (.slice (some ⟨g, o, none⟩) n1 cap) (tb))) (HX2 : Hid (∀ W, Calls Tryd.prog 9 #[.string c] W fun e w' => Below W.heap.size W w' ∧ ∃ (v : Value) (er m : Int), e = .returned (.tuple #[v, .int .i64 er, .int .i64 m]))) : Calls Tryd.prog 4 #[.string a, .string b] w fun e w' => e = .returned (.bool true) ∧ Below w.heap.size w w' := by
  have q0 : decide ((3000 : Int) < (a.size : Int)) = false := decide_eq_false (by omega)
  have q1 : decide ((3000 : Int) < (b.size : Int)) = false := decide_eq_false (by omega)
  have hmax : IntKind.i64.max = 9223372036854775807 := by decide
  have m1 : ¬ IntKind.i64.max < ((a.size + (⟨#[10]⟩ : ByteArray).size : Nat) : Int) := by rw [hmax, one_sz]; omega
  have m2 : ¬ IntKind.i64.max < (((a ++ ⟨#[10]⟩).size + b.size : Nat) : Int) := by rw [hmax, ByteArray.size_append, one_sz]; omega
  clear hmax
  have s1 : IntKind.i64.wrap ((n0 : Int) - 1) = (nx : Int) := by have := HN0.out; rw [IntWalk.i64_in _ (by omega)]; omega
  have s2 : ((n0 : Int) == 0) = false := by rw [beq_eq_false_iff_ne]; have := HN0.out; omega
  have s3 : (nx : Int) < n0 := by have := HN0.out; omega
  have s3' : (0 : Int) ≤ nx := by omega
  have s4 : IntKind.i64.wrap ((n0 : Int) + n1) = (n0 : Int) + n1 := by have := HN0.out; rw [IntWalk.i64_in _ (by omega)]
  have s5 : IntKind.i64.wrap ((n0 : Int) + n1 - 1) = (n0 : Int) + n1 - 1 := by have := HN0.out; rw [IntWalk.i64_in _ (by omega)]
  have s6 : (n0 : Int) + n1 - 1 > 2000 := by omega
  have hL : Kn [] w w [] := Kn.refl [] w; (try simp only [kfb] at hL); have hF := hL.facts; (try simp only [Facts, Dist, kfa, implies_true, forall_const] at hF); go_enter Tryd.func4, Tryd.ntmps4
  go_wp2_with (first | ((with_reducible refine kn_list_set ?_); (try clear hF); clear hL; intro W hL; (try simp only [kfb] at hL); have hF := hL.facts; (try simp only [Facts, Dist, kfa, implies_true, forall_const] at hF)) | (go_at_call 7; refine kn_calls ?_; (try clear hF); clear hL; intro W hL; (try simp only [kfb] at hL); have hF := hL.facts; (try simp only [Facts, Dist, kfa, implies_true, forall_const] at hF); (((with_reducible refine (HS.out _).mono ?_))); rintro e W ⟨rfl, hb⟩; replace hL := hL.below hb; clear hb; (try clear hF); (try simp only [kfb] at hL); have hF := hL.facts; (try simp only [Facts, Dist, kfa, implies_true, forall_const] at hF)) | (go_at_call 9; (((with_reducible refine (HX0.out _).mono ?_))); rintro e W ⟨hb, g0, o0, cap0, rfl, hcp0, hTn⟩; (try replace hT0 := hT0.ext hb); (try replace hT1 := hT1.ext hb); (try replace hT2 := hT2.ext hb); (try replace hT3 := hT3.ext hb); (try replace hT4 := hT4.ext hb); (try replace hT5 := hT5.ext hb); (try replace hT6 := hT6.ext hb); (try replace hT7 := hT7.ext hb); have hT0 := hTn; clear hTn; replace hL := hL.below hb; clear hb; (try clear hF); (try simp only [kfb] at hL); have hF := hL.facts; (try simp only [Facts, Dist, kfa, implies_true, forall_const] at hF)) | (go_at_call 9; (((with_reducible refine (HX1.out _).mono ?_))); rintro e W ⟨hb, g1, o1, cap1, rfl, hcp1, hTn⟩; (try replace hT0 := hT0.ext hb); (try replace hT1 := hT1.ext hb); (try replace hT2 := hT2.ext hb); (try replace hT3 := hT3.ext hb); (try replace hT4 := hT4.ext hb); (try replace hT5 := hT5.ext hb); (try replace hT6 := hT6.ext hb); (try replace hT7 := hT7.ext hb); have hT1 := hTn; clear hTn; replace hL := hL.below hb; clear hb; (try clear hF); (try simp only [kfb] at hL); have hF := hL.facts; (try simp only [Facts, Dist, kfa, implies_true, forall_const] at hF)) | (go_at_call 9; (((with_reducible refine (HX2.out _).mono ?_))); rintro e W ⟨hb, v2, er2, mm2, rfl⟩; (try replace hT0 := hT0.ext hb); (try replace hT1 := hT1.ext hb); (try replace hT2 := hT2.ext hb); (try replace hT3 := hT3.ext hb); (try replace hT4 := hT4.ext hb); (try replace hT5 := hT5.ext hb); (try replace hT6 := hT6.ext hb); (try replace hT7 := hT7.ext hb); replace hL := hL.below hb; clear hb; (try clear hF); (try simp only [kfb] at hL); have hF := hL.facts; (try simp only [Facts, Dist, kfa, implies_true, forall_const] at hF); have hxl := (tok_line hT0 HTA.out).1; simp only [endT] at hxl))
  (try simp only [Exit.inBlock, Exit.then]); refine bodyPost_ret (by simp [results, Tryd.results4, go_sem, *]; try rfl) rfl ?_
  exact ⟨rfl, hL.below0⟩
set_option maxRecDepth 20000 in
set_option maxHeartbeats 4000000 in
theorem joins_b0 (a b c : ByteArray) (hc : a ++ ⟨#[10]⟩ ++ b = c) (ha3 : a.size ≤ 3000) (hb3 : b.size ≤ 3000) (HS : Hid (∀ W, Calls Tryd.prog 7 #[] W fun e w' => e = .returned (.bool true) ∧ Below W.heap.size W w')) (w : World) (q3 : a.toList.isEmpty = true) (n0 nx m : Nat) (HN0 : Hid (n0 = nx + 1)) (hnx : nx ≤ 2000) (hm : m ≤ 9000) (ta : List Tok) (HTA : Hid (ta[nx]? = some (endT m))) (er : Int) (her : (er != 0) = true) (mb : Nat) (hmb : mb ≤ 9000) (HX0 : Hid (∀ W, Calls Tryd.prog 9 #[.string a] W fun e w' => Below W.heap.size W w' ∧ ∃ g o cap, e = .returned (.tuple #[.slice (some ⟨g, o, none⟩) n0 cap, .int .i64 0, .int .i64 0]) ∧ n0 ≤ cap ∧ TokRow w' (.slice (some ⟨g, o, none⟩) n0 cap) (ta))) (HX1 : Hid (∀ W, Calls Tryd.prog 9 #[.string b] W fun e w' => Below W.heap.size W w' ∧ e = .returned (.tuple #[.slice none 0 0, .int .i64 er, .int .i64 (mb : Int)]))) (HX2 : Hid (∀ W, Calls Tryd.prog 9 #[.string c] W fun e w' => Below W.heap.size W w' ∧ e = .returned (.tuple #[.slice none 0 0, .int .i64 er, .int .i64 ((mb : Int) + m)]))) : Calls Tryd.prog 4 #[.string a, .string b] w fun e w' => e = .returned (.bool true) ∧ Below w.heap.size w w' := by
  have q0 : decide ((3000 : Int) < (a.size : Int)) = false := decide_eq_false (by omega)
  have q1 : decide ((3000 : Int) < (b.size : Int)) = false := decide_eq_false (by omega)
  have hmax : IntKind.i64.max = 9223372036854775807 := by decide
  have m1 : ¬ IntKind.i64.max < ((a.size + (⟨#[10]⟩ : ByteArray).size : Nat) : Int) := by rw [hmax, one_sz]; omega
  have m2 : ¬ IntKind.i64.max < (((a ++ ⟨#[10]⟩).size + b.size : Nat) : Int) := by rw [hmax, ByteArray.size_append, one_sz]; omega
  clear hmax
  have s1 : IntKind.i64.wrap ((n0 : Int) - 1) = (nx : Int) := by have := HN0.out; rw [IntWalk.i64_in _ (by omega)]; omega
  have s2 : ((n0 : Int) == 0) = false := by rw [beq_eq_false_iff_ne]; have := HN0.out; omega
  have s3 : (nx : Int) < n0 := by have := HN0.out; omega
  have s3' : (0 : Int) ≤ nx := by omega
  have s4 : IntKind.i64.wrap (n0 : Int) = (n0 : Int) := by have := HN0.out; rw [IntWalk.i64_in _ (by omega)]
  have s5 : decide ((2000 : Int) < (nx : Int)) = false := decide_eq_false (by omega)
  have s7 : IntKind.i64.wrap ((mb : Int) + m) = (mb : Int) + m := by rw [IntWalk.i64_in _ (by omega)]
  have hL : Kn [] w w [] := Kn.refl [] w; (try simp only [kfb] at hL); have hF := hL.facts; (try simp only [Facts, Dist, kfa, implies_true, forall_const] at hF); go_enter Tryd.func4, Tryd.ntmps4
  go_wp2_with (first | ((with_reducible refine kn_list_set ?_); (try clear hF); clear hL; intro W hL; (try simp only [kfb] at hL); have hF := hL.facts; (try simp only [Facts, Dist, kfa, implies_true, forall_const] at hF)) | (go_at_call 7; refine kn_calls ?_; (try clear hF); clear hL; intro W hL; (try simp only [kfb] at hL); have hF := hL.facts; (try simp only [Facts, Dist, kfa, implies_true, forall_const] at hF); (((with_reducible refine (HS.out _).mono ?_))); rintro e W ⟨rfl, hb⟩; replace hL := hL.below hb; clear hb; (try clear hF); (try simp only [kfb] at hL); have hF := hL.facts; (try simp only [Facts, Dist, kfa, implies_true, forall_const] at hF)) | (go_at_call 9; (((with_reducible refine (HX0.out _).mono ?_))); rintro e W ⟨hb, g0, o0, cap0, rfl, hcp0, hTn⟩; (try replace hT0 := hT0.ext hb); (try replace hT1 := hT1.ext hb); (try replace hT2 := hT2.ext hb); (try replace hT3 := hT3.ext hb); (try replace hT4 := hT4.ext hb); (try replace hT5 := hT5.ext hb); (try replace hT6 := hT6.ext hb); (try replace hT7 := hT7.ext hb); have hT0 := hTn; clear hTn; replace hL := hL.below hb; clear hb; (try clear hF); (try simp only [kfb] at hL); have hF := hL.facts; (try simp only [Facts, Dist, kfa, implies_true, forall_const] at hF)) | (go_at_call 9; (((with_reducible refine (HX1.out _).mono ?_))); rintro e W ⟨hb, rfl⟩; (try replace hT0 := hT0.ext hb); (try replace hT1 := hT1.ext hb); (try replace hT2 := hT2.ext hb); (try replace hT3 := hT3.ext hb); (try replace hT4 := hT4.ext hb); (try replace hT5 := hT5.ext hb); (try replace hT6 := hT6.ext hb); (try replace hT7 := hT7.ext hb); replace hL := hL.below hb; clear hb; (try clear hF); (try simp only [kfb] at hL); have hF := hL.facts; (try simp only [Facts, Dist, kfa, implies_true, forall_const] at hF)) | (go_at_call 9; (((with_reducible refine (HX2.out _).mono ?_))); rintro e W ⟨hb, rfl⟩; (try replace hT0 := hT0.ext hb); (try replace hT1 := hT1.ext hb); (try replace hT2 := hT2.ext hb); (try replace hT3 := hT3.ext hb); (try replace hT4 := hT4.ext hb); (try replace hT5 := hT5.ext hb); (try replace hT6 := hT6.ext hb); (try replace hT7 := hT7.ext hb); replace hL := hL.below hb; clear hb; (try clear hF); (try simp only [kfb] at hL); have hF := hL.facts; (try simp only [Facts, Dist, kfa, implies_true, forall_const] at hF); have hxl := (tok_line hT0 HTA.out).1; simp only [endT] at hxl))
  (try simp only [Exit.inBlock, Exit.then]); refine bodyPost_ret (by simp [results, Tryd.results4, go_sem, *]; try rfl) rfl ?_
  exact ⟨rfl, hL.below0⟩
set_option maxRecDepth 20000 in
set_option maxHeartbeats 4000000 in
theorem joins_cff0 (a b c : ByteArray) (hc : a ++ ⟨#[10]⟩ ++ b = c) (ha3 : a.size ≤ 3000) (hb3 : b.size ≤ 3000) (HS : Hid (∀ W, Calls Tryd.prog 7 #[] W fun e w' => e = .returned (.bool true) ∧ Below W.heap.size W w')) (w : World) (q3 : a.toList.isEmpty = true) (n0 nx m : Nat) (HN0 : Hid (n0 = nx + 1)) (hnx : nx ≤ 2000) (hm : m ≤ 9000) (ta : List Tok) (HTA : Hid (ta[nx]? = some (endT m))) (er : Int) (her : (er != 0) = true) (mb : Nat) (hmb : mb ≤ 9000) (hmany : 2000 ≤ nx + b.size) (er2 m2 : Int) (e1 : (er2 == er) = false) (HX0 : Hid (∀ W, Calls Tryd.prog 9 #[.string a] W fun e w' => Below W.heap.size W w' ∧ ∃ g o cap, e = .returned (.tuple #[.slice (some ⟨g, o, none⟩) n0 cap, .int .i64 0, .int .i64 0]) ∧ n0 ≤ cap ∧ TokRow w' (.slice (some ⟨g, o, none⟩) n0 cap) (ta))) (HX1 : Hid (∀ W, Calls Tryd.prog 9 #[.string b] W fun e w' => Below W.heap.size W w' ∧ e = .returned (.tuple #[.slice none 0 0, .int .i64 er, .int .i64 (mb : Int)]))) (HX2 : Hid (∀ W, Calls Tryd.prog 9 #[.string c] W fun e w' => Below W.heap.size W w' ∧ ∃ v, e = .returned (.tuple #[v, .int .i64 er2, .int .i64 m2]))) : Calls Tryd.prog 4 #[.string a, .string b] w fun e w' => e = .returned (.bool true) ∧ Below w.heap.size w w' := by
  have q0 : decide ((3000 : Int) < (a.size : Int)) = false := decide_eq_false (by omega)
  have q1 : decide ((3000 : Int) < (b.size : Int)) = false := decide_eq_false (by omega)
  have hmax : IntKind.i64.max = 9223372036854775807 := by decide
  have m1 : ¬ IntKind.i64.max < ((a.size + (⟨#[10]⟩ : ByteArray).size : Nat) : Int) := by rw [hmax, one_sz]; omega
  have m2 : ¬ IntKind.i64.max < (((a ++ ⟨#[10]⟩).size + b.size : Nat) : Int) := by rw [hmax, ByteArray.size_append, one_sz]; omega
  clear hmax
  have s1 : IntKind.i64.wrap ((n0 : Int) - 1) = (nx : Int) := by have := HN0.out; rw [IntWalk.i64_in _ (by omega)]; omega
  have s2 : ((n0 : Int) == 0) = false := by rw [beq_eq_false_iff_ne]; have := HN0.out; omega
  have s3 : (nx : Int) < n0 := by have := HN0.out; omega
  have s3' : (0 : Int) ≤ nx := by omega
  have s4 : IntKind.i64.wrap (n0 : Int) = (n0 : Int) := by have := HN0.out; rw [IntWalk.i64_in _ (by omega)]
  have s5 : decide ((2000 : Int) < (nx : Int)) = false := decide_eq_false (by omega)
  have s7 : IntKind.i64.wrap ((mb : Int) + m) = (mb : Int) + m := by rw [IntWalk.i64_in _ (by omega)]
  have s8 : IntKind.i64.wrap ((nx : Int) + b.size) = (nx : Int) + b.size := by rw [IntWalk.i64_in _ (by omega)]
  have s10 : decide ((2000 : Int) ≤ (nx : Int) + b.size) = true := decide_eq_true (by omega)
  have hL : Kn [] w w [] := Kn.refl [] w; (try simp only [kfb] at hL); have hF := hL.facts; (try simp only [Facts, Dist, kfa, implies_true, forall_const] at hF); go_enter Tryd.func4, Tryd.ntmps4
  go_wp2_with (first | ((with_reducible refine kn_list_set ?_); (try clear hF); clear hL; intro W hL; (try simp only [kfb] at hL); have hF := hL.facts; (try simp only [Facts, Dist, kfa, implies_true, forall_const] at hF)) | (go_at_call 7; refine kn_calls ?_; (try clear hF); clear hL; intro W hL; (try simp only [kfb] at hL); have hF := hL.facts; (try simp only [Facts, Dist, kfa, implies_true, forall_const] at hF); (((with_reducible refine (HS.out _).mono ?_))); rintro e W ⟨rfl, hb⟩; replace hL := hL.below hb; clear hb; (try clear hF); (try simp only [kfb] at hL); have hF := hL.facts; (try simp only [Facts, Dist, kfa, implies_true, forall_const] at hF)) | (go_at_call 9; (((with_reducible refine (HX0.out _).mono ?_))); rintro e W ⟨hb, g0, o0, cap0, rfl, hcp0, hTn⟩; (try replace hT0 := hT0.ext hb); (try replace hT1 := hT1.ext hb); (try replace hT2 := hT2.ext hb); (try replace hT3 := hT3.ext hb); (try replace hT4 := hT4.ext hb); (try replace hT5 := hT5.ext hb); (try replace hT6 := hT6.ext hb); (try replace hT7 := hT7.ext hb); have hT0 := hTn; clear hTn; replace hL := hL.below hb; clear hb; (try clear hF); (try simp only [kfb] at hL); have hF := hL.facts; (try simp only [Facts, Dist, kfa, implies_true, forall_const] at hF)) | (go_at_call 9; (((with_reducible refine (HX1.out _).mono ?_))); rintro e W ⟨hb, rfl⟩; (try replace hT0 := hT0.ext hb); (try replace hT1 := hT1.ext hb); (try replace hT2 := hT2.ext hb); (try replace hT3 := hT3.ext hb); (try replace hT4 := hT4.ext hb); (try replace hT5 := hT5.ext hb); (try replace hT6 := hT6.ext hb); (try replace hT7 := hT7.ext hb); replace hL := hL.below hb; clear hb; (try clear hF); (try simp only [kfb] at hL); have hF := hL.facts; (try simp only [Facts, Dist, kfa, implies_true, forall_const] at hF)) | (go_at_call 9; (((with_reducible refine (HX2.out _).mono ?_))); rintro e W ⟨hb, v2, rfl⟩; (try replace hT0 := hT0.ext hb); (try replace hT1 := hT1.ext hb); (try replace hT2 := hT2.ext hb); (try replace hT3 := hT3.ext hb); (try replace hT4 := hT4.ext hb); (try replace hT5 := hT5.ext hb); (try replace hT6 := hT6.ext hb); (try replace hT7 := hT7.ext hb); replace hL := hL.below hb; clear hb; (try clear hF); (try simp only [kfb] at hL); have hF := hL.facts; (try simp only [Facts, Dist, kfa, implies_true, forall_const] at hF); have hxl := (tok_line hT0 HTA.out).1; simp only [endT] at hxl))
  (try simp only [Exit.inBlock, Exit.then]); refine bodyPost_ret (by simp [results, Tryd.results4, go_sem, *]; try rfl) rfl ?_
  exact ⟨rfl, hL.below0⟩
set_option maxRecDepth 20000 in
set_option maxHeartbeats 4000000 in
theorem joins_ctf0 (a b c : ByteArray) (hc : a ++ ⟨#[10]⟩ ++ b = c) (ha3 : a.size ≤ 3000) (hb3 : b.size ≤ 3000) (HS : Hid (∀ W, Calls Tryd.prog 7 #[] W fun e w' => e = .returned (.bool true) ∧ Below W.heap.size W w')) (w : World) (q3 : a.toList.isEmpty = true) (n0 nx m : Nat) (HN0 : Hid (n0 = nx + 1)) (hnx : nx ≤ 2000) (hm : m ≤ 9000) (ta : List Tok) (HTA : Hid (ta[nx]? = some (endT m))) (er : Int) (her : (er != 0) = true) (mb : Nat) (hmb : mb ≤ 9000) (hmany : 2000 ≤ nx + b.size) (m2 : Int) (e2 : (m2 == (mb : Int) + m) = false) (HX0 : Hid (∀ W, Calls Tryd.prog 9 #[.string a] W fun e w' => Below W.heap.size W w' ∧ ∃ g o cap, e = .returned (.tuple #[.slice (some ⟨g, o, none⟩) n0 cap, .int .i64 0, .int .i64 0]) ∧ n0 ≤ cap ∧ TokRow w' (.slice (some ⟨g, o, none⟩) n0 cap) (ta))) (HX1 : Hid (∀ W, Calls Tryd.prog 9 #[.string b] W fun e w' => Below W.heap.size W w' ∧ e = .returned (.tuple #[.slice none 0 0, .int .i64 er, .int .i64 (mb : Int)]))) (HX2 : Hid (∀ W, Calls Tryd.prog 9 #[.string c] W fun e w' => Below W.heap.size W w' ∧ ∃ v, e = .returned (.tuple #[v, .int .i64 er, .int .i64 m2]))) : Calls Tryd.prog 4 #[.string a, .string b] w fun e w' => e = .returned (.bool true) ∧ Below w.heap.size w w' := by
  have q0 : decide ((3000 : Int) < (a.size : Int)) = false := decide_eq_false (by omega)
  have q1 : decide ((3000 : Int) < (b.size : Int)) = false := decide_eq_false (by omega)
  have hmax : IntKind.i64.max = 9223372036854775807 := by decide
  have m1 : ¬ IntKind.i64.max < ((a.size + (⟨#[10]⟩ : ByteArray).size : Nat) : Int) := by rw [hmax, one_sz]; omega
  have m2 : ¬ IntKind.i64.max < (((a ++ ⟨#[10]⟩).size + b.size : Nat) : Int) := by rw [hmax, ByteArray.size_append, one_sz]; omega
  clear hmax
  have s1 : IntKind.i64.wrap ((n0 : Int) - 1) = (nx : Int) := by have := HN0.out; rw [IntWalk.i64_in _ (by omega)]; omega
  have s2 : ((n0 : Int) == 0) = false := by rw [beq_eq_false_iff_ne]; have := HN0.out; omega
  have s3 : (nx : Int) < n0 := by have := HN0.out; omega
  have s3' : (0 : Int) ≤ nx := by omega
  have s4 : IntKind.i64.wrap (n0 : Int) = (n0 : Int) := by have := HN0.out; rw [IntWalk.i64_in _ (by omega)]
  have s5 : decide ((2000 : Int) < (nx : Int)) = false := decide_eq_false (by omega)
  have s7 : IntKind.i64.wrap ((mb : Int) + m) = (mb : Int) + m := by rw [IntWalk.i64_in _ (by omega)]
  have s8 : IntKind.i64.wrap ((nx : Int) + b.size) = (nx : Int) + b.size := by rw [IntWalk.i64_in _ (by omega)]
  have s10 : decide ((2000 : Int) ≤ (nx : Int) + b.size) = true := decide_eq_true (by omega)
  have hL : Kn [] w w [] := Kn.refl [] w; (try simp only [kfb] at hL); have hF := hL.facts; (try simp only [Facts, Dist, kfa, implies_true, forall_const] at hF); go_enter Tryd.func4, Tryd.ntmps4
  go_wp2_with (first | ((with_reducible refine kn_list_set ?_); (try clear hF); clear hL; intro W hL; (try simp only [kfb] at hL); have hF := hL.facts; (try simp only [Facts, Dist, kfa, implies_true, forall_const] at hF)) | (go_at_call 7; refine kn_calls ?_; (try clear hF); clear hL; intro W hL; (try simp only [kfb] at hL); have hF := hL.facts; (try simp only [Facts, Dist, kfa, implies_true, forall_const] at hF); (((with_reducible refine (HS.out _).mono ?_))); rintro e W ⟨rfl, hb⟩; replace hL := hL.below hb; clear hb; (try clear hF); (try simp only [kfb] at hL); have hF := hL.facts; (try simp only [Facts, Dist, kfa, implies_true, forall_const] at hF)) | (go_at_call 9; (((with_reducible refine (HX0.out _).mono ?_))); rintro e W ⟨hb, g0, o0, cap0, rfl, hcp0, hTn⟩; (try replace hT0 := hT0.ext hb); (try replace hT1 := hT1.ext hb); (try replace hT2 := hT2.ext hb); (try replace hT3 := hT3.ext hb); (try replace hT4 := hT4.ext hb); (try replace hT5 := hT5.ext hb); (try replace hT6 := hT6.ext hb); (try replace hT7 := hT7.ext hb); have hT0 := hTn; clear hTn; replace hL := hL.below hb; clear hb; (try clear hF); (try simp only [kfb] at hL); have hF := hL.facts; (try simp only [Facts, Dist, kfa, implies_true, forall_const] at hF)) | (go_at_call 9; (((with_reducible refine (HX1.out _).mono ?_))); rintro e W ⟨hb, rfl⟩; (try replace hT0 := hT0.ext hb); (try replace hT1 := hT1.ext hb); (try replace hT2 := hT2.ext hb); (try replace hT3 := hT3.ext hb); (try replace hT4 := hT4.ext hb); (try replace hT5 := hT5.ext hb); (try replace hT6 := hT6.ext hb); (try replace hT7 := hT7.ext hb); replace hL := hL.below hb; clear hb; (try clear hF); (try simp only [kfb] at hL); have hF := hL.facts; (try simp only [Facts, Dist, kfa, implies_true, forall_const] at hF)) | (go_at_call 9; (((with_reducible refine (HX2.out _).mono ?_))); rintro e W ⟨hb, v2, rfl⟩; (try replace hT0 := hT0.ext hb); (try replace hT1 := hT1.ext hb); (try replace hT2 := hT2.ext hb); (try replace hT3 := hT3.ext hb); (try replace hT4 := hT4.ext hb); (try replace hT5 := hT5.ext hb); (try replace hT6 := hT6.ext hb); (try replace hT7 := hT7.ext hb); replace hL := hL.below hb; clear hb; (try clear hF); (try simp only [kfb] at hL); have hF := hL.facts; (try simp only [Facts, Dist, kfa, implies_true, forall_const] at hF); have hxl := (tok_line hT0 HTA.out).1; simp only [endT] at hxl))
  (try simp only [Exit.inBlock, Exit.then]); refine bodyPost_ret (by simp [results, Tryd.results4, go_sem, *]; try rfl) rfl ?_
  exact ⟨rfl, hL.below0⟩
set_option maxRecDepth 20000 in
set_option maxHeartbeats 4000000 in
theorem joins_ctt0 (a b c : ByteArray) (hc : a ++ ⟨#[10]⟩ ++ b = c) (ha3 : a.size ≤ 3000) (hb3 : b.size ≤ 3000) (HS : Hid (∀ W, Calls Tryd.prog 7 #[] W fun e w' => e = .returned (.bool true) ∧ Below W.heap.size W w')) (w : World) (q3 : a.toList.isEmpty = true) (n0 nx m : Nat) (HN0 : Hid (n0 = nx + 1)) (hnx : nx ≤ 2000) (hm : m ≤ 9000) (ta : List Tok) (HTA : Hid (ta[nx]? = some (endT m))) (er : Int) (her : (er != 0) = true) (mb : Nat) (hmb : mb ≤ 9000) (hmany : 2000 ≤ nx + b.size)   (HX0 : Hid (∀ W, Calls Tryd.prog 9 #[.string a] W fun e w' => Below W.heap.size W w' ∧ ∃ g o cap, e = .returned (.tuple #[.slice (some ⟨g, o, none⟩) n0 cap, .int .i64 0, .int .i64 0]) ∧ n0 ≤ cap ∧ TokRow w' (.slice (some ⟨g, o, none⟩) n0 cap) (ta))) (HX1 : Hid (∀ W, Calls Tryd.prog 9 #[.string b] W fun e w' => Below W.heap.size W w' ∧ e = .returned (.tuple #[.slice none 0 0, .int .i64 er, .int .i64 (mb : Int)]))) (HX2 : Hid (∀ W, Calls Tryd.prog 9 #[.string c] W fun e w' => Below W.heap.size W w' ∧ ∃ v, e = .returned (.tuple #[v, .int .i64 er, .int .i64 ((mb : Int) + m)]))) : Calls Tryd.prog 4 #[.string a, .string b] w fun e w' => e = .returned (.bool true) ∧ Below w.heap.size w w' := by
  have q0 : decide ((3000 : Int) < (a.size : Int)) = false := decide_eq_false (by omega)
  have q1 : decide ((3000 : Int) < (b.size : Int)) = false := decide_eq_false (by omega)
  have hmax : IntKind.i64.max = 9223372036854775807 := by decide
  have m1 : ¬ IntKind.i64.max < ((a.size + (⟨#[10]⟩ : ByteArray).size : Nat) : Int) := by rw [hmax, one_sz]; omega
  have m2 : ¬ IntKind.i64.max < (((a ++ ⟨#[10]⟩).size + b.size : Nat) : Int) := by rw [hmax, ByteArray.size_append, one_sz]; omega
  clear hmax
  have s1 : IntKind.i64.wrap ((n0 : Int) - 1) = (nx : Int) := by have := HN0.out; rw [IntWalk.i64_in _ (by omega)]; omega
  have s2 : ((n0 : Int) == 0) = false := by rw [beq_eq_false_iff_ne]; have := HN0.out; omega
  have s3 : (nx : Int) < n0 := by have := HN0.out; omega
  have s3' : (0 : Int) ≤ nx := by omega
  have s4 : IntKind.i64.wrap (n0 : Int) = (n0 : Int) := by have := HN0.out; rw [IntWalk.i64_in _ (by omega)]
  have s5 : decide ((2000 : Int) < (nx : Int)) = false := decide_eq_false (by omega)
  have s7 : IntKind.i64.wrap ((mb : Int) + m) = (mb : Int) + m := by rw [IntWalk.i64_in _ (by omega)]
  have s8 : IntKind.i64.wrap ((nx : Int) + b.size) = (nx : Int) + b.size := by rw [IntWalk.i64_in _ (by omega)]
  have s10 : decide ((2000 : Int) ≤ (nx : Int) + b.size) = true := decide_eq_true (by omega)
  have hL : Kn [] w w [] := Kn.refl [] w; (try simp only [kfb] at hL); have hF := hL.facts; (try simp only [Facts, Dist, kfa, implies_true, forall_const] at hF); go_enter Tryd.func4, Tryd.ntmps4
  go_wp2_with (first | ((with_reducible refine kn_list_set ?_); (try clear hF); clear hL; intro W hL; (try simp only [kfb] at hL); have hF := hL.facts; (try simp only [Facts, Dist, kfa, implies_true, forall_const] at hF)) | (go_at_call 7; refine kn_calls ?_; (try clear hF); clear hL; intro W hL; (try simp only [kfb] at hL); have hF := hL.facts; (try simp only [Facts, Dist, kfa, implies_true, forall_const] at hF); (((with_reducible refine (HS.out _).mono ?_))); rintro e W ⟨rfl, hb⟩; replace hL := hL.below hb; clear hb; (try clear hF); (try simp only [kfb] at hL); have hF := hL.facts; (try simp only [Facts, Dist, kfa, implies_true, forall_const] at hF)) | (go_at_call 9; (((with_reducible refine (HX0.out _).mono ?_))); rintro e W ⟨hb, g0, o0, cap0, rfl, hcp0, hTn⟩; (try replace hT0 := hT0.ext hb); (try replace hT1 := hT1.ext hb); (try replace hT2 := hT2.ext hb); (try replace hT3 := hT3.ext hb); (try replace hT4 := hT4.ext hb); (try replace hT5 := hT5.ext hb); (try replace hT6 := hT6.ext hb); (try replace hT7 := hT7.ext hb); have hT0 := hTn; clear hTn; replace hL := hL.below hb; clear hb; (try clear hF); (try simp only [kfb] at hL); have hF := hL.facts; (try simp only [Facts, Dist, kfa, implies_true, forall_const] at hF)) | (go_at_call 9; (((with_reducible refine (HX1.out _).mono ?_))); rintro e W ⟨hb, rfl⟩; (try replace hT0 := hT0.ext hb); (try replace hT1 := hT1.ext hb); (try replace hT2 := hT2.ext hb); (try replace hT3 := hT3.ext hb); (try replace hT4 := hT4.ext hb); (try replace hT5 := hT5.ext hb); (try replace hT6 := hT6.ext hb); (try replace hT7 := hT7.ext hb); replace hL := hL.below hb; clear hb; (try clear hF); (try simp only [kfb] at hL); have hF := hL.facts; (try simp only [Facts, Dist, kfa, implies_true, forall_const] at hF)) | (go_at_call 9; (((with_reducible refine (HX2.out _).mono ?_))); rintro e W ⟨hb, v2, rfl⟩; (try replace hT0 := hT0.ext hb); (try replace hT1 := hT1.ext hb); (try replace hT2 := hT2.ext hb); (try replace hT3 := hT3.ext hb); (try replace hT4 := hT4.ext hb); (try replace hT5 := hT5.ext hb); (try replace hT6 := hT6.ext hb); (try replace hT7 := hT7.ext hb); replace hL := hL.below hb; clear hb; (try clear hF); (try simp only [kfb] at hL); have hF := hL.facts; (try simp only [Facts, Dist, kfa, implies_true, forall_const] at hF); have hxl := (tok_line hT0 HTA.out).1; simp only [endT] at hxl))
  (try simp only [Exit.inBlock, Exit.then]); refine bodyPost_ret (by simp [results, Tryd.results4, go_sem, *]; try rfl) rfl ?_
  exact ⟨rfl, hL.below0⟩
theorem joins_c0 (a b c : ByteArray) (hc : a ++ ⟨#[10]⟩ ++ b = c) (ha3 : a.size ≤ 3000) (hb3 : b.size ≤ 3000) (HS : Hid (∀ W, Calls Tryd.prog 7 #[] W fun e w' => e = .returned (.bool true) ∧ Below W.heap.size W w')) (w : World) (q3 : a.toList.isEmpty = true) (n0 nx m : Nat) (HN0 : Hid (n0 = nx + 1)) (hnx : nx ≤ 2000) (hm : m ≤ 9000) (ta : List Tok) (HTA : Hid (ta[nx]? = some (endT m))) (er : Int) (her : (er != 0) = true) (mb : Nat) (hmb : mb ≤ 9000) (hmany : 2000 ≤ nx + b.size) (er2 m2 : Int) (HX0 : Hid (∀ W, Calls Tryd.prog 9 #[.string a] W fun e w' => Below W.heap.size W w' ∧ ∃ g o cap, e = .returned (.tuple #[.slice (some ⟨g, o, none⟩) n0 cap, .int .i64 0, .int .i64 0]) ∧ n0 ≤ cap ∧ TokRow w' (.slice (some ⟨g, o, none⟩) n0 cap) (ta))) (HX1 : Hid (∀ W, Calls Tryd.prog 9 #[.string b] W fun e w' => Below W.heap.size W w' ∧ e = .returned (.tuple #[.slice none 0 0, .int .i64 er, .int .i64 (mb : Int)]))) (HX2 : Hid (∀ W, Calls Tryd.prog 9 #[.string c] W fun e w' => Below W.heap.size W w' ∧ ∃ v, e = .returned (.tuple #[v, .int .i64 er2, .int .i64 m2]))) : Calls Tryd.prog 4 #[.string a, .string b] w fun e w' => e = .returned (.bool true) ∧ Below w.heap.size w w' := by
  cases e1 : (er2 == er) with
  | false => exact joins_cff0 a b c hc ha3 hb3 HS w q3 n0 nx m HN0 hnx hm ta HTA er her mb hmb hmany er2 m2 e1 HX0 HX1 HX2
  | true =>
    obtain rfl : er2 = er := by simpa using e1
    cases e2 : (m2 == (mb : Int) + m) with
    | false => exact joins_ctf0 a b c hc ha3 hb3 HS w q3 n0 nx m HN0 hnx hm ta HTA er2 her mb hmb hmany m2 e2 HX0 HX1 HX2
    | true =>
      obtain rfl : m2 = (mb : Int) + m := by simpa using e2
      exact joins_ctt0 a b c hc ha3 hb3 HS w q3 n0 nx m HN0 hnx hm ta HTA er2 her mb hmb hmany HX0 HX1 HX2

end Go.Proofs.YtflfaobbfhjmmaaDoor

namespace Go.Proofs.YtflfaobbfhjmmaaDoor
open Go Go.RowKit
set_option linter.unusedSimpArgs false
set_option linter.unusedVariables false
set_option maxRecDepth 20000 in
set_option maxHeartbeats 4000000 in
theorem joins_m1 (a b c : ByteArray) (hc : a ++ ⟨#[10]⟩ ++ b = c) (ha3 : a.size ≤ 3000) (hb3 : b.size ≤ 3000) (HS : Hid (∀ W, Calls Tryd.prog 7 #[] W fun e w' => e = .returned (.bool true) ∧ Below W.heap.size W w')) (w : World) (j : Nat) (HAJ : Hid (a.size = j + 1)) (q3 : a.toList.isEmpty = false) (c0 : UInt8) (hc0 : a.data.toList[j]? = some c0) (h92 : c0 ≠ 92) (n0 nx m : Nat) (HN0 : Hid (n0 = nx + 1)) (hnx : nx ≤ 2000) (hm : m ≤ 9000) (ta : List Tok) (HTA : Hid (ta[nx]? = some (endT m))) (n1 : Nat) (tb : List Tok) (hmany : n0 + n1 > 2001) (hn1 : n1 ≤ 10000) (HX0 : Hid (∀ W, Calls Tryd.prog 9 #[.string a] W fun e w' => Below W.heap.size W w' ∧ ∃ g o cap, e = .returned (.tuple #[.slice (some ⟨g, o, none⟩) n0 cap, .int .i64 0, .int .i64 0]) ∧ n0 ≤ cap ∧ TokRow w' (.slice (some ⟨g, o, none⟩) n0 cap) (ta))) (HX1 : Hid (∀ W, Calls Tryd.prog 9 #[.string b] W fun e w' => Below W.heap.size W w' ∧ ∃ g o cap, e = .returned (.tuple #[.slice (some ⟨g, o, none⟩) n1 cap, .int .i64 0, .int .i64 0]) ∧ n1 ≤ cap ∧ TokRow w' (.slice (some ⟨g, o, none⟩) n1 cap) (tb))) (HX2 : Hid (∀ W, Calls Tryd.prog 9 #[.string c] W fun e w' => Below W.heap.size W w' ∧ ∃ (v : Value) (er m : Int), e = .returned (.tuple #[v, .int .i64 er, .int .i64 m]))) : Calls Tryd.prog 4 #[.string a, .string b] w fun e w' => e = .returned (.bool true) ∧ Below w.heap.size w w' := by
  have q0 : decide ((3000 : Int) < (a.size : Int)) = false := decide_eq_false (by omega)
  have q1 : decide ((3000 : Int) < (b.size : Int)) = false := decide_eq_false (by omega)
  have hmax : IntKind.i64.max = 9223372036854775807 := by decide
  have m1 : ¬ IntKind.i64.max < ((a.size + (⟨#[10]⟩ : ByteArray).size : Nat) : Int) := by rw [hmax, one_sz]; omega
  have m2 : ¬ IntKind.i64.max < (((a ++ ⟨#[10]⟩).size + b.size : Nat) : Int) := by rw [hmax, ByteArray.size_append, one_sz]; omega
  clear hmax
  have s9 : IntKind.i64.wrap ((a.size : Int) - 1) = (j : Int) := by have := HAJ.out; rw [IntWalk.i64_in _ (by omega)]; omega
  have s9' : (j : Int) < a.size := by have := HAJ.out; omega
  have s9'' : (0 : Int) ≤ j := by omega
  have eb0 := byte_at hc0 (by have := HAJ.out; omega)
  have f92 : ((c0.toNat : Int) == 92) = false := beq_false_of_ne (fun h => h92 (UInt8.toNat_inj.1 (show c0.toNat = 92 by omega)))
  have s1 : IntKind.i64.wrap ((n0 : Int) - 1) = (nx : Int) := by have := HN0.out; rw [IntWalk.i64_in _ (by omega)]; omega
  have s2 : ((n0 : Int) == 0) = false := by rw [beq_eq_false_iff_ne]; have := HN0.out; omega
  have s3 : (nx : Int) < n0 := by have := HN0.out; omega
  have s3' : (0 : Int) ≤ nx := by omega
  have s4 : IntKind.i64.wrap ((n0 : Int) + n1) = (n0 : Int) + n1 := by have := HN0.out; rw [IntWalk.i64_in _ (by omega)]
  have s5 : IntKind.i64.wrap ((n0 : Int) + n1 - 1) = (n0 : Int) + n1 - 1 := by have := HN0.out; rw [IntWalk.i64_in _ (by omega)]
  have s6 : (n0 : Int) + n1 - 1 > 2000 := by omega
  have hL : Kn [] w w [] := Kn.refl [] w; (try simp only [kfb] at hL); have hF := hL.facts; (try simp only [Facts, Dist, kfa, implies_true, forall_const] at hF); go_enter Tryd.func4, Tryd.ntmps4
  go_wp2_with (first | ((with_reducible refine kn_list_set ?_); (try clear hF); clear hL; intro W hL; (try simp only [kfb] at hL); have hF := hL.facts; (try simp only [Facts, Dist, kfa, implies_true, forall_const] at hF)) | (go_at_call 7; refine kn_calls ?_; (try clear hF); clear hL; intro W hL; (try simp only [kfb] at hL); have hF := hL.facts; (try simp only [Facts, Dist, kfa, implies_true, forall_const] at hF); (((with_reducible refine (HS.out _).mono ?_))); rintro e W ⟨rfl, hb⟩; replace hL := hL.below hb; clear hb; (try clear hF); (try simp only [kfb] at hL); have hF := hL.facts; (try simp only [Facts, Dist, kfa, implies_true, forall_const] at hF)) | (go_at_call 9; (((with_reducible refine (HX0.out _).mono ?_))); rintro e W ⟨hb, g0, o0, cap0, rfl, hcp0, hTn⟩; (try replace hT0 := hT0.ext hb); (try replace hT1 := hT1.ext hb); (try replace hT2 := hT2.ext hb); (try replace hT3 := hT3.ext hb); (try replace hT4 := hT4.ext hb); (try replace hT5 := hT5.ext hb); (try replace hT6 := hT6.ext hb); (try replace hT7 := hT7.ext hb); have hT0 := hTn; clear hTn; replace hL := hL.below hb; clear hb; (try clear hF); (try simp only [kfb] at hL); have hF := hL.facts; (try simp only [Facts, Dist, kfa, implies_true, forall_const] at hF)) | (go_at_call 9; (((with_reducible refine (HX1.out _).mono ?_))); rintro e W ⟨hb, g1, o1, cap1, rfl, hcp1, hTn⟩; (try replace hT0 := hT0.ext hb); (try replace hT1 := hT1.ext hb); (try replace hT2 := hT2.ext hb); (try replace hT3 := hT3.ext hb); (try replace hT4 := hT4.ext hb); (try replace hT5 := hT5.ext hb); (try replace hT6 := hT6.ext hb); (try replace hT7 := hT7.ext hb); have hT1 := hTn; clear hTn; replace hL := hL.below hb; clear hb; (try clear hF); (try simp only [kfb] at hL); have hF := hL.facts; (try simp only [Facts, Dist, kfa, implies_true, forall_const] at hF)) | (go_at_call 9; (((with_reducible refine (HX2.out _).mono ?_))); rintro e W ⟨hb, v2, er2, mm2, rfl⟩; (try replace hT0 := hT0.ext hb); (try replace hT1 := hT1.ext hb); (try replace hT2 := hT2.ext hb); (try replace hT3 := hT3.ext hb); (try replace hT4 := hT4.ext hb); (try replace hT5 := hT5.ext hb); (try replace hT6 := hT6.ext hb); (try replace hT7 := hT7.ext hb); replace hL := hL.below hb; clear hb; (try clear hF); (try simp only [kfb] at hL); have hF := hL.facts; (try simp only [Facts, Dist, kfa, implies_true, forall_const] at hF); have hxl := (tok_line hT0 HTA.out).1; simp only [endT] at hxl))
  (try simp only [Exit.inBlock, Exit.then]); refine bodyPost_ret (by simp [results, Tryd.results4, go_sem, *]; try rfl) rfl ?_
  exact ⟨rfl, hL.below0⟩
set_option maxRecDepth 20000 in
set_option maxHeartbeats 4000000 in
theorem joins_b1 (a b c : ByteArray) (hc : a ++ ⟨#[10]⟩ ++ b = c) (ha3 : a.size ≤ 3000) (hb3 : b.size ≤ 3000) (HS : Hid (∀ W, Calls Tryd.prog 7 #[] W fun e w' => e = .returned (.bool true) ∧ Below W.heap.size W w')) (w : World) (j : Nat) (HAJ : Hid (a.size = j + 1)) (q3 : a.toList.isEmpty = false) (c0 : UInt8) (hc0 : a.data.toList[j]? = some c0) (h92 : c0 ≠ 92) (n0 nx m : Nat) (HN0 : Hid (n0 = nx + 1)) (hnx : nx ≤ 2000) (hm : m ≤ 9000) (ta : List Tok) (HTA : Hid (ta[nx]? = some (endT m))) (er : Int) (her : (er != 0) = true) (mb : Nat) (hmb : mb ≤ 9000) (HX0 : Hid (∀ W, Calls Tryd.prog 9 #[.string a] W fun e w' => Below W.heap.size W w' ∧ ∃ g o cap, e = .returned (.tuple #[.slice (some ⟨g, o, none⟩) n0 cap, .int .i64 0, .int .i64 0]) ∧ n0 ≤ cap ∧ TokRow w' (.slice (some ⟨g, o, none⟩) n0 cap) (ta))) (HX1 : Hid (∀ W, Calls Tryd.prog 9 #[.string b] W fun e w' => Below W.heap.size W w' ∧ e = .returned (.tuple #[.slice none 0 0, .int .i64 er, .int .i64 (mb : Int)]))) (HX2 : Hid (∀ W, Calls Tryd.prog 9 #[.string c] W fun e w' => Below W.heap.size W w' ∧ e = .returned (.tuple #[.slice none 0 0, .int .i64 er, .int .i64 ((mb : Int) + m)]))) : Calls Tryd.prog 4 #[.string a, .string b] w fun e w' => e = .returned (.bool true) ∧ Below w.heap.size w w' := by
  have q0 : decide ((3000 : Int) < (a.size : Int)) = false := decide_eq_false (by omega)
  have q1 : decide ((3000 : Int) < (b.size : Int)) = false := decide_eq_false (by omega)
  have hmax : IntKind.i64.max = 9223372036854775807 := by decide
  have m1 : ¬ IntKind.i64.max < ((a.size + (⟨#[10]⟩ : ByteArray).size : Nat) : Int) := by rw [hmax, one_sz]; omega
  have m2 : ¬ IntKind.i64.max < (((a ++ ⟨#[10]⟩).size + b.size : Nat) : Int) := by rw [hmax, ByteArray.size_append, one_sz]; omega
  clear hmax
  have s9 : IntKind.i64.wrap ((a.size : Int) - 1) = (j : Int) := by have := HAJ.out; rw [IntWalk.i64_in _ (by omega)]; omega
  have s9' : (j : Int) < a.size := by have := HAJ.out; omega
  have s9'' : (0 : Int) ≤ j := by omega
  have eb0 := byte_at hc0 (by have := HAJ.out; omega)
  have f92 : ((c0.toNat : Int) == 92) = false := beq_false_of_ne (fun h => h92 (UInt8.toNat_inj.1 (show c0.toNat = 92 by omega)))
  have s1 : IntKind.i64.wrap ((n0 : Int) - 1) = (nx : Int) := by have := HN0.out; rw [IntWalk.i64_in _ (by omega)]; omega
  have s2 : ((n0 : Int) == 0) = false := by rw [beq_eq_false_iff_ne]; have := HN0.out; omega
  have s3 : (nx : Int) < n0 := by have := HN0.out; omega
  have s3' : (0 : Int) ≤ nx := by omega
  have s4 : IntKind.i64.wrap (n0 : Int) = (n0 : Int) := by have := HN0.out; rw [IntWalk.i64_in _ (by omega)]
  have s5 : decide ((2000 : Int) < (nx : Int)) = false := decide_eq_false (by omega)
  have s7 : IntKind.i64.wrap ((mb : Int) + m) = (mb : Int) + m := by rw [IntWalk.i64_in _ (by omega)]
  have hL : Kn [] w w [] := Kn.refl [] w; (try simp only [kfb] at hL); have hF := hL.facts; (try simp only [Facts, Dist, kfa, implies_true, forall_const] at hF); go_enter Tryd.func4, Tryd.ntmps4
  go_wp2_with (first | ((with_reducible refine kn_list_set ?_); (try clear hF); clear hL; intro W hL; (try simp only [kfb] at hL); have hF := hL.facts; (try simp only [Facts, Dist, kfa, implies_true, forall_const] at hF)) | (go_at_call 7; refine kn_calls ?_; (try clear hF); clear hL; intro W hL; (try simp only [kfb] at hL); have hF := hL.facts; (try simp only [Facts, Dist, kfa, implies_true, forall_const] at hF); (((with_reducible refine (HS.out _).mono ?_))); rintro e W ⟨rfl, hb⟩; replace hL := hL.below hb; clear hb; (try clear hF); (try simp only [kfb] at hL); have hF := hL.facts; (try simp only [Facts, Dist, kfa, implies_true, forall_const] at hF)) | (go_at_call 9; (((with_reducible refine (HX0.out _).mono ?_))); rintro e W ⟨hb, g0, o0, cap0, rfl, hcp0, hTn⟩; (try replace hT0 := hT0.ext hb); (try replace hT1 := hT1.ext hb); (try replace hT2 := hT2.ext hb); (try replace hT3 := hT3.ext hb); (try replace hT4 := hT4.ext hb); (try replace hT5 := hT5.ext hb); (try replace hT6 := hT6.ext hb); (try replace hT7 := hT7.ext hb); have hT0 := hTn; clear hTn; replace hL := hL.below hb; clear hb; (try clear hF); (try simp only [kfb] at hL); have hF := hL.facts; (try simp only [Facts, Dist, kfa, implies_true, forall_const] at hF)) | (go_at_call 9; (((with_reducible refine (HX1.out _).mono ?_))); rintro e W ⟨hb, rfl⟩; (try replace hT0 := hT0.ext hb); (try replace hT1 := hT1.ext hb); (try replace hT2 := hT2.ext hb); (try replace hT3 := hT3.ext hb); (try replace hT4 := hT4.ext hb); (try replace hT5 := hT5.ext hb); (try replace hT6 := hT6.ext hb); (try replace hT7 := hT7.ext hb); replace hL := hL.below hb; clear hb; (try clear hF); (try simp only [kfb] at hL); have hF := hL.facts; (try simp only [Facts, Dist, kfa, implies_true, forall_const] at hF)) | (go_at_call 9; (((with_reducible refine (HX2.out _).mono ?_))); rintro e W ⟨hb, rfl⟩; (try replace hT0 := hT0.ext hb); (try replace hT1 := hT1.ext hb); (try replace hT2 := hT2.ext hb); (try replace hT3 := hT3.ext hb); (try replace hT4 := hT4.ext hb); (try replace hT5 := hT5.ext hb); (try replace hT6 := hT6.ext hb); (try replace hT7 := hT7.ext hb); replace hL := hL.below hb; clear hb; (try clear hF); (try simp only [kfb] at hL); have hF := hL.facts; (try simp only [Facts, Dist, kfa, implies_true, forall_const] at hF); have hxl := (tok_line hT0 HTA.out).1; simp only [endT] at hxl))
  (try simp only [Exit.inBlock, Exit.then]); refine bodyPost_ret (by simp [results, Tryd.results4, go_sem, *]; try rfl) rfl ?_
  exact ⟨rfl, hL.below0⟩
set_option maxRecDepth 20000 in
set_option maxHeartbeats 4000000 in
theorem joins_cff1 (a b c : ByteArray) (hc : a ++ ⟨#[10]⟩ ++ b = c) (ha3 : a.size ≤ 3000) (hb3 : b.size ≤ 3000) (HS : Hid (∀ W, Calls Tryd.prog 7 #[] W fun e w' => e = .returned (.bool true) ∧ Below W.heap.size W w')) (w : World) (j : Nat) (HAJ : Hid (a.size = j + 1)) (q3 : a.toList.isEmpty = false) (c0 : UInt8) (hc0 : a.data.toList[j]? = some c0) (h92 : c0 ≠ 92) (n0 nx m : Nat) (HN0 : Hid (n0 = nx + 1)) (hnx : nx ≤ 2000) (hm : m ≤ 9000) (ta : List Tok) (HTA : Hid (ta[nx]? = some (endT m))) (er : Int) (her : (er != 0) = true) (mb : Nat) (hmb : mb ≤ 9000) (hmany : 2000 ≤ nx + b.size) (er2 m2 : Int) (e1 : (er2 == er) = false) (HX0 : Hid (∀ W, Calls Tryd.prog 9 #[.string a] W fun e w' => Below W.heap.size W w' ∧ ∃ g o cap, e = .returned (.tuple #[.slice (some ⟨g, o, none⟩) n0 cap, .int .i64 0, .int .i64 0]) ∧ n0 ≤ cap ∧ TokRow w' (.slice (some ⟨g, o, none⟩) n0 cap) (ta))) (HX1 : Hid (∀ W, Calls Tryd.prog 9 #[.string b] W fun e w' => Below W.heap.size W w' ∧ e = .returned (.tuple #[.slice none 0 0, .int .i64 er, .int .i64 (mb : Int)]))) (HX2 : Hid (∀ W, Calls Tryd.prog 9 #[.string c] W fun e w' => Below W.heap.size W w' ∧ ∃ v, e = .returned (.tuple #[v, .int .i64 er2, .int .i64 m2]))) : Calls Tryd.prog 4 #[.string a, .string b] w fun e w' => e = .returned (.bool true) ∧ Below w.heap.size w w' := by
  have q0 : decide ((3000 : Int) < (a.size : Int)) = false := decide_eq_false (by omega)
  have q1 : decide ((3000 : Int) < (b.size : Int)) = false := decide_eq_false (by omega)
  have hmax : IntKind.i64.max = 9223372036854775807 := by decide
  have m1 : ¬ IntKind.i64.max < ((a.size + (⟨#[10]⟩ : ByteArray).size : Nat) : Int) := by rw [hmax, one_sz]; omega
  have m2 : ¬ IntKind.i64.max < (((a ++ ⟨#[10]⟩).size + b.size : Nat) : Int) := by rw [hmax, ByteArray.size_append, one_sz]; omega
  clear hmax
  have s9 : IntKind.i64.wrap ((a.size : Int) - 1) = (j : Int) := by have := HAJ.out; rw [IntWalk.i64_in _ (by omega)]; omega
  have s9' : (j : Int) < a.size := by have := HAJ.out; omega
  have s9'' : (0 : Int) ≤ j := by omega
  have eb0 := byte_at hc0 (by have := HAJ.out; omega)
  have f92 : ((c0.toNat : Int) == 92) = false := beq_false_of_ne (fun h => h92 (UInt8.toNat_inj.1 (show c0.toNat = 92 by omega)))
  have s1 : IntKind.i64.wrap ((n0 : Int) - 1) = (nx : Int) := by have := HN0.out; rw [IntWalk.i64_in _ (by omega)]; omega
  have s2 : ((n0 : Int) == 0) = false := by rw [beq_eq_false_iff_ne]; have := HN0.out; omega
  have s3 : (nx : Int) < n0 := by have := HN0.out; omega
  have s3' : (0 : Int) ≤ nx := by omega
  have s4 : IntKind.i64.wrap (n0 : Int) = (n0 : Int) := by have := HN0.out; rw [IntWalk.i64_in _ (by omega)]
  have s5 : decide ((2000 : Int) < (nx : Int)) = false := decide_eq_false (by omega)
  have s7 : IntKind.i64.wrap ((mb : Int) + m) = (mb : Int) + m := by rw [IntWalk.i64_in _ (by omega)]
  have s8 : IntKind.i64.wrap ((nx : Int) + b.size) = (nx : Int) + b.size := by rw [IntWalk.i64_in _ (by omega)]
  have s10 : decide ((2000 : Int) ≤ (nx : Int) + b.size) = true := decide_eq_true (by omega)
  have hL : Kn [] w w [] := Kn.refl [] w; (try simp only [kfb] at hL); have hF := hL.facts; (try simp only [Facts, Dist, kfa, implies_true, forall_const] at hF); go_enter Tryd.func4, Tryd.ntmps4
  go_wp2_with (first | ((with_reducible refine kn_list_set ?_); (try clear hF); clear hL; intro W hL; (try simp only [kfb] at hL); have hF := hL.facts; (try simp only [Facts, Dist, kfa, implies_true, forall_const] at hF)) | (go_at_call 7; refine kn_calls ?_; (try clear hF); clear hL; intro W hL; (try simp only [kfb] at hL); have hF := hL.facts; (try simp only [Facts, Dist, kfa, implies_true, forall_const] at hF); (((with_reducible refine (HS.out _).mono ?_))); rintro e W ⟨rfl, hb⟩; replace hL := hL.below hb; clear hb; (try clear hF); (try simp only [kfb] at hL); have hF := hL.facts; (try simp only [Facts, Dist, kfa, implies_true, forall_const] at hF)) | (go_at_call 9; (((with_reducible refine (HX0.out _).mono ?_))); rintro e W ⟨hb, g0, o0, cap0, rfl, hcp0, hTn⟩; (try replace hT0 := hT0.ext hb); (try replace hT1 := hT1.ext hb); (try replace hT2 := hT2.ext hb); (try replace hT3 := hT3.ext hb); (try replace hT4 := hT4.ext hb); (try replace hT5 := hT5.ext hb); (try replace hT6 := hT6.ext hb); (try replace hT7 := hT7.ext hb); have hT0 := hTn; clear hTn; replace hL := hL.below hb; clear hb; (try clear hF); (try simp only [kfb] at hL); have hF := hL.facts; (try simp only [Facts, Dist, kfa, implies_true, forall_const] at hF)) | (go_at_call 9; (((with_reducible refine (HX1.out _).mono ?_))); rintro e W ⟨hb, rfl⟩; (try replace hT0 := hT0.ext hb); (try replace hT1 := hT1.ext hb); (try replace hT2 := hT2.ext hb); (try replace hT3 := hT3.ext hb); (try replace hT4 := hT4.ext hb); (try replace hT5 := hT5.ext hb); (try replace hT6 := hT6.ext hb); (try replace hT7 := hT7.ext hb); replace hL := hL.below hb; clear hb; (try clear hF); (try simp only [kfb] at hL); have hF := hL.facts; (try simp only [Facts, Dist, kfa, implies_true, forall_const] at hF)) | (go_at_call 9; (((with_reducible refine (HX2.out _).mono ?_))); rintro e W ⟨hb, v2, rfl⟩; (try replace hT0 := hT0.ext hb); (try replace hT1 := hT1.ext hb); (try replace hT2 := hT2.ext hb); (try replace hT3 := hT3.ext hb); (try replace hT4 := hT4.ext hb); (try replace hT5 := hT5.ext hb); (try replace hT6 := hT6.ext hb); (try replace hT7 := hT7.ext hb); replace hL := hL.below hb; clear hb; (try clear hF); (try simp only [kfb] at hL); have hF := hL.facts; (try simp only [Facts, Dist, kfa, implies_true, forall_const] at hF); have hxl := (tok_line hT0 HTA.out).1; simp only [endT] at hxl))
  (try simp only [Exit.inBlock, Exit.then]); refine bodyPost_ret (by simp [results, Tryd.results4, go_sem, *]; try rfl) rfl ?_
  exact ⟨rfl, hL.below0⟩
set_option maxRecDepth 20000 in
set_option maxHeartbeats 4000000 in
theorem joins_ctf1 (a b c : ByteArray) (hc : a ++ ⟨#[10]⟩ ++ b = c) (ha3 : a.size ≤ 3000) (hb3 : b.size ≤ 3000) (HS : Hid (∀ W, Calls Tryd.prog 7 #[] W fun e w' => e = .returned (.bool true) ∧ Below W.heap.size W w')) (w : World) (j : Nat) (HAJ : Hid (a.size = j + 1)) (q3 : a.toList.isEmpty = false) (c0 : UInt8) (hc0 : a.data.toList[j]? = some c0) (h92 : c0 ≠ 92) (n0 nx m : Nat) (HN0 : Hid (n0 = nx + 1)) (hnx : nx ≤ 2000) (hm : m ≤ 9000) (ta : List Tok) (HTA : Hid (ta[nx]? = some (endT m))) (er : Int) (her : (er != 0) = true) (mb : Nat) (hmb : mb ≤ 9000) (hmany : 2000 ≤ nx + b.size) (m2 : Int) (e2 : (m2 == (mb : Int) + m) = false) (HX0 : Hid (∀ W, Calls Tryd.prog 9 #[.string a] W fun e w' => Below W.heap.size W w' ∧ ∃ g o cap, e = .returned (.tuple #[.slice (some ⟨g, o, none⟩) n0 cap, .int .i64 0, .int .i64 0]) ∧ n0 ≤ cap ∧ TokRow w' (.slice (some ⟨g, o, none⟩) n0 cap) (ta))) (HX1 : Hid (∀ W, Calls Tryd.prog 9 #[.string b] W fun e w' => Below W.heap.size W w' ∧ e = .returned (.tuple #[.slice none 0 0, .int .i64 er, .int .i64 (mb : Int)]))) (HX2 : Hid (∀ W, Calls Tryd.prog 9 #[.string c] W fun e w' => Below W.heap.size W w' ∧ ∃ v, e = .returned (.tuple #[v, .int .i64 er, .int .i64 m2]))) : Calls Tryd.prog 4 #[.string a, .string b] w fun e w' => e = .returned (.bool true) ∧ Below w.heap.size w w' := by
  have q0 : decide ((3000 : Int) < (a.size : Int)) = false := decide_eq_false (by omega)
  have q1 : decide ((3000 : Int) < (b.size : Int)) = false := decide_eq_false (by omega)
  have hmax : IntKind.i64.max = 9223372036854775807 := by decide
  have m1 : ¬ IntKind.i64.max < ((a.size + (⟨#[10]⟩ : ByteArray).size : Nat) : Int) := by rw [hmax, one_sz]; omega
  have m2 : ¬ IntKind.i64.max < (((a ++ ⟨#[10]⟩).size + b.size : Nat) : Int) := by rw [hmax, ByteArray.size_append, one_sz]; omega
  clear hmax
  have s9 : IntKind.i64.wrap ((a.size : Int) - 1) = (j : Int) := by have := HAJ.out; rw [IntWalk.i64_in _ (by omega)]; omega
  have s9' : (j : Int) < a.size := by have := HAJ.out; omega
  have s9'' : (0 : Int) ≤ j := by omega
  have eb0 := byte_at hc0 (by have := HAJ.out; omega)
  have f92 : ((c0.toNat : Int) == 92) = false := beq_false_of_ne (fun h => h92 (UInt8.toNat_inj.1 (show c0.toNat = 92 by omega)))
  have s1 : IntKind.i64.wrap ((n0 : Int) - 1) = (nx : Int) := by have := HN0.out; rw [IntWalk.i64_in _ (by omega)]; omega
  have s2 : ((n0 : Int) == 0) = false := by rw [beq_eq_false_iff_ne]; have := HN0.out; omega
  have s3 : (nx : Int) < n0 := by have := HN0.out; omega
  have s3' : (0 : Int) ≤ nx := by omega
  have s4 : IntKind.i64.wrap (n0 : Int) = (n0 : Int) := by have := HN0.out; rw [IntWalk.i64_in _ (by omega)]
  have s5 : decide ((2000 : Int) < (nx : Int)) = false := decide_eq_false (by omega)
  have s7 : IntKind.i64.wrap ((mb : Int) + m) = (mb : Int) + m := by rw [IntWalk.i64_in _ (by omega)]
  have s8 : IntKind.i64.wrap ((nx : Int) + b.size) = (nx : Int) + b.size := by rw [IntWalk.i64_in _ (by omega)]
  have s10 : decide ((2000 : Int) ≤ (nx : Int) + b.size) = true := decide_eq_true (by omega)
  have hL : Kn [] w w [] := Kn.refl [] w; (try simp only [kfb] at hL); have hF := hL.facts; (try simp only [Facts, Dist, kfa, implies_true, forall_const] at hF); go_enter Tryd.func4, Tryd.ntmps4
  go_wp2_with (first | ((with_reducible refine kn_list_set ?_); (try clear hF); clear hL; intro W hL; (try simp only [kfb] at hL); have hF := hL.facts; (try simp only [Facts, Dist, kfa, implies_true, forall_const] at hF)) | (go_at_call 7; refine kn_calls ?_; (try clear hF); clear hL; intro W hL; (try simp only [kfb] at hL); have hF := hL.facts; (try simp only [Facts, Dist, kfa, implies_true, forall_const] at hF); (((with_reducible refine (HS.out _).mono ?_))); rintro e W ⟨rfl, hb⟩; replace hL := hL.below hb; clear hb; (try clear hF); (try simp only [kfb] at hL); have hF := hL.facts; (try simp only [Facts, Dist, kfa, implies_true, forall_const] at hF)) | (go_at_call 9; (((with_reducible refine (HX0.out _).mono ?_))); rintro e W ⟨hb, g0, o0, cap0, rfl, hcp0, hTn⟩; (try replace hT0 := hT0.ext hb); (try replace hT1 := hT1.ext hb); (try replace hT2 := hT2.ext hb); (try replace hT3 := hT3.ext hb); (try replace hT4 := hT4.ext hb); (try replace hT5 := hT5.ext hb); (try replace hT6 := hT6.ext hb); (try replace hT7 := hT7.ext hb); have hT0 := hTn; clear hTn; replace hL := hL.below hb; clear hb; (try clear hF); (try simp only [kfb] at hL); have hF := hL.facts; (try simp only [Facts, Dist, kfa, implies_true, forall_const] at hF)) | (go_at_call 9; (((with_reducible refine (HX1.out _).mono ?_))); rintro e W ⟨hb, rfl⟩; (try replace hT0 := hT0.ext hb); (try replace hT1 := hT1.ext hb); (try replace hT2 := hT2.ext hb); (try replace hT3 := hT3.ext hb); (try replace hT4 := hT4.ext hb); (try replace hT5 := hT5.ext hb); (try replace hT6 := hT6.ext hb); (try replace hT7 := hT7.ext hb); replace hL := hL.below hb; clear hb; (try clear hF); (try simp only [kfb] at hL); have hF := hL.facts; (try simp only [Facts, Dist, kfa, implies_true, forall_const] at hF)) | (go_at_call 9; (((with_reducible refine (HX2.out _).mono ?_))); rintro e W ⟨hb, v2, rfl⟩; (try replace hT0 := hT0.ext hb); (try replace hT1 := hT1.ext hb); (try replace hT2 := hT2.ext hb); (try replace hT3 := hT3.ext hb); (try replace hT4 := hT4.ext hb); (try replace hT5 := hT5.ext hb); (try replace hT6 := hT6.ext hb); (try replace hT7 := hT7.ext hb); replace hL := hL.below hb; clear hb; (try clear hF); (try simp only [kfb] at hL); have hF := hL.facts; (try simp only [Facts, Dist, kfa, implies_true, forall_const] at hF); have hxl := (tok_line hT0 HTA.out).1; simp only [endT] at hxl))
  (try simp only [Exit.inBlock, Exit.then]); refine bodyPost_ret (by simp [results, Tryd.results4, go_sem, *]; try rfl) rfl ?_
  exact ⟨rfl, hL.below0⟩
set_option maxRecDepth 20000 in
set_option maxHeartbeats 4000000 in
theorem joins_ctt1 (a b c : ByteArray) (hc : a ++ ⟨#[10]⟩ ++ b = c) (ha3 : a.size ≤ 3000) (hb3 : b.size ≤ 3000) (HS : Hid (∀ W, Calls Tryd.prog 7 #[] W fun e w' => e = .returned (.bool true) ∧ Below W.heap.size W w')) (w : World) (j : Nat) (HAJ : Hid (a.size = j + 1)) (q3 : a.toList.isEmpty = false) (c0 : UInt8) (hc0 : a.data.toList[j]? = some c0) (h92 : c0 ≠ 92) (n0 nx m : Nat) (HN0 : Hid (n0 = nx + 1)) (hnx : nx ≤ 2000) (hm : m ≤ 9000) (ta : List Tok) (HTA : Hid (ta[nx]? = some (endT m))) (er : Int) (her : (er != 0) = true) (mb : Nat) (hmb : mb ≤ 9000) (hmany : 2000 ≤ nx + b.size)   (HX0 : Hid (∀ W, Calls Tryd.prog 9 #[.string a] W fun e w' => Below W.heap.size W w' ∧ ∃ g o cap, e = .returned (.tuple #[.slice (some ⟨g, o, none⟩) n0 cap, .int .i64 0, .int .i64 0]) ∧ n0 ≤ cap ∧ TokRow w' (.slice (some ⟨g, o, none⟩) n0 cap) (ta))) (HX1 : Hid (∀ W, Calls Tryd.prog 9 #[.string b] W fun e w' => Below W.heap.size W w' ∧ e = .returned (.tuple #[.slice none 0 0, .int .i64 er, .int .i64 (mb : Int)]))) (HX2 : Hid (∀ W, Calls Tryd.prog 9 #[.string c] W fun e w' => Below W.heap.size W w' ∧ ∃ v, e = .returned (.tuple #[v, .int .i64 er, .int .i64 ((mb : Int) + m)]))) : Calls Tryd.prog 4 #[.string a, .string b] w fun e w' => e = .returned (.bool true) ∧ Below w.heap.size w w' := by
  have q0 : decide ((3000 : Int) < (a.size : Int)) = false := decide_eq_false (by omega)
  have q1 : decide ((3000 : Int) < (b.size : Int)) = false := decide_eq_false (by omega)
  have hmax : IntKind.i64.max = 9223372036854775807 := by decide
  have m1 : ¬ IntKind.i64.max < ((a.size + (⟨#[10]⟩ : ByteArray).size : Nat) : Int) := by rw [hmax, one_sz]; omega
  have m2 : ¬ IntKind.i64.max < (((a ++ ⟨#[10]⟩).size + b.size : Nat) : Int) := by rw [hmax, ByteArray.size_append, one_sz]; omega
  clear hmax
  have s9 : IntKind.i64.wrap ((a.size : Int) - 1) = (j : Int) := by have := HAJ.out; rw [IntWalk.i64_in _ (by omega)]; omega
  have s9' : (j : Int) < a.size := by have := HAJ.out; omega
  have s9'' : (0 : Int) ≤ j := by omega
  have eb0 := byte_at hc0 (by have := HAJ.out; omega)
  have f92 : ((c0.toNat : Int) == 92) = false := beq_false_of_ne (fun h => h92 (UInt8.toNat_inj.1 (show c0.toNat = 92 by omega)))
  have s1 : IntKind.i64.wrap ((n0 : Int) - 1) = (nx : Int) := by have := HN0.out; rw [IntWalk.i64_in _ (by omega)]; omega
  have s2 : ((n0 : Int) == 0) = false := by rw [beq_eq_false_iff_ne]; have := HN0.out; omega
  have s3 : (nx : Int) < n0 := by have := HN0.out; omega
  have s3' : (0 : Int) ≤ nx := by omega
  have s4 : IntKind.i64.wrap (n0 : Int) = (n0 : Int) := by have := HN0.out; rw [IntWalk.i64_in _ (by omega)]
  have s5 : decide ((2000 : Int) < (nx : Int)) = false := decide_eq_false (by omega)
  have s7 : IntKind.i64.wrap ((mb : Int) + m) = (mb : Int) + m := by rw [IntWalk.i64_in _ (by omega)]
  have s8 : IntKind.i64.wrap ((nx : Int) + b.size) = (nx : Int) + b.size := by rw [IntWalk.i64_in _ (by omega)]
  have s10 : decide ((2000 : Int) ≤ (nx : Int) + b.size) = true := decide_eq_true (by omega)
  have hL : Kn [] w w [] := Kn.refl [] w; (try simp only [kfb] at hL); have hF := hL.facts; (try simp only [Facts, Dist, kfa, implies_true, forall_const] at hF); go_enter Tryd.func4, Tryd.ntmps4
  go_wp2_with (first | ((with_reducible refine kn_list_set ?_); (try clear hF); clear hL; intro W hL; (try simp only [kfb] at hL); have hF := hL.facts; (try simp only [Facts, Dist, kfa, implies_true, forall_const] at hF)) | (go_at_call 7; refine kn_calls ?_; (try clear hF); clear hL; intro W hL; (try simp only [kfb] at hL); have hF := hL.facts; (try simp only [Facts, Dist, kfa, implies_true, forall_const] at hF); (((with_reducible refine (HS.out _).mono ?_))); rintro e W ⟨rfl, hb⟩; replace hL := hL.below hb; clear hb; (try clear hF); (try simp only [kfb] at hL); have hF := hL.facts; (try simp only [Facts, Dist, kfa, implies_true, forall_const] at hF)) | (go_at_call 9; (((with_reducible refine (HX0.out _).mono ?_))); rintro e W ⟨hb, g0, o0, cap0, rfl, hcp0, hTn⟩; (try replace hT0 := hT0.ext hb); (try replace hT1 := hT1.ext hb); (try replace hT2 := hT2.ext hb); (try replace hT3 := hT3.ext hb); (try replace hT4 := hT4.ext hb); (try replace hT5 := hT5.ext hb); (try replace hT6 := hT6.ext hb); (try replace hT7 := hT7.ext hb); have hT0 := hTn; clear hTn; replace hL := hL.below hb; clear hb; (try clear hF); (try simp only [kfb] at hL); have hF := hL.facts; (try simp only [Facts, Dist, kfa, implies_true, forall_const] at hF)) | (go_at_call 9; (((with_reducible refine (HX1.out _).mono ?_))); rintro e W ⟨hb, rfl⟩; (try replace hT0 := hT0.ext hb); (try replace hT1 := hT1.ext hb); (try replace hT2 := hT2.ext hb); (try replace hT3 := hT3.ext hb); (try replace hT4 := hT4.ext hb); (try replace hT5 := hT5.ext hb); (try replace hT6 := hT6.ext hb); (try replace hT7 := hT7.ext hb); replace hL := hL.below hb; clear hb; (try clear hF); (try simp only [kfb] at hL); have hF := hL.facts; (try simp only [Facts, Dist, kfa, implies_true, forall_const] at hF)) | (go_at_call 9; (((with_reducible refine (HX2.out _).mono ?_))); rintro e W ⟨hb, v2, rfl⟩; (try replace hT0 := hT0.ext hb); (try replace hT1 := hT1.ext hb); (try replace hT2 := hT2.ext hb); (try replace hT3 := hT3.ext hb); (try replace hT4 := hT4.ext hb); (try replace hT5 := hT5.ext hb); (try replace hT6 := hT6.ext hb); (try replace hT7 := hT7.ext hb); replace hL := hL.below hb; clear hb; (try clear hF); (try simp only [kfb] at hL); have hF := hL.facts; (try simp only [Facts, Dist, kfa, implies_true, forall_const] at hF); have hxl := (tok_line hT0 HTA.out).1; simp only [endT] at hxl))
  (try simp only [Exit.inBlock, Exit.then]); refine bodyPost_ret (by simp [results, Tryd.results4, go_sem, *]; try rfl) rfl ?_
  exact ⟨rfl, hL.below0⟩
theorem joins_c1 (a b c : ByteArray) (hc : a ++ ⟨#[10]⟩ ++ b = c) (ha3 : a.size ≤ 3000) (hb3 : b.size ≤ 3000) (HS : Hid (∀ W, Calls Tryd.prog 7 #[] W fun e w' => e = .returned (.bool true) ∧ Below W.heap.size W w')) (w : World) (j : Nat) (HAJ : Hid (a.size = j + 1)) (q3 : a.toList.isEmpty = false) (c0 : UInt8) (hc0 : a.data.toList[j]? = some c0) (h92 : c0 ≠ 92) (n0 nx m : Nat) (HN0 : Hid (n0 = nx + 1)) (hnx : nx ≤ 2000) (hm : m ≤ 9000) (ta : List Tok) (HTA : Hid (ta[nx]? = some (endT m))) (er : Int) (her : (er != 0) = true) (mb : Nat) (hmb : mb ≤ 9000) (hmany : 2000 ≤ nx + b.size) (er2 m2 : Int) (HX0 : Hid (∀ W, Calls Tryd.prog 9 #[.string a] W fun e w' => Below W.heap.size W w' ∧ ∃ g o cap, e = .returned (.tuple #[.slice (some ⟨g, o, none⟩) n0 cap, .int .i64 0, .int .i64 0]) ∧ n0 ≤ cap ∧ TokRow w' (.slice (some ⟨g, o, none⟩) n0 cap) (ta))) (HX1 : Hid (∀ W, Calls Tryd.prog 9 #[.string b] W fun e w' => Below W.heap.size W w' ∧ e = .returned (.tuple #[.slice none 0 0, .int .i64 er, .int .i64 (mb : Int)]))) (HX2 : Hid (∀ W, Calls Tryd.prog 9 #[.string c] W fun e w' => Below W.heap.size W w' ∧ ∃ v, e = .returned (.tuple #[v, .int .i64 er2, .int .i64 m2]))) : Calls Tryd.prog 4 #[.string a, .string b] w fun e w' => e = .returned (.bool true) ∧ Below w.heap.size w w' := by
  cases e1 : (er2 == er) with
  | false => exact joins_cff1 a b c hc ha3 hb3 HS w j HAJ q3 c0 hc0 h92 n0 nx m HN0 hnx hm ta HTA er her mb hmb hmany er2 m2 e1 HX0 HX1 HX2
  | true =>
    obtain rfl : er2 = er := by simpa using e1
    cases e2 : (m2 == (mb : Int) + m) with
    | false => exact joins_ctf1 a b c hc ha3 hb3 HS w j HAJ q3 c0 hc0 h92 n0 nx m HN0 hnx hm ta HTA er2 her mb hmb hmany m2 e2 HX0 HX1 HX2
    | true =>
      obtain rfl : m2 = (mb : Int) + m := by simpa using e2
      exact joins_ctt1 a b c hc ha3 hb3 HS w j HAJ q3 c0 hc0 h92 n0 nx m HN0 hnx hm ta HTA er2 her mb hmb hmany HX0 HX1 HX2

end Go.Proofs.YtflfaobbfhjmmaaDoor

namespace Go.Proofs.YtflfaobbfhjmmaaDoor
open Go Go.RowKit
set_option linter.unusedSimpArgs false
set_option linter.unusedVariables false
set_option maxRecDepth 20000 in
set_option maxHeartbeats 4000000 in
theorem joins_k0 (a b c : ByteArray) (hc : a ++ ⟨#[10]⟩ ++ b = c) (ha3 : a.size ≤ 3000) (hb3 : b.size ≤ 3000) (HS : Hid (∀ W, Calls Tryd.prog 7 #[] W fun e w' => e = .returned (.bool true) ∧ Below W.heap.size W w')) (w : World) (q3 : a.toList.isEmpty = true) (n0 nx m : Nat) (HN0 : Hid (n0 = nx + 1)) (hnx : nx ≤ 2000) (hm : m ≤ 9000) (ta : List Tok) (HTA : Hid (ta[nx]? = some (endT m))) (n1 n2 : Nat) (tb tz : List Tok) (HN2 : Hid (n2 = n0 + n1)) (hn1 : 0 < n1) (hfew : n0 + n1 ≤ 2001) (hsa : Hid (Small (ta.take nx))) (hsb : Hid (Small tb)) (HZ1 : Hid (tz.take nx = ta.take nx)) (HZ2 : Hid (tz[nx]? = some ⟨3, [], [], [], -1, m⟩)) (HZ3 : Hid (tz.drop n0 = tb.map (Tok.up m))) (HX0 : Hid (∀ W, Calls Tryd.prog 9 #[.string a] W fun e w' => Below W.heap.size W w' ∧ ∃ g o cap, e = .returned (.tuple #[.slice (some ⟨g, o, none⟩) n0 cap, .int .i64 0, .int .i64 0]) ∧ n0 ≤ cap ∧ TokRow w' (.slice (some ⟨g, o, none⟩) n0 cap) (ta))) (HX1 : Hid (∀ W, Calls Tryd.prog 9 #[.string b] W fun e w' => Below W.heap.size W w' ∧ ∃ g o cap, e = .returned (.tuple #[.slice (some ⟨g, o, none⟩) n1 cap, .int .i64 0, .int .i64 0]) ∧ n1 ≤ cap ∧ TokRow w' (.slice (some ⟨g, o, none⟩) n1 cap) (tb))) (HX2 : Hid (∀ W, Calls Tryd.prog 9 #[.string c] W fun e w' => Below W.heap.size W w' ∧ ∃ g o cap, e = .returned (.tuple #[.slice (some ⟨g, o, none⟩) n2 cap, .int .i64 0, .int .i64 0]) ∧ n2 ≤ cap ∧ TokRow w' (.slice (some ⟨g, o, none⟩) n2 cap) (tz))) : Calls Tryd.prog 4 #[.string a, .string b] w fun e w' => e = .returned (.bool true) ∧ Below w.heap.size w w' := by
  have q0 : decide ((3000 : Int) < (a.size : Int)) = false := decide_eq_false (by omega)
  have q1 : decide ((3000 : Int) < (b.size : Int)) = false := decide_eq_false (by omega)
  have hmax : IntKind.i64.max = 9223372036854775807 := by decide
  have m1 : ¬ IntKind.i64.max < ((a.size + (⟨#[10]⟩ : ByteArray).size : Nat) : Int) := by rw [hmax, one_sz]; omega
  have m2 : ¬ IntKind.i64.max < (((a ++ ⟨#[10]⟩).size + b.size : Nat) : Int) := by rw [hmax, ByteArray.size_append, one_sz]; omega
  clear hmax
  have s1 : IntKind.i64.wrap ((n0 : Int) - 1) = (nx : Int) := by have := HN0.out; rw [IntWalk.i64_in _ (by omega)]; omega
  have s2 : ((n0 : Int) == 0) = false := by rw [beq_eq_false_iff_ne]; have := HN0.out; omega
  have s3 : (nx : Int) < n0 := by have := HN0.out; omega
  have s3' : (0 : Int) ≤ nx := by omega
  have s4 : IntKind.i64.wrap ((n0 : Int) + n1) = (n0 : Int) + n1 := by have := HN0.out; rw [IntWalk.i64_in _ (by omega)]
  have s5 : IntKind.i64.wrap ((n0 : Int) + n1 - 1) = (n0 : Int) + n1 - 1 := by have := HN0.out; rw [IntWalk.i64_in _ (by omega)]
  have s6 : decide ((2000 : Int) < (n0 : Int) + n1 - 1) = false := decide_eq_false (by omega)
  have s7 : decide (n2 < n0) = false := decide_eq_false (by have := HN2.out; omega)
  have s7i : decide ((n2 : Int) < (n0 : Int)) = false := decide_eq_false (by have := HN2.out; omega)
  have s8 : (nx : Int) < n2 := by have := HN2.out; have := HN0.out; omega
  have s0 : (0 : Int) ≤ n0 := by omega
  have hL : Kn [] w w [] := Kn.refl [] w; (try simp only [kfb] at hL); have hF := hL.facts; (try simp only [Facts, Dist, kfa, implies_true, forall_const] at hF); go_enter Tryd.func4, Tryd.ntmps4
  go_wp2_with (first | ((with_reducible refine kn_list_set ?_); (try clear hF); clear hL; intro W hL; (try simp only [kfb] at hL); have hF := hL.facts; (try simp only [Facts, Dist, kfa, implies_true, forall_const] at hF)) | (go_at_call 7; refine kn_calls ?_; (try clear hF); clear hL; intro W hL; (try simp only [kfb] at hL); have hF := hL.facts; (try simp only [Facts, Dist, kfa, implies_true, forall_const] at hF); (((with_reducible refine (HS.out _).mono ?_))); rintro e W ⟨rfl, hb⟩; replace hL := hL.below hb; clear hb; (try clear hF); (try simp only [kfb] at hL); have hF := hL.facts; (try simp only [Facts, Dist, kfa, implies_true, forall_const] at hF)) | (go_at_call 9; (((with_reducible refine (HX0.out _).mono ?_))); rintro e W ⟨hb, g0, o0, cap0, rfl, hcp0, hTn⟩; (try replace hT0 := hT0.ext hb); (try replace hT1 := hT1.ext hb); (try replace hT2 := hT2.ext hb); (try replace hT3 := hT3.ext hb); (try replace hT4 := hT4.ext hb); (try replace hT5 := hT5.ext hb); (try replace hT6 := hT6.ext hb); (try replace hT7 := hT7.ext hb); have hT0 := hTn; clear hTn; replace hL := hL.below hb; clear hb; (try clear hF); (try simp only [kfb] at hL); have hF := hL.facts; (try simp only [Facts, Dist, kfa, implies_true, forall_const] at hF)) | (go_at_call 9; (((with_reducible refine (HX1.out _).mono ?_))); rintro e W ⟨hb, g1, o1, cap1, rfl, hcp1, hTn⟩; (try replace hT0 := hT0.ext hb); (try replace hT1 := hT1.ext hb); (try replace hT2 := hT2.ext hb); (try replace hT3 := hT3.ext hb); (try replace hT4 := hT4.ext hb); (try replace hT5 := hT5.ext hb); (try replace hT6 := hT6.ext hb); (try replace hT7 := hT7.ext hb); have hT1 := hTn; clear hTn; replace hL := hL.below hb; clear hb; (try clear hF); (try simp only [kfb] at hL); have hF := hL.facts; (try simp only [Facts, Dist, kfa, implies_true, forall_const] at hF)) | (go_at_call 9; (((with_reducible refine (HX2.out _).mono ?_))); rintro e W ⟨hb, g2, o2, cap2, rfl, hcp2, hTn⟩; (try replace hT0 := hT0.ext hb); (try replace hT1 := hT1.ext hb); (try replace hT2 := hT2.ext hb); (try replace hT3 := hT3.ext hb); (try replace hT4 := hT4.ext hb); (try replace hT5 := hT5.ext hb); (try replace hT6 := hT6.ext hb); (try replace hT7 := hT7.ext hb); have hT2 := hTn; clear hTn; replace hL := hL.below hb; clear hb; (try clear hF); (try simp only [kfb] at hL); have hF := hL.facts; (try simp only [Facts, Dist, kfa, implies_true, forall_const] at hF); have HL0 := Lib.hid hL; replace hL := Kn.refl [] W; (try clear hF); (try simp only [kfb] at hL); have hF := hL.facts; (try simp only [Facts, Dist, kfa, implies_true, forall_const] at hF); have hxl := (tok_line hT0 HTA.out).1; have hg0 := (tok_line hT0 HTA.out).2; simp only [endT] at hxl; obtain ⟨pv, hg2, z0, z1, z2, z3, z4, z5, hqz⟩ := tok_six hT2 HZ2.out; obtain ⟨ap, cp, rfl, _⟩ := hqz; simp only [List.map_nil, List.length_nil] at z0 z1 z2 z3 z4 z5; obtain ⟨u, hu⟩ : ∃ u : ByteArray, bs [] = .string u := ⟨_, rfl⟩; rw [hu] at z1 z2; clear hu; have HS1 := Lib.hid (hT0.takes nx (by have := HN0.out; omega)); have HS2 := hT2.takes nx (by have := HN0.out; have := HN2.out; omega); rw [HZ1.out] at HS2; replace HS2 := Lib.hid HS2; have HS3 := Lib.hid hT1; have HS4 := hT2.drops n0 (by have := HN2.out; omega); rw [HZ3.out] at HS4; replace HS4 := Lib.hid HS4; have b1 : (nx : Int) ≤ cap0 := (by have := HN0.out; omega); have b2 : (nx : Int) ≤ cap2 := (by have := HN0.out; have := HN2.out; omega); have b3 : (n0 : Int) ≤ n2 := (by have := HN2.out; omega); have b4 : (n2 : Int) ≤ cap2 := (by omega); have b5 : ¬ cap2 = n0 := (by have := HN2.out; omega); clear hT0 hT1 hT2) | ((with_reducible refine at_region 19 ?_); refine kn_wp ?_; (try clear hF); clear hL; intro W hL; (try simp only [kfb] at hL); have hF := hL.facts; (try simp only [Facts, Dist, kfa, implies_true, forall_const] at hF); refine kn_region [0, 1, 2, 3, 4, 5, 6, 7, 8, 9, 10, 11, 12, 13, 14, 15, 16, 17, 18, 19, 20, 21, 22, 23, 24, 25, 26, 27, 28, 29, 30, 31, 32, 33, 34] [0, 1, 2, 3, 4, 5, 6, 7, 8, 9, 10, 11, 13, 14, 15, 16, 17, 18, 19, 20, 21, 22, 23, 24, 25, 26, 27, 28, 29, 30, 31, 33, 34] [12, 32] [0, 1, 2, 3, 4, 5, 6, 7, 8, 9, 10, 11, 13, 14, 15, 17, 18, 19, 20, 22, 23, 24, 25, 26, 27, 28, 29, 30, 31, 33, 34] (by kernel_rfl) (by kernel_rfl) (List.Sublist.refl _) ?_; (try clear hF); clear hL; intro ι F hne hC hFF; have hG := fun n => (hFF n).facts; clear hFF; (try simp only [Facts, Dist, kfa, implies_true, forall_const] at hG); (repeat (first | (refine cwk_skip rfl (by rfl) ?_; (try simp only [Act.put, List.setIfInBounds_toArray, List.set_cons_zero, List.set_cons_succ])) | (refine cwk_float rfl rfl (by rfl) (by rfl) (by rfl) hC ?_; intro K hK; go_big_quiet_op; go_big_quiet_on) | (refine cwk_pure rfl rfl (by rfl) (by rfl) ?_; intro K hK; go_big_quiet_op; go_big_quiet_on) | (refine cwk_call rfl (by rfl) (by rfl) (fun _ => rfl) ?_; intro W hL; (try simp only [kfb] at hL); have hF := hL.facts; (try simp only [Facts, Dist, kfa, implies_true, forall_const] at hF); simp only [List.map_toArray, List.map_cons, List.map_nil, Array.empty_append, Array.append_empty, Act.eval, Array.getD_eq_getD_getElem?, List.getElem?_toArray, List.getElem?_cons_zero, List.getElem?_cons_succ, Option.getD_some]; go_at_call 10; (((first | (with_reducible refine (same0_is _ _ _ hsa.out _ (HS1.out.kn0 hL) (HS2.out.kn0 hL)).mono ?_) | (with_reducible refine (same_is _ _ m (by omega) _ hsb.out _ (HS3.out.kn0 hL) (HS4.out.kn0 hL)).mono ?_)))); rintro e W ⟨rfl, hb⟩; replace hL := hL.below hb; clear hb; (try clear hF); (try simp only [kfb] at hL); have hF := hL.facts; (try simp only [Facts, Dist, kfa, implies_true, forall_const] at hF); refine owed_ret ?_; (first | (refine owedB _ (by rfl) ?_; clear hL; (try clear hF); clear hC hG; intro ι F hne hC hFF; have hG := fun n => (hFF n).facts; clear hFF; (try simp only [Facts, Dist, kfa, implies_true, forall_const] at hG)) | (refine owed0 _ (by repeat' (first | (with_reducible exact List.Sublist.refl _) | (with_reducible apply List.Sublist.cons_cons) | (with_reducible apply List.Sublist.cons))) ?_; clear hL; (try clear hF))); (try simp only [Act.put, List.setIfInBounds_toArray, List.set_cons_zero, List.set_cons_succ])) | (refine cwk_anch rfl rfl (by rfl) (by rfl) ?_; intro W hL; (try simp only [kfb] at hL); have hF := hL.facts; (try simp only [Facts, Dist, kfa, implies_true, forall_const] at hF); go_wp2; refine anchQ_normal ?_; (first | (refine owedB _ (by rfl) ?_; clear hL; (try clear hF); clear hC hG; intro ι F hne hC hFF; have hG := fun n => (hFF n).facts; clear hFF; (try simp only [Facts, Dist, kfa, implies_true, forall_const] at hG)) | (refine owed0 _ (by repeat' (first | (with_reducible exact List.Sublist.refl _) | (with_reducible apply List.Sublist.cons_cons) | (with_reducible apply List.Sublist.cons))) ?_; clear hL; (try clear hF)))))); refine cwk_nil ?_; clear hC hG; intro W hL; (try simp only [kfb] at hL); have hF := hL.facts; (try simp only [Facts, Dist, kfa, implies_true, forall_const] at hF)))
  (try simp only [Exit.inBlock, Exit.then]); refine bodyPost_ret (by simp [results, Tryd.results4, go_sem, *]; try rfl) rfl ?_
  exact ⟨rfl, (HL0.out.tail0 hL).below0⟩
set_option maxRecDepth 20000 in
set_option maxHeartbeats 4000000 in
theorem joins_k1 (a b c : ByteArray) (hc : a ++ ⟨#[10]⟩ ++ b = c) (ha3 : a.size ≤ 3000) (hb3 : b.size ≤ 3000) (HS : Hid (∀ W, Calls Tryd.prog 7 #[] W fun e w' => e = .returned (.bool true) ∧ Below W.heap.size W w')) (w : World) (j : Nat) (HAJ : Hid (a.size = j + 1)) (q3 : a.toList.isEmpty = false) (c0 : UInt8) (hc0 : a.data.toList[j]? = some c0) (h92 : c0 ≠ 92) (n0 nx m : Nat) (HN0 : Hid (n0 = nx + 1)) (hnx : nx ≤ 2000) (hm : m ≤ 9000) (ta : List Tok) (HTA : Hid (ta[nx]? = some (endT m))) (n1 n2 : Nat) (tb tz : List Tok) (HN2 : Hid (n2 = n0 + n1)) (hn1 : 0 < n1) (hfew : n0 + n1 ≤ 2001) (hsa : Hid (Small (ta.take nx))) (hsb : Hid (Small tb)) (HZ1 : Hid (tz.take nx = ta.take nx)) (HZ2 : Hid (tz[nx]? = some ⟨3, [], [], [], -1, m⟩)) (HZ3 : Hid (tz.drop n0 = tb.map (Tok.up m))) (HX0 : Hid (∀ W, Calls Tryd.prog 9 #[.string a] W fun e w' => Below W.heap.size W w' ∧ ∃ g o cap, e = .returned (.tuple #[.slice (some ⟨g, o, none⟩) n0 cap, .int .i64 0, .int .i64 0]) ∧ n0 ≤ cap ∧ TokRow w' (.slice (some ⟨g, o, none⟩) n0 cap) (ta))) (HX1 : Hid (∀ W, Calls Tryd.prog 9 #[.string b] W fun e w' => Below W.heap.size W w' ∧ ∃ g o cap, e = .returned (.tuple #[.slice (some ⟨g, o, none⟩) n1 cap, .int .i64 0, .int .i64 0]) ∧ n1 ≤ cap ∧ TokRow w' (.slice (some ⟨g, o, none⟩) n1 cap) (tb))) (HX2 : Hid (∀ W, Calls Tryd.prog 9 #[.string c] W fun e w' => Below W.heap.size W w' ∧ ∃ g o cap, e = .returned (.tuple #[.slice (some ⟨g, o, none⟩) n2 cap, .int .i64 0, .int .i64 0]) ∧ n2 ≤ cap ∧ TokRow w' (.slice (some ⟨g, o, none⟩) n2 cap) (tz))) : Calls Tryd.prog 4 #[.string a, .string b] w fun e w' => e = .returned (.bool true) ∧ Below w.heap.size w w' := by
  have q0 : decide ((3000 : Int) < (a.size : Int)) = false := decide_eq_false (by omega)
  have q1 : decide ((3000 : Int) < (b.size : Int)) = false := decide_eq_false (by omega)
  have hmax : IntKind.i64.max = 9223372036854775807 := by decide
  have m1 : ¬ IntKind.i64.max < ((a.size + (⟨#[10]⟩ : ByteArray).size : Nat) : Int) := by rw [hmax, one_sz]; omega
  have m2 : ¬ IntKind.i64.max < (((a ++ ⟨#[10]⟩).size + b.size : Nat) : Int) := by rw [hmax, ByteArray.size_append, one_sz]; omega
  clear hmax
  have s9 : IntKind.i64.wrap ((a.size : Int) - 1) = (j : Int) := by have := HAJ.out; rw [IntWalk.i64_in _ (by omega)]; omega
  have s9' : (j : Int) < a.size := by have := HAJ.out; omega
  have s9'' : (0 : Int) ≤ j := by omega
  have eb0 := byte_at hc0 (by have := HAJ.out; omega)
  have f92 : ((c0.toNat : Int) == 92) = false := beq_false_of_ne (fun h => h92 (UInt8.toNat_inj.1 (show c0.toNat = 92 by omega)))
  have s1 : IntKind.i64.wrap ((n0 : Int) - 1) = (nx : Int) := by have := HN0.out; rw [IntWalk.i64_in _ (by omega)]; omega
  have s2 : ((n0 : Int) == 0) = false := by rw [beq_eq_false_iff_ne]; have := HN0.out; omega
  have s3 : (nx : Int) < n0 := by have := HN0.out; omega
  have s3' : (0 : Int) ≤ nx := by omega
  have s4 : IntKind.i64.wrap ((n0 : Int) + n1) = (n0 : Int) + n1 := by have := HN0.out; rw [IntWalk.i64_in _ (by omega)]
  have s5 : IntKind.i64.wrap ((n0 : Int) + n1 - 1) = (n0 : Int) + n1 - 1 := by have := HN0.out; rw [IntWalk.i64_in _ (by omega)]
  have s6 : decide ((2000 : Int) < (n0 : Int) + n1 - 1) = false := decide_eq_false (by omega)
  have s7 : decide (n2 < n0) = false := decide_eq_false (by have := HN2.out; omega)
  have s7i : decide ((n2 : Int) < (n0 : Int)) = false := decide_eq_false (by have := HN2.out; omega)
  have s8 : (nx : Int) < n2 := by have := HN2.out; have := HN0.out; omega
  have s0 : (0 : Int) ≤ n0 := by omega
  have hL : Kn [] w w [] := Kn.refl [] w; (try simp only [kfb] at hL); have hF := hL.facts; (try simp only [Facts, Dist, kfa, implies_true, forall_const] at hF); go_enter Tryd.func4, Tryd.ntmps4
  go_wp2_with (first | ((with_reducible refine kn_list_set ?_); (try clear hF); clear hL; intro W hL; (try simp only [kfb] at hL); have hF := hL.facts; (try simp only [Facts, Dist, kfa, implies_true, forall_const] at hF)) | (go_at_call 7; refine kn_calls ?_; (try clear hF); clear hL; intro W hL; (try simp only [kfb] at hL); have hF := hL.facts; (try simp only [Facts, Dist, kfa, implies_true, forall_const] at hF); (((with_reducible refine (HS.out _).mono ?_))); rintro e W ⟨rfl, hb⟩; replace hL := hL.below hb; clear hb; (try clear hF); (try simp only [kfb] at hL); have hF := hL.facts; (try simp only [Facts, Dist, kfa, implies_true, forall_const] at hF)) | (go_at_call 9; (((with_reducible refine (HX0.out _).mono ?_))); rintro e W ⟨hb, g0, o0, cap0, rfl, hcp0, hTn⟩; (try replace hT0 := hT0.ext hb); (try replace hT1 := hT1.ext hb); (try replace hT2 := hT2.ext hb); (try replace hT3 := hT3.ext hb); (try replace hT4 := hT4.ext hb); (try replace hT5 := hT5.ext hb); (try replace hT6 := hT6.ext hb); (try replace hT7 := hT7.ext hb); have hT0 := hTn; clear hTn; replace hL := hL.below hb; clear hb; (try clear hF); (try simp only [kfb] at hL); have hF := hL.facts; (try simp only [Facts, Dist, kfa, implies_true, forall_const] at hF)) | (go_at_call 9; (((with_reducible refine (HX1.out _).mono ?_))); rintro e W ⟨hb, g1, o1, cap1, rfl, hcp1, hTn⟩; (try replace hT0 := hT0.ext hb); (try replace hT1 := hT1.ext hb); (try replace hT2 := hT2.ext hb); (try replace hT3 := hT3.ext hb); (try replace hT4 := hT4.ext hb); (try replace hT5 := hT5.ext hb); (try replace hT6 := hT6.ext hb); (try replace hT7 := hT7.ext hb); have hT1 := hTn; clear hTn; replace hL := hL.below hb; clear hb; (try clear hF); (try simp only [kfb] at hL); have hF := hL.facts; (try simp only [Facts, Dist, kfa, implies_true, forall_const] at hF)) | (go_at_call 9; (((with_reducible refine (HX2.out _).mono ?_))); rintro e W ⟨hb, g2, o2, cap2, rfl, hcp2, hTn⟩; (try replace hT0 := hT0.ext hb); (try replace hT1 := hT1.ext hb); (try replace hT2 := hT2.ext hb); (try replace hT3 := hT3.ext hb); (try replace hT4 := hT4.ext hb); (try replace hT5 := hT5.ext hb); (try replace hT6 := hT6.ext hb); (try replace hT7 := hT7.ext hb); have hT2 := hTn; clear hTn; replace hL := hL.below hb; clear hb; (try clear hF); (try simp only [kfb] at hL); have hF := hL.facts; (try simp only [Facts, Dist, kfa, implies_true, forall_const] at hF); have HL0 := Lib.hid hL; replace hL := Kn.refl [] W; (try clear hF); (try simp only [kfb] at hL); have hF := hL.facts; (try simp only [Facts, Dist, kfa, implies_true, forall_const] at hF); have hxl := (tok_line hT0 HTA.out).1; have hg0 := (tok_line hT0 HTA.out).2; simp only [endT] at hxl; obtain ⟨pv, hg2, z0, z1, z2, z3, z4, z5, hqz⟩ := tok_six hT2 HZ2.out; obtain ⟨ap, cp, rfl, _⟩ := hqz; simp only [List.map_nil, List.length_nil] at z0 z1 z2 z3 z4 z5; obtain ⟨u, hu⟩ : ∃ u : ByteArray, bs [] = .string u := ⟨_, rfl⟩; rw [hu] at z1 z2; clear hu; have HS1 := Lib.hid (hT0.takes nx (by have := HN0.out; omega)); have HS2 := hT2.takes nx (by have := HN0.out; have := HN2.out; omega); rw [HZ1.out] at HS2; replace HS2 := Lib.hid HS2; have HS3 := Lib.hid hT1; have HS4 := hT2.drops n0 (by have := HN2.out; omega); rw [HZ3.out] at HS4; replace HS4 := Lib.hid HS4; have b1 : (nx : Int) ≤ cap0 := (by have := HN0.out; omega); have b2 : (nx : Int) ≤ cap2 := (by have := HN0.out; have := HN2.out; omega); have b3 : (n0 : Int) ≤ n2 := (by have := HN2.out; omega); have b4 : (n2 : Int) ≤ cap2 := (by omega); have b5 : ¬ cap2 = n0 := (by have := HN2.out; omega); clear hT0 hT1 hT2) | ((with_reducible refine at_region 19 ?_); refine kn_wp ?_; (try clear hF); clear hL; intro W hL; (try simp only [kfb] at hL); have hF := hL.facts; (try simp only [Facts, Dist, kfa, implies_true, forall_const] at hF); refine kn_region [0, 1, 2, 3, 4, 5, 6, 7, 8, 9, 10, 11, 12, 13, 14, 15, 16, 17, 18, 19, 20, 21, 22, 23, 24, 25, 26, 27, 28, 29, 30, 31, 32, 33, 34] [0, 1, 2, 3, 4, 5, 6, 7, 8, 9, 10, 11, 13, 14, 15, 16, 17, 18, 19, 20, 21, 22, 23, 24, 25, 26, 27, 28, 29, 30, 31, 33, 34] [12, 32] [0, 1, 2, 3, 4, 5, 6, 7, 8, 9, 10, 11, 13, 14, 15, 17, 18, 19, 20, 22, 23, 24, 25, 26, 27, 28, 29, 30, 31, 33, 34] (by kernel_rfl) (by kernel_rfl) (List.Sublist.refl _) ?_; (try clear hF); clear hL; intro ι F hne hC hFF; have hG := fun n => (hFF n).facts; clear hFF; (try simp only [Facts, Dist, kfa, implies_true, forall_const] at hG); (repeat (first | (refine cwk_skip rfl (by rfl) ?_; (try simp only [Act.put, List.setIfInBounds_toArray, List.set_cons_zero, List.set_cons_succ])) | (refine cwk_float rfl rfl (by rfl) (by rfl) (by rfl) hC ?_; intro K hK; go_big_quiet_op; go_big_quiet_on) | (refine cwk_pure rfl rfl (by rfl) (by rfl) ?_; intro K hK; go_big_quiet_op; go_big_quiet_on) | (refine cwk_call rfl (by rfl) (by rfl) (fun _ => rfl) ?_; intro W hL; (try simp only [kfb] at hL); have hF := hL.facts; (try simp only [Facts, Dist, kfa, implies_true, forall_const] at hF); simp only [List.map_toArray, List.map_cons, List.map_nil, Array.empty_append, Array.append_empty, Act.eval, Array.getD_eq_getD_getElem?, List.getElem?_toArray, List.getElem?_cons_zero, List.getElem?_cons_succ, Option.getD_some]; go_at_call 10; (((first | (with_reducible refine (same0_is _ _ _ hsa.out _ (HS1.out.kn0 hL) (HS2.out.kn0 hL)).mono ?_) | (with_reducible refine (same_is _ _ m (by omega) _ hsb.out _ (HS3.out.kn0 hL) (HS4.out.kn0 hL)).mono ?_)))); rintro e W ⟨rfl, hb⟩; replace hL := hL.below hb; clear hb; (try clear hF); (try simp only [kfb] at hL); have hF := hL.facts; (try simp only [Facts, Dist, kfa, implies_true, forall_const] at hF); refine owed_ret ?_; (first | (refine owedB _ (by rfl) ?_; clear hL; (try clear hF); clear hC hG; intro ι F hne hC hFF; have hG := fun n => (hFF n).facts; clear hFF; (try simp only [Facts, Dist, kfa, implies_true, forall_const] at hG)) | (refine owed0 _ (by repeat' (first | (with_reducible exact List.Sublist.refl _) | (with_reducible apply List.Sublist.cons_cons) | (with_reducible apply List.Sublist.cons))) ?_; clear hL; (try clear hF))); (try simp only [Act.put, List.setIfInBounds_toArray, List.set_cons_zero, List.set_cons_succ])) | (refine cwk_anch rfl rfl (by rfl) (by rfl) ?_; intro W hL; (try simp only [kfb] at hL); have hF := hL.facts; (try simp only [Facts, Dist, kfa, implies_true, forall_const] at hF); go_wp2; refine anchQ_normal ?_; (first | (refine owedB _ (by rfl) ?_; clear hL; (try clear hF); clear hC hG; intro ι F hne hC hFF; have hG := fun n => (hFF n).facts; clear hFF; (try simp only [Facts, Dist, kfa, implies_true, forall_const] at hG)) | (refine owed0 _ (by repeat' (first | (with_reducible exact List.Sublist.refl _) | (with_reducible apply List.Sublist.cons_cons) | (with_reducible apply List.Sublist.cons))) ?_; clear hL; (try clear hF)))))); refine cwk_nil ?_; clear hC hG; intro W hL; (try simp only [kfb] at hL); have hF := hL.facts; (try simp only [Facts, Dist, kfa, implies_true, forall_const] at hF)))
  (try simp only [Exit.inBlock, Exit.then]); refine bodyPost_ret (by simp [results, Tryd.results4, go_sem, *]; try rfl) rfl ?_
  exact ⟨rfl, (HL0.out.tail0 hL).below0⟩

end Go.Proofs.YtflfaobbfhjmmaaDoor

namespace Go.Proofs.YtflfaobbfhjmmaaDoor
open Go Go.RowKit
set_option linter.unusedSimpArgs false
set_option linter.unusedVariables false
set_option maxRecDepth 20000 in
set_option maxHeartbeats 4000000 in
theorem joins_s1 (a b : ByteArray) (HS : Hid (∀ W, Calls Tryd.prog 7 #[] W fun e w' => e = .returned (.bool true) ∧ Below W.heap.size W w')) (h : 3000 < a.size) (w : World) : Calls Tryd.prog 4 #[.string a, .string b] w fun e w' => e = .returned (.bool true) ∧ Below w.heap.size w w' := by
  have q0 : decide ((3000 : Int) < (a.size : Int)) = true := decide_eq_true (by omega)
  have hL : Kn [] w w [] := Kn.refl [] w; (try simp only [kfb] at hL); have hF := hL.facts; (try simp only [Facts, Dist, kfa, implies_true, forall_const] at hF); go_enter Tryd.func4, Tryd.ntmps4
  go_wp2_with (first | ((with_reducible refine kn_list_set ?_); (try clear hF); clear hL; intro W hL; (try simp only [kfb] at hL); have hF := hL.facts; (try simp only [Facts, Dist, kfa, implies_true, forall_const] at hF)) | (go_at_call 7; refine kn_calls ?_; (try clear hF); clear hL; intro W hL; (try simp only [kfb] at hL); have hF := hL.facts; (try simp only [Facts, Dist, kfa, implies_true, forall_const] at hF); (((with_reducible refine (HS.out _).mono ?_))); rintro e W ⟨rfl, hb⟩; replace hL := hL.below hb; clear hb; (try clear hF); (try simp only [kfb] at hL); have hF := hL.facts; (try simp only [Facts, Dist, kfa, implies_true, forall_const] at hF)))
  (try simp only [Exit.inBlock, Exit.then]); refine bodyPost_ret (by simp [results, Tryd.results4, go_sem, *]; try rfl) rfl ?_
  exact ⟨rfl, hL.below0⟩
set_option maxRecDepth 20000 in
set_option maxHeartbeats 4000000 in
theorem joins_s2 (a b : ByteArray) (HS : Hid (∀ W, Calls Tryd.prog 7 #[] W fun e w' => e = .returned (.bool true) ∧ Below W.heap.size W w')) (h0 : a.size ≤ 3000) (h : 3000 < b.size) (w : World) : Calls Tryd.prog 4 #[.string a, .string b] w fun e w' => e = .returned (.bool true) ∧ Below w.heap.size w w' := by
  have q0 : decide ((3000 : Int) < (a.size : Int)) = false := decide_eq_false (by omega)
  have q1 : decide ((3000 : Int) < (b.size : Int)) = true := decide_eq_true (by omega)
  have hL : Kn [] w w [] := Kn.refl [] w; (try simp only [kfb] at hL); have hF := hL.facts; (try simp only [Facts, Dist, kfa, implies_true, forall_const] at hF); go_enter Tryd.func4, Tryd.ntmps4
  go_wp2_with (first | ((with_reducible refine kn_list_set ?_); (try clear hF); clear hL; intro W hL; (try simp only [kfb] at hL); have hF := hL.facts; (try simp only [Facts, Dist, kfa, implies_true, forall_const] at hF)) | (go_at_call 7; refine kn_calls ?_; (try clear hF); clear hL; intro W hL; (try simp only [kfb] at hL); have hF := hL.facts; (try simp only [Facts, Dist, kfa, implies_true, forall_const] at hF); (((with_reducible refine (HS.out _).mono ?_))); rintro e W ⟨rfl, hb⟩; replace hL := hL.below hb; clear hb; (try clear hF); (try simp only [kfb] at hL); have hF := hL.facts; (try simp only [Facts, Dist, kfa, implies_true, forall_const] at hF)))
  (try simp only [Exit.inBlock, Exit.then]); refine bodyPost_ret (by simp [results, Tryd.results4, go_sem, *]; try rfl) rfl ?_
  exact ⟨rfl, hL.below0⟩
set_option maxRecDepth 20000 in
set_option maxHeartbeats 4000000 in
theorem joins_s3 (a b : ByteArray) (HS : Hid (∀ W, Calls Tryd.prog 7 #[] W fun e w' => e = .returned (.bool true) ∧ Below W.heap.size W w')) (ha3 : a.size ≤ 3000) (hb3 : b.size ≤ 3000) (j : Nat) (HAJ : Hid (a.size = j + 1)) (q3 : a.toList.isEmpty = false) (hc0 : a.data.toList[j]? = some 92) (w : World) : Calls Tryd.prog 4 #[.string a, .string b] w fun e w' => e = .returned (.bool true) ∧ Below w.heap.size w w' := by
  have q0 : decide ((3000 : Int) < (a.size : Int)) = false := decide_eq_false (by omega)
  have q1 : decide ((3000 : Int) < (b.size : Int)) = false := decide_eq_false (by omega)
  have s9 : IntKind.i64.wrap ((a.size : Int) - 1) = (j : Int) := by have := HAJ.out; rw [IntWalk.i64_in _ (by omega)]; omega
  have s9' : (j : Int) < a.size := by have := HAJ.out; omega
  have s9'' : (0 : Int) ≤ j := by omega
  have eb0 := byte_at hc0 (by have := HAJ.out; omega)
  have hL : Kn [] w w [] := Kn.refl [] w; (try simp only [kfb] at hL); have hF := hL.facts; (try simp only [Facts, Dist, kfa, implies_true, forall_const] at hF); go_enter Tryd.func4, Tryd.ntmps4
  go_wp2_with (first | ((with_reducible refine kn_list_set ?_); (try clear hF); clear hL; intro W hL; (try simp only [kfb] at hL); have hF := hL.facts; (try simp only [Facts, Dist, kfa, implies_true, forall_const] at hF)) | (go_at_call 7; refine kn_calls ?_; (try clear hF); clear hL; intro W hL; (try simp only [kfb] at hL); have hF := hL.facts; (try simp only [Facts, Dist, kfa, implies_true, forall_const] at hF); (((with_reducible refine (HS.out _).mono ?_))); rintro e W ⟨rfl, hb⟩; replace hL := hL.below hb; clear hb; (try clear hF); (try simp only [kfb] at hL); have hF := hL.facts; (try simp only [Facts, Dist, kfa, implies_true, forall_const] at hF)))
  (try simp only [Exit.inBlock, Exit.then]); refine bodyPost_ret (by simp [results, Tryd.results4, go_sem, *]; try rfl) rfl ?_
  exact ⟨rfl, hL.below0⟩
theorem joins_main0 (a b : ByteArray) (ha3 : a.size ≤ 3000) (hb3 : b.size ≤ 3000) (q3 : a.toList.isEmpty = true) (he : a.data.toList.getLast? ≠ some 92) (w : World) : Calls Tryd.prog 4 #[.string a, .string b] w fun e w' => e = .returned (.bool true) ∧ Below w.heap.size w w' := by
  have HS : Hid (∀ W, Calls Tryd.prog 7 #[] W fun e w' => e = .returned (.bool true) ∧ Below W.heap.size W w') := Lib.hid fun W => small_is W
  obtain ⟨c, hc⟩ : ∃ c, a ++ ⟨#[10]⟩ ++ b = c := ⟨_, rfl⟩
  have hcl : c.data.toList = a.data.toList ++ 10 :: b.data.toList := by rw [← hc]; simp
  have hcs : c.size = a.size + 1 + b.size := by rw [← szl, hcl]; simp; omega
  have hcl8 : (a.data.toList ++ 10 :: b.data.toList).length ≤ 8000 := by rw [← hcl, szl]; omega
  have ANY : ∀ s : ByteArray, s.size ≤ 8000 → Hid (∀ W, Calls Tryd.prog 9 #[.string s] W fun e w' => Below W.heap.size W w' ∧ ∃ (v : Value) (er m : Int), e = .returned (.tuple #[v, .int .i64 er, .int .i64 m])) := fun s h => Lib.hid fun W => lexAny s h W
  cases hA : lex a.data.toList with
  | err full m => exact joins_e0 a b c hc ha3 hb3 HS w q3 (if full then 6 else 27) m (by cases full <;> rfl) (Lib.hid fun W => lexErr a (by omega) full m _ rfl hA W) (ANY b (by omega)) (ANY c (by omega))
  | ok ta =>
    obtain ⟨xs, m, hra, hta, hxl⟩ := lim_ok (by rw [szl]; omega) hA
    have hsm := rawl_small (by rw [szl]; omega) xs m hra
    have hn0 : ta.length = xs.length + 1 := by rw [hta]; simp
    have hlast : ta[xs.length]? = some (endT m) := by rw [hta]; simp
    have OKA := Lib.hid fun W => lexOk a (by omega) ta (xs.length + 1) hA hn0 (by omega) W
    have hbb := rawl_bound _ b.data.toList 1 (Nat.le_refl _)
    rw [szl] at hbb
    cases hB : lex b.data.toList with
    | err full mb =>
      obtain ⟨er2, m2, hFX⟩ := lexFix c (by omega)
      have second : 2000 ≤ xs.length + b.size → _ := fun h => joins_c0 a b c hc ha3 hb3 HS w q3 (xs.length + 1) xs.length m (Lib.hid rfl) hxl (by omega) ta (Lib.hid hlast) (if full then 6 else 27) (by cases full <;> rfl) mb (by have := lex_err_line (by rw [szl]; omega) hB; rw [szl] at this; omega) h er2 m2 OKA (Lib.hid fun W => lexErr b (by omega) full mb _ rfl hB W) (Lib.hid hFX)
      rcases lex_err (by rw [szl]; omega) hB with ⟨rfl, hbad, _⟩ | ⟨rfl, hlong⟩
      · rcases joins_bad hcl8 he hra hbad with hC | hC
        · have hmb : mb ≤ 1 + b.size := by
            have := hbb.2.2
            rw [hbad] at this
            exact this
          exact joins_b0 a b c hc ha3 hb3 HS w q3 (xs.length + 1) xs.length m (Lib.hid rfl) hxl (by omega) ta (Lib.hid hlast) 27 rfl mb (by omega) OKA (Lib.hid fun W => lexErr b (by omega) false mb _ rfl hB W) (Lib.hid fun W => by
            have := lexErr c (by omega) false (mb + m) 27 rfl (by rw [hcl]; exact hC) W
            rw [Int.natCast_add] at this
            exact this)
        · exact second (by rw [szl] at hC; exact hC)
      · exact second (by rw [szl] at hlong; omega)
    | ok tb =>
      obtain ⟨ys, k, hrb, htb, hyl⟩ := lim_ok (by rw [szl]; omega) hB
      have hn1 : tb.length = ys.length + 1 := by rw [htb]; simp
      have hsb := (rawl_small (by rw [szl]; omega) ys k hrb).1
      rw [← htb] at hsb
      have OKB := Lib.hid fun W => lexOk b (by omega) tb (ys.length + 1) hB hn1 (by omega) W
      by_cases hmany : xs.length + ys.length < 2000
      · have hC := joins_ok hcl8 he hra hrb hmany
        rw [← hcl, ← htb] at hC
        exact joins_k0 a b c hc ha3 hb3 HS w q3 (xs.length + 1) xs.length m (Lib.hid rfl) hxl (by omega) ta (Lib.hid hlast) (ys.length + 1) (xs.length + 1 + (ys.length + 1)) tb _ (Lib.hid rfl) (by omega) (by omega) (Lib.hid (by rw [hta]; exact hsm.1.take _)) (Lib.hid hsb) (Lib.hid (by rw [hta]; simp)) (Lib.hid (by simp)) (Lib.hid (by simp)) OKA OKB (Lib.hid fun W => lexOk c (by omega) _ _ hC (by rw [List.length_append, List.length_cons, List.length_map, hn1]; omega) (by omega) W)
      · exact joins_m0 a b c hc ha3 hb3 HS w q3 (xs.length + 1) xs.length m (Lib.hid rfl) hxl (by omega) ta (Lib.hid hlast) (ys.length + 1) tb (by omega) (by omega) OKA OKB (ANY c (by omega))
theorem joins_main1 (a b : ByteArray) (ha3 : a.size ≤ 3000) (hb3 : b.size ≤ 3000) (j : Nat) (HAJ : Hid (a.size = j + 1)) (q3 : a.toList.isEmpty = false) (c0 : UInt8) (hc0 : a.data.toList[j]? = some c0) (h92 : c0 ≠ 92) (he : a.data.toList.getLast? ≠ some 92) (w : World) : Calls Tryd.prog 4 #[.string a, .string b] w fun e w' => e = .returned (.bool true) ∧ Below w.heap.size w w' := by
  have HS : Hid (∀ W, Calls Tryd.prog 7 #[] W fun e w' => e = .returned (.bool true) ∧ Below W.heap.size W w') := Lib.hid fun W => small_is W
  obtain ⟨c, hc⟩ : ∃ c, a ++ ⟨#[10]⟩ ++ b = c := ⟨_, rfl⟩
  have hcl : c.data.toList = a.data.toList ++ 10 :: b.data.toList := by rw [← hc]; simp
  have hcs : c.size = a.size + 1 + b.size := by rw [← szl, hcl]; simp; omega
  have hcl8 : (a.data.toList ++ 10 :: b.data.toList).length ≤ 8000 := by rw [← hcl, szl]; omega
  have ANY : ∀ s : ByteArray, s.size ≤ 8000 → Hid (∀ W, Calls Tryd.prog 9 #[.string s] W fun e w' => Below W.heap.size W w' ∧ ∃ (v : Value) (er m : Int), e = .returned (.tuple #[v, .int .i64 er, .int .i64 m])) := fun s h => Lib.hid fun W => lexAny s h W
  cases hA : lex a.data.toList with
  | err full m => exact joins_e1 a b c hc ha3 hb3 HS w j HAJ q3 c0 hc0 h92 (if full then 6 else 27) m (by cases full <;> rfl) (Lib.hid fun W => lexErr a (by omega) full m _ rfl hA W) (ANY b (by omega)) (ANY c (by omega))
  | ok ta =>
    obtain ⟨xs, m, hra, hta, hxl⟩ := lim_ok (by rw [szl]; omega) hA
    have hsm := rawl_small (by rw [szl]; omega) xs m hra
    have hn0 : ta.length = xs.length + 1 := by rw [hta]; simp
    have hlast : ta[xs.length]? = some (endT m) := by rw [hta]; simp
    have OKA := Lib.hid fun W => lexOk a (by omega) ta (xs.length + 1) hA hn0 (by omega) W
    have hbb := rawl_bound _ b.data.toList 1 (Nat.le_refl _)
    rw [szl] at hbb
    cases hB : lex b.data.toList with
    | err full mb =>
      obtain ⟨er2, m2, hFX⟩ := lexFix c (by omega)
      have second : 2000 ≤ xs.length + b.size → _ := fun h => joins_c1 a b c hc ha3 hb3 HS w j HAJ q3 c0 hc0 h92 (xs.length + 1) xs.length m (Lib.hid rfl) hxl (by omega) ta (Lib.hid hlast) (if full then 6 else 27) (by cases full <;> rfl) mb (by have := lex_err_line (by rw [szl]; omega) hB; rw [szl] at this; omega) h er2 m2 OKA (Lib.hid fun W => lexErr b (by omega) full mb _ rfl hB W) (Lib.hid hFX)
      rcases lex_err (by rw [szl]; omega) hB with ⟨rfl, hbad, _⟩ | ⟨rfl, hlong⟩
      · rcases joins_bad hcl8 he hra hbad with hC | hC
        · have hmb : mb ≤ 1 + b.size := by
            have := hbb.2.2
            rw [hbad] at this
            exact this
          exact joins_b1 a b c hc ha3 hb3 HS w j HAJ q3 c0 hc0 h92 (xs.length + 1) xs.length m (Lib.hid rfl) hxl (by omega) ta (Lib.hid hlast) 27 rfl mb (by omega) OKA (Lib.hid fun W => lexErr b (by omega) false mb _ rfl hB W) (Lib.hid fun W => by
            have := lexErr c (by omega) false (mb + m) 27 rfl (by rw [hcl]; exact hC) W
            rw [Int.natCast_add] at this
            exact this)
        · exact second (by rw [szl] at hC; exact hC)
      · exact second (by rw [szl] at hlong; omega)
    | ok tb =>
      obtain ⟨ys, k, hrb, htb, hyl⟩ := lim_ok (by rw [szl]; omega) hB
      have hn1 : tb.length = ys.length + 1 := by rw [htb]; simp
      have hsb := (rawl_small (by rw [szl]; omega) ys k hrb).1
      rw [← htb] at hsb
      have OKB := Lib.hid fun W => lexOk b (by omega) tb (ys.length + 1) hB hn1 (by omega) W
      by_cases hmany : xs.length + ys.length < 2000
      · have hC := joins_ok hcl8 he hra hrb hmany
        rw [← hcl, ← htb] at hC
        exact joins_k1 a b c hc ha3 hb3 HS w j HAJ q3 c0 hc0 h92 (xs.length + 1) xs.length m (Lib.hid rfl) hxl (by omega) ta (Lib.hid hlast) (ys.length + 1) (xs.length + 1 + (ys.length + 1)) tb _ (Lib.hid rfl) (by omega) (by omega) (Lib.hid (by rw [hta]; exact hsm.1.take _)) (Lib.hid hsb) (Lib.hid (by rw [hta]; simp)) (Lib.hid (by simp)) (Lib.hid (by simp)) OKA OKB (Lib.hid fun W => lexOk c (by omega) _ _ hC (by rw [List.length_append, List.length_cons, List.length_map, hn1]; omega) (by omega) W)
      · exact joins_m1 a b c hc ha3 hb3 HS w j HAJ q3 c0 hc0 h92 (xs.length + 1) xs.length m (Lib.hid rfl) hxl (by omega) ta (Lib.hid hlast) (ys.length + 1) tb (by omega) (by omega) OKA OKB (ANY c (by omega))
theorem LexJoins_is (a b : ByteArray) (w : World) : Calls Tryd.prog 4 #[.string a, .string b] w fun e w' => e = .returned (.bool true) ∧ Below w.heap.size w w' := by
  have HS : Hid (∀ W, Calls Tryd.prog 7 #[] W fun e w' => e = .returned (.bool true) ∧ Below W.heap.size W w') := Lib.hid fun W => small_is W
  by_cases ha3 : a.size ≤ 3000
  · by_cases hb3 : b.size ≤ 3000
    · rcases snoc_of a.data.toList with ha | ⟨i, x, ha⟩
      · exact joins_main0 a b ha3 hb3 (by rw [Lib.toList_data, ha]; rfl) (by rw [ha]; simp) w
      · have haj : a.size = i.length + 1 := by rw [← szl, ha]; simp
        have hc0 : a.data.toList[i.length]? = some x := by rw [ha]; simp
        have q3 : a.toList.isEmpty = false := by rw [Lib.toList_data, ha]; simp
        by_cases h92 : x = 92
        · subst h92
          exact joins_s3 a b HS ha3 hb3 i.length (Lib.hid haj) q3 hc0 w
        · exact joins_main1 a b ha3 hb3 i.length (Lib.hid haj) q3 x hc0 h92 (by rw [ha]; simpa using h92) w
    · exact joins_s2 a b HS ha3 (by omega) w
  · exact joins_s1 a b HS (by omega) w

end Go.Proofs.YtflfaobbfhjmmaaDoor

