/- Lemmas and walks for the law LawLabels (part 31). -/
import Derived.Test.YtfdlifhkeicnnaaGreatDoorLawLabelsMb
import Derived.Test.YtfdlifhkeicnnaaGreatDoorProg
import Derived.WalkKit
import Derived.Handy
import Derived.Deep.Light
import Derived.WalkSmall
import Derived.StillTailTactics
import Derived.Lib.Hide
namespace Go.Proofs.YtfdlifhkeicnnaaGreatDoor
open Go Go.RowKit
set_option linter.unusedSimpArgs false
set_option linter.unusedVariables false
theorem asm_call {src code : ByteArray} {cl : Bytes} (h : asm OO (linesB src.data.toList) = .ok cl) (hc : code.data.toList = cl) (hs : src.size ≤ 20000) (W : World) (hT : TabA W) : Calls Tryz.prog 11 #[.string src] W fun e w' => e = .returned (.tuple #[.string code, .int .i64 0, .int .i64 0]) ∧ Below W.heap.size W w' := by
  refine (Assemble_is (Lib.hid iany) src hs W hT).mono fun e w' h2 => ?_
  unfold AsmP at h2
  rw [h] at h2
  subst hc
  have h3 := h2.2
  simp only [toList_mk] at h3
  exact ⟨h3, h2.1⟩
theorem srcN_len (p q : Nat) (a b : Bytes) : (srcN p q a b).length = 4 * p + 4 * q + 3 * a.length + 5 * b.length + 51 := by
  unfold srcN
  have h : ∀ n : Nat, ((List.replicate n [110, 111, 112, 10]).flatten : Bytes).length = 4 * n := fun n => by
    induction n with
    | zero => rfl
    | succ n ih => rw [List.replicate_succ, List.flatten_cons, List.length_append, ih]; simp; omega
  simp only [List.length_append, h, List.length_cons, List.length_nil]
  omega
theorem at_call (code : ByteArray) (n m op : Nat) (a b c : Int) (hn : n = 64 + m) (hc : code.size ≤ 5000) (hm : m + 4 ≤ code.size) (h : decB ((code.data.toList.drop m).take 4) = some (op, a, b, c)) (W : World) (hT : TabA W) : Calls Tryz.prog 36 #[.string code, .int .i64 (n : Int)] W fun e w' => e = .returned (.agg #[.int .i64 op, .int .i64 a, .int .i64 b, .int .i64 c]) ∧ Below W.heap.size W w' := by
  refine at_is code (code.extract (n - 64) (n - 64 + 4)) n op a b c (by omega) hc (by omega) rfl (Lib.hid fun W h2 => Decode_some _ op a b c ?_ W h2) W hT
  rw [← h]
  congr 1
  simp only [ByteArray.data_extract, Array.toList_extract, List.extract_eq_take_drop]
  rw [show n - 64 = m by omega, show m + 4 - m = 4 by omega]
theorem labels_any (p q : Int) (a b : ByteArray) (w : World) (hT : TabA w) : Calls Tryz.prog 4 #[.int .i64 p, .int .i64 q, .string a, .string b] w fun e w' => e = .returned (.bool true) ∧ Below w.heap.size w w' := by
  have na : a.size ≤ 1000000 → Hid (∀ W, Calls Tryz.prog 12 #[.string a] W fun e w' => e = .returned (.bool (named a.data.toList)) ∧ Below W.heap.size W w') := fun h => Lib.hid fun W => refName_is a h W
  have nb : b.size ≤ 1000000 → Hid (∀ W, Calls Tryz.prog 12 #[.string b] W fun e w' => e = .returned (.bool (named b.data.toList)) ∧ Below W.heap.size W w') := fun h => Lib.hid fun W => refName_is b h W
  by_cases h0 : p < 0
  · exact lab_out0 p q a b (decide_eq_true h0) w hT
  replace h0 := decide_eq_false h0
  by_cases h1 : 300 < p
  · exact lab_out1 p q a b h0 (decide_eq_true h1) w hT
  by_cases h2 : q < 0
  · exact lab_out2 p q a b h0 (decide_eq_false h1) (decide_eq_true h2) w hT
  by_cases h3 : 300 < q
  · exact lab_out3 p q a b h0 (decide_eq_false h1) (decide_eq_false h2) (decide_eq_true h3) w hT
  by_cases h4 : 40 < a.size
  · exact lab_out4 p q a b h0 (decide_eq_false h1) (decide_eq_false h2) (decide_eq_false h3) (decide_eq_true (by omega)) (decide_eq_true h4) w hT
  have g4 : decide ((40 : Int) < (a.size : Int)) = false := decide_eq_false (by omega)
  by_cases h5 : 40 < b.size
  · exact lab_out5 p q a b h0 (decide_eq_false h1) (decide_eq_false h2) (decide_eq_false h3) g4 (decide_eq_false h4) (decide_eq_true (by omega)) (decide_eq_true h5) w hT
  have g5 : decide ((40 : Int) < (b.size : Int)) = false := decide_eq_false (by omega)
  replace na := na (by omega)
  replace nb := nb (by omega)
  cases h6 : named a.data.toList with
  | false =>
    rw [h6] at na
    exact lab_out6 p q a b h0 (decide_eq_false h1) (decide_eq_false h2) (decide_eq_false h3) g4 (decide_eq_false h4) g5 (decide_eq_false h5) na w hT
  | true =>
  rw [h6] at na
  cases h7 : named b.data.toList with
  | false =>
    rw [h7] at nb
    exact lab_out7 p q a b h0 (decide_eq_false h1) (decide_eq_false h2) (decide_eq_false h3) g4 (decide_eq_false h4) g5 (decide_eq_false h5) na nb w hT
  | true =>
  rw [h7] at nb
  cases h8 : (a.toList == b.toList) with
  | true => exact lab_out8 p q a b h0 (decide_eq_false h1) (decide_eq_false h2) (decide_eq_false h3) g4 (decide_eq_false h4) g5 (decide_eq_false h5) na nb h8 w hT
  | false =>
  have h0' := of_decide_eq_false h0
  obtain ⟨p, rfl⟩ : ∃ k : Nat, p = k := ⟨p.toNat, by omega⟩
  obtain ⟨q, rfl⟩ : ∃ k : Nat, q = k := ⟨q.toNat, by omega⟩
  have hab : a.data.toList ≠ b.data.toList := by
    intro e
    have : a = b := ba_ext e
    rw [this] at h8; simp at h8
  obtain ⟨code, hcode⟩ := ba_of (codeN p q)
  obtain ⟨hlen, d1, d2, d3, d4, d5⟩ := code_at p q (by omega) (by omega)
  rw [← hcode] at hlen d1 d2 d3 d4 d5
  rw [szl] at hlen
  obtain ⟨xb, exb⟩ : ∃ x, (⟨#[120, 95]⟩ : ByteArray) ++ b = x := ⟨_, rfl⟩
  obtain ⟨ya, eya⟩ : ∃ x, (⟨#[121, 95]⟩ : ByteArray) ++ a = x := ⟨_, rfl⟩
  have zxb : xb.size = 2 + b.size := by rw [← exb, ByteArray.size_append]; rfl
  have zya : ya.size = 2 + a.size := by rw [← eya, ByteArray.size_append]; rfl
  have lxb : xb.data.toList = 120 :: 95 :: b.data.toList := by rw [← exb]; simp
  have lya : ya.data.toList = 121 :: 95 :: a.data.toList := by rw [← eya]; simp
  have nxb : named xb.data.toList = true := by rw [lxb]; exact named_pre 120 (by decide) h7
  have nya : named ya.data.toList = true := by rw [lya]; exact named_pre 121 (by decide) h6
  have nxy : xb.data.toList ≠ ya.data.toList := by rw [lxb, lya]; simp
  have s1 := srcN_len p q a.data.toList b.data.toList
  have s2 := srcN_len p q xb.data.toList ya.data.toList
  have hmax : IntKind.i64.max = 9223372036854775807 := by decide
  obtain ⟨src, hsrc⟩ := ba_of (srcN p q a.data.toList b.data.toList)
  obtain ⟨src2, hsrc2⟩ := ba_of (srcN p q xb.data.toList ya.data.toList)
  have q1 : src.size ≤ 20000 := by rw [← szl, hsrc, s1, szl, szl]; omega
  have q2 : src2.size ≤ 20000 := by rw [← szl, hsrc2, s2, szl, szl]; omega
  have P1 : Hid (∀ W, Calls Tryz.prog 13 #[.int .i64 (p : Int), .int .i64 (q : Int), .string a, .string b] W fun e w' => e = .returned (.string src) ∧ Below W.heap.size W w') := Lib.hid fun W => by
    have := program_is p q (by omega) (by omega) a b (by omega) (by omega) W
    rw [← hsrc, toList_mk] at this; exact this
  have P2 : Hid (∀ W, Calls Tryz.prog 13 #[.int .i64 (p : Int), .int .i64 (q : Int), .string xb, .string ya] W fun e w' => e = .returned (.string src2) ∧ Below W.heap.size W w') := Lib.hid fun W => by
    have := program_is p q (by omega) (by omega) xb ya (by omega) (by omega) W
    rw [← hsrc2, toList_mk] at this; exact this
  have A1 := Lib.hid fun W h => asm_call (src := src) (code := code) (cl := codeN p q) (by rw [hsrc]; exact labels_plain p q (by omega) (by omega) _ _ h6 h7 hab) hcode q1 W h
  have A2 := Lib.hid fun W h => asm_call (src := src2) (code := code) (cl := codeN p q) (by rw [hsrc2]; exact labels_plain p q (by omega) (by omega) _ _ nxb nya nxy) hcode q2 W h
  obtain ⟨A, hA⟩ : ∃ A : Nat, 64 + 4 * p = A := ⟨_, rfl⟩
  obtain ⟨B, hB⟩ : ∃ B : Nat, A + 4 * (q + 3) = B := ⟨_, rfl⟩
  have hcs : code.size ≤ 5000 := by omega
  have T1 := fun W h => at_call code A (4 * p) _ _ _ _ (by omega) hcs (by omega) d1 W h
  have T2 := fun W h => at_call code (A + 4) (4 * p + 4) _ _ _ _ (by omega) hcs (by omega) d2 W h
  have T3 := fun W h => at_call code B (4 * (p + 3 + q)) _ _ _ _ (by omega) hcs (by omega) d3 W h
  have T4 := fun W h => at_call code (B + 4) (4 * (p + 3 + q) + 4) _ _ _ _ (by omega) hcs (by omega) d4 W h
  have T5 := fun W h => at_call code (B + 8) (4 * (p + 3 + q) + 8) _ _ _ _ (by omega) hcs (by omega) d5 W h
  have e4 : ((A + 4 : Nat) : Int) = (A : Int) + 4 := by omega
  have e5 : ((B + 4 : Nat) : Int) = (B : Int) + 4 := by omega
  have e6 : ((B + 8 : Nat) : Int) = (B : Int) + 8 := by omega
  rw [e4] at T2
  rw [e5] at T4
  rw [e6] at T5
  refine lab_in p q A B a b xb ya src src2 code (by omega) (by omega) (by omega) (by omega) exb eya (by omega) (by omega) (by rw [hmax, show (⟨#[120, 95]⟩ : ByteArray).size = 2 from rfl]; omega) (by rw [hmax, show (⟨#[121, 95]⟩ : ByteArray).size = 2 from rfl]; omega) h8 hcs (bne_eq_false_iff_eq.2 (by rw [hlen]; omega)) (by omega) (by omega) (by omega) (by omega) na nb P1 P2 A1 A2 (Lib.hid fun W h => ?_) (Lib.hid fun W h => ?_) (Lib.hid fun W h => ?_) (Lib.hid fun W h => ?_) (Lib.hid fun W h => ?_) w hT
  · exact goes_is code A B _ _ _ _ rfl (by omega) (by omega) (beq_iff_eq.2 (by omega)) (Lib.hid T1) W h
  · exact goes_is code B A _ _ _ _ rfl (by omega) (by omega) (beq_iff_eq.2 (by omega)) (Lib.hid T3) W h
  · exact tells_addr code ((A : Int) + 4) B _ _ _ _ rfl rfl (by omega) (by omega) (beq_iff_eq.2 (by omega)) (Lib.hid T2) W h
  · exact tells_addr code ((B : Int) + 4) A _ _ _ _ rfl rfl (by omega) (by omega) (beq_iff_eq.2 (by omega)) (Lib.hid T4) W h
  · exact tells_set code ((B : Int) + 8) B _ _ _ _ rfl rfl rfl (by omega) (beq_iff_eq.2 (by omega)) (Lib.hid T5) W h

end Go.Proofs.YtfdlifhkeicnnaaGreatDoor
