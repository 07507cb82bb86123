/- Plain arithmetic: numbers. -/
import Derived.Test.YtibaebgihbdphaaDoorCpuPb
namespace Go.Proofs.YtibaebgihbdphaaDoor
open Go Go.RowKit
set_option linter.unusedSimpArgs false
set_option linter.unusedVariables false
def withAB (r : Rg) (a b : Int) : Rg := ⟨r.r0, a, b, r.r3, r.r4, r.r5, r.r6, r.r7, r.pc⟩
/-- One operation on two registers, the register file being words: the result alone has turned. -/
theorem alu_sel {op a b c k : Int} {r : Rg} (hf : form op = 3) (h31 : op ≠ 31) (h0 : 0 ≤ a) (h7 : a ≤ 7) (h1 : 0 ≤ b) (h2 : b ≤ 7) (h3 : 0 ≤ c) (h4 : c ≤ 7) (hw : wordsB r = true) (hk : calcOk op (r.sel c) = true) (k0 : 0 ≤ k) (k7 : k ≤ 7) :
    (execS op a b c r).1.sel k = if k = a then wrap32 (calcN op (r.sel b) (r.sel c)) else r.sel k := by
  rw [exec_alu (valid_3 hf h0 h7 h1 h2 h3 h4) h31 hf (by rw [wrap_eq hw]; exact hk), wrap_eq hw, sel_wrap]
  by_cases e : k = a
  · subst e; rw [sel_set k0 k7, if_pos rfl]
  · rw [sel_set_ne k0 k7 (fun h => e h.symm), if_neg e, sel_go]
    exact w32_id (sel_isW hw k)
theorem alu_words {op a b c : Int} {r : Rg} (hf : form op = 3) (h31 : op ≠ 31) (h0 : 0 ≤ a) (h7 : a ≤ 7) (h1 : 0 ≤ b) (h2 : b ≤ 7) (h3 : 0 ≤ c) (h4 : c ≤ 7) (hk : calcOk op (r.wrap.sel c) = true) : wordsB (execS op a b c r).1 = true := by
  rw [exec_alu (valid_3 hf h0 h7 h1 h2 h3 h4) h31 hf hk]; exact words_wrap _
theorem exec_of_wrap (op a b c : Int) (r : Rg) : execS op a b c r.wrap = execS op a b c r := by
  unfold execS; rw [wrap_wrap]
theorem ok_not {op b : Int} (h : op ≠ 7) (h' : op ≠ 8) : calcOk op b = true := by simp [calcOk, h, h']
set_option maxRecDepth 20000 in
theorem ofInt_bits (V : BitVec 64) : BitVec.ofInt 32 (IntKind.i64.wrap (V.toNat : Int)) = V.setWidth 32 := by
  apply BitVec.eq_of_toNat_eq
  rw [BitVec.toNat_ofInt, BitVec.toNat_setWidth]
  have h := V.isLt
  rw [IntKind.wrap_i64]
  omega
set_option maxRecDepth 20000 in
theorem setWidth_ofInt (a : Int) : (BitVec.ofInt 64 a).setWidth 32 = BitVec.ofInt 32 a := by
  apply BitVec.eq_of_toNat_eq
  rw [BitVec.toNat_setWidth, BitVec.toNat_ofInt, BitVec.toNat_ofInt]
  omega
set_option maxRecDepth 20000 in
theorem w32_bv (n : Int) : wrap32 n = (BitVec.ofInt 32 n).toInt := by
  rw [BitVec.toInt_ofInt]; unfold wrap32; simp [Int.bmod]; split <;> omega
set_option maxRecDepth 20000 in
theorem ofInt_w32 (n : Int) : BitVec.ofInt 32 (wrap32 n) = BitVec.ofInt 32 n := by
  apply BitVec.eq_of_toNat_eq
  rw [BitVec.toNat_ofInt, BitVec.toNat_ofInt]
  unfold wrap32; omega
set_option maxRecDepth 20000 in
theorem ofInt_xor (a b : Int) : BitVec.ofInt 32 (bits .xor .i64 a b) = BitVec.ofInt 32 a ^^^ BitVec.ofInt 32 b := by
  show BitVec.ofInt 32 (IntKind.i64.wrap ((BitVec.ofInt 64 a ^^^ BitVec.ofInt 64 b).toNat : Int)) = _
  rw [ofInt_bits, BitVec.setWidth_xor, setWidth_ofInt, setWidth_ofInt]
theorem xor_xor (a b : Int) (ha : isW a = true) : wrap32 (bits .xor .i64 (wrap32 (bits .xor .i64 a b)) b) = a := by
  rw [w32_bv, ofInt_xor, ofInt_w32, ofInt_xor, BitVec.xor_assoc, BitVec.xor_self, BitVec.xor_zero, ← w32_bv, w32_id ha]
theorem shift_core (a : Int) (n : Nat) (hn : n < 32) : wrap32 ((wrap32 (wrap64 (a * 2 ^ n)) % 4294967296) / 2 ^ n) % 4294967296 = a % 2 ^ (32 - n) := by
  have hK : (2 : Int) ^ n * 2 ^ (32 - n) = 4294967296 := by
    rw [← Int.pow_add, show n + (32 - n) = 32 by omega]; rfl
  have k0 : (0 : Int) < 2 ^ n := Int.pow_pos (by decide)
  have m0 : (0 : Int) < 2 ^ (32 - n) := Int.pow_pos (by decide)
  have h1 : ∀ x : Int, wrap32 (wrap64 x) % 4294967296 = x % 4294967296 := fun x => by unfold wrap32 wrap64; omega
  have h2 : ∀ x : Int, wrap32 x % 4294967296 = x % 4294967296 := fun x => by unfold wrap32; omega
  rw [h1, h2, Int.mul_comm a]
  conv => lhs; arg 1; arg 1; rw [← hK]
  rw [Int.mul_emod_mul_of_pos _ _ k0, Int.mul_ediv_cancel_left _ (Int.ne_of_gt k0)]
  have hm0 := Int.emod_nonneg a (Int.ne_of_gt m0)
  have hm1 := Int.emod_lt_of_pos a m0
  have hle : (2 : Int) ^ (32 - n) ≤ 4294967296 := by
    rw [← hK]
    have : (1 : Int) * 2 ^ (32 - n) ≤ 2 ^ n * 2 ^ (32 - n) := Int.mul_le_mul_of_nonneg_right (by omega) (by omega)
    omega
  exact Int.emod_eq_of_lt hm0 (by omega)
theorem mask_eq (a b : Int) : bits .and .i64 (a % 4294967296) (wrap64 (wrap64 (2 ^ (32 - b % 32).toNat) - 1)) = a % 2 ^ (32 - (b % 32).toNat) := by
  have e : (32 - b % 32).toNat = 32 - (b % 32).toNat := by omega
  rw [e]
  generalize hm : 32 - (b % 32).toNat = m
  have hm1 : m ≤ 32 := by omega
  have hle : (2 : Int) ^ m ≤ 2 ^ 32 := by exact_mod_cast (Nat.pow_le_pow_right (by decide) hm1 : 2 ^ m ≤ 2 ^ 32)
  have hpos : (0 : Int) < 2 ^ m := Int.pow_pos (by decide)
  have w1 : wrap64 ((2 : Int) ^ m) = 2 ^ m := IntWalk.wrap64_in _ (by simp at hle; omega)
  have w2 : wrap64 ((2 : Int) ^ m - 1) = 2 ^ m - 1 := IntWalk.wrap64_in _ (by simp at hle; omega)
  rw [w1, w2, and_mask m (by omega)]
  refine Int.emod_emod_of_dvd _ ⟨2 ^ (32 - m), ?_⟩
  rw [← Int.pow_add, show m + (32 - m) = 32 by omega]; rfl
theorem shift_plain (r : Rg) (a b : Int) (ha : isW a = true) (hb : isW b = true) (s : Rg) (hs : (execS 13 3 3 2 (execS 12 3 1 2 (withAB r a b)).1).1 = s) :
    s.r3 % 4294967296 = bits .and .i64 (a % 4294967296) (wrap64 (wrap64 (2 ^ (32 - b % 32).toNat) - 1)) := by
  have w0 := words_wrap (withAB r a b)
  have a0 : (withAB r a b).wrap.sel 1 = a := by rw [sel_wrap]; exact w32_id ha
  have b0 : (withAB r a b).wrap.sel 2 = b := by rw [sel_wrap]; exact w32_id hb
  rw [← exec_of_wrap 12 3 1 2 (withAB r a b)] at hs
  generalize (withAB r a b).wrap = q0 at *
  have S1 := fun k => alu_sel (op := 12) (a := 3) (b := 1) (c := 2) (k := k) (r := q0) (by decide) (by decide) (by decide) (by decide) (by decide) (by decide) (by decide) (by decide) w0 (ok_not (by decide) (by decide))
  have w1 := alu_words (op := 12) (a := 3) (b := 1) (c := 2) (r := q0) (by decide) (by decide) (by decide) (by decide) (by decide) (by decide) (by decide) (by decide) (ok_not (by decide) (by decide))
  generalize (execS 12 3 1 2 q0).1 = q1 at *
  have S2 := alu_sel (op := 13) (a := 3) (b := 3) (c := 2) (k := 3) (r := q1) (by decide) (by decide) (by decide) (by decide) (by decide) (by decide) (by decide) (by decide) w1 (ok_not (by decide) (by decide)) (by decide) (by decide)
  rw [hs, if_pos rfl, S1 3 (by decide) (by decide), if_pos rfl, S1 2 (by decide) (by decide), if_neg (by decide), a0, b0] at S2
  rw [mask_eq]
  show s.sel 3 % 4294967296 = _
  rw [S2]
  exact shift_core a (b % 32).toNat (by omega)
theorem div_plain (r : Rg) (a b : Int) (ha : isW a = true) (hb : isW b = true) (h0 : b ≠ 0) (ho : ¬ (a = -2147483648 ∧ b = -1)) (s : Rg) (hs : (execS 8 4 1 2 (execS 7 3 1 2 (withAB r a b)).1).1 = s) :
    s.r3 = a.tdiv b ∧ s.r4 = a.tmod b := by
  have w0 := words_wrap (withAB r a b)
  have a0 : (withAB r a b).wrap.sel 1 = a := by rw [sel_wrap]; exact w32_id ha
  have b0 : (withAB r a b).wrap.sel 2 = b := by rw [sel_wrap]; exact w32_id hb
  rw [← exec_of_wrap 7 3 1 2 (withAB r a b)] at hs
  generalize (withAB r a b).wrap = q0 at *
  have ok : ∀ op, calcOk op b = true := fun op => by simp [calcOk, h0]
  have S1 := fun k => alu_sel (op := 7) (a := 3) (b := 1) (c := 2) (k := k) (r := q0) (by decide) (by decide) (by decide) (by decide) (by decide) (by decide) (by decide) (by decide) w0 (by rw [b0]; exact ok 7)
  have w1 := alu_words (op := 7) (a := 3) (b := 1) (c := 2) (r := q0) (by decide) (by decide) (by decide) (by decide) (by decide) (by decide) (by decide) (by decide) (by rw [wrap_eq w0, b0]; exact ok 7)
  generalize (execS 7 3 1 2 q0).1 = q1 at *
  have g1 : q1.sel 1 = a := by rw [S1 1 (by decide) (by decide), if_neg (by decide), a0]
  have g2 : q1.sel 2 = b := by rw [S1 2 (by decide) (by decide), if_neg (by decide), b0]
  have S2 := fun k => alu_sel (op := 8) (a := 4) (b := 1) (c := 2) (k := k) (r := q1) (by decide) (by decide) (by decide) (by decide) (by decide) (by decide) (by decide) (by decide) w1 (by rw [g2]; exact ok 8)
  rw [hs] at S2
  simp only [isW, decide_eq_true_eq] at ha hb
  have hq := Int.natAbs_tdiv a b
  have hr := Int.natAbs_tmod a b
  have hbp : 0 < b.natAbs := Int.natAbs_pos.2 h0
  have hrl : a.natAbs % b.natAbs < b.natAbs := Nat.mod_lt _ hbp
  have hql : a.natAbs / b.natAbs ≤ a.natAbs := Nat.div_le_self _ _
  have hqr : -2147483648 ≤ a.tdiv b ∧ a.tdiv b < 2147483648 := by
    by_cases h1 : b = 1
    · subst h1; rw [Int.tdiv_one]; omega
    · by_cases h2 : b = -1
      · subst h2; rw [Int.tdiv_neg, Int.tdiv_one]; omega
      · have : (a.tdiv b).natAbs ≤ a.natAbs / 2 := by rw [hq]; exact Nat.div_le_div_left (by omega) (by decide)
        omega
  constructor
  · show s.sel 3 = _
    rw [S2 3 (by decide) (by decide), if_neg (by decide), S1 3 (by decide) (by decide), if_pos rfl, a0, b0]
    show wrap32 (if b = 0 then 0 else wrap64 (a.tdiv b)) = _
    rw [if_neg h0]; unfold wrap32 wrap64; omega
  · show s.sel 4 = _
    rw [S2 4 (by decide) (by decide), if_pos rfl, g1, g2]
    show wrap32 (if b = 0 then 0 else a.tmod b) = _
    rw [if_neg h0]; unfold wrap32; omega
theorem numbers_plain (r : Rg) (a b : Int) (ha : isW a = true) (hb : isW b = true) (s : Rg)
    (hs : (execS 17 6 2 1 (execS 16 5 1 2 (execS 11 4 4 2 (execS 11 4 1 2 (execS 5 3 3 2 (execS 4 3 1 2 (withAB r a b)).1).1).1).1).1).1 = s) : s.r3 = a ∧ s.r4 = a ∧ s.r5 + s.r6 = 1 := by
  have w0 := words_wrap (withAB r a b)
  have a0 : (withAB r a b).wrap.sel 1 = a := by rw [sel_wrap]; exact w32_id ha
  have b0 : (withAB r a b).wrap.sel 2 = b := by rw [sel_wrap]; exact w32_id hb
  rw [← exec_of_wrap 4 3 1 2 (withAB r a b)] at hs
  generalize (withAB r a b).wrap = q0 at *
  have S1 := fun k => alu_sel (op := 4) (a := 3) (b := 1) (c := 2) (k := k) (r := q0) (by decide) (by decide) (by decide) (by decide) (by decide) (by decide) (by decide) (by decide) w0 (ok_not (by decide) (by decide))
  have w1 := alu_words (op := 4) (a := 3) (b := 1) (c := 2) (r := q0) (by decide) (by decide) (by decide) (by decide) (by decide) (by decide) (by decide) (by decide) (ok_not (by decide) (by decide))
  generalize (execS 4 3 1 2 q0).1 = q1 at *
  have S2 := fun k => alu_sel (op := 5) (a := 3) (b := 3) (c := 2) (k := k) (r := q1) (by decide) (by decide) (by decide) (by decide) (by decide) (by decide) (by decide) (by decide) w1 (ok_not (by decide) (by decide))
  have w2 := alu_words (op := 5) (a := 3) (b := 3) (c := 2) (r := q1) (by decide) (by decide) (by decide) (by decide) (by decide) (by decide) (by decide) (by decide) (ok_not (by decide) (by decide))
  generalize (execS 5 3 3 2 q1).1 = q2 at *
  have S3 := fun k => alu_sel (op := 11) (a := 4) (b := 1) (c := 2) (k := k) (r := q2) (by decide) (by decide) (by decide) (by decide) (by decide) (by decide) (by decide) (by decide) w2 (ok_not (by decide) (by decide))
  have w3 := alu_words (op := 11) (a := 4) (b := 1) (c := 2) (r := q2) (by decide) (by decide) (by decide) (by decide) (by decide) (by decide) (by decide) (by decide) (ok_not (by decide) (by decide))
  generalize (execS 11 4 1 2 q2).1 = q3 at *
  have S4 := fun k => alu_sel (op := 11) (a := 4) (b := 4) (c := 2) (k := k) (r := q3) (by decide) (by decide) (by decide) (by decide) (by decide) (by decide) (by decide) (by decide) w3 (ok_not (by decide) (by decide))
  have w4 := alu_words (op := 11) (a := 4) (b := 4) (c := 2) (r := q3) (by decide) (by decide) (by decide) (by decide) (by decide) (by decide) (by decide) (by decide) (ok_not (by decide) (by decide))
  generalize (execS 11 4 4 2 q3).1 = q4 at *
  have S5 := fun k => alu_sel (op := 16) (a := 5) (b := 1) (c := 2) (k := k) (r := q4) (by decide) (by decide) (by decide) (by decide) (by decide) (by decide) (by decide) (by decide) w4 (ok_not (by decide) (by decide))
  have w5 := alu_words (op := 16) (a := 5) (b := 1) (c := 2) (r := q4) (by decide) (by decide) (by decide) (by decide) (by decide) (by decide) (by decide) (by decide) (ok_not (by decide) (by decide))
  generalize (execS 16 5 1 2 q4).1 = q5 at *
  have S6 := fun k => alu_sel (op := 17) (a := 6) (b := 2) (c := 1) (k := k) (r := q5) (by decide) (by decide) (by decide) (by decide) (by decide) (by decide) (by decide) (by decide) w5 (ok_not (by decide) (by decide))
  rw [hs] at S6
  have G : ∀ k : Int, 0 ≤ k → k ≤ 2 → q1.sel k = q0.sel k ∧ q2.sel k = q0.sel k ∧ q3.sel k = q0.sel k ∧ q4.sel k = q0.sel k ∧ q5.sel k = q0.sel k := fun k h0 h2 => by
    have e1 := S1 k h0 (by omega); have e2 := S2 k h0 (by omega); have e3 := S3 k h0 (by omega); have e4 := S4 k h0 (by omega); have e5 := S5 k h0 (by omega)
    rw [if_neg (by omega)] at e1 e2 e3 e4 e5
    rw [e5, e4, e3, e2, e1]; exact ⟨rfl, rfl, rfl, rfl, rfl⟩
  obtain ⟨g11, g12, g13, g14, g15⟩ := G 1 (by decide) (by decide)
  obtain ⟨g21, g22, g23, g24, g25⟩ := G 2 (by decide) (by decide)
  have e3 : s.sel 3 = a := by
    rw [S6 3 (by decide) (by decide), if_neg (by decide), S5 3 (by decide) (by decide), if_neg (by decide), S4 3 (by decide) (by decide), if_neg (by decide), S3 3 (by decide) (by decide), if_neg (by decide),
      S2 3 (by decide) (by decide), if_pos rfl, S1 3 (by decide) (by decide), if_pos rfl, g21, a0, b0]
    show wrap32 (wrap64 (wrap32 (wrap64 (a + b)) - b)) = a
    simp only [isW, decide_eq_true_eq] at ha hb
    unfold wrap32 wrap64; omega
  have e4 : s.sel 4 = a := by
    rw [S6 4 (by decide) (by decide), if_neg (by decide), S5 4 (by decide) (by decide), if_neg (by decide), S4 4 (by decide) (by decide), if_pos rfl, S3 4 (by decide) (by decide), if_pos rfl, g12, g22, g23, a0, b0]
    exact xor_xor a b ha
  have e5 : s.sel 5 = one (decide (a < b)) := by
    rw [S6 5 (by decide) (by decide), if_neg (by decide), S5 5 (by decide) (by decide), if_pos rfl, g14, g24, a0, b0]
    show wrap32 (one (decide (a < b))) = _
    by_cases h : a < b <;> simp [h, one, wrap32]
  have e6 : s.sel 6 = one (decide (b ≤ a)) := by
    rw [S6 6 (by decide) (by decide), if_pos rfl, g15, g25, a0, b0]
    show wrap32 (one (decide (b ≤ a))) = _
    by_cases h : b ≤ a <;> simp [h, one, wrap32]
  refine ⟨e3, e4, ?_⟩
  show s.sel 5 + s.sel 6 = 1
  rw [e5, e6]
  by_cases h : a < b
  · simp [h, one, Int.not_le.2 h]
  · simp [h, one, Int.not_lt.1 h]
end Go.Proofs.YtibaebgihbdphaaDoor
