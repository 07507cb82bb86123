/- Lemmas and walks for the law LawBytes (part 29). -/
import Derived.Test.YtfdlifhkeicnnaaGreatDoorPc28
import Derived.Test.YtfdlifhkeicnnaaGreatDoorProg
import Derived.WalkKit
import Derived.Handy
import Derived.Deep.Light
import Derived.WalkSmall
import Derived.StillTailTactics
import Derived.Lib.Hide
import Derived.IntWalk
/- A quotation is not divided. Of no program. -/
set_option linter.unusedVariables false
namespace Go.Proofs.YtfdlifhkeicnnaaGreatDoor
open Go
theorem dq_two (c : UInt8) (m : Nat) (y : UInt8) (r : Bytes) : dv c m true (92 :: y :: r) = hd 92 (hd y (dv c m true r)) := by
  rw [dv_cons, if_neg (by decide), if_pos ⟨rfl, rfl⟩]
theorem dq_one (c : UInt8) (m : Nat) (x : UInt8) (r : Bytes) (h1 : x ≠ 34) (h2 : x ≠ 92) : dv c m true (x :: r) = hd x (dv c m true r) := by
  rw [dv_cons, if_neg h1, if_neg (fun h => h2 h.1), if_neg (by simp)]
theorem hexB_ne (n : Nat) (h : n < 16) : hexB n ≠ 34 ∧ hexB n ≠ 92 := by
  have : ∀ k : Fin 16, hexB k.val ≠ 34 ∧ hexB k.val ≠ 92 := by decide
  exact this ⟨n, h⟩
theorem dv_quoted (c : UInt8) (m : Nat) (t : Bytes) : ∀ s : Bytes, dv c m true (s.flatMap qb ++ 34 :: t) = glue (s.flatMap qb ++ [34]) (dv c m false t)
  | [] => by
    show dv c m true (34 :: t) = glue [34] (dv c m false t)
    rw [dv_cons, if_pos rfl]
    show hd 34 (dv c m false t) = _
    rw [← hd_glue, glue_nil (dv_ne _ _ _ _)]
  | a :: s => by
    have ih := dv_quoted c m t s
    have ha : a.toNat < 256 := a.toNat_lt
    rw [List.flatMap_cons, List.append_assoc, List.append_assoc]
    unfold qb
    split
    · show dv c m true (92 :: a :: (s.flatMap qb ++ 34 :: t)) = _
      rw [dq_two, ih, hd_glue, hd_glue]; rfl
    · rename_i h
      split
      · show dv c m true (92 :: 110 :: (s.flatMap qb ++ 34 :: t)) = _
        rw [dq_two, ih, hd_glue, hd_glue]; rfl
      · split
        · show dv c m true (a :: (s.flatMap qb ++ 34 :: t)) = _
          rw [dq_one _ _ _ _ (fun e => h (.inl e)) (fun e => h (.inr e)), ih, hd_glue]; rfl
        · show dv c m true (92 :: 120 :: hexB (a.toNat / 16) :: hexB (a.toNat % 16) :: (s.flatMap qb ++ 34 :: t)) = _
          have h1 := hexB_ne (a.toNat / 16) (by omega)
          have h2 := hexB_ne (a.toNat % 16) (by omega)
          rw [dq_two, dq_one _ _ _ _ h1.1 h1.2, dq_one _ _ _ _ h2.1 h2.2, ih, hd_glue, hd_glue, hd_glue, hd_glue]; rfl
/-- A text that ends with a quotation. -/
theorem dv_quote (c : UInt8) (m : Nat) (p s : Bytes) (h : ∀ y ∈ p, y ≠ 34 ∧ y ≠ c) : dv c m false (p ++ quoteB s) = [p ++ quoteB s] := by
  rw [dv_pre c m p _ h]
  unfold quoteB
  rw [dv_cons, if_pos rfl]
  show glue p (hd 34 (dv c m true (s.flatMap qb ++ [34]))) = _
  rw [dv_quoted c m [] s, dv_nil, hd_glue]
  simp [glue]
end Go.Proofs.YtfdlifhkeicnnaaGreatDoor
/- A line with .text is read as it was. Of no program. -/
set_option linter.unusedVariables false
namespace Go.Proofs.YtfdlifhkeicnnaaGreatDoor
open Go
theorem quote_last (s : Bytes) (p : Bytes) : ∀ y, (p ++ quoteB s).getLast? = some y → blank y = false := by
  intro y hy
  have e : p ++ quoteB s = (p ++ 34 :: s.flatMap qb) ++ [34] := by simp [quoteB]
  rw [e, List.getLast?_concat] at hy
  injection hy with hy
  subst hy; rfl
theorem trim_sq (s : Bytes) : trim (32 :: quoteB s) = quoteB s := by
  unfold trim
  rw [drop_id (s := (32 :: quoteB s : Bytes).reverse) (fun y hy => quote_last s [32] y (by rw [List.head?_reverse] at hy; exact hy)), List.reverse_reverse, List.dropWhile_cons, if_pos (by decide)]
  exact drop_id fun y hy => by
    simp [quoteB] at hy; subst hy; rfl
theorem read_text (s : Bytes) : read (dText ++ 32 :: quoteB s) = ⟨[], dText, [quoteB s]⟩ := by
  have e : dText ++ 32 :: quoteB s = (dText ++ [32]) ++ quoteB s := by simp
  have hrest : rest (dText ++ 32 :: quoteB s) = dText ++ 32 :: quoteB s := by
    unfold rest
    rw [e, dv_quote 59 1 _ s (by decide)]
    exact trim_id (fun y hy => by simp [dText] at hy; subst hy; rfl) (quote_last s _)
  have hreadL : readL ((dText ++ 32 :: quoteB s).length + 1) (dText ++ 32 :: quoteB s) = ([], dText ++ 32 :: quoteB s) := by
    unfold readL
    rw [show dv 58 1 false (dText ++ 32 :: quoteB s) = [dText ++ 32 :: quoteB s] by rw [e]; exact dv_quote 58 1 _ s (by decide)]
  unfold read
  rw [hrest, hreadL]
  simp only
  have htw : (dText ++ 32 :: quoteB s).takeWhile (fun c => !blank c) = dText := by
    rw [List.takeWhile_append_of_pos (by decide), List.takeWhile_cons, if_neg (by decide), List.append_nil]
  rw [htw, List.drop_left, if_neg (by simp), show dv 44 (dText ++ 32 :: quoteB s).length false (32 :: quoteB s) = [32 :: quoteB s] from dv_quote 44 _ [32] s (by decide)]
  rw [List.map_cons, List.map_nil, trim_sq]
end Go.Proofs.YtfdlifhkeicnnaaGreatDoor
namespace Go.Proofs.YtfdlifhkeicnnaaGreatDoor
open Go Go.RowKit
set_option linter.unusedSimpArgs false
set_option linter.unusedVariables false

def lB1 (q : Bytes) : Bytes := dText ++ 32 :: q
def lB3 : Bytes := [32, 59, 32, 99, 111, 109, 109, 101, 110, 116, 58, 32, 46, 98, 121, 116, 101, 32, 55]
def lB4 (d : Bytes) : Bytes := [9, 46, 98, 121, 116, 101, 32] ++ d ++ [32, 44, 32, 45, 49, 59, 120]
def lB5 (d : Bytes) : Bytes := [32, 46, 115, 112, 97, 99, 101, 32] ++ d
def lB6 (d : Bytes) : Bytes := [101, 110, 100, 58] ++ 32 :: (dWord ++ 9 :: (d ++ [44, 32, 101, 110, 100]))
theorem readB3 : read lB3 = ⟨[], [], []⟩ := by decide +kernel
theorem readB2 : read [] = ⟨[], [], []⟩ := by decide +kernel
theorem readB4 : ∀ k : Fin 256, read (lB4 (Lib.itoa (k.val : Int))) = ⟨[], dByte, [Lib.itoa (k.val : Int), [45, 49]]⟩ := by decide +kernel
theorem readB5 : ∀ k : Fin 601, read (lB5 (Lib.itoa (k.val : Int))) = ⟨[], dSpace, [Lib.itoa (k.val : Int)]⟩ := by decide +kernel
theorem trim_b {c : UInt8} {s : Bytes} (hc : blank c = true) (h1 : ∀ y, s.head? = some y → blank y = false) (h2 : ∀ y, s.getLast? = some y → blank y = false) (hs : s ≠ []) : trim (c :: s) = s := by
  have h3 : (c :: s).reverse.dropWhile blank = (c :: s).reverse := drop_id (fun y hy => by
    rw [List.head?_reverse, List.getLast?_cons] at hy
    cases hl : s.getLast? with
    | none => exact absurd (List.getLast?_eq_none_iff.1 hl) hs
    | some z => rw [hl] at hy; cases hy; exact h2 z hl)
  unfold trim
  rw [h3, List.reverse_reverse, List.dropWhile_cons, if_pos hc, drop_id h1]
theorem last_end {a b : Bytes} {x : UInt8} (hb : b.getLast? = some x) (hx : blank x = false) : ∀ y, (a ++ b).getLast? = some y → blank y = false := by
  intro y hy
  rw [last_app _ _ (by rintro rfl; cases hb), hb] at hy
  cases hy; exact hx
theorem readB6 (d : Bytes) (hd : plainW d) : read (lB6 d) = ⟨[[101, 110, 100]], dWord, [d, [101, 110, 100]]⟩ := by
  have hm : ∀ y ∈ d, plainC y := hd.2
  have hX : ∀ y ∈ dWord ++ 9 :: (d ++ [44, 32, 101, 110, 100]), y ≠ 34 ∧ y ≠ 58 ∧ y ≠ 59 := by
    intro y hy
    rcases List.mem_append.1 hy with hy | hy
    · unfold dWord at hy
      simp only [List.mem_cons, List.not_mem_nil, or_false] at hy
      rcases hy with rfl | rfl | rfl | rfl | rfl <;> decide
    · rcases List.mem_cons.1 hy with rfl | hy
      · decide
      · rcases List.mem_append.1 hy with hy | hy
        · exact ⟨(hm y hy).1, (hm y hy).2.2.1, (hm y hy).2.2.2.1⟩
        · simp only [List.mem_cons, List.not_mem_nil, or_false] at hy
          rcases hy with rfl | rfl | rfl | rfl | rfl <;> decide
  have hlast : ∀ (p : Bytes) (y : UInt8), (p ++ (d ++ [44, 32, 101, 110, 100])).getLast? = some y → blank y = false := fun p y hy => by
    rw [← List.append_assoc] at hy
    exact last_end (a := p ++ d) (b := [44, 32, 101, 110, 100]) (x := 100) rfl (by decide) y hy
  have e6 : lB6 d = [101, 110, 100] ++ 58 :: 32 :: (dWord ++ 9 :: (d ++ [44, 32, 101, 110, 100])) := by simp [lB6]
  have hl6 : ∀ y, (lB6 d).getLast? = some y → blank y = false := fun y hy => by
    have e : lB6 d = ([101, 110, 100, 58] ++ 32 :: (dWord ++ [9])) ++ (d ++ [44, 32, 101, 110, 100]) := by simp [lB6]
    rw [e] at hy
    exact hlast _ y hy
  have hrest : rest (lB6 d) = lB6 d := by
    unfold rest
    rw [dv_plain 59 1 (lB6 d) (fun y hy => by
      rw [e6] at hy
      rcases List.mem_append.1 hy with hy | hy
      · simp only [List.mem_cons, List.not_mem_nil, or_false] at hy
        rcases hy with rfl | rfl | rfl <;> decide
      · rcases List.mem_cons.1 hy with rfl | hy
        · decide
        · rcases List.mem_cons.1 hy with rfl | hy
          · decide
          · exact ⟨(hX y hy).1, (hX y hy).2.2⟩)]
    show trim (lB6 d) = lB6 d
    exact trim_id (fun y hy => by
      have : y = 101 := by simpa [lB6] using hy.symm
      subst this; decide) hl6
  obtain ⟨X, hXe⟩ : ∃ X, dWord ++ 9 :: (d ++ [44, 32, 101, 110, 100]) = X := ⟨_, rfl⟩
  have hX1 : dv 58 1 false (lB6 d) = [[101, 110, 100], 32 :: X] := by
    rw [e6, dv_pre 58 1 [101, 110, 100] _ (by
      intro y hy
      simp only [List.mem_cons, List.not_mem_nil, or_false] at hy
      rcases hy with rfl | rfl | rfl <;> decide), dv_at 58 1 _ (by decide) (by decide), dv_plain 58 0 (32 :: (dWord ++ 9 :: (d ++ [44, 32, 101, 110, 100]))) (fun y hy => by
        rcases List.mem_cons.1 hy with rfl | hy
        · decide
        · exact ⟨(hX y hy).1, (hX y hy).2.1⟩), hXe]
    rfl
  have hXh : ∀ y, X.head? = some y → blank y = false := fun y hy => by
    have : y = 46 := by rw [← hXe] at hy; simpa [dWord] using hy.symm
    subst this; decide
  have hXl : ∀ y, X.getLast? = some y → blank y = false := fun y hy => by
    rw [← hXe, show dWord ++ 9 :: (d ++ [44, 32, 101, 110, 100]) = (dWord ++ [9]) ++ (d ++ [44, 32, 101, 110, 100]) by simp] at hy
    exact hlast _ y hy
  have hX2 : dv 58 1 false X = [X] := dv_plain 58 1 X (fun y hy => by rw [← hXe] at hy; exact ⟨(hX y hy).1, (hX y hy).2.1⟩)
  have hreadL : readL ((lB6 d).length + 1) (lB6 d) = ([[101, 110, 100]], X) := by
    have hlen : ∃ k, (lB6 d).length = k + 1 := ⟨(lB6 d).length - 1, by rw [e6]; simp⟩
    obtain ⟨k, hk⟩ := hlen
    rw [hk, readL, hX1]
    simp only
    rw [trim_b (by decide) hXh hXl (by rw [← hXe]; simp), readL, hX2]
    rfl
  have htake : X.takeWhile (fun c => !blank c) = dWord := by
    rw [← hXe]
    show (dWord ++ 9 :: (d ++ [44, 32, 101, 110, 100])).takeWhile _ = dWord
    rw [List.takeWhile_append_of_pos (by
      intro y hy
      unfold dWord at hy
      simp only [List.mem_cons, List.not_mem_nil, or_false] at hy
      rcases hy with rfl | rfl | rfl | rfl | rfl <;> decide)]
    rw [List.takeWhile_cons, if_neg (by decide), List.append_nil]
  have hdv : dv 44 X.length false (9 :: (d ++ [44, 32, 101, 110, 100])) = [9 :: d, [32, 101, 110, 100]] := by
    have : (9 :: (d ++ [44, 32, 101, 110, 100]) : Bytes) = (9 :: d) ++ 44 :: [32, 101, 110, 100] := by simp
    have hXp : 0 < X.length := by rw [← hXe]; simp; omega
    rw [this, dv_pre 44 X.length (9 :: d) _ (fun y hy => by
      rcases List.mem_cons.1 hy with rfl | hy
      · decide
      · exact ⟨(hm y hy).1, (hm y hy).2.1⟩), dv_at 44 X.length _ hXp (by decide), dv_plain 44 (X.length - 1) [32, 101, 110, 100] (by
        intro y hy
        simp only [List.mem_cons, List.not_mem_nil, or_false] at hy
        rcases hy with rfl | rfl | rfl | rfl <;> decide)]
    simp [glue]
  unfold read
  rw [hrest, hreadL]
  simp only
  rw [htake]
  have hdrop : X.drop dWord.length = 9 :: (d ++ [44, 32, 101, 110, 100]) := by rw [← hXe, List.drop_left]
  rw [hdrop, if_neg (by simp), hdv]
  have ht1 : trim (9 :: d) = d := trim_b (by decide) (fun y hy => (hm y (List.mem_of_mem_head? hy)).2.2.2.2) (fun y hy => (hm y (List.mem_of_mem_getLast? hy)).2.2.2.2) hd.1
  have ht2 : trim [32, 101, 110, 100] = [101, 110, 100] := by decide
  simp only [List.map_cons, List.map_nil, ht1, ht2]
theorem measure_none (size : Nat) (L : Labs) (h : size ≤ 4096) : measure OO ⟨[], [], []⟩ size L = .ok (size, size, L) := by
  unfold measure
  rw [show OO.find [] = none from OO_fine.nil]
  simp [addL, Rs.bind, show ¬ ([] : Bytes) = dWord by decide, show ¬ 4096 < size by omega]
theorem emit_none (L : Labs) (a : Nat) (code : Bytes) : emit OO L ⟨[], [], []⟩ a code = .ok code := by
  unfold emit; rw [if_pos rfl]
theorem measure_dir {x : Stm} {size a : Nat} {L L' : Labs} {b : Bytes} (hd : isDir x.op = true) (hn : x.labels.any (fun s => !named s) = false) (ha : a = if x.op = dWord then aligned size else size) (hL : addL L (64 + a) x.labels = .ok L') (hb : direct OO L' x false = .ok b) (hs : a + b.length ≤ 4096) : measure OO x size L = .ok (a + b.length, a, L') := by
  have hne : x.op ≠ [] := by intro h; rw [h] at hd; exact absurd hd (by decide)
  unfold measure
  rw [OO_fine.dir _ hd]
  simp only [Option.isSome_none, Bool.false_eq_true, false_or, ← ha]
  rw [hn]
  simp [hd, hne, hL, hb, Rs.bind, show ¬ 4096 < a + b.length by omega]
theorem emit_dir {x : Stm} {a : Nat} {L : Labs} {b code : Bytes} (hd : isDir x.op = true) (hb : direct OO L x true = .ok b) : emit OO L x a code = .ok (code ++ List.replicate (a - code.length) 0 ++ b) := by
  have hne : x.op ≠ [] := by intro h; rw [h] at hd; exact absurd hd (by decide)
  unfold emit
  rw [if_neg hne]
  simp only [hd, if_true, hb, Rs.bind]
def w4B (n : Int) : Bytes := [byteOf n, byteOf (n / 256), byteOf (n / 65536), byteOf (n / 16777216)]
theorem direct_text {s q : Bytes} (hu : OO.unq q = some s) (L : Labs) (last : Bool) : direct OO L ⟨[], dText, [q]⟩ last = .ok s := by
  unfold direct
  rw [if_neg (show ¬ dText = dByte by decide), if_neg (show ¬ dText = dWord by decide), if_pos rfl]
  simp only [hu]
theorem direct_byte2 (b : UInt8) (L : Labs) (last : Bool) : direct OO L ⟨[], dByte, [Lib.itoa (b.toNat : Int), [45, 49]]⟩ last = .ok [b, 255] := by
  have h1 : OO.int (Lib.itoa (b.toNat : Int)) = some (b.toNat : Int) := OO_dec.int _ (by omega) (by have := b.toNat_lt; omega)
  have h2 : OO.int [45, 49] = some (-1) := by
    have := OO_dec.int (-1) (by omega) (by omega)
    rw [show Lib.itoa (-1) = [45, 49] by decide +kernel] at this
    exact this
  have n1 := number_dec OO OO_dec b
  have n2 : number OO [45, 49] (-128) 255 = .ok (-1) := by unfold number; rw [h2]; rfl
  unfold direct
  rw [if_pos rfl, if_neg (by simp [h1, h2])]
  simp only [mapR, n1, n2, List.map_cons, List.map_nil, byteOf_nat]
  rfl
theorem direct_space (k : Nat) (hk : k ≤ 600) (L : Labs) (last : Bool) : direct OO L ⟨[], dSpace, [Lib.itoa (k : Int)]⟩ last = .ok (List.replicate k 0) := by
  have h1 : OO.int (Lib.itoa (k : Int)) = some (k : Int) := OO_dec.int _ (by omega) (by omega)
  have n1 : number OO (Lib.itoa (k : Int)) 0 4096 = .ok (k : Int) := by unfold number; rw [h1]; simp only; rw [if_pos (by omega)]
  unfold direct
  rw [if_neg (show ¬ dSpace = dByte by decide), if_neg (show ¬ dSpace = dWord by decide), if_neg (show ¬ dSpace = dText by decide)]
  simp only [n1, Int.toNat_natCast]
theorem itoa_named (n : Int) : named (Lib.itoa n) = false := by
  have key : ∀ c : UInt8, ∀ t, (c = 45 ∨ (48 ≤ c.toNat ∧ c.toNat ≤ 57)) → named (c :: t) = false := by
    intro c t h
    have : nameC true c = false := by
      unfold nameC
      rcases h with rfl | h
      · decide
      · have h1 : (c == 95) = false := beq_false_of_ne (by rintro rfl; revert h; decide)
        rw [h1]
        simp only [Bool.false_or, Bool.not_true, Bool.false_and, Bool.or_false, Bool.or_eq_false_iff, Bool.and_eq_false_iff, decide_eq_false_iff_not]
        omega
    show (nameC true c && t.all (nameC false)) = false
    rw [this]; rfl
  by_cases h : 0 ≤ n
  · obtain ⟨k, rfl⟩ : ∃ k : Nat, n = k := ⟨n.toNat, by omega⟩
    rw [Lib.itoa_nonneg]
    obtain ⟨h1, h2⟩ := digits_inA k
    cases hd : Lib.decDigits k with
    | nil => exact absurd hd h1
    | cons c t => exact key c t (.inr (h2 c (by rw [hd]; simp)))
  · obtain ⟨k, rfl⟩ : ∃ k : Nat, n = -(k : Int) := ⟨n.natAbs, by omega⟩
    rw [Lib.itoa_neg k (by omega)]
    exact key _ _ (.inl rfl)
theorem direct_word2 (n : Int) (h0 : -2147483648 ≤ n) (h1 : n ≤ 4294967295) (a : Nat) (last : Bool) : direct OO [([101, 110, 100], a)] ⟨[[101, 110, 100]], dWord, [Lib.itoa n, [101, 110, 100]]⟩ last = .ok (w4B n ++ w4B a) := by
  have e1 : OO.int (Lib.itoa n) = some n := OO_dec.int _ (by omega) (by omega)
  have n1 : number OO (Lib.itoa n) (-2147483648) 4294967295 = .ok n := by unfold number; rw [e1]; simp only; rw [if_pos ⟨h0, h1⟩]
  have hne : named [101, 110, 100] = true := by decide
  have ha : address [([101, 110, 100], a)] [101, 110, 100] last = .ok a := by unfold address; rw [if_pos hne]; rfl
  unfold direct
  rw [if_neg (show ¬ dWord = dByte by decide), if_pos rfl, if_neg (by simp [e1, hne])]
  simp only [mapR, itoa_named, hne, n1, ha, Bool.false_eq_true, if_false, if_true]
  simp [w4B]
def srcB (q d1 d2 d3 : Bytes) : Bytes := join10 [lB1 q, [], lB3, lB4 d1, lB5 d2, lB6 d3]
theorem bytes_plain (s q : Bytes) (hq : quoteB s = q) (hu : OO.unq q = some s) (hs : s.length ≤ 600) (b : UInt8) (k : Nat) (hk : k ≤ 600) (n : Int) (h0 : -2147483648 ≤ n) (h1 : n ≤ 4294967295) (hq10 : (10 : UInt8) ∉ q) :
    asm OO (linesB (srcB q (Lib.itoa (b.toNat : Int)) (Lib.itoa (k : Int)) (Lib.itoa n))) = .ok (s ++ [b, 255] ++ List.replicate k 0 ++ List.replicate ((s.length + 2 + k + 3) / 4 * 4 - (s.length + 2 + k)) 0 ++ (w4B n ++ w4B ((64 + (s.length + 2 + k + 3) / 4 * 4 : Nat) : Int))) := by
  have hl : linesB (srcB q (Lib.itoa (b.toNat : Int)) (Lib.itoa (k : Int)) (Lib.itoa n)) = [lB1 q, [], lB3, lB4 (Lib.itoa (b.toNat : Int)), lB5 (Lib.itoa (k : Int)), lB6 (Lib.itoa n)] := by
    unfold srcB
    rw [lines_lns]
    refine lns_lines _ (fun y hy => ?_)
    simp only [List.mem_cons, List.not_mem_nil, or_false] at hy
    rcases hy with rfl | rfl | rfl | rfl | rfl | rfl
    · unfold lB1 dText; simp [hq10]
    · simp
    · decide
    · unfold lB4; have := itoa_no (b.toNat : Int); simp [this]
    · unfold lB5; have := itoa_no (k : Int); simp [this]
    · unfold lB6 dWord; have := itoa_no n; simp [this]
  obtain ⟨a, ha⟩ : ∃ a, (s.length + 2 + k + 3) / 4 * 4 = a := ⟨_, rfl⟩
  have hab : a ≤ 1208 := by omega
  rw [hl, ha]
  unfold asm
  have r4 := readB4 ⟨b.toNat, b.toNat_lt⟩
  have r5 := readB5 ⟨k, by omega⟩
  simp only at r4 r5
  have r1 : read (lB1 q) = ⟨[], dText, [q]⟩ := by rw [← hq]; exact read_text s
  simp only [List.map_cons, List.map_nil, r1, readB2, readB3, r4, r5, readB6 _ (itoa_word n)]
  have m1 : measure OO ⟨[], dText, [q]⟩ 0 [] = .ok (0 + s.length, 0, []) := measure_dir (x := ⟨[], dText, [q]⟩) (show isDir dText = true by decide) rfl rfl rfl (direct_text hu _ _) (by omega)
  have m4 : measure OO ⟨[], dByte, [Lib.itoa (b.toNat : Int), [45, 49]]⟩ (0 + s.length) [] = .ok (0 + s.length + 2, 0 + s.length, []) := measure_dir (x := ⟨[], dByte, [Lib.itoa (b.toNat : Int), [45, 49]]⟩) (b := [b, 255]) (show isDir dByte = true by decide) rfl rfl rfl (direct_byte2 b _ _) (by simp only [List.length_cons, List.length_nil]; omega)
  have m5 : measure OO ⟨[], dSpace, [Lib.itoa (k : Int)]⟩ (0 + s.length + 2) [] = .ok (0 + s.length + 2 + k, 0 + s.length + 2, []) := by
    have := measure_dir (x := ⟨[], dSpace, [Lib.itoa (k : Int)]⟩) (size := 0 + s.length + 2) (a := 0 + s.length + 2) (L := []) (show isDir dSpace = true by decide) rfl rfl rfl (direct_space k hk _ _) (by rw [List.length_replicate]; omega)
    rw [List.length_replicate] at this
    exact this
  have hm6 : measure OO ⟨[[101, 110, 100]], dWord, [Lib.itoa n, [101, 110, 100]]⟩ (0 + s.length + 2 + k) [] = .ok (a + 8, a, [([101, 110, 100], 64 + a)]) :=
    measure_dir (x := ⟨[[101, 110, 100]], dWord, [Lib.itoa n, [101, 110, 100]]⟩) (a := a) (b := w4B n ++ w4B ((64 + a : Nat) : Int)) (show isDir dWord = true by decide) (show ([[101, 110, 100]] : List Bytes).any (fun s => !named s) = false by decide) (by rw [if_pos rfl]; unfold aligned; omega) rfl (direct_word2 n h0 h1 (64 + a) false) (by have : (w4B n ++ w4B ((64 + a : Nat) : Int)).length = 8 := rfl; omega)
  have mn := fun L => measure_none (0 + s.length) L (by omega)
  simp only [pass1, m1, mn, m4, m5, hm6]
  have x1 : ∀ L code, emit OO L ⟨[], dText, [q]⟩ 0 code = .ok (code ++ List.replicate (0 - code.length) 0 ++ s) := fun L code => emit_dir (x := ⟨[], dText, [q]⟩) (show isDir dText = true by decide) (direct_text hu _ _)
  have x4 : ∀ L a code, emit OO L ⟨[], dByte, [Lib.itoa (b.toNat : Int), [45, 49]]⟩ a code = .ok (code ++ List.replicate (a - code.length) 0 ++ [b, 255]) := fun L a code => emit_dir (x := ⟨[], dByte, [Lib.itoa (b.toNat : Int), [45, 49]]⟩) (show isDir dByte = true by decide) (direct_byte2 b _ _)
  have x5 : ∀ L a code, emit OO L ⟨[], dSpace, [Lib.itoa (k : Int)]⟩ a code = .ok (code ++ List.replicate (a - code.length) 0 ++ List.replicate k 0) := fun L a code => emit_dir (x := ⟨[], dSpace, [Lib.itoa (k : Int)]⟩) (show isDir dSpace = true by decide) (direct_space k hk _ _)
  have x6 : ∀ code, emit OO [([101, 110, 100], 64 + a)] ⟨[[101, 110, 100]], dWord, [Lib.itoa n, [101, 110, 100]]⟩ a code = .ok (code ++ List.replicate (a - code.length) 0 ++ (w4B n ++ w4B ((64 + a : Nat) : Int))) := fun code => emit_dir (x := ⟨[[101, 110, 100]], dWord, [Lib.itoa n, [101, 110, 100]]⟩) (show isDir dWord = true by decide) (direct_word2 n h0 h1 (64 + a) true)
  simp only [pass2, x1, emit_none, x4, x5, x6]
  simp [show s.length + 2 - (s.length + 1 + 1) = 0 by omega, show a - (s.length + (k + 1 + 1)) = a - (s.length + 2 + k) by omega]

end Go.Proofs.YtfdlifhkeicnnaaGreatDoor
namespace Go.Proofs.YtfdlifhkeicnnaaGreatDoor
open Go Go.RowKit
set_option linter.unusedSimpArgs false
set_option linter.unusedVariables false
theorem word_step {v0 v1 : Int} (c : UInt8) (h : 256 * v1 + (c.toNat : Int) = v0) (h2 : 0 ≤ v1) (h3 : v1 ≤ 16777216) : wrap64 (256 * v1) = 256 * v1 ∧ wrap64 (256 * v1 + (c.toNat : Int)) = v0 := by
  have := c.toNat_lt
  exact ⟨IntWalk.wrap64_in _ (by omega), by rw [IntWalk.wrap64_in _ (by omega)]; exact h⟩
set_option maxRecDepth 20000 in
set_option maxHeartbeats 4000000 in
theorem bytes_in (s : ByteArray) (b : UInt8) (n : Int) (k : Nat) (hs : s.size ≤ 600) (hn0 : -2147483648 ≤ n) (hn1 : n ≤ 4294967295) (hk : k ≤ 600) (q d1 d2 d3 code x1 x2 x3 x4 x5 x6 x7 x8 : ByteArray) (hq : q.size ≤ 2500) (hd1 : d1.size ≤ 25) (hd2 : d2.size ≤ 25) (hd3 : d3.size ≤ 25) (ex1 : ⟨#[46, 116, 101, 120, 116, 32]⟩ ++ q = x1) (lx1 : x1.size ≤ 3000) (ex2 : x1 ++ ⟨#[10, 10, 32, 59, 32, 99, 111, 109, 109, 101, 110, 116, 58, 32, 46, 98, 121, 116, 101, 32, 55, 10, 9, 46, 98, 121, 116, 101, 32]⟩ = x2) (lx2 : x2.size ≤ 3000) (ex3 : x2 ++ d1 = x3) (lx3 : x3.size ≤ 3000) (ex4 : x3 ++ ⟨#[32, 44, 32, 45, 49, 59, 120, 10, 32, 46, 115, 112, 97, 99, 101, 32]⟩ = x4) (lx4 : x4.size ≤ 3000) (ex5 : x4 ++ d2 = x5) (lx5 : x5.size ≤ 3000) (ex6 : x5 ++ ⟨#[10, 101, 110, 100, 58, 32, 46, 119, 111, 114, 100, 9]⟩ = x6) (lx6 : x6.size ≤ 3000) (ex7 : x6 ++ d3 = x7) (lx7 : x7.size ≤ 3000) (ex8 : x7 ++ ⟨#[44, 32, 101, 110, 100, 10]⟩ = x8) (lx8 : x8.size ≤ 3000) (at_ : Nat) (hat : ((s.size : Int) + 2 + (k : Int) + 3) / 4 * 4 = (at_ : Int)) (hat2 : at_ ≤ 1300) (hsa : s.size + 2 ≤ at_) (hcs : code.size = at_ + 8) (t1 : ((code.size : Int) != (at_ : Int) + 8) = false) (t2 : ((code.extract 0 s.size).toList == s.toList) = true) (hb1 : code.data.toList[s.size]? = some b) (hb2 : code.data.toList[s.size + 1]? = some 255) (HZ : Hid (∀ i, s.size + 2 ≤ i → i < at_ → code.data.toList[i]? = some 0)) (V U : Nat → Int) (HV : Hid (∀ j, j < 4 → ∃ c : UInt8, code.data.toList[at_ + j]? = some c ∧ 256 * V (j + 1) + (c.toNat : Int) = V j ∧ 0 ≤ V (j + 1) ∧ V (j + 1) ≤ 16777216)) (HU : Hid (∀ j, j < 4 → ∃ c : UInt8, code.data.toList[at_ + 4 + j]? = some c ∧ 256 * U (j + 1) + (c.toNat : Int) = U j ∧ 0 ≤ U (j + 1) ∧ U (j + 1) ≤ 16777216)) (hV4 : V 4 = 0) (hU4 : U 4 = 0) (vn un : Int) (HV0 : Hid (V 0 = vn)) (HU0 : Hid (U 0 = un)) (t8 : (vn == n % 4294967296) = true) (t9 : (un == 64 + (at_ : Int)) = true) (HQ : Hid (∀ W, TabA W → Calls Tryz.prog 9 #[.string s] W fun e w' => e = .returned (.string q) ∧ Below W.heap.size W w')) (HD1 : Hid (∀ W, TabA W → Calls Tryz.prog 10 #[.int .i64 (b.toNat : Int)] W fun e w' => e = .returned (.string d1) ∧ Below W.heap.size W w')) (HD2 : Hid (∀ W, TabA W → Calls Tryz.prog 10 #[.int .i64 (k : Int)] W fun e w' => e = .returned (.string d2) ∧ Below W.heap.size W w')) (HD3 : Hid (∀ W, TabA W → Calls Tryz.prog 10 #[.int .i64 n] W fun e w' => e = .returned (.string d3) ∧ Below W.heap.size W w')) (HAS : Hid (∀ W, TabA W → Calls Tryz.prog 11 #[.string x8] W fun e w' => e = .returned (.tuple #[.string code, .int .i64 0, .int .i64 0]) ∧ Below W.heap.size W w')) (w : World) (hT : TabA w) : Calls Tryz.prog 3 #[.string s, .int .u8 (b.toNat : Int), .int .i64 n, .int .i64 (k : Int)] w fun e w' => e = .returned (.bool true) ∧ Below w.heap.size w w' := by
  have eb1 := byte_at hb1 (by omega)
  have eb2 := byte_at hb2 (by omega)
  have ha32 := and32 n
  have hw8 : ∀ c : UInt8, wrap64 (c.toNat : Int) = (c.toNat : Int) := fun c => IntWalk.wrap64_in _ (by have := c.toNat_lt; omega)
  have hwb := hw8 b
  have hL : Kn [] w w [] := Kn.refl [] w; (try simp only [kfb] at hL); have hF := hL.facts; (try simp only [Facts, Dist, kd] at hF); go_enter Tryz.func3, Tryz.ntmps3
  go_wp2_with (first | ((with_reducible refine kn_list_set ?_); (try clear hF); clear hL; intro W hL; (try simp only [kfb] at hL); have hF := hL.facts; (try simp only [Facts, Dist, kd] at hF)) | (go_at_call 8; refine kn_calls ?_; (try clear hF); clear hL; intro W hL; (try simp only [kfb] at hL); have hF := hL.facts; (try simp only [Facts, Dist, kd] at hF); (((with_reducible refine (small_is _ (hT.kn hL (by simp))).mono ?_))); rintro e W ⟨rfl, hb⟩; replace hL := hL.below hb; clear hb; (try clear hF); (try simp only [kfb] at hL); have hF := hL.facts; (try simp only [Facts, Dist, kd] at hF)) | (go_at_call 9; refine kn_calls ?_; (try clear hF); clear hL; intro W hL; (try simp only [kfb] at hL); have hF := hL.facts; (try simp only [Facts, Dist, kd] at hF); (((with_reducible refine (HQ.out _ (hT.kn hL (by simp))).mono ?_))); rintro e W ⟨rfl, hb⟩; replace hL := hL.below hb; clear hb; (try clear hF); (try simp only [kfb] at hL); have hF := hL.facts; (try simp only [Facts, Dist, kd] at hF)) | (go_at_call 10; refine kn_calls ?_; (try clear hF); clear hL; intro W hL; (try simp only [kfb] at hL); have hF := hL.facts; (try simp only [Facts, Dist, kd] at hF); (((first | (with_reducible refine (HD1.out _ (hT.kn hL (by simp))).mono ?_) | (with_reducible refine (HD2.out _ (hT.kn hL (by simp))).mono ?_) | (with_reducible refine (HD3.out _ (hT.kn hL (by simp))).mono ?_)))); rintro e W ⟨rfl, hb⟩; replace hL := hL.below hb; clear hb; (try clear hF); (try simp only [kfb] at hL); have hF := hL.facts; (try simp only [Facts, Dist, kd] at hF)) | (go_at_call 11; refine kn_calls ?_; (try clear hF); clear hL; intro W hL; (try simp only [kfb] at hL); have hF := hL.facts; (try simp only [Facts, Dist, kd] at hF); (((with_reducible refine (HAS.out _ (hT.kn hL (by simp))).mono ?_))); rintro e W ⟨rfl, hb⟩; replace hL := hL.below hb; clear hb; (try clear hF); (try simp only [kfb] at hL); have hF := hL.facts; (try simp only [Facts, Dist, kd] at hF)))
  go_loopw [15] (fun x wr => ∃ i : Nat, s.size + 2 ≤ i ∧ i ≤ at_ ∧ x = .int .i64 i ∧ Kn [] w wr []) (fun x _ => at_ - (intOf x).toNat)
  case atStart => exact ⟨s.size + 2, by omega, by omega, by go_num, hL⟩
  case round =>
    clear hL
    (try clear hF)
    obtain ⟨i, hi0, hi, rfl, hL⟩ := hrel
    (try simp only [kfb] at hL); have hF := hL.facts; (try simp only [Facts, Dist, kd] at hF)
    by_cases hlt : i < at_
    · have hz := HZ.out i hi0 hlt
      have ebz := byte_at hz (by omega)
      go_wp2
      go_roundw
      case measure => simp [intOf]; omega
      case rel => exact ⟨i + 1, by omega, by omega, by go_num, hL⟩
    · obtain rfl : i = at_ := by omega
      go_wp2
      clear lx1 lx2 lx3 lx4 lx5 lx6 lx7 lx8 ex1 ex2 ex3 ex4 ex5 ex6 ex7 ex8 hq hd1 hd2 hd3 HQ HD1 HD2 HD3 HAS t1 t2 hb1 hb2 eb1 eb2 hat hsa HZ hwb hi0 hi hlt
      go_loopw [16, 17, 18] (fun x y z wr => ∃ (r : Nat) (ci : Int), r ≤ 4 ∧ Hid (ci = (r : Int) - 1) ∧ x = .int .i64 (V r) ∧ y = .int .i64 (U r) ∧ z = .int .i64 ci ∧ Kn [] w wr []) (fun x y z _ => ((intOf z) + 1).toNat)
      case atStart => exact ⟨4, 3, by omega, Lib.hid (by omega), by rw [hV4], by rw [hU4], rfl, hL⟩
      case round =>
        clear hL
        (try clear hF)
        obtain ⟨r, ci, hr, HC, rfl, rfl, rfl, hL⟩ := hrel
        (try simp only [kfb] at hL); have hF := hL.facts; (try simp only [Facts, Dist, kd] at hF)
        cases r with
        | succ j =>
          obtain ⟨rfl⟩ : ci = (j : Int) := by have := HC.out; omega
          obtain ⟨c0, hc0, hv1, hv2, hv3⟩ := HV.out j (by omega)
          obtain ⟨c1, hc1, hu1, hu2, hu3⟩ := HU.out j (by omega)
          have ev0 := byte_at hc0 (by omega)
          have ev1 := byte_at hc1 (by omega)
          have hl0 := c0.toNat_lt
          have hl1 := c1.toNat_lt
          have hw0 := hw8 c0
          have hw1 := hw8 c1
          have HVJ : Hid (∃ x, V j = x) := Lib.hid ⟨_, rfl⟩
          obtain ⟨v0, hv0⟩ := HVJ.out
          obtain ⟨u0, hu0⟩ : ∃ x, U j = x := ⟨_, rfl⟩
          have HVV := Lib.hid hv0
          have HUU := Lib.hid hu0
          generalize V (j + 1) = v1 at hv1 hv2 hv3 ⊢
          generalize U (j + 1) = u1 at hu1 hu2 hu3 ⊢
          obtain ⟨w1, w2⟩ := word_step c0 hv1 hv2 hv3
          obtain ⟨w3, w4⟩ := word_step c1 hu1 hu2 hu3
          clear hv0 hu0 hv1 hv2 hv3 hu1 hu2 hu3 hw8 hc0 hc1 hl0 hl1 HVJ
          go_wp2
          go_roundw
          case measure => simp [intOf] <;> omega
          case rel => exact ⟨j, (j : Int) - 1, by omega, Lib.hid rfl, by first | rfl | simp only [w2, HVV.out], by first | rfl | simp only [w4, HUU.out], by go_num, hL⟩
        | zero =>
          obtain ⟨rfl⟩ : ci = -1 := by have := HC.out; omega
          obtain ⟨vn', hvn⟩ : ∃ x, V 0 = x := ⟨_, rfl⟩
          have e0 : vn' = vn := hvn.symm.trans HV0.out
          subst e0
          have e1 := HU0.out
          go_wp2
          (try simp only [Exit.inBlock, Exit.then]); refine bodyPost_ret (by simp [results, Tryz.results3, go_sem, *]; try rfl) rfl ?_
          exact ⟨rfl, hL.below0⟩

end Go.Proofs.YtfdlifhkeicnnaaGreatDoor
namespace Go.Proofs.YtfdlifhkeicnnaaGreatDoor
open Go Go.RowKit
set_option linter.unusedSimpArgs false
set_option linter.unusedVariables false

def hxv (b : UInt8) : Nat := (Lib.indexByte hexs b).toNat
/-- The first byte of what a quotation holds, and the rest. -/
def dqv : Bytes → Option (UInt8 × Bytes)
  | [] => none
  | c :: t => if c = 92 then (match t with
      | d :: r => if d = 110 then some (10, r) else if d = 120 then (match r with
        | x :: y :: z => some (UInt8.ofNat (16 * hxv x + hxv y), z)
        | _ => none) else some (d, r)
      | [] => none) else some (c, t)
theorem dq_qb (c : UInt8) (t : Bytes) : dqv (qb c ++ t) = some (c, t) := by
  rcases qb_cases c with ⟨rfl, h⟩ | ⟨rfl, h⟩ | ⟨rfl, h⟩ | ⟨h1, h2, h⟩ | h <;> rw [h]
  · rfl
  · rfl
  · rfl
  · show (if c = 92 then _ else some (c, t)) = _
    rw [if_neg h1]
  · show some (UInt8.ofNat (16 * hxv (hexB (c.toNat / 16)) + hxv (hexB (c.toNat % 16))), t) = _
    have hc := c.toNat_lt
    unfold hxv
    rw [hex_index _ (by omega), hex_index _ (by omega), Int.toNat_natCast, Int.toNat_natCast, show 16 * (c.toNat / 16) + c.toNat % 16 = c.toNat by omega, UInt8.ofNat_toNat]
theorem quote_inj : ∀ s d : Bytes, s.flatMap qb ++ [34] = d.flatMap qb ++ [34] → s = d
  | [], [], _ => rfl
  | [], c :: d, h => by
    rw [List.flatMap_cons, List.append_assoc] at h
    have := congrArg dqv h
    rw [dq_qb] at this
    have e : dqv (List.flatMap qb [] ++ [34]) = some (34, []) := rfl
    rw [e] at this
    injection this with this
    injection this with _ h2
    exact absurd h2.symm (by simp)
  | a :: s, [], h => by
    rw [List.flatMap_cons, List.append_assoc] at h
    have := congrArg dqv h
    rw [dq_qb] at this
    have e : dqv (List.flatMap qb [] ++ [34]) = some (34, []) := rfl
    rw [e] at this
    injection this with this
    injection this with _ h2
    exact absurd h2 (by simp)
  | a :: s, c :: d, h => by
    rw [List.flatMap_cons, List.flatMap_cons, List.append_assoc, List.append_assoc] at h
    have := congrArg dqv h
    rw [dq_qb, dq_qb] at this
    injection this with this
    injection this with h1 h2
    rw [h1, quote_inj s d h2]
theorem unq_quote (s : Bytes) : OO.unq (quoteB s) = some s := unq_some rfl fun d hd => quote_inj d s (by unfold quoteB at hd; injection hd)
theorem quote_no10 (s : Bytes) : (10 : UInt8) ∉ quoteB s := by
  have key : ∀ k : Fin 256, (10 : UInt8) ∉ qb (UInt8.ofNat k.val) := by decide +kernel
  intro h
  unfold quoteB at h
  rcases List.mem_cons.1 h with h | h
  · exact absurd h (by decide)
  · rcases List.mem_append.1 h with h | h
    · obtain ⟨c, _, hc⟩ := List.mem_flatMap.1 h
      have := key ⟨c.toNat, c.toNat_lt⟩
      simp only [UInt8.ofNat_toNat] at this
      exact this hc
    · exact absurd h (by decide)
theorem quote_len (s : Bytes) : (quoteB s).length ≤ 4 * s.length + 2 := by
  have key : ∀ k : Fin 256, (qb (UInt8.ofNat k.val)).length ≤ 4 := by decide +kernel
  have h : (s.flatMap qb).length ≤ 4 * s.length := by
    induction s with
    | nil => simp
    | cons c s ih =>
      have := key ⟨c.toNat, c.toNat_lt⟩
      simp only [UInt8.ofNat_toNat] at this
      rw [List.flatMap_cons, List.length_append, List.length_cons]; omega
  unfold quoteB
  simp only [List.length_cons, List.length_append, List.length_nil]
  omega
set_option maxRecDepth 20000 in
set_option maxHeartbeats 4000000 in
theorem bytes_out0 (s : ByteArray) (b : UInt8) (n k : Int) (c0a : decide ((600 : Int) < (s.size : Int)) = true) (c0b : decide (600 < s.size) = true) (w : World) (hT : TabA w) : Calls Tryz.prog 3 #[.string s, .int .u8 (b.toNat : Int), .int .i64 n, .int .i64 k] w fun e w' => e = .returned (.bool true) ∧ Below w.heap.size w w' := by
  have hL : Kn [] w w [] := Kn.refl [] w; (try simp only [kfb] at hL); have hF := hL.facts; (try simp only [Facts, Dist, kd] at hF); go_enter Tryz.func3, Tryz.ntmps3
  go_wp2_with (first | ((with_reducible refine kn_list_set ?_); (try clear hF); clear hL; intro W hL; (try simp only [kfb] at hL); have hF := hL.facts; (try simp only [Facts, Dist, kd] at hF)) | (go_at_call 8; refine kn_calls ?_; (try clear hF); clear hL; intro W hL; (try simp only [kfb] at hL); have hF := hL.facts; (try simp only [Facts, Dist, kd] at hF); (((with_reducible refine (small_is _ (hT.kn hL (by simp))).mono ?_))); rintro e W ⟨rfl, hb⟩; replace hL := hL.below hb; clear hb; (try clear hF); (try simp only [kfb] at hL); have hF := hL.facts; (try simp only [Facts, Dist, kd] at hF)))
  (try simp only [Exit.inBlock, Exit.then]); refine bodyPost_ret (by simp [results, Tryz.results3, go_sem, *]; try rfl) rfl ?_
  exact ⟨rfl, hL.below0⟩
set_option maxRecDepth 20000 in
set_option maxHeartbeats 4000000 in
theorem bytes_out1 (s : ByteArray) (b : UInt8) (n k : Int) (c0a : decide ((600 : Int) < (s.size : Int)) = false) (c0b : decide (600 < s.size) = false) (c1a : decide (n < -2147483648) = true) (w : World) (hT : TabA w) : Calls Tryz.prog 3 #[.string s, .int .u8 (b.toNat : Int), .int .i64 n, .int .i64 k] w fun e w' => e = .returned (.bool true) ∧ Below w.heap.size w w' := by
  have hL : Kn [] w w [] := Kn.refl [] w; (try simp only [kfb] at hL); have hF := hL.facts; (try simp only [Facts, Dist, kd] at hF); go_enter Tryz.func3, Tryz.ntmps3
  go_wp2_with (first | ((with_reducible refine kn_list_set ?_); (try clear hF); clear hL; intro W hL; (try simp only [kfb] at hL); have hF := hL.facts; (try simp only [Facts, Dist, kd] at hF)) | (go_at_call 8; refine kn_calls ?_; (try clear hF); clear hL; intro W hL; (try simp only [kfb] at hL); have hF := hL.facts; (try simp only [Facts, Dist, kd] at hF); (((with_reducible refine (small_is _ (hT.kn hL (by simp))).mono ?_))); rintro e W ⟨rfl, hb⟩; replace hL := hL.below hb; clear hb; (try clear hF); (try simp only [kfb] at hL); have hF := hL.facts; (try simp only [Facts, Dist, kd] at hF)))
  (try simp only [Exit.inBlock, Exit.then]); refine bodyPost_ret (by simp [results, Tryz.results3, go_sem, *]; try rfl) rfl ?_
  exact ⟨rfl, hL.below0⟩
set_option maxRecDepth 20000 in
set_option maxHeartbeats 4000000 in
theorem bytes_out2 (s : ByteArray) (b : UInt8) (n k : Int) (c0a : decide ((600 : Int) < (s.size : Int)) = false) (c0b : decide (600 < s.size) = false) (c1a : decide (n < -2147483648) = false) (c2a : decide (4294967295 < n) = true) (w : World) (hT : TabA w) : Calls Tryz.prog 3 #[.string s, .int .u8 (b.toNat : Int), .int .i64 n, .int .i64 k] w fun e w' => e = .returned (.bool true) ∧ Below w.heap.size w w' := by
  have hL : Kn [] w w [] := Kn.refl [] w; (try simp only [kfb] at hL); have hF := hL.facts; (try simp only [Facts, Dist, kd] at hF); go_enter Tryz.func3, Tryz.ntmps3
  go_wp2_with (first | ((with_reducible refine kn_list_set ?_); (try clear hF); clear hL; intro W hL; (try simp only [kfb] at hL); have hF := hL.facts; (try simp only [Facts, Dist, kd] at hF)) | (go_at_call 8; refine kn_calls ?_; (try clear hF); clear hL; intro W hL; (try simp only [kfb] at hL); have hF := hL.facts; (try simp only [Facts, Dist, kd] at hF); (((with_reducible refine (small_is _ (hT.kn hL (by simp))).mono ?_))); rintro e W ⟨rfl, hb⟩; replace hL := hL.below hb; clear hb; (try clear hF); (try simp only [kfb] at hL); have hF := hL.facts; (try simp only [Facts, Dist, kd] at hF)))
  (try simp only [Exit.inBlock, Exit.then]); refine bodyPost_ret (by simp [results, Tryz.results3, go_sem, *]; try rfl) rfl ?_
  exact ⟨rfl, hL.below0⟩
set_option maxRecDepth 20000 in
set_option maxHeartbeats 4000000 in
theorem bytes_out3 (s : ByteArray) (b : UInt8) (n k : Int) (c0a : decide ((600 : Int) < (s.size : Int)) = false) (c0b : decide (600 < s.size) = false) (c1a : decide (n < -2147483648) = false) (c2a : decide (4294967295 < n) = false) (c3a : decide (k < 0) = true) (w : World) (hT : TabA w) : Calls Tryz.prog 3 #[.string s, .int .u8 (b.toNat : Int), .int .i64 n, .int .i64 k] w fun e w' => e = .returned (.bool true) ∧ Below w.heap.size w w' := by
  have hL : Kn [] w w [] := Kn.refl [] w; (try simp only [kfb] at hL); have hF := hL.facts; (try simp only [Facts, Dist, kd] at hF); go_enter Tryz.func3, Tryz.ntmps3
  go_wp2_with (first | ((with_reducible refine kn_list_set ?_); (try clear hF); clear hL; intro W hL; (try simp only [kfb] at hL); have hF := hL.facts; (try simp only [Facts, Dist, kd] at hF)) | (go_at_call 8; refine kn_calls ?_; (try clear hF); clear hL; intro W hL; (try simp only [kfb] at hL); have hF := hL.facts; (try simp only [Facts, Dist, kd] at hF); (((with_reducible refine (small_is _ (hT.kn hL (by simp))).mono ?_))); rintro e W ⟨rfl, hb⟩; replace hL := hL.below hb; clear hb; (try clear hF); (try simp only [kfb] at hL); have hF := hL.facts; (try simp only [Facts, Dist, kd] at hF)))
  (try simp only [Exit.inBlock, Exit.then]); refine bodyPost_ret (by simp [results, Tryz.results3, go_sem, *]; try rfl) rfl ?_
  exact ⟨rfl, hL.below0⟩
set_option maxRecDepth 20000 in
set_option maxHeartbeats 4000000 in
theorem bytes_out4 (s : ByteArray) (b : UInt8) (n k : Int) (c0a : decide ((600 : Int) < (s.size : Int)) = false) (c0b : decide (600 < s.size) = false) (c1a : decide (n < -2147483648) = false) (c2a : decide (4294967295 < n) = false) (c3a : decide (k < 0) = false) (c4a : decide (600 < k) = true) (w : World) (hT : TabA w) : Calls Tryz.prog 3 #[.string s, .int .u8 (b.toNat : Int), .int .i64 n, .int .i64 k] w fun e w' => e = .returned (.bool true) ∧ Below w.heap.size w w' := by
  have hL : Kn [] w w [] := Kn.refl [] w; (try simp only [kfb] at hL); have hF := hL.facts; (try simp only [Facts, Dist, kd] at hF); go_enter Tryz.func3, Tryz.ntmps3
  go_wp2_with (first | ((with_reducible refine kn_list_set ?_); (try clear hF); clear hL; intro W hL; (try simp only [kfb] at hL); have hF := hL.facts; (try simp only [Facts, Dist, kd] at hF)) | (go_at_call 8; refine kn_calls ?_; (try clear hF); clear hL; intro W hL; (try simp only [kfb] at hL); have hF := hL.facts; (try simp only [Facts, Dist, kd] at hF); (((with_reducible refine (small_is _ (hT.kn hL (by simp))).mono ?_))); rintro e W ⟨rfl, hb⟩; replace hL := hL.below hb; clear hb; (try clear hF); (try simp only [kfb] at hL); have hF := hL.facts; (try simp only [Facts, Dist, kd] at hF)))
  (try simp only [Exit.inBlock, Exit.then]); refine bodyPost_ret (by simp [results, Tryz.results3, go_sem, *]; try rfl) rfl ?_
  exact ⟨rfl, hL.below0⟩
/-- The four bytes of a word, from the last on. -/
def vw (n : Int) (j : Nat) : Int := n % 4294967296 / 256 ^ j
theorem vw_step (n : Int) (j : Nat) (h : j < 4) : ∃ c : UInt8, (w4B n)[j]? = some c ∧ 256 * vw n (j + 1) + (c.toNat : Int) = vw n j ∧ 0 ≤ vw n (j + 1) ∧ vw n (j + 1) ≤ 16777216 := by
  have hb : ∀ m : Int, ((byteOf m).toNat : Int) = m % 256 := fun m => by unfold byteOf; rw [UInt8.toNat_ofNat']; omega
  have : j = 0 ∨ j = 1 ∨ j = 2 ∨ j = 3 := by omega
  rcases this with rfl | rfl | rfl | rfl
  · refine ⟨_, rfl, ?_⟩; rw [hb]; unfold vw; simp only [Int.pow_succ, Int.pow_zero]; omega
  · refine ⟨_, rfl, ?_⟩; rw [hb]; unfold vw; simp only [Int.pow_succ, Int.pow_zero]; omega
  · refine ⟨_, rfl, ?_⟩; rw [hb]; unfold vw; simp only [Int.pow_succ, Int.pow_zero]; omega
  · refine ⟨_, rfl, ?_⟩; rw [hb]; unfold vw; simp only [Int.pow_succ, Int.pow_zero]; omega
theorem at_mid {A Z W : Bytes} {i : Nat} (h1 : A.length ≤ i) (h2 : i < A.length + Z.length) : (A ++ Z ++ W)[i]? = Z[i - A.length]? := by
  rw [List.append_assoc, List.getElem?_append_right h1, List.getElem?_append_left (by omega)]
theorem at_end {A Z W : Bytes} {i : Nat} (h1 : A.length + Z.length ≤ i) : (A ++ Z ++ W)[i]? = W[i - (A.length + Z.length)]? := by
  rw [List.getElem?_append_right (by rw [List.length_append]; exact h1), List.length_append]
theorem bytes_any (s : ByteArray) (b : UInt8) (n k : Int) (w : World) (hT : TabA w) : Calls Tryz.prog 3 #[.string s, .int .u8 (b.toNat : Int), .int .i64 n, .int .i64 k] w fun e w' => e = .returned (.bool true) ∧ Below w.heap.size w w' := by
  by_cases h0 : 600 < s.size
  · exact bytes_out0 s b n k (decide_eq_true (by omega)) (decide_eq_true h0) w hT
  have g0 : decide ((600 : Int) < (s.size : Int)) = false := decide_eq_false (by omega)
  by_cases h1 : n < -2147483648
  · exact bytes_out1 s b n k g0 (decide_eq_false h0) (decide_eq_true h1) w hT
  by_cases h2 : 4294967295 < n
  · exact bytes_out2 s b n k g0 (decide_eq_false h0) (decide_eq_false h1) (decide_eq_true h2) w hT
  by_cases h3 : k < 0
  · exact bytes_out3 s b n k g0 (decide_eq_false h0) (decide_eq_false h1) (decide_eq_false h2) (decide_eq_true h3) w hT
  by_cases h4 : 600 < k
  · exact bytes_out4 s b n k g0 (decide_eq_false h0) (decide_eq_false h1) (decide_eq_false h2) (decide_eq_false h3) (decide_eq_true h4) w hT
  obtain ⟨k, rfl⟩ : ∃ m : Nat, k = m := ⟨k.toNat, by omega⟩
  obtain ⟨q, hq⟩ := ba_of (quoteB s.data.toList)
  obtain ⟨d1, hd1⟩ := ba_of (Lib.itoa (b.toNat : Int))
  obtain ⟨d2, hd2⟩ := ba_of (Lib.itoa (k : Int))
  obtain ⟨d3, hd3⟩ := ba_of (Lib.itoa n)
  have lq := quote_len s.data.toList
  rw [← hq, szl, szl] at lq
  have hbl := b.toNat_lt
  have l1 := Lib.itoa_length_le (b.toNat : Int) (by omega) (by omega)
  have l2 := Lib.itoa_length_le (k : Int) (by omega) (by omega)
  have l3 := Lib.itoa_length_le n (by omega) (by omega)
  rw [← hd1, szl] at l1
  rw [← hd2, szl] at l2
  rw [← hd3, szl] at l3
  obtain ⟨x1, ex1⟩ : ∃ x, ⟨#[46, 116, 101, 120, 116, 32]⟩ ++ q = x := ⟨_, rfl⟩; have zx1 : x1.size = (⟨#[46, 116, 101, 120, 116, 32]⟩ : ByteArray).size + (q : ByteArray).size := by rw [← ex1, ByteArray.size_append]
  obtain ⟨x2, ex2⟩ : ∃ x, x1 ++ ⟨#[10, 10, 32, 59, 32, 99, 111, 109, 109, 101, 110, 116, 58, 32, 46, 98, 121, 116, 101, 32, 55, 10, 9, 46, 98, 121, 116, 101, 32]⟩ = x := ⟨_, rfl⟩; have zx2 : x2.size = (x1 : ByteArray).size + (⟨#[10, 10, 32, 59, 32, 99, 111, 109, 109, 101, 110, 116, 58, 32, 46, 98, 121, 116, 101, 32, 55, 10, 9, 46, 98, 121, 116, 101, 32]⟩ : ByteArray).size := by rw [← ex2, ByteArray.size_append]
  obtain ⟨x3, ex3⟩ : ∃ x, x2 ++ d1 = x := ⟨_, rfl⟩; have zx3 : x3.size = (x2 : ByteArray).size + (d1 : ByteArray).size := by rw [← ex3, ByteArray.size_append]
  obtain ⟨x4, ex4⟩ : ∃ x, x3 ++ ⟨#[32, 44, 32, 45, 49, 59, 120, 10, 32, 46, 115, 112, 97, 99, 101, 32]⟩ = x := ⟨_, rfl⟩; have zx4 : x4.size = (x3 : ByteArray).size + (⟨#[32, 44, 32, 45, 49, 59, 120, 10, 32, 46, 115, 112, 97, 99, 101, 32]⟩ : ByteArray).size := by rw [← ex4, ByteArray.size_append]
  obtain ⟨x5, ex5⟩ : ∃ x, x4 ++ d2 = x := ⟨_, rfl⟩; have zx5 : x5.size = (x4 : ByteArray).size + (d2 : ByteArray).size := by rw [← ex5, ByteArray.size_append]
  obtain ⟨x6, ex6⟩ : ∃ x, x5 ++ ⟨#[10, 101, 110, 100, 58, 32, 46, 119, 111, 114, 100, 9]⟩ = x := ⟨_, rfl⟩; have zx6 : x6.size = (x5 : ByteArray).size + (⟨#[10, 101, 110, 100, 58, 32, 46, 119, 111, 114, 100, 9]⟩ : ByteArray).size := by rw [← ex6, ByteArray.size_append]
  obtain ⟨x7, ex7⟩ : ∃ x, x6 ++ d3 = x := ⟨_, rfl⟩; have zx7 : x7.size = (x6 : ByteArray).size + (d3 : ByteArray).size := by rw [← ex7, ByteArray.size_append]
  obtain ⟨x8, ex8⟩ : ∃ x, x7 ++ ⟨#[44, 32, 101, 110, 100, 10]⟩ = x := ⟨_, rfl⟩; have zx8 : x8.size = (x7 : ByteArray).size + (⟨#[44, 32, 101, 110, 100, 10]⟩ : ByteArray).size := by rw [← ex8, ByteArray.size_append]
  have y0 : (⟨#[46, 116, 101, 120, 116, 32]⟩ : ByteArray).size = 6 := rfl
  have y1 : (⟨#[10, 10, 32, 59, 32, 99, 111, 109, 109, 101, 110, 116, 58, 32, 46, 98, 121, 116, 101, 32, 55, 10, 9, 46, 98, 121, 116, 101, 32]⟩ : ByteArray).size = 29 := rfl
  have y2 : (⟨#[32, 44, 32, 45, 49, 59, 120, 10, 32, 46, 115, 112, 97, 99, 101, 32]⟩ : ByteArray).size = 16 := rfl
  have y3 : (⟨#[10, 101, 110, 100, 58, 32, 46, 119, 111, 114, 100, 9]⟩ : ByteArray).size = 12 := rfl
  have y4 : (⟨#[44, 32, 101, 110, 100, 10]⟩ : ByteArray).size = 6 := rfl
  have hx8 : x8.data.toList = srcB q.data.toList d1.data.toList d2.data.toList d3.data.toList := by
    rw [← ex8, ← ex7, ← ex6, ← ex5, ← ex4, ← ex3, ← ex2, ← ex1]
    simp only [ByteArray.data_append, Array.toList_append]
    simp [srcB, join10, lB1, lB3, lB4, lB5, lB6, dText, dWord]
  have hasm := bytes_plain s.data.toList (quoteB s.data.toList) rfl (unq_quote _) (by rw [szl]; omega) b k (by omega) n (by omega) (by omega) (quote_no10 _)
  rw [← hq, ← hd1, ← hd2, ← hd3, ← hx8, szl] at hasm
  obtain ⟨a, ha⟩ : ∃ a, (s.size + 2 + k + 3) / 4 * 4 = a := ⟨_, rfl⟩
  rw [ha] at hasm
  obtain ⟨code, hcode⟩ := ba_of (s.data.toList ++ [b, 255] ++ List.replicate k 0 ++ List.replicate (a - (s.size + 2 + k)) 0 ++ (w4B n ++ w4B ((64 + a : Nat) : Int)))
  rw [← hcode] at hasm
  have hC : code.data.toList = (s.data.toList ++ [b, 255]) ++ List.replicate (a - (s.size + 2)) 0 ++ (w4B n ++ w4B ((64 + a : Nat) : Int)) := by
    rw [hcode, List.append_assoc (s.data.toList ++ [b, 255]), List.replicate_append_replicate, show k + (a - (s.size + 2 + k)) = a - (s.size + 2) by omega]
  have hA : (s.data.toList ++ [b, 255]).length = s.size + 2 := by rw [List.length_append, szl]; rfl
  have hZ : (List.replicate (a - (s.size + 2)) (0 : UInt8)).length = a - (s.size + 2) := List.length_replicate
  have hcs : code.size = a + 8 := by
    rw [← szl, hC, List.length_append, List.length_append, hA, hZ, List.length_append]
    have w1 : (w4B n).length = 4 := rfl
    have w2 : (w4B ((64 + a : Nat) : Int)).length = 4 := rfl
    rw [w1, w2]; omega
  have hend : ∀ j, j < 8 → code.data.toList[a + j]? = (w4B n ++ w4B ((64 + a : Nat) : Int))[j]? := fun j hj => by
    rw [hC, at_end (by rw [hA, hZ]; omega), hA, hZ, show a + j - (s.size + 2 + (a - (s.size + 2))) = j by omega]
  refine bytes_in s b n k (by omega) (by omega) (by omega) (by omega) q d1 d2 d3 code x1 x2 x3 x4 x5 x6 x7 x8 (by omega) (by omega) (by omega) (by omega) ex1 (by omega) ex2 (by omega) ex3 (by omega) ex4 (by omega) ex5 (by omega) ex6 (by omega) ex7 (by omega) ex8 (by omega) a (by omega) (by omega) (by omega) hcs (bne_eq_false_iff_eq.2 (by omega)) ?_ ?_ ?_ (Lib.hid fun i hi1 hi2 => ?_) (vw n) (vw ((64 + a : Nat) : Int)) (Lib.hid fun j hj => ?_) (Lib.hid fun j hj => ?_) ?_ ?_ (vw n 0) (vw ((64 + a : Nat) : Int) 0) (Lib.hid rfl) (Lib.hid rfl) ?_ ?_ (Lib.hid fun W h => ?_) (Lib.hid fun W h => ?_) (Lib.hid fun W h => ?_) (Lib.hid fun W h => ?_) (Lib.hid fun W h => ?_) w hT
  · rw [beq_iff_eq, Lib.toList_data, Lib.toList_data]
    simp only [ByteArray.data_extract, Array.toList_extract, List.extract_eq_take_drop, List.drop_zero, Nat.sub_zero]
    rw [hC, List.append_assoc, List.append_assoc, ← szl, List.take_left]
  · rw [hC, List.append_assoc, List.append_assoc, List.getElem?_append_right (by rw [szl]; omega), szl, Nat.sub_self]; rfl
  · rw [hC, List.append_assoc, List.append_assoc, List.getElem?_append_right (by rw [szl]; omega), szl, show s.size + 1 - s.size = 1 by omega]; rfl
  · rw [hC, at_mid (by rw [hA]; omega) (by rw [hA, hZ]; omega), List.getElem?_replicate, if_pos (by rw [hA]; omega)]
  · obtain ⟨c, h1, h2⟩ := vw_step n j hj
    exact ⟨c, by rw [hend j (by omega), List.getElem?_append_left (by show j < 4; omega)]; exact h1, h2⟩
  · obtain ⟨c, h1, h2⟩ := vw_step ((64 + a : Nat) : Int) j hj
    exact ⟨c, by rw [Nat.add_assoc, hend (4 + j) (by omega), List.getElem?_append_right (by show 4 ≤ 4 + j; omega), show 4 + j - (w4B n).length = j by show 4 + j - 4 = j; omega]; exact h1, h2⟩
  · unfold vw; simp only [Int.pow_succ, Int.pow_zero]; omega
  · unfold vw; simp only [Int.pow_succ, Int.pow_zero]; omega
  · unfold vw; rw [beq_iff_eq]; simp only [Int.pow_zero]; omega
  · unfold vw; rw [beq_iff_eq]; simp only [Int.pow_zero]; omega
  · have := Quote_any s (by omega) W
    rw [← hq, toList_mk] at this; exact this
  · have := Decimal_any (b.toNat : Int) (by omega) (by omega) W h.t
    exact this.mono fun e w' ⟨h1, h2⟩ => ⟨by rw [h1]; congr 2; apply ba_ext; rw [hd1]; rfl, h2⟩
  · have := Decimal_any (k : Int) (by omega) (by omega) W h.t
    exact this.mono fun e w' ⟨h1, h2⟩ => ⟨by rw [h1]; congr 2; apply ba_ext; rw [hd2]; rfl, h2⟩
  · have := Decimal_any n (by omega) (by omega) W h.t
    exact this.mono fun e w' ⟨h1, h2⟩ => ⟨by rw [h1]; congr 2; apply ba_ext; rw [hd3]; rfl, h2⟩
  · refine (Assemble_is (Lib.hid iany) x8 (by omega) W h).mono fun e w' h2 => ?_
    unfold AsmP at h2
    rw [hasm] at h2
    have h3 := h2.2
    simp only [toList_mk] at h3
    exact ⟨h3, h2.1⟩

end Go.Proofs.YtfdlifhkeicnnaaGreatDoor
namespace Go.Proofs.YtfdlifhkeicnnaaGreatDoor
open Go
theorem u8_of {n : Int} (h : (Lit.int .u8 n).wf = true) : ∃ b : UInt8, n = (b.toNat : Int) := by
  have h2 : 0 ≤ n ∧ n ≤ 255 := by
    have h3 : decide (IntKind.u8.min ≤ n) = true ∧ decide (n ≤ IntKind.u8.max) = true := by simpa [Lit.wf] using h
    have e1 : IntKind.u8.min = 0 := by decide
    have e2 : IntKind.u8.max = 255 := by decide
    rw [e1, e2] at h3
    exact ⟨of_decide_eq_true h3.1, of_decide_eq_true h3.2⟩
  exact ⟨UInt8.ofNat n.toNat, by rw [UInt8.toNat_ofNat']; omega⟩
end Go.Proofs.YtfdlifhkeicnnaaGreatDoor
