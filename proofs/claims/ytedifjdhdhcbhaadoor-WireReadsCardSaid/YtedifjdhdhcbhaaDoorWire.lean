/- The canonical encoding as text, and a reader of it, as plain functions; that what is written is read back. Of no program. -/
import Derived.Test.YtedifjdhdhcbhaaDoorNum
import Derived.Lib.Bytealg
namespace Go.Proofs.YtedifjdhdhcbhaaDoor
open Go
abbrev Bytes := List UInt8
def encInt (n : Int) : Bytes := Lib.itoa n ++ [59]
def encNum (n : Int) : Bytes := if n < 0 then [] else encInt n
def encText (s : Bytes) : Bytes := Lib.itoa s.length ++ 58 :: (s ++ [44])
def encNums (l : List Int) : Bytes := Lib.itoa l.length ++ 91 :: (l.flatMap encInt ++ [93])
def encTexts (l : List Bytes) : Bytes := Lib.itoa l.length ++ 91 :: (l.flatMap encText ++ [93])
structure Rd where
  rest : Bytes
  bad : Bool
def failR : Rd := ⟨[], true⟩
def minInt : Int := -9223372036854775808
def maxInt : Int := 9223372036854775807
/-- A number and the byte behind it, among the first 21 bytes. -/
def numR (e : UInt8) (least : Int) (r : Rd) : Int × Rd :=
  if Lib.indexByte (r.rest.take 21) e < 0 then (0, failR) else
  match canon (r.rest.take (Lib.indexByte (r.rest.take 21) e).toNat) with
  | some n => if n < least then (0, failR) else (n, ⟨r.rest.drop ((Lib.indexByte (r.rest.take 21) e).toNat + 1), r.bad⟩)
  | none => (0, failR)
def closeR (e : UInt8) (r : Rd) : Rd := match r.rest with
  | c :: t => if c = e then ⟨t, r.bad⟩ else failR
  | [] => failR
def textR (r : Rd) : Bytes × Rd :=
  if ((numR 58 0 r).2.rest.length : Int) < (numR 58 0 r).1 then ([], failR) else
  if (closeR 44 ⟨(numR 58 0 r).2.rest.drop (numR 58 0 r).1.toNat, (numR 58 0 r).2.bad⟩).bad then ([], closeR 44 ⟨(numR 58 0 r).2.rest.drop (numR 58 0 r).1.toNat, (numR 58 0 r).2.bad⟩)
  else ((numR 58 0 r).2.rest.take (numR 58 0 r).1.toNat, closeR 44 ⟨(numR 58 0 r).2.rest.drop (numR 58 0 r).1.toNat, (numR 58 0 r).2.bad⟩)
def loopR {α : Type} (one : Rd → α × Rd) : Nat → Rd → List α × Rd
  | 0, r => ([], r)
  | n + 1, r => if r.bad then ([], r) else ((one r).1 :: (loopR one n (one r).2).1, (loopR one n (one r).2).2)
def itemsR {α : Type} (one : Rd → α × Rd) (r : Rd) : List α × Rd :=
  if (closeR 93 (loopR one (numR 91 0 r).1.toNat (numR 91 0 r).2).2).bad then ([], closeR 93 (loopR one (numR 91 0 r).1.toNat (numR 91 0 r).2).2)
  else ((loopR one (numR 91 0 r).1.toNat (numR 91 0 r).2).1, closeR 93 (loopR one (numR 91 0 r).1.toNat (numR 91 0 r).2).2)
def intR (r : Rd) : Int × Rd := numR 59 minInt r
def natR (r : Rd) : Int × Rd := numR 59 0 r
def numsR (r : Rd) : List Int × Rd := itemsR intR r
def textsR (r : Rd) : List Bytes × Rd := itemsR textR r
/-! What is written is read back. -/
theorem index_app : ∀ (l : Bytes) (e : UInt8) (t : Bytes), (∀ x ∈ l, x ≠ e) → Lib.indexByte (l ++ e :: t) e = l.length
  | [], e, t, _ => by simp [Lib.indexByte]
  | x :: l, e, t, h => by
    have hx := h x (by simp)
    have ih := index_app l e t (fun y hy => h y (List.mem_cons_of_mem _ hy))
    rw [List.cons_append, Lib.indexByte, if_neg (by simpa using hx), ih, if_neg (by simp)]
    simp
theorem index_lt : ∀ (l : Bytes) (e : UInt8), Lib.indexByte l e < l.length
  | [], e => by simp [Lib.indexByte]
  | x :: l, e => by
    have ih := index_lt l e
    rw [Lib.indexByte]
    split
    · simp only [List.length_cons]; omega
    · split
      · simp only [List.length_cons]; omega
      · simp only [List.length_cons]; omega
/-- Where a byte is found, it stands there, and not before. -/
theorem index_at : ∀ (l : Bytes) (e : UInt8) (k : Nat), Lib.indexByte l e = k → l = l.take k ++ e :: l.drop (k + 1) ∧ (∀ x ∈ l.take k, x ≠ e)
  | [], e, k, h => by simp [Lib.indexByte] at h
  | x :: l, e, k, h => by
    rw [Lib.indexByte] at h
    split at h
    · rename_i hx
      obtain rfl : k = 0 := by omega
      have := eq_of_beq hx
      subst this; simp
    · rename_i hx
      split at h
      · omega
      · obtain ⟨m, rfl⟩ : ∃ m, k = m + 1 := ⟨k - 1, by have := Lib.indexByte_ge l e; simp at *; omega⟩
        obtain ⟨h1, h2⟩ := index_at l e m (by omega)
        refine ⟨?_, ?_⟩
        · simp only [List.take_succ_cons, List.drop_succ_cons, List.cons_append]
          exact congrArg _ h1
        · intro y hy
          simp only [List.take_succ_cons, List.mem_cons] at hy
          rcases hy with rfl | hy
          · simpa using hx
          · exact h2 y hy
theorem digits_len : ∀ (m k : Nat), 0 < m → k < 10 ^ m → (Lib.decDigits k).length ≤ m
  | 0, _, h, _ => by omega
  | m + 1, k, _, hk => by
    rw [Lib.decDigits]
    split
    · simp
    · rename_i h
      rw [List.length_append]
      have hp : (10 : Nat) ^ (m + 1) = 10 ^ m * 10 := Nat.pow_succ ..
      have h0 : 0 < m := by
        rcases Nat.eq_zero_or_pos m with e | e
        · subst e; simp at hk; omega
        · exact e
      have := digits_len m (k / 10) h0 (by omega)
      simp; omega
theorem itoa_len {n : Int} (h0 : minInt ≤ n) (h1 : n ≤ maxInt) : (Lib.itoa n).length ≤ 20 := by
  unfold minInt maxInt at *
  unfold Lib.itoa
  split
  · have := digits_len 19 n.natAbs (by decide) (by omega)
    simp; omega
  · have := digits_len 19 n.toNat (by decide) (by omega)
    omega
theorem itoa_clean (n : Int) : ∀ x ∈ Lib.itoa n, x.toNat = 45 ∨ (48 ≤ x.toNat ∧ x.toNat ≤ 57) := by
  unfold Lib.itoa
  split
  · intro x hx
    rcases List.mem_cons.1 hx with rfl | hx
    · exact .inl rfl
    · exact .inr (digits_in _ x hx)
  · intro x hx; exact .inr (digits_in _ x hx)
theorem itoa_ne (n : Int) (e : UInt8) (he : e.toNat = 58 ∨ e.toNat = 59 ∨ e.toNat = 91) : ∀ x ∈ Lib.itoa n, x ≠ e := by
  rintro x hx rfl
  have := itoa_clean n x hx; omega
/-- A number is read back. -/
theorem num_back {n least : Int} {e : UInt8} (he : e.toNat = 58 ∨ e.toNat = 59 ∨ e.toNat = 91) (h0 : minInt ≤ n) (h1 : n ≤ maxInt) (hl : least ≤ n) (t : Bytes) (b : Bool) : numR e least ⟨Lib.itoa n ++ e :: t, b⟩ = (n, ⟨t, b⟩) := by
  have hlen := itoa_len h0 h1
  have htk : (Lib.itoa n ++ e :: t).take 21 = Lib.itoa n ++ e :: t.take (20 - (Lib.itoa n).length) := by
    rw [List.take_append, List.take_of_length_le (by omega)]
    congr 1
    rw [show 21 - (Lib.itoa n).length = (20 - (Lib.itoa n).length) + 1 by omega, List.take_succ_cons]
  have hi := index_app (Lib.itoa n) e (t.take (20 - (Lib.itoa n).length)) (itoa_ne n e he)
  unfold numR
  simp only [htk, hi]
  rw [if_neg (by omega)]
  have e1 : ((Lib.itoa n).length : Int).toNat = (Lib.itoa n).length := by omega
  simp only [Int.toNat_natCast]
  rw [List.take_left', canon_itoa h0 h1]
  · simp only
    rw [if_neg (by omega)]
    congr 2
    rw [List.drop_append, List.drop_eq_nil_of_le (by omega)]
    simp
  · rfl
theorem close_back (e : UInt8) (t : Bytes) (b : Bool) : closeR e ⟨e :: t, b⟩ = ⟨t, b⟩ := by simp [closeR]
theorem text_back (s t : Bytes) (hs : (s.length : Int) ≤ maxInt) : textR ⟨encText s ++ t, false⟩ = (s, ⟨t, false⟩) := by
  have e : encText s ++ t = Lib.itoa s.length ++ 58 :: (s ++ 44 :: t) := by simp [encText]
  have h := num_back (n := s.length) (least := 0) (e := 58) (.inl rfl) (by unfold minInt; omega) hs (by omega) (s ++ 44 :: t) false
  unfold textR
  rw [e, h]
  simp only
  rw [if_neg (by simp; omega)]
  have e1 : ((s.length : Nat) : Int).toNat = s.length := by omega
  rw [e1, List.drop_left, List.take_left, close_back]
  simp
theorem loop_back {α : Type} (one : Rd → α × Rd) (enc : α → Bytes) (ok : α → Prop) (h : ∀ x t, ok x → one ⟨enc x ++ t, false⟩ = (x, ⟨t, false⟩)) :
    ∀ (l : List α) (t : Bytes), (∀ x ∈ l, ok x) → loopR one l.length ⟨l.flatMap enc ++ t, false⟩ = (l, ⟨t, false⟩)
  | [], t, _ => by simp [loopR]
  | x :: l, t, hl => by
    have h1 := h x (l.flatMap enc ++ t) (hl x (by simp))
    have h2 := loop_back one enc ok h l t (fun y hy => hl y (List.mem_cons_of_mem _ hy))
    simp only [List.length_cons, loopR, List.flatMap_cons, List.append_assoc, h1, h2]
    simp
theorem items_back {α : Type} (one : Rd → α × Rd) (enc : α → Bytes) (ok : α → Prop) (h : ∀ x t, ok x → one ⟨enc x ++ t, false⟩ = (x, ⟨t, false⟩)) (l : List α) (t : Bytes) (hl : ∀ x ∈ l, ok x) (hn : (l.length : Int) ≤ maxInt) :
    itemsR one ⟨Lib.itoa l.length ++ 91 :: (l.flatMap enc ++ 93 :: t), false⟩ = (l, ⟨t, false⟩) := by
  have h1 := num_back (n := l.length) (least := 0) (e := 91) (.inr (.inr rfl)) (by unfold minInt; omega) hn (by omega) (l.flatMap enc ++ 93 :: t) false
  have h2 := loop_back one enc ok h l (93 :: t) hl
  unfold itemsR
  have e1 : ((l.length : Nat) : Int).toNat = l.length := by omega
  rw [h1]
  simp only [e1, h2, close_back]
  simp
def okI (n : Int) : Prop := minInt ≤ n ∧ n ≤ maxInt
def okT (s : Bytes) : Prop := (s.length : Int) ≤ maxInt
theorem int_back (n : Int) (t : Bytes) (h : okI n) : intR ⟨encInt n ++ t, false⟩ = (n, ⟨t, false⟩) := by
  have e : encInt n ++ t = Lib.itoa n ++ 59 :: t := by simp [encInt]
  unfold intR
  rw [e]; exact num_back (.inr (.inl rfl)) h.1 h.2 h.1 t false
theorem nat_back (n : Int) (t : Bytes) (h0 : 0 ≤ n) (h1 : n ≤ maxInt) : natR ⟨encInt n ++ t, false⟩ = (n, ⟨t, false⟩) := by
  have e : encInt n ++ t = Lib.itoa n ++ 59 :: t := by simp [encInt]
  unfold natR
  rw [e]; exact num_back (.inr (.inl rfl)) (by unfold minInt; omega) h1 h0 t false
theorem nums_back (l : List Int) (t : Bytes) (h : ∀ x ∈ l, okI x) (hn : (l.length : Int) ≤ maxInt) : numsR ⟨encNums l ++ t, false⟩ = (l, ⟨t, false⟩) := by
  have e : encNums l ++ t = Lib.itoa l.length ++ 91 :: (l.flatMap encInt ++ 93 :: t) := by simp [encNums]
  unfold numsR
  rw [e]; exact items_back intR encInt okI int_back l t h hn
theorem texts_back (l : List Bytes) (t : Bytes) (h : ∀ x ∈ l, okT x) (hn : (l.length : Int) ≤ maxInt) : textsR ⟨encTexts l ++ t, false⟩ = (l, ⟨t, false⟩) := by
  have e : encTexts l ++ t = Lib.itoa l.length ++ 91 :: (l.flatMap encText ++ 93 :: t) := by simp [encTexts]
  unfold textsR
  rw [e]; exact items_back textR encText okT (fun x t hx => text_back x t hx) l t h hn
/-! What is read was written. -/
theorem num_again {e : UInt8} {least n : Int} {s : Bytes} {r : Rd} (h : numR e least ⟨s, false⟩ = (n, r)) (hb : r.bad = false) : s = Lib.itoa n ++ e :: r.rest ∧ least ≤ n ∧ okI n := by
  unfold numR at h
  simp only at h
  split at h
  · injection h with h1 h2; subst h2; simp [failR] at hb
  · rename_i hi
    split at h
    · rename_i m hm
      split at h
      · injection h with h1 h2; subst h2; simp [failR] at hb
      · rename_i hl
        injection h with h1 h2
        subst h1; subst h2
        obtain ⟨c1, c2, c3⟩ := canon_some hm
        obtain ⟨k, hk⟩ := Int.eq_ofNat_of_zero_le (show 0 ≤ Lib.indexByte (s.take 21) e by omega)
        have hlt := index_lt (s.take 21) e
        obtain ⟨a1, a2⟩ := index_at (s.take 21) e k hk
        rw [hk] at c1 hlt ⊢
        simp only [Int.toNat_natCast] at c1 ⊢
        have hk21 : k < 21 ∧ k < s.length := by
          rw [List.length_take] at hlt; omega
        have hs : s = s.take k ++ e :: s.drop (k + 1) := by
          have h1 : s[k]? = some e := by
            have := congrArg (·[k]?) a1
            simp only [List.getElem?_take_of_lt hk21.1] at this
            rw [this, List.getElem?_append_right (by simp; omega)]
            simp [List.take_take]
            rw [show k - min k (min 21 s.length) = 0 by omega]
            simp
          obtain ⟨hkl, he⟩ := List.getElem?_eq_some_iff.1 h1
          conv => lhs; rw [← List.take_append_drop k s, List.drop_eq_getElem_cons hkl, he]
        refine ⟨?_, by omega, ⟨c2, c3⟩⟩
        rw [c1]; exact hs
    · injection h with h1 h2; subst h2; simp [failR] at hb
theorem close_again {e : UInt8} {r : Rd} (hb : (closeR e r).bad = false) : r.rest = e :: (closeR e r).rest ∧ r.bad = false := by
  unfold closeR at *
  split at hb
  · rename_i c t hr
    split at hb
    · rename_i hc; subst hc; simp [hr]; exact hb
    · simp [failR] at hb
  · simp [failR] at hb
theorem text_again {s v : Bytes} {r : Rd} (h : textR ⟨s, false⟩ = (v, r)) (hb : r.bad = false) : s = encText v ++ r.rest ∧ okT v := by
  obtain ⟨n, r1, hn⟩ : ∃ n r1, numR 58 0 ⟨s, false⟩ = (n, r1) := ⟨_, _, rfl⟩
  unfold textR at h
  rw [hn] at h
  simp only at h
  split at h
  · injection h with h1 h2; subst h2; simp [failR] at hb
  · rename_i hl
    split at h
    · rename_i hc; injection h with h1 h2; subst h2; rw [hb] at hc; cases hc
    · rename_i hc
      injection h with h1 h2
      subst h1; subst h2
      obtain ⟨c1, c2⟩ := close_again hb
      simp only at c1 c2
      obtain ⟨n1, n2, n3⟩ := num_again hn c2
      have hlen : (r1.rest.take n.toNat).length = n.toNat := by rw [List.length_take]; omega
      refine ⟨?_, ?_⟩
      · rw [n1]
        have e1 : ((r1.rest.take n.toNat).length : Int) = n := by rw [hlen]; omega
        unfold encText
        rw [e1, List.append_assoc, List.cons_append, List.append_assoc, List.singleton_append, ← c1, List.take_append_drop]
      · unfold okT; rw [hlen]; have := n3.2; omega
theorem loop_again {α : Type} {one : Rd → α × Rd} {enc : α → Bytes} {ok : α → Prop} (h : ∀ s x r, one ⟨s, false⟩ = (x, r) → r.bad = false → s = enc x ++ r.rest ∧ ok x) :
    ∀ (n : Nat) (s : Bytes) (l : List α) (r : Rd), loopR one n ⟨s, false⟩ = (l, r) → r.bad = false → l.length = n ∧ s = l.flatMap enc ++ r.rest ∧ ∀ x ∈ l, ok x
  | 0, s, l, r, hl, hb => by
    simp only [loopR] at hl
    injection hl with h1 h2; subst h1; subst h2; simp
  | n + 1, s, l, r, hl, hb => by
    obtain ⟨x, r1, hx⟩ : ∃ x r1, one ⟨s, false⟩ = (x, r1) := ⟨_, _, rfl⟩
    simp only [loopR, hx] at hl
    rw [if_neg (by decide)] at hl
    injection hl with h1 h2
    cases hb1 : r1.bad with
    | true =>
      exfalso
      have : ∀ m, (loopR one m r1).2.bad = true := fun m => by cases m <;> simp [loopR, hb1]
      rw [← h2, this n] at hb; cases hb
    | false =>
      obtain ⟨a1, a2⟩ := h s x r1 hx hb1
      obtain ⟨s1, b1⟩ := r1
      simp only at hb1; subst hb1
      obtain ⟨b1, b2, b3⟩ := loop_again h n s1 (loopR one n ⟨s1, false⟩).1 (loopR one n ⟨s1, false⟩).2 rfl (by rw [h2]; exact hb)
      subst h1
      refine ⟨by simp [b1], ?_, fun y hy => ?_⟩
      · rw [a1]; simp only [List.flatMap_cons, List.append_assoc]; exact congrArg (enc x ++ ·) (by rw [← h2]; exact b2)
      · rcases List.mem_cons.1 hy with rfl | hy
        · exact a2
        · exact b3 y hy
theorem items_again {α : Type} {one : Rd → α × Rd} {enc : α → Bytes} {ok : α → Prop} (h : ∀ s x r, one ⟨s, false⟩ = (x, r) → r.bad = false → s = enc x ++ r.rest ∧ ok x) {s : Bytes} {l : List α} {r : Rd} (hi : itemsR one ⟨s, false⟩ = (l, r)) (hb : r.bad = false) :
    s = Lib.itoa l.length ++ 91 :: (l.flatMap enc ++ 93 :: r.rest) ∧ ∀ x ∈ l, ok x := by
  obtain ⟨n, r1, hn⟩ : ∃ n r1, numR 91 0 ⟨s, false⟩ = (n, r1) := ⟨_, _, rfl⟩
  unfold itemsR at hi
  rw [hn] at hi
  simp only at hi
  split at hi
  · rename_i hc; injection hi with h1 h2; subst h2; rw [hb] at hc; cases hc
  · injection hi with h1 h2
    subst h1; subst h2
    obtain ⟨c1, c2⟩ := close_again hb
    have hb1 : r1.bad = false := by
      cases hb1 : r1.bad with
      | false => rfl
      | true =>
        have : ∀ m, (loopR one m r1).2.bad = true := fun m => by cases m <;> simp [loopR, hb1]
        rw [this] at c2; cases c2
    obtain ⟨n1, n2, n3⟩ := num_again hn hb1
    obtain ⟨s1, b1⟩ := r1
    simp only at hb1; subst hb1
    obtain ⟨l1, l2, l3⟩ := loop_again h n.toNat s1 _ _ rfl c2
    refine ⟨?_, l3⟩
    rw [n1, l1]
    have e1 : ((n.toNat : Nat) : Int) = n := by omega
    rw [e1]
    exact congrArg (fun z => Lib.itoa n ++ 91 :: z) (by rw [← c1]; exact l2)
theorem int_again (s : Bytes) (n : Int) (r : Rd) (h : intR ⟨s, false⟩ = (n, r)) (hb : r.bad = false) : s = encInt n ++ r.rest ∧ okI n := by
  obtain ⟨h1, h2, h3⟩ := num_again h hb
  exact ⟨by rw [h1]; simp [encInt], h3⟩
end Go.Proofs.YtedifjdhdhcbhaaDoor
