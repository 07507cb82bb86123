/- Lemmas and walks for the law LawLabels (part 29). -/
import Derived.Test.YtfdlifhkeicnnaaGreatDoorPc28
import Derived.Test.YtfdlifhkeicnnaaGreatDoorProg
import Derived.WalkKit
import Derived.Handy
import Derived.Deep.Light
import Derived.WalkSmall
import Derived.StillTailTactics
import Derived.Lib.Hide
namespace Go.Proofs.YtfdlifhkeicnnaaGreatDoor
open Go Go.RowKit
set_option linter.unusedSimpArgs false
set_option linter.unusedVariables false

variable (O : Oth)
theorem lns_end {t : Bytes} (hne : t ≠ []) (hl : t.getLast? ≠ some 10) : lns (t ++ [10]) = lns t := by
  have e : trim10 (t ++ [10]) = trim10 t := by
    rcases trim_or t with ⟨h2, h3⟩ | ⟨h2, _⟩
    · exact absurd h3 hl
    · rcases trim_or (t ++ [10]) with ⟨h4, h5⟩ | ⟨h4, h5⟩
      · exact (List.append_cancel_right h4).symm.trans h2.symm
      · exact absurd (by simp) h5
  unfold lns
  rw [if_neg (by simp), if_neg hne, e]
end Go.Proofs.YtfdlifhkeicnnaaGreatDoor
namespace Go.Proofs.YtfdlifhkeicnnaaGreatDoor
open Go Go.RowKit
set_option linter.unusedSimpArgs false
set_option linter.unusedVariables false

theorem trim_b {c : UInt8} {s : Bytes} (hc : blank c = true) (h1 : ∀ y, s.head? = some y → blank y = false) (h2 : ∀ y, s.getLast? = some y → blank y = false) (hs : s ≠ []) : trim (c :: s) = s := by
  have h3 : (c :: s).reverse.dropWhile blank = (c :: s).reverse := drop_id (fun y hy => by
    rw [List.head?_reverse, List.getLast?_cons] at hy
    cases hl : s.getLast? with
    | none => exact absurd (List.getLast?_eq_none_iff.1 hl) hs
    | some z => rw [hl] at hy; cases hy; exact h2 z hl)
  unfold trim
  rw [h3, List.reverse_reverse, List.dropWhile_cons, if_pos hc, drop_id h1]
theorem itoa_named (n : Int) : named (Lib.itoa n) = false := by
  have key : ∀ c : UInt8, ∀ t, (c = 45 ∨ (48 ≤ c.toNat ∧ c.toNat ≤ 57)) → named (c :: t) = false := by
    intro c t h
    have : nameC true c = false := by
      unfold nameC
      rcases h with rfl | h
      · decide
      · have h1 : (c == 95) = false := beq_false_of_ne (by rintro rfl; revert h; decide)
        rw [h1]
        simp only [Bool.false_or, Bool.not_true, Bool.false_and, Bool.or_false, Bool.or_eq_false_iff, Bool.and_eq_false_iff, decide_eq_false_iff_not]
        omega
    show (nameC true c && t.all (nameC false)) = false
    rw [this]; rfl
  by_cases h : 0 ≤ n
  · obtain ⟨k, rfl⟩ : ∃ k : Nat, n = k := ⟨n.toNat, by omega⟩
    rw [Lib.itoa_nonneg]
    obtain ⟨h1, h2⟩ := digits_inA k
    cases hd : Lib.decDigits k with
    | nil => exact absurd hd h1
    | cons c t => exact key c t (.inr (h2 c (by rw [hd]; simp)))
  · obtain ⟨k, rfl⟩ : ∃ k : Nat, n = -(k : Int) := ⟨n.natAbs, by omega⟩
    rw [Lib.itoa_neg k (by omega)]
    exact key _ _ (.inl rfl)
end Go.Proofs.YtfdlifhkeicnnaaGreatDoor
namespace Go.Proofs.YtfdlifhkeicnnaaGreatDoor
open Go Go.RowKit
set_option linter.unusedSimpArgs false
set_option linter.unusedVariables false

def dNop : Bytes := [110, 111, 112]
def dJmp : Bytes := [106, 109, 112]
def dAddr : Bytes := [97, 100, 100, 114]
def dSet : Bytes := [115, 101, 116]
def r1B : Bytes := [114, 49]
def lineJ (X T : Bytes) : Bytes := X ++ 58 :: 32 :: (dJmp ++ 32 :: T)
def lineA (T : Bytes) : Bytes := [97, 100, 100, 114, 32, 114, 49, 44, 32] ++ T
def lineN (T : Bytes) : Bytes := [110, 111, 112, 32, 59, 32] ++ (T ++ [58])
def lineC (T : Bytes) : Bytes := 32 :: ([97, 100, 100, 114, 32, 114, 49, 44] ++ T)
def lineS (T : Bytes) : Bytes := 9 :: ([115, 101, 116, 32, 114, 49, 44, 32] ++ T)
theorem nameC_plain : ∀ k : Fin 256, nameC false (UInt8.ofNat k.val) = true → (UInt8.ofNat k.val ≠ 34 ∧ UInt8.ofNat k.val ≠ 44 ∧ UInt8.ofNat k.val ≠ 58 ∧ UInt8.ofNat k.val ≠ 59 ∧ blank (UInt8.ofNat k.val) = false) ∧ UInt8.ofNat k.val ≠ 10 := by decide +kernel
theorem nameC_first : ∀ k : Fin 256, nameC true (UInt8.ofNat k.val) = true → nameC false (UInt8.ofNat k.val) = true := by decide +kernel
theorem nameC_ok {c : UInt8} (h : nameC false c = true) : plainC c ∧ c ≠ 10 := by
  have := nameC_plain ⟨c.toNat, c.toNat_lt⟩
  simp only [UInt8.ofNat_toNat] at this
  exact this h
theorem named_all {s : Bytes} (h : named s = true) : s ≠ [] ∧ ∀ c ∈ s, nameC false c = true := by
  cases s with
  | nil => cases h
  | cons c t =>
    have h2 : (nameC true c && t.all (nameC false)) = true := h
    rw [Bool.and_eq_true] at h2
    refine ⟨by simp, fun y hy => ?_⟩
    rcases List.mem_cons.1 hy with rfl | hy
    · have := nameC_first ⟨y.toNat, y.toNat_lt⟩
      simp only [UInt8.ofNat_toNat] at this
      exact this h2.1
    · exact List.all_eq_true.1 h2.2 y hy
theorem named_plain {s : Bytes} (h : named s = true) : plainW s := ⟨(named_all h).1, fun c hc => (nameC_ok ((named_all h).2 c hc)).1⟩
theorem named_no10 {s : Bytes} (h : named s = true) : (10 : UInt8) ∉ s := fun hc => (nameC_ok ((named_all h).2 _ hc)).2 rfl
theorem named_int {s : Bytes} (h : named s = true) : OO.int s = none := by
  show canon s = none
  cases hc : canon s with
  | none => rfl
  | some n => rw [← (canon_some hc).1, itoa_named] at h; cases h
theorem plain_head {s : Bytes} (h : plainW s) : ∀ y, s.head? = some y → blank y = false := fun y hy => (h.2 y (List.mem_of_mem_head? hy)).2.2.2.2
theorem plain_last {s : Bytes} (h : plainW s) : ∀ y, s.getLast? = some y → blank y = false := fun y hy => (h.2 y (List.mem_of_mem_getLast? hy)).2.2.2.2
theorem rest_id {X : Bytes} (hX : ∀ y ∈ X, y ≠ 34 ∧ y ≠ 58 ∧ y ≠ 59) (h1 : ∀ y, X.head? = some y → blank y = false) (h2 : ∀ y, X.getLast? = some y → blank y = false) : rest X = X := by
  unfold rest
  rw [dv_plain 59 1 X (fun y hy => ⟨(hX y hy).1, (hX y hy).2.2⟩)]
  exact trim_id h1 h2
theorem readL_id {X : Bytes} (hX : ∀ y ∈ X, y ≠ 34 ∧ y ≠ 58 ∧ y ≠ 59) (f : Nat) : readL (f + 1) X = ([], X) := by
  unfold readL
  rw [dv_plain 58 1 _ (fun y hy => ⟨(hX y hy).1, (hX y hy).2.1⟩)]
theorem read_rest {l m : Bytes} (h : rest l = rest m) : read l = read m := by unfold read; rw [h]
theorem read_lab (L X : Bytes) (hL : plainW L) (hX : ∀ y ∈ X, y ≠ 34 ∧ y ≠ 58 ∧ y ≠ 59) (h1 : ∀ y, X.head? = some y → blank y = false) (h2 : ∀ y, X.getLast? = some y → blank y = false) (hne : X ≠ []) : read (L ++ 58 :: 32 :: X) = ⟨[L], (read X).op, (read X).ops⟩ := by
  have hl : ∀ y, (L ++ 58 :: 32 :: X).getLast? = some y → blank y = false := fun y hy => by
    rw [show L ++ 58 :: 32 :: X = (L ++ [58, 32]) ++ X by simp, last_app _ _ hne] at hy
    exact h2 y hy
  have hh : ∀ y, (L ++ 58 :: 32 :: X).head? = some y → blank y = false := fun y hy => by
    obtain ⟨a, t, rfl⟩ : ∃ a t, L = a :: t := by cases L with | nil => exact absurd rfl hL.1 | cons a t => exact ⟨a, t, rfl⟩
    have : y = a := by simpa using hy.symm
    subst this; exact plain_head hL y rfl
  have hr : rest (L ++ 58 :: 32 :: X) = L ++ 58 :: 32 :: X := by
    unfold rest
    rw [dv_plain 59 1 _ (fun y hy => by
      rcases List.mem_append.1 hy with hy | hy
      · exact ⟨(hL.2 y hy).1, (hL.2 y hy).2.2.2.1⟩
      · rcases List.mem_cons.1 hy with rfl | hy
        · decide
        · rcases List.mem_cons.1 hy with rfl | hy
          · decide
          · exact ⟨(hX y hy).1, (hX y hy).2.2⟩)]
    exact trim_id hh hl
  have hdv : dv 58 1 false (L ++ 58 :: 32 :: X) = [L, 32 :: X] := by
    rw [dv_pre 58 1 L _ (fun y hy => ⟨(hL.2 y hy).1, (hL.2 y hy).2.2.1⟩), dv_at 58 1 _ (by decide) (by decide), dv_plain 58 0 (32 :: X) (fun y hy => by
      rcases List.mem_cons.1 hy with rfl | hy
      · decide
      · exact ⟨(hX y hy).1, (hX y hy).2.1⟩)]
    simp [glue]
  have hr2 : readL ((L ++ 58 :: 32 :: X).length + 1) (L ++ 58 :: 32 :: X) = ([L], X) := by
    obtain ⟨k, hk⟩ : ∃ k, (L ++ 58 :: 32 :: X).length = k + 1 := ⟨(L ++ 58 :: 32 :: X).length - 1, by simp; omega⟩
    rw [hk, readL, hdv]
    simp only
    rw [trim_b (by decide) h1 h2 hne, readL_id hX, trim_id (plain_head hL) (plain_last hL)]
  unfold read
  rw [hr, hr2, rest_id hX h1 h2, readL_id hX]
theorem read_blank (c : UInt8) (X : Bytes) (hc : blank c = true) (hX : ∀ y ∈ X, y ≠ 34 ∧ y ≠ 58 ∧ y ≠ 59) (h1 : ∀ y, X.head? = some y → blank y = false) (h2 : ∀ y, X.getLast? = some y → blank y = false) (hne : X ≠ []) : read (c :: X) = read X := by
  refine read_rest ?_
  rw [rest_id hX h1 h2]
  unfold rest
  rw [dv_plain 59 1 _ (fun y hy => by
    rcases List.mem_cons.1 hy with rfl | hy
    · refine ⟨?_, ?_⟩ <;> (rintro rfl; revert hc; decide)
    · exact ⟨(hX y hy).1, (hX y hy).2.2⟩)]
  exact trim_b hc h1 h2 hne
theorem memL {T : Bytes} (hT : plainW T) (P : Bytes) (hP : ∀ y ∈ P, y ≠ 34 ∧ y ≠ 58 ∧ y ≠ 59) : ∀ y ∈ P ++ T, y ≠ 34 ∧ y ≠ 58 ∧ y ≠ 59 := fun y hy => by
  rcases List.mem_append.1 hy with hy | hy
  · exact hP y hy
  · exact ⟨(hT.2 y hy).1, (hT.2 y hy).2.2.1, (hT.2 y hy).2.2.2.1⟩
theorem lastL {T : Bytes} (hT : plainW T) (P : Bytes) : ∀ y, (P ++ T).getLast? = some y → blank y = false := fun y hy => by
  rw [last_app _ _ hT.1] at hy; exact plain_last hT y hy
theorem read_nop : read dNop = ⟨[], dNop, []⟩ := by decide +kernel
theorem read_J (X T : Bytes) (hX : plainW X) (hT : plainW T) : read (lineJ X T) = ⟨[X], dJmp, [T]⟩ := by
  have h := read_printed dJmp [T] ⟨by decide, by decide +kernel⟩ (by simpa using hT)
  rw [show printed dJmp [T] = dJmp ++ 32 :: T by simp [printed, joinC]] at h
  have e : dJmp ++ 32 :: T = [106, 109, 112, 32] ++ T := by simp [dJmp]
  unfold lineJ
  rw [read_lab X _ hX (by rw [e]; exact memL hT _ (by decide)) (by rw [e]; intro y hy; have : y = 106 := by simpa using hy.symm
                                                                   subst this; decide) (by rw [e]; exact lastL hT _) (by simp), h]
theorem read_A (T : Bytes) (hT : plainW T) : read (lineA T) = ⟨[], dAddr, [r1B, T]⟩ := by
  have h := read_printed dAddr [r1B, T] ⟨by decide, by decide +kernel⟩ (by
    intro o ho
    simp only [List.mem_cons, List.not_mem_nil, or_false] at ho
    rcases ho with rfl | rfl
    · exact ⟨by decide, by decide +kernel⟩
    · exact hT)
  rw [show printed dAddr [r1B, T] = lineA T by simp [printed, joinC, lineA, dAddr, r1B]] at h
  exact h
theorem read_S (T : Bytes) (hT : plainW T) : read (lineS T) = ⟨[], dSet, [r1B, T]⟩ := by
  have h := read_printed dSet [r1B, T] ⟨by decide, by decide +kernel⟩ (by
    intro o ho
    simp only [List.mem_cons, List.not_mem_nil, or_false] at ho
    rcases ho with rfl | rfl
    · exact ⟨by decide, by decide +kernel⟩
    · exact hT)
  rw [show printed dSet [r1B, T] = [115, 101, 116, 32, 114, 49, 44, 32] ++ T by simp [printed, joinC, dSet, r1B]] at h
  unfold lineS
  rw [read_blank 9 _ (by decide) (memL hT _ (by decide)) (by intro y hy; have : y = 115 := by simpa using hy.symm
                                                             subst this; decide) (lastL hT _) (by simp), h]
theorem read_N (T : Bytes) : read (lineN T) = ⟨[], dNop, []⟩ := by
  rw [← read_nop]
  refine read_rest ?_
  have e : lineN T = [110, 111, 112, 32] ++ 59 :: 32 :: (T ++ [58]) := by simp [lineN]
  unfold rest
  rw [e, dv_pre 59 1 [110, 111, 112, 32] _ (by decide), dv_at 59 1 _ (by decide) (by decide)]
  show trim ([110, 111, 112, 32] ++ []) = _
  decide +kernel
theorem read_C (T : Bytes) (hT : plainW T) : read (lineC T) = ⟨[], dAddr, [r1B, T]⟩ := by
  unfold lineC
  have hm : ∀ y ∈ [97, 100, 100, 114, 32, 114, 49, 44] ++ T, y ≠ 34 ∧ y ≠ 58 ∧ y ≠ 59 := memL hT _ (by decide)
  have hh : ∀ y, ([97, 100, 100, 114, 32, 114, 49, 44] ++ T).head? = some y → blank y = false := by
    intro y hy; have : y = 97 := by simpa using hy.symm
    subst this; decide
  rw [read_blank 32 _ (by decide) hm hh (lastL hT _) (by simp)]
  obtain ⟨X, hX⟩ : ∃ X, [97, 100, 100, 114, 32, 114, 49, 44] ++ T = X := ⟨_, rfl⟩
  have ht : X.takeWhile (fun c => !blank c) = dAddr := by
    rw [← hX]; rfl
  have hd : X.drop dAddr.length = [32, 114, 49] ++ 44 :: T := by rw [← hX]; rfl
  have hp : 0 < X.length := by rw [← hX]; simp
  have hdv : dv 44 X.length false ([32, 114, 49] ++ 44 :: T) = [[32, 114, 49], T] := by
    rw [dv_pre 44 X.length [32, 114, 49] _ (by decide), dv_at 44 X.length _ hp (by decide), dv_plain 44 _ T (fun y hy => ⟨(hT.2 y hy).1, (hT.2 y hy).2.1⟩)]
    simp [glue]
  rw [hX] at hm hh ⊢
  unfold read
  rw [rest_id hm hh (by rw [← hX]; exact lastL hT _), readL_id hm]
  simp only
  rw [ht, hd, if_neg (by simp), hdv]
  simp only [List.map_cons, List.map_nil, trim_id (plain_head hT) (plain_last hT)]
  rfl
theorem aligned4 (k : Nat) : aligned (4 * k) = 4 * k := by unfold aligned; omega
theorem find_ne {s : Bytes} {op : Nat} (hf : OO.find s = some op) : s ≠ [] ∧ isDir s = false := by
  constructor
  · rintro rfl; rw [OO_fine.nil] at hf; cases hf
  · cases hd : isDir s with
    | false => rfl
    | true => rw [OO_fine.dir _ hd] at hf; cases hf
theorem meas_ins {x : Stm} {op k : Nat} {L L' : Labs} {i : Int × Int × Int} (hf : OO.find x.op = some op) (hn : x.labels.any (fun s => !named s) = false) (hL : addL L (64 + 4 * k) x.labels = .ok L') (hi : instr OO L' x (4 * k) op false = .ok i) (hk : k ≤ 1000) : measure OO x (4 * k) L = .ok (4 * (k + 1), 4 * k, L') := by
  obtain ⟨h1, h2⟩ := find_ne hf
  unfold measure
  simp only [hf, Option.isSome_some, true_or, if_true, aligned4, hn, Bool.false_eq_true, if_false, reduceCtorEq, false_and, and_false, hL, Rs.bind, h1, hi]
  rw [if_neg (by omega)]
  rfl
theorem emit_ins {x : Stm} {op k : Nat} {L : Labs} {i : Int × Int × Int} {code : Bytes} (hf : OO.find x.op = some op) (hi : instr OO L x (4 * k) op true = .ok i) (hv : OO.valid op i.1 i.2.1 i.2.2 = true) (hc : code.length = 4 * k) : emit OO L x (4 * k) code = .ok (code ++ OO.enc op i.1 i.2.1 i.2.2) := by
  obtain ⟨h1, h2⟩ := find_ne hf
  unfold emit
  rw [if_neg h1]
  simp only [h2, Bool.false_eq_true, if_false, hf, hi, Rs.bind, hv, if_true, hc, Nat.sub_self, List.replicate_zero, List.append_nil]
theorem find_nop : OO.find dNop = some 0 := (OO_dec.name 0 (by decide)).2.1
theorem find_jmp : OO.find dJmp = some 25 := (OO_dec.name 25 (by decide)).2.1
theorem find_addr : OO.find dAddr = some 30 := (OO_dec.name 30 (by decide)).2.1
theorem find_set : OO.find dSet = some 2 := (OO_dec.name 2 (by decide)).2.1
def nopS : Stm := ⟨[], dNop, []⟩
def tgt (L : Labs) (T : Bytes) : Int := ((look L T).getD 0 : Nat)
theorem addr_of {T : Bytes} (hT : named T = true) (L : Labs) (last : Bool) (h : last = true → (look L T).isSome) : address L T last = .ok ((look L T).getD 0) := by
  unfold address
  rw [if_pos hT]
  cases hl : look L T with
  | some n => rfl
  | none =>
    rw [hl] at h
    cases last with
    | true => exact absurd (h rfl) (by simp)
    | false => rfl
theorem instr_nop (L : Labs) (a : Nat) (last : Bool) : instr OO L nopS a 0 last = .ok (0, 0, 0) := rfl
theorem instr_jmp {T : Bytes} (hT : named T = true) (L : Labs) (l : List Bytes) (a : Nat) (last : Bool) (h : last = true → (look L T).isSome) : instr OO L ⟨l, dJmp, [T]⟩ a 25 last = .ok (0, tgt L T - (64 + a + 4), 0) := by
  show (target OO L a 25 T last).bind _ = _
  unfold target
  rw [named_int hT]
  simp only [addr_of hT L last h]
  rfl
theorem instr_addr {T : Bytes} (hT : named T = true) (L : Labs) (l : List Bytes) (a : Nat) (last : Bool) (h : last = true → (look L T).isSome) : instr OO L ⟨l, dAddr, [r1B, T]⟩ a 30 last = .ok (1, tgt L T - (64 + a + 4), 0) := by
  show (Rs.bind (register r1B) fun r => (target OO L a 30 T last).bind fun b => .ok (r, b, 0)) = _
  unfold target
  rw [named_int hT]
  simp only [addr_of hT L last h]
  rfl
theorem instr_set {T : Bytes} (hT : named T = true) (L : Labs) (l : List Bytes) (a : Nat) (last : Bool) (h : last = true → (look L T).isSome) : instr OO L ⟨l, dSet, [r1B, T]⟩ a 2 last = .ok (1, tgt L T, 0) := by
  show (Rs.bind (register r1B) fun r => (target OO L a 2 T last).bind fun b => .ok (r, b, 0)) = _
  unfold target
  rw [named_int hT]
  simp only [addr_of hT L last h]
  rfl
noncomputable def E0 : Bytes := OO.enc 0 0 0 0
noncomputable def nopB (n : Nat) : Bytes := (List.replicate n E0).flatten
theorem E0_len : E0.length = 4 := OO_fine.enc 0 0 0 0 rfl
theorem nopB_len (n : Nat) : (nopB n).length = 4 * n := by
  induction n with
  | zero => rfl
  | succ n ih => unfold nopB at ih ⊢; rw [List.replicate_succ, List.flatten_cons, List.length_append, ih, E0_len]; omega
def nopsA : Nat → Nat → List (Stm × Nat)
  | _, 0 => []
  | m, n + 1 => (nopS, 4 * m) :: nopsA (m + 1) n
theorem meas_nop (L : Labs) (k : Nat) (hk : k ≤ 1000) : measure OO nopS (4 * k) L = .ok (4 * (k + 1), 4 * k, L) := meas_ins (x := nopS) find_nop rfl rfl (instr_nop L _ _) hk
theorem emit_nop (L : Labs) (k : Nat) (code : Bytes) (hc : code.length = 4 * k) : emit OO L nopS (4 * k) code = .ok (code ++ E0) := emit_ins (x := nopS) find_nop (instr_nop L _ _) rfl hc
theorem pass1_nops (L : Labs) (l : List Stm) : ∀ (n m k : Nat), m + n ≤ 1000 → pass1 OO (List.replicate n nopS ++ l) k (4 * m) L = (match pass1 OO l (k + n) (4 * (m + n)) L with
    | .bad e j => .bad e j
    | .ok (r, s, L') => .ok (nopsA m n ++ r, s, L'))
  | 0, m, k, _ => by
    show pass1 OO l k (4 * m) L = _
    cases h : pass1 OO l k (4 * m) L with
    | bad e j => simp only [Nat.add_zero, h]
    | ok x => obtain ⟨r, s, L'⟩ := x; simp only [Nat.add_zero, h]; rfl
  | n + 1, m, k, hm => by
    rw [List.replicate_succ, List.cons_append, pass1, meas_nop L m (by omega)]
    simp only
    rw [pass1_nops L l n (m + 1) (k + 1) (by omega), show k + 1 + n = k + (n + 1) by omega, show m + 1 + n = m + (n + 1) by omega]
    cases pass1 OO l (k + (n + 1)) (4 * (m + (n + 1))) L with
    | bad e j => rfl
    | ok x => rfl
theorem pass2_nops (L : Labs) (r : List (Stm × Nat)) : ∀ (n m k : Nat) (code : Bytes), code.length = 4 * m → pass2 OO L (nopsA m n ++ r) k code = pass2 OO L r (k + n) (code ++ nopB n)
  | 0, m, k, code, _ => by simp [nopsA, show nopB 0 = [] from rfl]
  | n + 1, m, k, code, hc => by
    rw [nopsA, List.cons_append, pass2, emit_nop L m code hc]
    simp only
    rw [pass2_nops L r n (m + 1) (k + 1) (code ++ E0) (by rw [List.length_append, hc, E0_len]; omega)]
    rw [show k + 1 + n = k + (n + 1) by omega]
    congr 1
    unfold nopB
    rw [List.replicate_succ, List.flatten_cons, List.append_assoc]
theorem valid_j (b : Int) (h : -32768 ≤ b ∧ b ≤ 32767) : OO.valid 25 0 b 0 = true := by
  show validF (form ((25 : Nat) : Int)) 0 b 0 = true
  rw [show form ((25 : Nat) : Int) = 6 by decide]
  simp [validF, inR, h]
theorem valid_a (b : Int) (h : -32768 ≤ b ∧ b ≤ 32767) : OO.valid 30 1 b 0 = true := by
  show validF (form ((30 : Nat) : Int)) 1 b 0 = true
  rw [show form ((30 : Nat) : Int) = 5 by decide]
  simp [validF, inR, h]
theorem valid_s (b : Int) (h : -32768 ≤ b ∧ b ≤ 32767) : OO.valid 2 1 b 0 = true := by
  show validF (form ((2 : Nat) : Int)) 1 b 0 = true
  rw [show form ((2 : Nat) : Int) = 5 by decide]
  simp [validF, inR, h]
noncomputable def EJ (d : Int) : Bytes := OO.enc 25 0 d 0
noncomputable def EA (d : Int) : Bytes := OO.enc 30 1 d 0
noncomputable def ES (d : Int) : Bytes := OO.enc 2 1 d 0
theorem EJ_len {d : Int} (h : -32768 ≤ d ∧ d ≤ 32767) : (EJ d).length = 4 := by unfold EJ; exact OO_fine.enc 25 0 d 0 (valid_j d h)
theorem EA_len {d : Int} (h : -32768 ≤ d ∧ d ≤ 32767) : (EA d).length = 4 := by unfold EA; exact OO_fine.enc 30 1 d 0 (valid_a d h)
theorem ES_len {d : Int} (h : -32768 ≤ d ∧ d ≤ 32767) : (ES d).length = 4 := by unfold ES; exact OO_fine.enc 2 1 d 0 (valid_s d h)
theorem emit_J {x : Stm} {k : Nat} {L : Labs} {d : Int} {code : Bytes} (hf : OO.find x.op = some 25) (hi : instr OO L x (4 * k) 25 true = .ok (0, d, 0)) (h : -32768 ≤ d ∧ d ≤ 32767) (hc : code.length = 4 * k) : emit OO L x (4 * k) code = .ok (code ++ EJ d) := by unfold EJ; exact emit_ins hf hi (valid_j d h) hc
theorem emit_A {x : Stm} {k : Nat} {L : Labs} {d : Int} {code : Bytes} (hf : OO.find x.op = some 30) (hi : instr OO L x (4 * k) 30 true = .ok (1, d, 0)) (h : -32768 ≤ d ∧ d ≤ 32767) (hc : code.length = 4 * k) : emit OO L x (4 * k) code = .ok (code ++ EA d) := by unfold EA; exact emit_ins hf hi (valid_a d h) hc
theorem emit_S {x : Stm} {k : Nat} {L : Labs} {d : Int} {code : Bytes} (hf : OO.find x.op = some 2) (hi : instr OO L x (4 * k) 2 true = .ok (1, d, 0)) (h : -32768 ≤ d ∧ d ≤ 32767) (hc : code.length = 4 * k) : emit OO L x (4 * k) code = .ok (code ++ ES d) := by unfold ES; exact emit_ins hf hi (valid_s d h) hc
/-- The code of the program with p instructions before the first label and q between. -/
noncomputable def codeN (p q : Nat) : Bytes := nopB p ++ EJ (4 * q + 8) ++ EA (4 * q + 4) ++ E0 ++ nopB q ++ EJ (-(4 * q) - 16) ++ EA (-(4 * q) - 20) ++ ES (76 + 4 * p + 4 * q)
def linesN (p q : Nat) (a b : Bytes) : List Bytes := List.replicate p dNop ++ ([lineJ a b, lineA b, lineN b] ++ (List.replicate q dNop ++ [lineJ b a, lineC a, lineS b]))
theorem asm_labels (p q : Nat) (hp : p ≤ 300) (hq : q ≤ 300) (a b : Bytes) (ha : named a = true) (hb : named b = true) (hab : a ≠ b) : asm OO (linesN p q a b) = .ok (codeN p q) := by
  have hA := named_plain ha
  have hB := named_plain hb
  have hr : (linesN p q a b).map read = List.replicate p nopS ++ (⟨[a], dJmp, [b]⟩ :: ⟨[], dAddr, [r1B, b]⟩ :: nopS :: (List.replicate q nopS ++ [⟨[b], dJmp, [a]⟩, ⟨[], dAddr, [r1B, a]⟩, ⟨[], dSet, [r1B, b]⟩])) := by
    unfold linesN
    simp only [List.map_append, List.map_replicate, List.map_cons, List.map_nil, read_nop, read_J _ _ hA hB, read_J _ _ hB hA, read_A _ hB, read_N, read_C _ hA, read_S _ hB]
    rfl
  obtain ⟨L1, hL1⟩ : ∃ L1 : Labs, L1 = [(a, 64 + 4 * p)] := ⟨_, rfl⟩
  obtain ⟨L2, hL2⟩ : ∃ L2 : Labs, L2 = [(a, 64 + 4 * p), (b, 64 + 4 * (p + 3 + q))] := ⟨_, rfl⟩
  have k1 : addL [] (64 + 4 * p) [a] = .ok L1 := by rw [hL1]; rfl
  have hab' : (a == b) = false := beq_false_of_ne hab
  have n1 : look L1 b = none := by rw [hL1]; simp [look, List.find?, hab']
  have k2 : addL L1 (64 + 4 * (p + 3 + q)) [b] = .ok L2 := by
    unfold addL
    rw [n1, hL1, hL2]; rfl
  have la : look L2 a = some (64 + 4 * p) := by rw [hL2]; simp [look, List.find?]
  have lb : look L2 b = some (64 + 4 * (p + 3 + q)) := by rw [hL2]; simp [look, List.find?, hab']
  have e1 : pass1 OO ((linesN p q a b).map read) 1 0 [] = .ok (nopsA 0 p ++ ((⟨[a], dJmp, [b]⟩, 4 * p) :: (⟨[], dAddr, [r1B, b]⟩, 4 * (p + 1)) :: (nopS, 4 * (p + 2)) :: (nopsA (p + 3) q ++ [(⟨[b], dJmp, [a]⟩, 4 * (p + 3 + q)), (⟨[], dAddr, [r1B, a]⟩, 4 * (p + 3 + q + 1)), (⟨[], dSet, [r1B, b]⟩, 4 * (p + 3 + q + 2))])), 4 * (p + 3 + q + 3), L2) := by
    rw [hr]
    have hp1 := pass1_nops [] (⟨[a], dJmp, [b]⟩ :: ⟨[], dAddr, [r1B, b]⟩ :: nopS :: (List.replicate q nopS ++ [⟨[b], dJmp, [a]⟩, ⟨[], dAddr, [r1B, a]⟩, ⟨[], dSet, [r1B, b]⟩])) p 0 1 (by omega)
    rw [Nat.mul_zero, Nat.zero_add] at hp1
    rw [hp1]
    have m1 : measure OO ⟨[a], dJmp, [b]⟩ (4 * p) [] = .ok (4 * (p + 1), 4 * p, L1) := meas_ins (x := ⟨[a], dJmp, [b]⟩) find_jmp (by simp [ha]) k1 (instr_jmp hb L1 _ _ false (by simp)) (by omega)
    have m2 : measure OO ⟨[], dAddr, [r1B, b]⟩ (4 * (p + 1)) L1 = .ok (4 * (p + 2), 4 * (p + 1), L1) := meas_ins (x := ⟨[], dAddr, [r1B, b]⟩) find_addr rfl rfl (instr_addr hb L1 _ _ false (by simp)) (by omega)
    have m3 := meas_nop L1 (p + 2) (by omega)
    have m4 : measure OO ⟨[b], dJmp, [a]⟩ (4 * (p + 3 + q)) L1 = .ok (4 * (p + 3 + q + 1), 4 * (p + 3 + q), L2) := meas_ins (x := ⟨[b], dJmp, [a]⟩) find_jmp (by simp [hb]) k2 (instr_jmp ha L2 _ _ false (by simp)) (by omega)
    have m5 : measure OO ⟨[], dAddr, [r1B, a]⟩ (4 * (p + 3 + q + 1)) L2 = .ok (4 * (p + 3 + q + 2), 4 * (p + 3 + q + 1), L2) := meas_ins (x := ⟨[], dAddr, [r1B, a]⟩) find_addr rfl rfl (instr_addr ha L2 _ _ false (by simp)) (by omega)
    have m6 : measure OO ⟨[], dSet, [r1B, b]⟩ (4 * (p + 3 + q + 2)) L2 = .ok (4 * (p + 3 + q + 3), 4 * (p + 3 + q + 2), L2) := meas_ins (x := ⟨[], dSet, [r1B, b]⟩) find_set rfl rfl (instr_set hb L2 _ _ false (by simp)) (by omega)
    simp only [pass1, m1, m2, m3, pass1_nops L1 _ q (p + 3) _ (show p + 3 + q ≤ 1000 by omega), m4, m5, m6]
  unfold asm
  rw [e1]
  simp only
  have t1 : tgt L2 b - (64 + ((4 * p : Nat) : Int) + 4) = 4 * q + 8 := by unfold tgt; rw [lb]; simp only [Option.getD_some]; omega
  have t2 : tgt L2 b - (64 + ((4 * (p + 1) : Nat) : Int) + 4) = 4 * q + 4 := by unfold tgt; rw [lb]; simp only [Option.getD_some]; omega
  have t4 : tgt L2 a - (64 + ((4 * (p + 3 + q) : Nat) : Int) + 4) = -(4 * q) - 16 := by unfold tgt; rw [la]; simp only [Option.getD_some]; omega
  have t5 : tgt L2 a - (64 + ((4 * (p + 3 + q + 1) : Nat) : Int) + 4) = -(4 * q) - 20 := by unfold tgt; rw [la]; simp only [Option.getD_some]; omega
  have t6 : tgt L2 b = 76 + 4 * p + 4 * q := by unfold tgt; rw [lb]; simp only [Option.getD_some]; omega
  have ia : (look L2 a).isSome := by rw [la]; rfl
  have ib : (look L2 b).isSome := by rw [lb]; rfl
  have j1 := instr_jmp hb L2 [a] (4 * p) true (fun _ => ib)
  have j2 := instr_addr hb L2 [] (4 * (p + 1)) true (fun _ => ib)
  have j4 := instr_jmp ha L2 [b] (4 * (p + 3 + q)) true (fun _ => ia)
  have j5 := instr_addr ha L2 [] (4 * (p + 3 + q + 1)) true (fun _ => ia)
  have j6 := instr_set hb L2 [] (4 * (p + 3 + q + 2)) true (fun _ => ib)
  rw [t1] at j1
  rw [t2] at j2
  rw [t4] at j4
  rw [t5] at j5
  rw [t6] at j6
  have l1 : (EJ (4 * q + 8)).length = 4 := EJ_len (by omega)
  have l2 : (EA (4 * q + 4)).length = 4 := EA_len (by omega)
  have l4 : (EJ (-(4 * q) - 16)).length = 4 := EJ_len (by omega)
  have l5 : (EA (-(4 * q) - 20)).length = 4 := EA_len (by omega)
  obtain ⟨C1, hC1⟩ : ∃ C, nopB p ++ EJ (4 * q + 8) = C := ⟨_, rfl⟩
  have c1 : C1.length = 4 * (p + 1) := by rw [← hC1, List.length_append, nopB_len, l1]; omega
  obtain ⟨C2, hC2⟩ : ∃ C, C1 ++ EA (4 * q + 4) = C := ⟨_, rfl⟩
  have c2 : C2.length = 4 * (p + 2) := by rw [← hC2, List.length_append, c1, l2]; omega
  obtain ⟨C3, hC3⟩ : ∃ C, C2 ++ E0 = C := ⟨_, rfl⟩
  have c3 : C3.length = 4 * (p + 3) := by rw [← hC3, List.length_append, c2, E0_len]; omega
  obtain ⟨C4, hC4⟩ : ∃ C, C3 ++ nopB q = C := ⟨_, rfl⟩
  have c4 : C4.length = 4 * (p + 3 + q) := by rw [← hC4, List.length_append, c3, nopB_len]; omega
  obtain ⟨C5, hC5⟩ : ∃ C, C4 ++ EJ (-(4 * q) - 16) = C := ⟨_, rfl⟩
  have c5 : C5.length = 4 * (p + 3 + q + 1) := by rw [← hC5, List.length_append, c4, l4]; omega
  obtain ⟨C6, hC6⟩ : ∃ C, C5 ++ EA (-(4 * q) - 20) = C := ⟨_, rfl⟩
  have c6 : C6.length = 4 * (p + 3 + q + 2) := by rw [← hC6, List.length_append, c5, l5]; omega
  have w1 : emit OO L2 ⟨[a], dJmp, [b]⟩ (4 * p) (nopB p) = .ok C1 := by rw [← hC1]; exact emit_J (x := ⟨[a], dJmp, [b]⟩) find_jmp j1 (by omega) (nopB_len p)
  have w2 : emit OO L2 ⟨[], dAddr, [r1B, b]⟩ (4 * (p + 1)) C1 = .ok C2 := by rw [← hC2]; exact emit_A (x := ⟨[], dAddr, [r1B, b]⟩) find_addr j2 (by omega) c1
  have w3 : emit OO L2 nopS (4 * (p + 2)) C2 = .ok C3 := by rw [← hC3]; exact emit_nop L2 (p + 2) _ c2
  have w4 : emit OO L2 ⟨[b], dJmp, [a]⟩ (4 * (p + 3 + q)) C4 = .ok C5 := by rw [← hC5]; exact emit_J (x := ⟨[b], dJmp, [a]⟩) find_jmp j4 (by omega) c4
  have w5 : emit OO L2 ⟨[], dAddr, [r1B, a]⟩ (4 * (p + 3 + q + 1)) C5 = .ok C6 := by rw [← hC6]; exact emit_A (x := ⟨[], dAddr, [r1B, a]⟩) find_addr j5 (by omega) c5
  have w6 : emit OO L2 ⟨[], dSet, [r1B, b]⟩ (4 * (p + 3 + q + 2)) C6 = .ok (C6 ++ ES (76 + 4 * p + 4 * q)) := emit_S (x := ⟨[], dSet, [r1B, b]⟩) find_set j6 (by omega) c6
  have z0 := pass2_nops L2 ((⟨[a], dJmp, [b]⟩, 4 * p) :: (⟨[], dAddr, [r1B, b]⟩, 4 * (p + 1)) :: (nopS, 4 * (p + 2)) :: (nopsA (p + 3) q ++ [(⟨[b], dJmp, [a]⟩, 4 * (p + 3 + q)), (⟨[], dAddr, [r1B, a]⟩, 4 * (p + 3 + q + 1)), (⟨[], dSet, [r1B, b]⟩, 4 * (p + 3 + q + 2))])) p 0 1 [] (by simp)
  rw [z0, List.nil_append]
  simp only [pass2, w1, w2, w3, pass2_nops L2 _ q (p + 3) _ C3 c3, hC4, w4, w5, w6]
  rw [← hC6, ← hC5, ← hC4, ← hC3, ← hC2, ← hC1]
  rfl
/-- The source of the program. -/
def srcN (p q : Nat) (a b : Bytes) : Bytes := (List.replicate p [110, 111, 112, 10]).flatten ++ a ++ [58, 32, 106, 109, 112, 32] ++ b ++ [10, 97, 100, 100, 114, 32, 114, 49, 44, 32] ++ b ++ [10, 110, 111, 112, 32, 59, 32] ++ b ++ [58, 10] ++ (List.replicate q [110, 111, 112, 10]).flatten ++ b ++ [58, 32, 106, 109, 112, 32] ++ a ++ [10, 32, 97, 100, 100, 114, 32, 114, 49, 44] ++ a ++ [10, 9, 115, 101, 116, 32, 114, 49, 44, 32] ++ b
theorem join_app (l m : List Bytes) : join10 (l ++ m) = join10 l ++ join10 m := by simp [join10]
theorem join_nops (n : Nat) : join10 (List.replicate n dNop) = (List.replicate n [110, 111, 112, 10]).flatten := by
  induction n with
  | zero => rfl
  | succ n ih => rw [List.replicate_succ, List.replicate_succ, List.flatten_cons, ← ih]; simp [join10, dNop]
theorem srcN_join (p q : Nat) (a b : Bytes) : srcN p q a b ++ [10] = join10 (linesN p q a b) := by
  unfold linesN srcN
  rw [join_app, join_app, join_app, join_nops, join_nops]
  simp [join10, lineJ, lineA, lineN, lineC, lineS, dJmp, dNop, dAddr, dSet]
theorem linesN_no (p q : Nat) (a b : Bytes) (ha : (10 : UInt8) ∉ a) (hb : (10 : UInt8) ∉ b) : ∀ l ∈ linesN p q a b, (10 : UInt8) ∉ l := by
  intro l hl
  unfold linesN at hl
  simp only [List.mem_append, List.mem_replicate, List.mem_cons, List.not_mem_nil, or_false] at hl
  rcases hl with ⟨_, rfl⟩ | (rfl | rfl | rfl) | ⟨_, rfl⟩ | rfl | rfl | rfl <;> simp [dNop, lineJ, lineA, lineN, lineC, lineS, dJmp, ha, hb]
theorem linesB_srcN (p q : Nat) (a b : Bytes) (ha : named a = true) (hb : named b = true) : linesB (srcN p q a b) = linesN p q a b := by
  have hb2 := named_plain hb
  have hne : srcN p q a b ≠ [] := by unfold srcN; simp [hb2.1]
  have hlast : (srcN p q a b).getLast? ≠ some 10 := by
    unfold srcN
    rw [last_app _ _ hb2.1]
    intro h
    exact named_no10 hb (List.mem_of_mem_getLast? h)
  rw [lines_lns, ← lns_end hne hlast, srcN_join]
  exact lns_lines _ (linesN_no p q a b (named_no10 ha) (named_no10 hb))
theorem labels_plain (p q : Nat) (hp : p ≤ 300) (hq : q ≤ 300) (a b : Bytes) (ha : named a = true) (hb : named b = true) (hab : a ≠ b) : asm OO (linesB (srcN p q a b)) = .ok (codeN p q) := by
  rw [linesB_srcN p q a b ha hb]
  exact asm_labels p q hp hq a b ha hb hab
theorem named_pre (x : UInt8) (hx : nameC true x = true) {s : Bytes} (h : named s = true) : named (x :: 95 :: s) = true := by
  show (nameC true x && (95 :: s).all (nameC false)) = true
  rw [hx, Bool.true_and, List.all_cons]
  have : s.all (nameC false) = true := List.all_eq_true.2 (named_all h).2
  rw [this]; rfl
theorem decB_enc {n : Nat} {a b c : Int} (hv : OO.valid n a b c = true) : decB (OO.enc n a b c) = some (n, a, b, c) := by
  obtain ⟨x, y, z, t, h1, h2, h3, h4, h5, h6⟩ := enc_dec (show valid n a b c = true from hv)
  show decB (encS n a b c).data.toList = _
  rw [h1]
  show (if decOk x y z t then some (x.toNat, (y.toNat : Int), dB x z t, dC x t) else none) = _
  rw [if_pos h2, h4, h5, h6, show x.toNat = n by omega]
theorem decB_EJ {d : Int} (h : -32768 ≤ d ∧ d ≤ 32767) : decB (EJ d) = some (25, 0, d, 0) := by unfold EJ; exact decB_enc (valid_j d h)
theorem decB_EA {d : Int} (h : -32768 ≤ d ∧ d ≤ 32767) : decB (EA d) = some (30, 1, d, 0) := by unfold EA; exact decB_enc (valid_a d h)
theorem decB_ES {d : Int} (h : -32768 ≤ d ∧ d ≤ 32767) : decB (ES d) = some (2, 1, d, 0) := by unfold ES; exact decB_enc (valid_s d h)
theorem cut_at {P E Q : Bytes} {m : Nat} (hP : P.length = m) (hE : E.length = 4) : ((P ++ E ++ Q).drop m).take 4 = E := by
  subst hP
  rw [List.append_assoc, List.drop_left, ← hE, List.take_left]
/-- What stands in the code at the two labels. -/
theorem code_at (p q : Nat) (hp : p ≤ 300) (hq : q ≤ 300) : (codeN p q).length = 4 * (p + q + 6) ∧
    decB (((codeN p q).drop (4 * p)).take 4) = some (25, 0, 4 * (q : Int) + 8, 0) ∧ decB (((codeN p q).drop (4 * p + 4)).take 4) = some (30, 1, 4 * (q : Int) + 4, 0) ∧
    decB (((codeN p q).drop (4 * (p + 3 + q))).take 4) = some (25, 0, -(4 * (q : Int)) - 16, 0) ∧ decB (((codeN p q).drop (4 * (p + 3 + q) + 4)).take 4) = some (30, 1, -(4 * (q : Int)) - 20, 0) ∧
    decB (((codeN p q).drop (4 * (p + 3 + q) + 8)).take 4) = some (2, 1, 76 + 4 * (p : Int) + 4 * (q : Int), 0) := by
  have l1 : (EJ (4 * q + 8)).length = 4 := EJ_len (by omega)
  have l2 : (EA (4 * q + 4)).length = 4 := EA_len (by omega)
  have l4 : (EJ (-(4 * q) - 16)).length = 4 := EJ_len (by omega)
  have l5 : (EA (-(4 * q) - 20)).length = 4 := EA_len (by omega)
  have l6 : (ES (76 + 4 * p + 4 * q)).length = 4 := ES_len (by omega)
  refine ⟨?_, ?_, ?_, ?_, ?_, ?_⟩
  · unfold codeN; simp only [List.length_append, nopB_len, l1, l2, l4, l5, l6, E0_len]; omega
  · rw [show codeN p q = nopB p ++ EJ (4 * q + 8) ++ (EA (4 * q + 4) ++ E0 ++ nopB q ++ EJ (-(4 * q) - 16) ++ EA (-(4 * q) - 20) ++ ES (76 + 4 * p + 4 * q)) by simp [codeN], cut_at (nopB_len p) l1]
    exact decB_EJ (by omega)
  · rw [show codeN p q = (nopB p ++ EJ (4 * q + 8)) ++ EA (4 * q + 4) ++ (E0 ++ nopB q ++ EJ (-(4 * q) - 16) ++ EA (-(4 * q) - 20) ++ ES (76 + 4 * p + 4 * q)) by simp [codeN], cut_at (by simp only [List.length_append, nopB_len, l1]) l2]
    exact decB_EA (by omega)
  · rw [show codeN p q = (nopB p ++ EJ (4 * q + 8) ++ EA (4 * q + 4) ++ E0 ++ nopB q) ++ EJ (-(4 * q) - 16) ++ (EA (-(4 * q) - 20) ++ ES (76 + 4 * p + 4 * q)) by simp [codeN], cut_at (by simp only [List.length_append, nopB_len, l1, l2, E0_len]; omega) l4]
    exact decB_EJ (by omega)
  · rw [show codeN p q = (nopB p ++ EJ (4 * q + 8) ++ EA (4 * q + 4) ++ E0 ++ nopB q ++ EJ (-(4 * q) - 16)) ++ EA (-(4 * q) - 20) ++ ES (76 + 4 * p + 4 * q) by simp [codeN], cut_at (by simp only [List.length_append, nopB_len, l1, l2, l4, E0_len]; omega) l5]
    exact decB_EA (by omega)
  · rw [show codeN p q = (nopB p ++ EJ (4 * q + 8) ++ EA (4 * q + 4) ++ E0 ++ nopB q ++ EJ (-(4 * q) - 16) ++ EA (-(4 * q) - 20)) ++ ES (76 + 4 * p + 4 * q) ++ [] by simp [codeN], cut_at (by simp only [List.length_append, nopB_len, l1, l2, l4, l5, E0_len]; omega) l6]
    exact decB_ES (by omega)

end Go.Proofs.YtfdlifhkeicnnaaGreatDoor
namespace Go.Proofs.YtfdlifhkeicnnaaGreatDoor
open Go Go.RowKit
set_option linter.unusedSimpArgs false
set_option linter.unusedVariables false
theorem nops_snoc (n : Nat) (z : Bytes) : (List.replicate (n + 1) z).flatten = (List.replicate n z).flatten ++ z := by
  rw [List.replicate_succ', List.flatten_append]; simp
theorem cat_list (x y : ByteArray) : (x ++ y).data.toList = x.data.toList ++ y.data.toList := by rw [ByteArray.data_append, Array.toList_append]
set_option maxRecDepth 20000 in
set_option maxHeartbeats 4000000 in
theorem program_is (p q : Nat) (hp : p ≤ 300) (hq : q ≤ 300) (a b : ByteArray) (ha : a.size ≤ 50) (hb : b.size ≤ 50) (w : World) : Calls Tryz.prog 13 #[.int .i64 (p : Int), .int .i64 (q : Int), .string a, .string b] w fun e w' => e = .returned (.string ⟨(srcN p q a.data.toList b.data.toList).toArray⟩) ∧ Below w.heap.size w w' := by
  have hL : Kn [] w w [] := Kn.refl [] w; (try simp only [kfb] at hL); have hF := hL.facts; (try simp only [Facts, Dist, kd] at hF); go_enter Tryz.func13, Tryz.ntmps13
  go_wp2
  go_loopw [9, 10] (fun s i wr => ∃ (k : Nat) (u : ByteArray), k ≤ p ∧ i = .int .i64 k ∧ s = .string u ∧ u.size = 4 * k ∧ Hid (u.data.toList = (List.replicate k [110, 111, 112, 10]).flatten) ∧ Kn [] w wr []) (fun _ i _ => p - (intOf i).toNat)
  case atStart => exact ⟨0, ⟨#[]⟩, by omega, rfl, rfl, rfl, Lib.hid rfl, hL⟩
  case round =>
    clear hL
    (try clear hF)
    obtain ⟨k, u, hk, rfl, rfl, hus, HU, hL⟩ := hrel
    (try simp only [kfb] at hL); have hF := hL.facts; (try simp only [Facts, Dist, kd] at hF)
    by_cases hlt : k < p
    · have hmax : IntKind.i64.max = 9223372036854775807 := by decide
      have mn : ¬ IntKind.i64.max < ((u.size + (⟨#[110, 111, 112, 10]⟩ : ByteArray).size : Nat) : Int) := by rw [hmax, show (⟨#[110, 111, 112, 10]⟩ : ByteArray).size = 4 from rfl]; omega
      clear hmax
      go_wp2
      go_roundw
      case measure => simp [intOf]; omega
      case rel => exact ⟨k + 1, _, by omega, by go_num, rfl, by rw [ByteArray.size_append, hus]; rfl, Lib.hid (by rw [cat_list, HU.out, nops_snoc]), hL⟩
    · obtain rfl : k = p := by omega
      have hmax : IntKind.i64.max = 9223372036854775807 := by decide
      obtain ⟨x1, ex1⟩ : ∃ x : ByteArray, u ++ a = x := ⟨_, rfl⟩
      have zx1 : x1.size = u.size + a.size := by rw [← ex1, ByteArray.size_append]
      have mx1 : ¬ IntKind.i64.max < ((u.size + a.size : Nat) : Int) := by rw [hmax]; omega
      obtain ⟨x2, ex2⟩ : ∃ x : ByteArray, x1 ++ (⟨#[58, 32, 106, 109, 112, 32]⟩ : ByteArray) = x := ⟨_, rfl⟩
      have zx2 : x2.size = x1.size + 6 := by rw [← ex2, ByteArray.size_append]; rfl
      have mx2 : ¬ IntKind.i64.max < ((x1.size + (⟨#[58, 32, 106, 109, 112, 32]⟩ : ByteArray).size : Nat) : Int) := by rw [hmax, show (⟨#[58, 32, 106, 109, 112, 32]⟩ : ByteArray).size = 6 from rfl]; omega
      obtain ⟨x3, ex3⟩ : ∃ x : ByteArray, x2 ++ b = x := ⟨_, rfl⟩
      have zx3 : x3.size = x2.size + b.size := by rw [← ex3, ByteArray.size_append]
      have mx3 : ¬ IntKind.i64.max < ((x2.size + b.size : Nat) : Int) := by rw [hmax]; omega
      obtain ⟨x4, ex4⟩ : ∃ x : ByteArray, x3 ++ (⟨#[10, 97, 100, 100, 114, 32, 114, 49, 44, 32]⟩ : ByteArray) = x := ⟨_, rfl⟩
      have zx4 : x4.size = x3.size + 10 := by rw [← ex4, ByteArray.size_append]; rfl
      have mx4 : ¬ IntKind.i64.max < ((x3.size + (⟨#[10, 97, 100, 100, 114, 32, 114, 49, 44, 32]⟩ : ByteArray).size : Nat) : Int) := by rw [hmax, show (⟨#[10, 97, 100, 100, 114, 32, 114, 49, 44, 32]⟩ : ByteArray).size = 10 from rfl]; omega
      obtain ⟨x5, ex5⟩ : ∃ x : ByteArray, x4 ++ b = x := ⟨_, rfl⟩
      have zx5 : x5.size = x4.size + b.size := by rw [← ex5, ByteArray.size_append]
      have mx5 : ¬ IntKind.i64.max < ((x4.size + b.size : Nat) : Int) := by rw [hmax]; omega
      obtain ⟨x6, ex6⟩ : ∃ x : ByteArray, x5 ++ (⟨#[10, 110, 111, 112, 32, 59, 32]⟩ : ByteArray) = x := ⟨_, rfl⟩
      have zx6 : x6.size = x5.size + 7 := by rw [← ex6, ByteArray.size_append]; rfl
      have mx6 : ¬ IntKind.i64.max < ((x5.size + (⟨#[10, 110, 111, 112, 32, 59, 32]⟩ : ByteArray).size : Nat) : Int) := by rw [hmax, show (⟨#[10, 110, 111, 112, 32, 59, 32]⟩ : ByteArray).size = 7 from rfl]; omega
      obtain ⟨x7, ex7⟩ : ∃ x : ByteArray, x6 ++ b = x := ⟨_, rfl⟩
      have zx7 : x7.size = x6.size + b.size := by rw [← ex7, ByteArray.size_append]
      have mx7 : ¬ IntKind.i64.max < ((x6.size + b.size : Nat) : Int) := by rw [hmax]; omega
      obtain ⟨x8, ex8⟩ : ∃ x : ByteArray, x7 ++ (⟨#[58, 10]⟩ : ByteArray) = x := ⟨_, rfl⟩
      have zx8 : x8.size = x7.size + 2 := by rw [← ex8, ByteArray.size_append]; rfl
      have mx8 : ¬ IntKind.i64.max < ((x7.size + (⟨#[58, 10]⟩ : ByteArray).size : Nat) : Int) := by rw [hmax, show (⟨#[58, 10]⟩ : ByteArray).size = 2 from rfl]; omega
      clear hmax
      go_wp2
      go_loopw [9, 11] (fun s i wr => ∃ (j : Nat) (v : ByteArray), j ≤ q ∧ i = .int .i64 j ∧ s = .string v ∧ v.size = x8.size + 4 * j ∧ Hid (v.data.toList = x8.data.toList ++ (List.replicate j [110, 111, 112, 10]).flatten) ∧ Kn [] w wr []) (fun _ i _ => q - (intOf i).toNat)
      case atStart => exact ⟨0, x8, by omega, rfl, rfl, rfl, Lib.hid (by simp), hL⟩
      case round =>
        clear hL
        (try clear hF)
        obtain ⟨j, v, hj, rfl, rfl, hvs, HV, hL⟩ := hrel
        (try simp only [kfb] at hL); have hF := hL.facts; (try simp only [Facts, Dist, kd] at hF)
        by_cases hlt2 : j < q
        · have hmax : IntKind.i64.max = 9223372036854775807 := by decide
          have mn : ¬ IntKind.i64.max < ((v.size + (⟨#[110, 111, 112, 10]⟩ : ByteArray).size : Nat) : Int) := by rw [hmax, show (⟨#[110, 111, 112, 10]⟩ : ByteArray).size = 4 from rfl]; omega
          clear hmax
          go_wp2
          go_roundw
          case measure => simp [intOf]; omega
          case rel => exact ⟨j + 1, _, by omega, by go_num, rfl, by rw [ByteArray.size_append, hvs]; rfl, Lib.hid (by rw [cat_list, HV.out, nops_snoc, List.append_assoc]), hL⟩
        · obtain rfl : j = q := by omega
          have hmax : IntKind.i64.max = 9223372036854775807 := by decide
          obtain ⟨y1, ey1⟩ : ∃ x : ByteArray, v ++ b = x := ⟨_, rfl⟩
          have zy1 : y1.size = v.size + b.size := by rw [← ey1, ByteArray.size_append]
          have my1 : ¬ IntKind.i64.max < ((v.size + b.size : Nat) : Int) := by rw [hmax]; omega
          obtain ⟨y2, ey2⟩ : ∃ x : ByteArray, y1 ++ (⟨#[58, 32, 106, 109, 112, 32]⟩ : ByteArray) = x := ⟨_, rfl⟩
          have zy2 : y2.size = y1.size + 6 := by rw [← ey2, ByteArray.size_append]; rfl
          have my2 : ¬ IntKind.i64.max < ((y1.size + (⟨#[58, 32, 106, 109, 112, 32]⟩ : ByteArray).size : Nat) : Int) := by rw [hmax, show (⟨#[58, 32, 106, 109, 112, 32]⟩ : ByteArray).size = 6 from rfl]; omega
          obtain ⟨y3, ey3⟩ : ∃ x : ByteArray, y2 ++ a = x := ⟨_, rfl⟩
          have zy3 : y3.size = y2.size + a.size := by rw [← ey3, ByteArray.size_append]
          have my3 : ¬ IntKind.i64.max < ((y2.size + a.size : Nat) : Int) := by rw [hmax]; omega
          obtain ⟨y4, ey4⟩ : ∃ x : ByteArray, y3 ++ (⟨#[10, 32, 97, 100, 100, 114, 32, 114, 49, 44]⟩ : ByteArray) = x := ⟨_, rfl⟩
          have zy4 : y4.size = y3.size + 10 := by rw [← ey4, ByteArray.size_append]; rfl
          have my4 : ¬ IntKind.i64.max < ((y3.size + (⟨#[10, 32, 97, 100, 100, 114, 32, 114, 49, 44]⟩ : ByteArray).size : Nat) : Int) := by rw [hmax, show (⟨#[10, 32, 97, 100, 100, 114, 32, 114, 49, 44]⟩ : ByteArray).size = 10 from rfl]; omega
          obtain ⟨y5, ey5⟩ : ∃ x : ByteArray, y4 ++ a = x := ⟨_, rfl⟩
          have zy5 : y5.size = y4.size + a.size := by rw [← ey5, ByteArray.size_append]
          have my5 : ¬ IntKind.i64.max < ((y4.size + a.size : Nat) : Int) := by rw [hmax]; omega
          obtain ⟨y6, ey6⟩ : ∃ x : ByteArray, y5 ++ (⟨#[10, 9, 115, 101, 116, 32, 114, 49, 44, 32]⟩ : ByteArray) = x := ⟨_, rfl⟩
          have zy6 : y6.size = y5.size + 10 := by rw [← ey6, ByteArray.size_append]; rfl
          have my6 : ¬ IntKind.i64.max < ((y5.size + (⟨#[10, 9, 115, 101, 116, 32, 114, 49, 44, 32]⟩ : ByteArray).size : Nat) : Int) := by rw [hmax, show (⟨#[10, 9, 115, 101, 116, 32, 114, 49, 44, 32]⟩ : ByteArray).size = 10 from rfl]; omega
          obtain ⟨y7, ey7⟩ : ∃ x : ByteArray, y6 ++ b = x := ⟨_, rfl⟩
          have zy7 : y7.size = y6.size + b.size := by rw [← ey7, ByteArray.size_append]
          have my7 : ¬ IntKind.i64.max < ((y6.size + b.size : Nat) : Int) := by rw [hmax]; omega
          clear hmax
          have hfin : y7 = ⟨(srcN k j a.data.toList b.data.toList).toArray⟩ := by
            apply ba_ext
            rw [← ey7, ← ey6, ← ey5, ← ey4, ← ey3, ← ey2, ← ey1]
            simp only [cat_list, HV.out]
            rw [← ex8, ← ex7, ← ex6, ← ex5, ← ex4, ← ex3, ← ex2, ← ex1]
            simp only [cat_list, HU.out]
            unfold srcN
            simp
          go_wp2
          (try simp only [Exit.inBlock, Exit.then]); refine bodyPost_ret (by simp [results, Tryz.results13, go_sem, *]; try rfl) rfl ?_
          exact ⟨rfl, hL.below0⟩

end Go.Proofs.YtfdlifhkeicnnaaGreatDoor
namespace Go.Proofs.YtfdlifhkeicnnaaGreatDoor
open Go Go.RowKit
set_option linter.unusedSimpArgs false
set_option linter.unusedVariables false
set_option maxRecDepth 20000 in
set_option maxHeartbeats 4000000 in
theorem at_is (code p : ByteArray) (n op : Nat) (a b c : Int) (hn : 64 ≤ n) (hc : code.size ≤ 5000) (hm : n - 64 + 4 ≤ code.size) (hp : code.extract (n - 64) (n - 64 + 4) = p) (HDC : Hid (∀ W, TabI W → Calls Tryz.prog 26 #[.string p] W fun e w' => e = .returned (.tuple #[.agg #[.int .i64 op, .int .i64 a, .int .i64 b, .int .i64 c], .bool true]) ∧ Below W.heap.size W w')) (w : World) (hT : TabA w) : Calls Tryz.prog 36 #[.string code, .int .i64 (n : Int)] w fun e w' => e = .returned (.agg #[.int .i64 op, .int .i64 a, .int .i64 b, .int .i64 c]) ∧ Below w.heap.size w w' := by
  have hL : Kn [] w w [] := Kn.refl [] w; (try simp only [kfb] at hL); have hF := hL.facts; (try simp only [Facts, Dist, kd] at hF); go_enter Tryz.func36, Tryz.ntmps36
  go_wp2_with (first | ((with_reducible refine kn_list_set ?_); (try clear hF); clear hL; intro W hL; (try simp only [kfb] at hL); have hF := hL.facts; (try simp only [Facts, Dist, kd] at hF)) | (go_at_call 26; refine kn_calls ?_; (try clear hF); clear hL; intro W hL; (try simp only [kfb] at hL); have hF := hL.facts; (try simp only [Facts, Dist, kd] at hF); (((with_reducible refine (HDC.out _ ((hT.kn hL (by simp)).i)).mono ?_))); rintro e W ⟨rfl, hb⟩; replace hL := hL.below hb; clear hb; (try clear hF); (try simp only [kfb] at hL); have hF := hL.facts; (try simp only [Facts, Dist, kd] at hF)))
  (try simp only [Exit.inBlock, Exit.then]); refine bodyPost_ret (by simp [results, Tryz.results36, go_sem, *]; try rfl) rfl ?_
  exact ⟨rfl, kn_here.below0⟩
set_option maxRecDepth 20000 in
set_option maxHeartbeats 4000000 in
theorem goes_is (code : ByteArray) (n tt : Int) (op a b c : Int) (h1 : (op == 25) = true) (hn : 0 ≤ n ∧ n ≤ 9000) (hb : -9000 ≤ b ∧ b ≤ 9000) (h2 : (n + 4 + b == tt) = true) (HAT : Hid (∀ W, TabA W → Calls Tryz.prog 36 #[.string code, .int .i64 n] W fun e w' => e = .returned (.agg #[.int .i64 op, .int .i64 a, .int .i64 b, .int .i64 c]) ∧ Below W.heap.size W w')) (w : World) (hT : TabA w) : Calls Tryz.prog 14 #[.string code, .int .i64 n, .int .i64 tt] w fun e w' => e = .returned (.bool true) ∧ Below w.heap.size w w' := by
  have hL : Kn [] w w [] := Kn.refl [] w; (try simp only [kfb] at hL); have hF := hL.facts; (try simp only [Facts, Dist, kd] at hF); go_enter Tryz.func14, Tryz.ntmps14
  go_wp2_with (first | ((with_reducible refine kn_list_set ?_); (try clear hF); clear hL; intro W hL; (try simp only [kfb] at hL); have hF := hL.facts; (try simp only [Facts, Dist, kd] at hF)) | (go_at_call 36; refine kn_calls ?_; (try clear hF); clear hL; intro W hL; (try simp only [kfb] at hL); have hF := hL.facts; (try simp only [Facts, Dist, kd] at hF); (((with_reducible refine (HAT.out _ (hT.kn hL (by simp))).mono ?_))); rintro e W ⟨rfl, hb⟩; replace hL := hL.below hb; clear hb; (try clear hF); (try simp only [kfb] at hL); have hF := hL.facts; (try simp only [Facts, Dist, kd] at hF)))
  (try simp only [Exit.inBlock, Exit.then]); refine bodyPost_ret (by simp [results, Tryz.results14, go_sem, *]; try rfl) rfl ?_
  exact ⟨rfl, kn_here.below0⟩
set_option maxRecDepth 20000 in
set_option maxHeartbeats 4000000 in
theorem tells_addr (code : ByteArray) (n tt : Int) (op a b c : Int) (h0 : (a == 1) = true) (h1 : (op == 30) = true) (hn : 0 ≤ n ∧ n ≤ 9000) (hb : -9000 ≤ b ∧ b ≤ 9000) (h2 : (n + 4 + b == tt) = true) (HAT : Hid (∀ W, TabA W → Calls Tryz.prog 36 #[.string code, .int .i64 n] W fun e w' => e = .returned (.agg #[.int .i64 op, .int .i64 a, .int .i64 b, .int .i64 c]) ∧ Below W.heap.size W w')) (w : World) (hT : TabA w) : Calls Tryz.prog 15 #[.string code, .int .i64 n, .int .i64 tt] w fun e w' => e = .returned (.bool true) ∧ Below w.heap.size w w' := by
  have hL : Kn [] w w [] := Kn.refl [] w; (try simp only [kfb] at hL); have hF := hL.facts; (try simp only [Facts, Dist, kd] at hF); go_enter Tryz.func15, Tryz.ntmps15
  go_wp2_with (first | ((with_reducible refine kn_list_set ?_); (try clear hF); clear hL; intro W hL; (try simp only [kfb] at hL); have hF := hL.facts; (try simp only [Facts, Dist, kd] at hF)) | (go_at_call 36; refine kn_calls ?_; (try clear hF); clear hL; intro W hL; (try simp only [kfb] at hL); have hF := hL.facts; (try simp only [Facts, Dist, kd] at hF); (((with_reducible refine (HAT.out _ (hT.kn hL (by simp))).mono ?_))); rintro e W ⟨rfl, hb⟩; replace hL := hL.below hb; clear hb; (try clear hF); (try simp only [kfb] at hL); have hF := hL.facts; (try simp only [Facts, Dist, kd] at hF)))
  (try simp only [Exit.inBlock, Exit.then]); refine bodyPost_ret (by simp [results, Tryz.results15, go_sem, *]; try rfl) rfl ?_
  exact ⟨rfl, kn_here.below0⟩
set_option maxRecDepth 20000 in
set_option maxHeartbeats 4000000 in
theorem tells_set (code : ByteArray) (n tt : Int) (op a b c : Int) (h0 : (a == 1) = true) (h1 : (op == 30) = false) (h3 : (op == 2) = true) (hn : 0 ≤ n ∧ n ≤ 9000) (h2 : (b == tt) = true) (HAT : Hid (∀ W, TabA W → Calls Tryz.prog 36 #[.string code, .int .i64 n] W fun e w' => e = .returned (.agg #[.int .i64 op, .int .i64 a, .int .i64 b, .int .i64 c]) ∧ Below W.heap.size W w')) (w : World) (hT : TabA w) : Calls Tryz.prog 15 #[.string code, .int .i64 n, .int .i64 tt] w fun e w' => e = .returned (.bool true) ∧ Below w.heap.size w w' := by
  have hL : Kn [] w w [] := Kn.refl [] w; (try simp only [kfb] at hL); have hF := hL.facts; (try simp only [Facts, Dist, kd] at hF); go_enter Tryz.func15, Tryz.ntmps15
  go_wp2_with (first | ((with_reducible refine kn_list_set ?_); (try clear hF); clear hL; intro W hL; (try simp only [kfb] at hL); have hF := hL.facts; (try simp only [Facts, Dist, kd] at hF)) | (go_at_call 36; refine kn_calls ?_; (try clear hF); clear hL; intro W hL; (try simp only [kfb] at hL); have hF := hL.facts; (try simp only [Facts, Dist, kd] at hF); (((with_reducible refine (HAT.out _ (hT.kn hL (by simp))).mono ?_))); rintro e W ⟨rfl, hb⟩; replace hL := hL.below hb; clear hb; (try clear hF); (try simp only [kfb] at hL); have hF := hL.facts; (try simp only [Facts, Dist, kd] at hF)))
  (try simp only [Exit.inBlock, Exit.then]); refine bodyPost_ret (by simp [results, Tryz.results15, go_sem, *]; try rfl) rfl ?_
  exact ⟨rfl, kn_here.below0⟩

end Go.Proofs.YtfdlifhkeicnnaaGreatDoor
