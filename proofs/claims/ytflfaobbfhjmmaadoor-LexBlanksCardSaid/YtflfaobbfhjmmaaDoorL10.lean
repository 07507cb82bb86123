import Derived.Test.YtflfaobbfhjmmaaDoorProg
import Derived.WalkKit
import Derived.Handy
import Derived.Deep.Light
import Derived.WalkSmall
import Derived.StillTailTactics
import Derived.Lib.Hide
import Derived.Test.YtflfaobbfhjmmaaDoorT0
import Derived.Test.YtflfaobbfhjmmaaDoorIt
import Derived.Test.YtflfaobbfhjmmaaDoorL9
namespace Go.Proofs.YtflfaobbfhjmmaaDoor
open Go Go.RowKit
set_option linter.unusedSimpArgs false
set_option linter.unusedVariables false

theorem Kn.self0 {X : List Nat} {w0 W : World} {P : List (Nat × Obj)} (h : Kn X w0 W P) : Kn (keys P) W W P :=
  ⟨rfl, rfl, rfl, Nat.le_refl _, fun _ _ _ => rfl, fun p hp => .inr (List.mem_map.2 ⟨p, hp, rfl⟩), h.has, h.nd⟩
theorem Kn.self1 {X : List Nat} {w0 W : World} {a : Nat × Obj} {P : List (Nat × Obj)} (h : Kn X w0 W (a :: P)) : Kn (keys P) W W P := (h.sub (List.sublist_cons_self _ _)).self0
theorem Kn.self1q {X : List Nat} {w0 W : World} {a : Nat × Obj} {q : Nat} {o : Obj} {P : List (Nat × Obj)} (h : Kn X w0 W (a :: (q, o) :: P)) : Kn (q :: keys P) W W ((q, o) :: P) := h.self1
theorem Kn.self0q {X : List Nat} {w0 W : World} {q : Nat} {o : Obj} {P : List (Nat × Obj)} (h : Kn X w0 W ((q, o) :: P)) : Kn (q :: keys P) W W ((q, o) :: P) := h.self0
theorem Kn.tail0 {X : List Nat} {w0 W W' : World} {P P' : List (Nat × Obj)} (h : Kn X w0 W P) (k : Kn (keys P) W W' P') : Kn X w0 W' P' := by
  have := Kn.joinA [] [] (P := P) (P' := P') (by simpa using h) k
  simpa using this
theorem Kn.tail1 {X : List Nat} {w0 W W' : World} {a : Nat × Obj} {P P' : List (Nat × Obj)} (h : Kn X w0 W (a :: P)) (k : Kn (keys P) W W' P') : Kn X w0 W' (a :: P') := by
  have := Kn.joinA [a] [] (P := P) (P' := P') (by simpa using h) k
  simpa using this
theorem cut_x {l x r : Bytes} {a : Nat} (h : l.drop a = x ++ r) : (l.take (a + x.length)).drop a = x ∧ l.drop (a + x.length) = r ∧ (x ≠ [] → a + x.length ≤ l.length) := by
  have h1 : l.drop (a + x.length) = r := by rw [← List.drop_drop, h]; simp
  refine ⟨?_, h1, fun hx => ?_⟩
  · rw [List.drop_take, h]; simp
  · have := congrArg List.length h
    rw [List.length_drop, List.length_append] at this
    have : 0 < x.length := List.length_pos_iff.2 hx
    omega
theorem skip_nat (src : ByteArray) (at_ : Nat) (x r : Bytes) (ln : Nat) (v : Value) (b : Nat) (w : World) (hb : w.heap[b]? = some (.cells #[.string src, .int .i64 (at_), .int .i64 (ln), v] 43 (0, 0))) (hx : src.data.toList.drop at_ = x ++ r) (hne : x ≠ []) (hs : src.size ≤ 100000) (hln : ln ≤ 500000) (k : Int) (hk : k = x.length) :
    Calls Tryd.prog 16 #[.pointer (some ⟨b, 0, none⟩), .int .i64 k] w fun e w' => e = .returned (.tuple #[]) ∧ Kn [b] w w' [(b, .cells #[.string src, .int .i64 (((at_ + x.length : Nat) : Int)), .int .i64 (((ln + lf x : Nat) : Int)), v] 43 (0, 0))] := by
  subst hk
  obtain ⟨h1, h2, h3⟩ := cut_x hx
  have h4 := h3 hne
  rw [szl] at h4
  have h5 : lf x ≤ x.length := List.count_le_length
  have := skip_is src at_ x.length ln v b w hb h4 hs (by omega) (by omega) (lf x) (by omega) (by omega) (by rw [h1]; rfl)
  simpa using this
theorem syn_is (b : Nat) (m : Nat) (w : World) : Calls Tryd.prog 33 #[.pointer (some ⟨b, 0, none⟩), .int .i64 m] w fun e w' => e = .panicked [{ v := .iface 39 (.agg #[.int .i64 27, .int .i64 m]), recovered := false }] ∧ w' = w := by
  go_enter Tryd.func33, Tryd.ntmps33
  go_wp2
  exact ⟨rfl, rfl, rfl⟩
def SPost (src : ByteArray) (v : Value) (b q : Nat) (X : List Nat) (w : World) (res : R St) (e : Ending) (w' : World) : Prop := match res with
  | .ok (ps', r, n') => e = .returned (.tuple #[]) ∧ ∃ (at_ : Nat) (pv : Value) (LP : List (Nat × Obj)), at_ ≤ src.size ∧ src.data.toList.drop at_ = r ∧ PtL LP pv ps' ∧ Kn X w w' ((b, .cells #[.string src, .int .i64 (at_), .int .i64 (n'), v] 43 (0, 0)) :: (q, .cells #[pv] 51 (0, 0)) :: LP)
  | .bad m => e = .panicked [{ v := .iface 39 (.agg #[.int .i64 27, .int .i64 m]), recovered := false }] ∧ Kn X w w' []
theorem one_parts {l : Bytes} {a : Nat} {c : UInt8} {t : Bytes} (h : l.drop a = c :: t) : l[a]? = some c ∧ l.drop (a + 1) = t ∧ a < l.length := by
  have h1 : l[a]? = some c := by have := congrArg (·[0]?) h; simpa using this
  refine ⟨h1, by rw [← List.drop_drop, h]; rfl, (List.getElem?_eq_some_iff.1 h1).1⟩
theorem named_lf : ∀ l : Bytes, named l = l.length → lf l = 0
  | [], _ => rfl
  | c :: t, h => by
    have hT : ∀ l : Bytes, namedT l = l.length → lf l = 0 := by
      intro l
      induction l with
      | nil => intro _; rfl
      | cons d u ih =>
        intro h
        rw [namedT] at h
        split at h
        · rename_i ha
          have hd : d ≠ 10 := by rintro rfl; exact absurd ha (by decide)
          simp only [List.length_cons] at h
          have := ih (by omega)
          show List.count 10 (d :: u) = 0
          rw [List.count_cons_of_ne hd]; exact this
        · simp at h
    rw [named] at h
    split at h
    · rename_i ha
      have hd : c ≠ 10 := by rintro rfl; exact absurd ha (by decide)
      simp only [List.length_cons] at h
      have := hT t (by omega)
      show List.count 10 (c :: t) = 0
      rw [List.count_cons_of_ne hd]; exact this
    · simp at h
theorem param_lf {l : Bytes} (h : param l = l.length) : lf l = 0 := by
  unfold param at h
  split at h
  · rename_i n hn
    exact named_lf l (by omega)
  · split at h
    · rfl
    · rename_i c t hx
      split at h
      · rename_i hs
        simp only [List.length_cons] at h
        obtain rfl : t = [] := List.eq_nil_of_length_eq_zero (by omega)
        have hd : c ≠ 10 := by rintro rfl; exact absurd hs (by decide)
        show List.count 10 [c] = 0
        rw [List.count_cons_of_ne hd]; rfl
      · simp at h
theorem hp1 (l : Bytes) (c : UInt8) : Lib.hasPrefix l [c] = decide (l.head? = some c) := by
  cases l with
  | nil => rfl
  | cons a t =>
    simp only [Lib.hasPrefix, List.isPrefixOf, List.head?_cons, Option.some.injEq, Bool.and_true]
    by_cases h : a = c
    · subst h; simp
    · rw [decide_eq_false h, beq_false_of_ne (Ne.symm h)]

end Go.Proofs.YtflfaobbfhjmmaaDoor
