/- Patterns as lists of parts, and what they match. Of no program. -/
import Derived.Test.YtjkohbecmaegmaaDoorText
namespace Go.Proofs.YtjkohbecmaegmaaDoor
open Go
/-- The set of a class that begins here, and what follows its end. -/
def setOf (r : Bytes) : Option (Bytes × Bytes) :=
  if r = [] then none else if Lib.indexByte (r.drop 1) 93 < 0 then none else some (r.take ((Lib.indexByte (r.drop 1) 93).toNat + 1), r.drop ((Lib.indexByte (r.drop 1) 93).toNat + 2))
def bangOf (t : Bytes) : Option (Bytes × Bytes) := if t.head? = some 33 then setOf (t.drop 1) else none
def classR (t : Bytes) : Option (Bool × Bytes × Bytes) := match bangOf t with
  | some x => some (true, x)
  | none => (setOf t).map fun x => (false, x)
inductive Pt
  | byte (c : UInt8) | star | any | cls (neg : Bool) (set : Bytes)
  deriving DecidableEq
theorem setOf_len {r a b : Bytes} (h : setOf r = some (a, b)) : b.length < r.length := by
  unfold setOf at h
  split at h
  · cases h
  · rename_i hr
    split at h
    · cases h
    · injection h with h
      injection h with h1 h2
      subst h2
      have : 0 < r.length := List.length_pos_iff.2 hr
      rw [List.length_drop]; omega
theorem classR_len {t : Bytes} {n : Bool} {a b : Bytes} (h : classR t = some (n, a, b)) : b.length < t.length + 1 := by
  unfold classR at h
  split at h
  · rename_i x hx
    injection h with h
    injection h with h1 h2
    subst h2
    unfold bangOf at hx
    split at hx
    · have := setOf_len hx
      rw [List.length_drop] at this; omega
    · cases hx
  · cases hs : setOf t with
    | none => rw [hs] at h; cases h
    | some x =>
      rw [hs] at h
      simp only [Option.map_some, Option.some.injEq, Prod.mk.injEq] at h
      obtain ⟨_, h2⟩ := h
      subst h2
      have := setOf_len hs; omega
/-- The first part of a pattern, and the rest. -/
def part : Bytes → Option (Pt × Bytes)
  | [] => none
  | c :: t => if c = 92 then (match t with
      | d :: r => some (.byte d, r)
      | [] => some (.byte 92, []))
    else if c = 42 then some (.star, t) else if c = 63 then some (.any, t)
    else if c = 91 then (match classR t with
      | some (n, s, r) => some (.cls n s, r)
      | none => some (.byte 91, t))
    else some (.byte c, t)
theorem part_len {l r : Bytes} {x : Pt} (h : part l = some (x, r)) : r.length < l.length := by
  unfold part at h
  split at h
  · cases h
  · rename_i c t
    split at h
    · split at h <;> (injection h with h; injection h with h1 h2; subst h2; simp only [List.length_cons, List.length_nil]; omega)
    · split at h
      · injection h with h; injection h with h1 h2; subst h2; simp
      · split at h
        · injection h with h; injection h with h1 h2; subst h2; simp
        · split at h
          · split at h
            · rename_i n s q hc
              injection h with h; injection h with h1 h2; subst h2
              have := classR_len hc
              simpa using this
            · injection h with h; injection h with h1 h2; subst h2; simp
          · injection h with h; injection h with h1 h2; subst h2; simp
def parseN : Nat → Bytes → List Pt
  | 0, _ => []
  | n + 1, l => match part l with
    | none => []
    | some (x, r) => x :: parseN n r
def parse (l : Bytes) : List Pt := parseN l.length l
theorem parseN_more : ∀ (n m : Nat) (l : Bytes), l.length ≤ n → l.length ≤ m → parseN n l = parseN m l
  | 0, m, l, h, _ => by
    obtain rfl := List.eq_nil_of_length_eq_zero (Nat.le_zero.1 h)
    cases m <;> rfl
  | n + 1, 0, l, _, h => by
    obtain rfl := List.eq_nil_of_length_eq_zero (Nat.le_zero.1 h)
    rfl
  | n + 1, m + 1, l, h1, h2 => by
    unfold parseN
    split
    · rfl
    · rename_i x r hp
      have := part_len hp
      rw [parseN_more n m r (by omega) (by omega)]
theorem parse_cons {l r : Bytes} {x : Pt} (h : part l = some (x, r)) : parse l = x :: parse r := by
  have hl := part_len h
  unfold parse
  obtain ⟨n, hn⟩ : ∃ n, l.length = n + 1 := ⟨l.length - 1, by omega⟩
  rw [hn, parseN, h]
  simp only
  rw [parseN_more n r.length r (by omega) (Nat.le_refl _)]
theorem parse_nil : parse [] = [] := rfl
/-- Has a set this byte? -/
def inSet : Bytes → UInt8 → Bool
  | a :: 45 :: b :: t, c => (decide (a.toNat ≤ c.toNat) && decide (c.toNat ≤ b.toNat)) || inSet t c
  | a :: t, c => a == c || inSet t c
  | [], _ => false
def fit : Pt → UInt8 → Bool
  | .byte d, c => d == c
  | .star, _ => false
  | .any, _ => true
  | .cls n s, c => inSet s c != n
def mt : List Pt → Bytes → Bool
  | [], s => s.isEmpty
  | .star :: ps, [] => mt ps []
  | .star :: ps, c :: s => mt ps (c :: s) || mt (.star :: ps) s
  | _ :: _, [] => false
  | x :: ps, c :: s => fit x c && mt ps s
termination_by ps s => (ps.length, s.length)
end Go.Proofs.YtjkohbecmaegmaaDoor
