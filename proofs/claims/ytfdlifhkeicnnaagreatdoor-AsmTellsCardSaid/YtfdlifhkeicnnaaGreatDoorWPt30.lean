/- Lemmas and walks for the law LawTells (part 30). -/
import Derived.Test.YtfdlifhkeicnnaaGreatDoorWPt29
import Derived.Test.YtfdlifhkeicnnaaGreatDoorProg
import Derived.WalkKit
import Derived.Handy
import Derived.Deep.Light
import Derived.WalkSmall
import Derived.StillTailTactics
import Derived.Lib.Hide
import Derived.Deep.LoopGhost
/- The reference reads a line as asm does. Of no program. -/
set_option maxRecDepth 20000
set_option maxHeartbeats 4000000
set_option linter.unusedVariables false
set_option linter.unusedSimpArgs false
namespace Go.Proofs.YtfdlifhkeicnnaaGreatDoor
open Go
theorem dv_big (c : UInt8) : ∀ (k : Nat) (s : Bytes) (q : Bool) (m n : Nat), s.length ≤ k → s.length ≤ m → s.length ≤ n → dv c m q s = dv c n q s
 | k, [], q, m, n, _, _, _ => by rw [dv_nil, dv_nil]
 | 0, x :: t, q, m, n, h, _, _ => by simp at h
 | k + 1, x :: t, q, m, n, h, hm, hn => by
  rw [List.length_cons] at h hm hn
  rw [dv_cons, dv_cons]
  by_cases h34 : x = 34
  ·rw [if_pos h34, if_pos h34, dv_big c k t (!q) m n (by omega) (by omega) (by omega)]
  ·rw [if_neg h34, if_neg h34]
   by_cases h92 : x = 92 ∧ q = true
   ·rw [if_pos h92, if_pos h92]
    cases t with
    | nil => rfl
    | cons y r =>
     rw [List.length_cons] at h hm hn
     simp only
     rw [dv_big c k r q m n (by omega) (by omega) (by omega)]
   ·rw [if_neg h92, if_neg h92]
    by_cases hc : x = c ∧ q = false
    ·rw [if_pos ⟨hc.1, hc.2, by omega⟩, if_pos ⟨hc.1, hc.2, by omega⟩, dv_big c k t q (m - 1) (n - 1) (by omega) (by omega) (by omega)]
    ·rw [if_neg (fun e => hc ⟨e.1, e.2.1⟩), if_neg (fun e => hc ⟨e.1, e.2.1⟩), dv_big c k t q m n (by omega) (by omega) (by omega)]
theorem dv_zero (c : UInt8) : ∀ (k : Nat) (s : Bytes) (q : Bool), s.length ≤ k → dv c 0 q s = [s]
 | k, [], q, _ => dv_nil _ _ _
 | 0, x :: t, q, h => by simp at h
 | k + 1, x :: t, q, h => by
  rw [List.length_cons] at h
  rw [dv_cons]
  split
  ·rw [dv_zero c k t (!q) (by omega)]; rfl
  ·split
   ·cases t with
    | nil => rfl
    | cons y r =>
     rw [List.length_cons] at h
     simp only
     rw [dv_zero c k r q (by omega)]; rfl
   ·rw [if_neg (by simp), dv_zero c k t q (by omega)]; rfl
theorem dv_one (c : UInt8) : ∀ (k : Nat) (s : Bytes) (q : Bool), s.length ≤ k → (dv c 1 q s = [s] ∧ ∀ m, 1 ≤ m → dv c m q s = [s]) ∨ ∃ a b, dv c 1 q s = [a, b] ∧ (∀ m, 1 ≤ m → dv c m q s = a :: dv c (m - 1) false b) ∧ b.length < s.length
 | k, [], q, _ => .inl ⟨dv_nil _ _ _, fun m _ => dv_nil _ _ _⟩
 | 0, x :: t, q, h => by simp at h
 | k + 1, x :: t, q, h => by
  rw [List.length_cons] at h
  by_cases h34 : x = 34
  ·have e : ∀ m, dv c m q (x :: t) = hd x (dv c m (!q) t) := fun m => by rw [dv_cons, if_pos h34]
   rcases dv_one c k t (!q) (by omega) with ⟨h1, h2⟩ | ⟨a, b, h1, h2, h3⟩
   ·exact .inl ⟨by rw [e, h1]; rfl, fun m hm => by rw [e, h2 m hm]; rfl⟩
   ·exact .inr ⟨x :: a, b, by rw [e, h1]; rfl, fun m hm => by rw [e, h2 m hm]; rfl, by rw [List.length_cons]; omega⟩
  ·by_cases h92 : x = 92 ∧ q = true
   ·cases t with
    | nil =>
     have e : ∀ m, dv c m q [x] = [[x]] := fun m => by rw [dv_cons, if_neg h34, if_pos h92]
     exact .inl ⟨e 1, fun m _ => e m⟩
    | cons y r =>
     have e : ∀ m, dv c m q (x :: y :: r) = hd x (hd y (dv c m q r)) := fun m => by rw [dv_cons, if_neg h34, if_pos h92]
     rw [List.length_cons] at h
     rcases dv_one c k r q (by omega) with ⟨h1, h2⟩ | ⟨a, b, h1, h2, h3⟩
     ·exact .inl ⟨by rw [e, h1]; rfl, fun m hm => by rw [e, h2 m hm]; rfl⟩
     ·exact .inr ⟨x :: y :: a, b, by rw [e, h1]; rfl, fun m hm => by rw [e, h2 m hm]; rfl, by rw [List.length_cons, List.length_cons]; omega⟩
   ·by_cases hc : x = c ∧ q = false
    ·have e : ∀ m, 1 ≤ m → dv c m q (x :: t) = [] :: dv c (m - 1) q t := fun m hm => by rw [dv_cons, if_neg h34, if_neg h92, if_pos ⟨hc.1, hc.2, by omega⟩]
     refine .inr ⟨[], t, ?_, fun m hm => ?_, by rw [List.length_cons]; omega⟩
     ·rw [e 1 (Nat.le_refl _), dv_zero c _ t q (Nat.le_refl _)]
     ·rw [e m hm, hc.2]
    ·have e : ∀ m, dv c m q (x :: t) = hd x (dv c m q t) := fun m => by rw [dv_cons, if_neg h34, if_neg h92, if_neg (fun e => hc ⟨e.1, e.2.1⟩)]
     rcases dv_one c k t q (by omega) with ⟨h1, h2⟩ | ⟨a, b, h1, h2, h3⟩
     ·exact .inl ⟨by rw [e, h1]; rfl, fun m hm => by rw [e, h2 m hm]; rfl⟩
     ·exact .inr ⟨x :: a, b, by rw [e, h1]; rfl, fun m hm => by rw [e, h2 m hm]; rfl, by rw [List.length_cons]; omega⟩
theorem dv_left (c b : UInt8) (m : Nat) (q : Bool) (t : Bytes) (h1 : b ≠ 34) (h2 : b ≠ 92) (h3 : b ≠ c) : dv c m q (b :: t) = hd b (dv c m q t) := by
 rw [dv_cons, if_neg h1, if_neg (fun h => h2 h.1), if_neg (fun h => h3 h.1)]
def snocL (b : UInt8) : List Bytes → List Bytes
 | [] => [[b]]
 | [p] => [p ++ [b]]
 | p :: p2 :: ps => p :: snocL b (p2 :: ps)
theorem hd_snoc (x b : UInt8) {D : List Bytes} (h : D ≠ []) : hd x (snocL b D) = snocL b (hd x D) := by
 cases D with
 | nil => exact absurd rfl h
 | cons p ps => cases ps <;> rfl
theorem cons_snoc (p : Bytes) (b : UInt8) {D : List Bytes} (h : D ≠ []) : p :: snocL b D = snocL b (p :: D) := by
 cases D with
 | nil => exact absurd rfl h
 | cons p2 ps => rfl
theorem dv_right (c b : UInt8) (h1 : b ≠ 34) (h2 : b ≠ 92) (h3 : b ≠ c) : ∀ (k : Nat) (s : Bytes) (m : Nat) (q : Bool), s.length ≤ k → dv c m q (s ++ [b]) = snocL b (dv c m q s)
 | k, [], m, q, _ => by rw [List.nil_append, dv_left c b m q [] h1 h2 h3, dv_nil]; rfl
 | 0, x :: t, m, q, h => by simp at h
 | k + 1, x :: t, m, q, h => by
  rw [List.length_cons] at h
  rw [List.cons_append, dv_cons, dv_cons]
  by_cases h34 : x = 34
  ·rw [if_pos h34, if_pos h34, dv_right c b h1 h2 h3 k t m (!q) (by omega), hd_snoc _ _ (dv_ne _ _ _ _)]
  ·rw [if_neg h34, if_neg h34]
   by_cases h92 : x = 92 ∧ q = true
   ·rw [if_pos h92, if_pos h92]
    cases t with
    | nil => simp only [List.nil_append]; rw [dv_nil]; rfl
    | cons y r =>
     rw [List.length_cons] at h
     simp only [List.cons_append]
     rw [dv_right c b h1 h2 h3 k r m q (by omega), hd_snoc _ _ (dv_ne _ _ _ _), hd_snoc _ _ (hd_ne _ _)]
   ·rw [if_neg h92, if_neg h92]
    by_cases hc : x = c ∧ q = false ∧ 0 < m
    ·rw [if_pos hc, if_pos hc, dv_right c b h1 h2 h3 k t (m - 1) q (by omega), cons_snoc _ _ (dv_ne _ _ _ _)]
    ·rw [if_neg hc, if_neg hc, dv_right c b h1 h2 h3 k t m q (by omega), hd_snoc _ _ (dv_ne _ _ _ _)]
theorem trim_r {b : UInt8} (hb : blank b = true) (p : Bytes) : trim (p ++ [b]) = trim p := by
 unfold trim
 rw [List.reverse_append, List.reverse_singleton, List.singleton_append, List.dropWhile_cons, if_pos hb]
theorem trim_l {b : UInt8} (hb : blank b = true) (p : Bytes) : trim (b :: p) = trim p := by
 unfold trim
 rw [List.reverse_cons, List.dropWhile_append]
 cases h : p.reverse.dropWhile blank with
 | nil => simp [hb]
 | cons a t => simp [hb]
theorem snoc_trim {b : UInt8} (hb : blank b = true) : ∀ D : List Bytes, D ≠ [] → (snocL b D).map trim = D.map trim
 | [], h => absurd rfl h
 | [p], _ => by simp [snocL, trim_r hb]
 | p :: p2 :: ps, _ => by
  rw [snocL, List.map_cons, snoc_trim hb (p2 :: ps) (by simp)]; rfl
theorem hd_trim {b : UInt8} (hb : blank b = true) {D : List Bytes} (h : D ≠ []) : (hd b D).map trim = D.map trim := by
 cases D with
 | nil => exact absurd rfl h
 | cons p ps => simp [hd, trim_l hb]
theorem blank_ne {b : UInt8} (hb : blank b = true) : b ≠ 34 ∧ b ≠ 92 ∧ b ≠ 58 ∧ b ≠ 59 ∧ b ≠ 44 := by
 unfold blank at hb
 rw [Bool.or_eq_true, beq_iff_eq, beq_iff_eq] at hb
 rcases hb with rfl | rfl <;> decide
theorem tp_left (M : Nat) : ∀ s : Bytes, (dv 58 M false (s.dropWhile blank)).map trim = (dv 58 M false s).map trim
 | [] => rfl
 | b :: s => by
  rw [List.dropWhile_cons]
  split
  ·rename_i hb
   obtain ⟨h1, h2, h3, _⟩ := blank_ne hb
   rw [dv_left 58 b M false s h1 h2 h3, hd_trim hb (dv_ne _ _ _ _), tp_left M s]
  ·rfl
theorem tp_right (M : Nat) : ∀ l : Bytes, (dv 58 M false (l.dropWhile blank).reverse).map trim = (dv 58 M false l.reverse).map trim
 | [] => rfl
 | b :: l => by
  rw [List.dropWhile_cons]
  split
  ·rename_i hb
   obtain ⟨h1, h2, h3, _⟩ := blank_ne hb
   rw [List.reverse_cons, dv_right 58 b h1 h2 h3 _ l.reverse M false (Nat.le_refl _), snoc_trim hb _ (dv_ne _ _ _ _), tp_right M l]
  ·rfl
theorem tp_trim (M : Nat) (s : Bytes) : (dv 58 M false (trim s)).map trim = (dv 58 M false s).map trim := by
 show (dv 58 M false ((s.reverse.dropWhile blank).reverse.dropWhile blank)).map trim = _
 rw [tp_left, tp_right, List.reverse_reverse]
theorem dw_head (l : Bytes) : ∀ y, (l.dropWhile blank).head? = some y → blank y = false := by
 induction l with
 | nil => intro y h; cases h
 | cons a l ih =>
  intro y h
  rw [List.dropWhile_cons] at h
  split at h
  ·exact ih y h
  ·rename_i ha; cases h; exact Bool.eq_false_iff.2 ha
theorem dw_last (l : Bytes) : ∀ y, (l.dropWhile blank).getLast? = some y → l.getLast? = some y := by
 induction l with
 | nil => intro y h; cases h
 | cons a l ih =>
  intro y h
  rw [List.dropWhile_cons] at h
  split at h
  ·have := ih y h
   rw [List.getLast?_cons, this]; rfl
  ·exact h
theorem trim_trim (s : Bytes) : trim (trim s) = trim s := by
 refine trim_id ?_ ?_
 ·exact dw_head _
 ·intro y hy
  have h := dw_last _ y hy
  rw [List.getLast?_reverse] at h
  exact dw_head _ y h
theorem dw_len (l : Bytes) : (l.dropWhile blank).length ≤ l.length := by
 induction l with
 | nil => exact Nat.le_refl _
 | cons a l ih =>
  rw [List.dropWhile_cons]
  split
  ·rw [List.length_cons]; omega
  ·exact Nat.le_refl _
theorem trimR_len (s : Bytes) : (trim s).length ≤ s.length := by
 unfold trim
 refine Nat.le_trans (dw_len _) ?_
 rw [List.length_reverse]
 refine Nat.le_trans (dw_len _) ?_
 rw [List.length_reverse]; exact Nat.le_refl _
theorem readL_all : ∀ (f : Nat) (h : Bytes) (M : Nat), h.length < f → h.length ≤ M → readL f (trim h) = (((dv 58 M false h).map trim).dropLast, ((dv 58 M false h).map trim).getLastD [])
 | 0, h, M, hf, _ => absurd hf (by omega)
 | f + 1, h, M, hf, hM => by
  have hl := trimR_len h
  rw [← tp_trim M h]
  obtain ⟨r, hr⟩ : ∃ r, trim h = r := ⟨_, rfl⟩
  have hrr : trim r = r := by rw [← hr, trim_trim]
  rw [hr] at hl ⊢
  rcases dv_one 58 _ r false (Nat.le_refl _) with ⟨h1, h2⟩ | ⟨a, b, h1, h2, h3⟩
  ·have e : dv 58 M false r = [r] := by
    by_cases hz : 1 ≤ M
    ·exact h2 M hz
    ·have : r = [] := List.eq_nil_of_length_eq_zero (by omega)
     rw [this, dv_nil]
   rw [e, readL, h1]
   simp [hrr]
  ·rw [h2 M (by omega), readL, h1]
   simp only
   have ih := readL_all f b (M - 1) (by omega) (by omega)
   rw [ih]
   have hne : (dv 58 (M - 1) false b).map trim ≠ [] := by
    intro e; exact dv_ne _ _ _ _ (List.map_eq_nil_iff.1 e)
   rw [List.map_cons, List.dropLast_cons_of_ne_nil hne]
   congr 1
   cases hD : (dv 58 (M - 1) false b).map trim with
   | nil => exact absurd hD hne
   | cons z zs => rfl
/-- How the reference reads a line. -/
def readR (line : Bytes) : Stm :=
 let h := (dv 59 line.length false line).headD []
 let ps := dv 58 h.length false h
 let r := trim (ps.getLastD [])
 let op := r.takeWhile (fun c => !blank c)
 let tl := r.drop op.length
 ⟨ps.dropLast.map trim, op, if tl = [] then [] else (dv 44 tl.length false tl).map trim⟩
theorem head_one (line : Bytes) : (dv 59 line.length false line).headD [] = (dv 59 1 false line).headD [] := by
 by_cases h0 : line.length = 0
 ·have : line = [] := List.eq_nil_of_length_eq_zero h0
  subst this; rfl
 ·rcases dv_one 59 _ line false (Nat.le_refl _) with ⟨h1, h2⟩ | ⟨a, b, h1, h2, h3⟩
  ·rw [h1, h2 _ (by omega)]
  ·rw [h1, h2 _ (by omega)]; rfl
theorem getLastD_map (D : List Bytes) (h : D ≠ []) : (D.map trim).getLastD [] = trim (D.getLastD []) := by
 cases D with
 | nil => exact absurd rfl h
 | cons a t => rw [List.map_cons, List.getLastD_cons, List.getLastD_cons, List.getLastD_eq_getLast?, List.getLastD_eq_getLast?, List.getLast?_map]; cases t.getLast? <;> rfl
theorem readR_eq (line : Bytes) : readR line = read line := by
 unfold readR read rest
 simp only
 rw [head_one]
 obtain ⟨h, hh⟩ : ∃ h, (dv 59 1 false line).headD [] = h := ⟨_, rfl⟩
 rw [hh]
 have hl := trimR_len h
 have e := readL_all (h.length + 1) h h.length (by omega) (Nat.le_refl _)
 have e2 : readL ((trim h).length + 1) (trim h) = readL (h.length + 1) (trim h) := by
  rw [e]
  have := readL_all ((trim h).length + 1) (trim h) h.length (by omega) hl
  rw [trim_trim] at this
  rw [this, tp_trim]
 rw [e2, e]
 simp only
 rw [getLastD_map _ (dv_ne _ _ _ _), List.map_dropLast]
 congr 1
 split
 ·rfl
 ·exact congrArg _ (dv_big 44 _ _ _ _ _ (Nat.le_refl _) (Nat.le_refl _) (by rw [List.length_drop]; omega))
end Go.Proofs.YtfdlifhkeicnnaaGreatDoor
namespace Go.Proofs.YtfdlifhkeicnnaaGreatDoor
open Go Go.RowKit
theorem refCut_is (s : ByteArray) (hs : s.size ≤ 100000) (c : UInt8) (h34c : c ≠ 34) (h92c : c ≠ 92) (w : World) : Calls Tryz.prog 69 #[.string s, .int .u8 c.toNat] w fun e w' => ∃ v L, e = .returned v ∧ RowL 1 9 L v (dv c s.size false s.data.toList).length (sv (dv c s.size false s.data.toList)) ∧ Kn [] w w' L := by
 obtain ⟨i0, hi, hz0, hz1, hz2⟩ := info_parts infoS
 obtain ⟨V, hV⟩ : ∃ V, dv c s.size false s.data.toList = V := ⟨_, rfl⟩
 have hsl := szl s
 rw [hV]
 have hL : Kn [] w w [] := Kn.refl [] w; have hF := hL.fx; go_enter Tryz.func69, Tryz.ntmps69
 go_wp2
 go_loopg [5, 6, 7, 8] (s.size + 1) (fun n o5 o6 o7 o8 wr => ∃ (k j : Nat) (q : Bool) (LD : List (Nat × Obj)) (vd : Value) (nd : Nat) (ps : List Bytes), Hid (n = s.size + 1 - k) ∧ k ≤ s.size + 1 ∧ j ≤ k ∧ j ≤ s.size ∧ o5 = vd ∧ o6 = .int .i64 j ∧ o7 = .bool q ∧ o8 = .int .i64 k ∧ Hid (nd = ps.length) ∧ nd ≤ k ∧ RowL 1 9 LD vd nd (sv ps) ∧ Hid (DvI c s.size s.data.toList V ps j k q) ∧ Kn [] w wr (LD ++ []))
 case atStart => exact ⟨0, 0, false, [], .slice none 0 0, 0, [], Lib.hid rfl, by omega, by omega, by omega, rfl, rfl, rfl, rfl, Lib.hid rfl, by omega, RowL.nil, Lib.hid (by rw [← hV]; exact dvi_start), hL⟩
 case round =>
  clear hL
  obtain ⟨k, j, q, LD, vd, nd, ps, HK, hk, hjk, hjs, rfl, rfl, rfl, rfl, HND, hnk, hd, HI, hL⟩ := hrel
  have hF := hL.fx
  by_cases hlt : k < s.size
  ·obtain ⟨c0, hc0⟩ : ∃ c, s.data.toList[k]? = some c := ⟨_, List.getElem?_eq_getElem (by rw [szl]; omega)⟩
   have eb0 := byte_at hc0 (by omega)
   by_cases h34 : c0 = 34
   ·subst h34
    cases q with
    | true =>
     go_wp2
     go_roundg (s.size + 1 - (k + 1))
     case measure => have := HK.out; omega
     case rel => exact ⟨k + 1, j, _, LD, _, nd, ps, Lib.hid rfl, by omega, by omega, by omega, rfl, rfl, rfl, by go_num, HND, by omega, hd, Lib.hid (dvi_quote HI.out hc0 hjk), hL⟩
    | false =>
     go_wp2
     go_roundg (s.size + 1 - (k + 1))
     case measure => have := HK.out; omega
     case rel => exact ⟨k + 1, j, _, LD, _, nd, ps, Lib.hid rfl, by omega, by omega, by omega, rfl, rfl, rfl, by go_num, HND, by omega, hd, Lib.hid (dvi_quote HI.out hc0 hjk), hL⟩
   ·have f34 : ((c0.toNat : Int) == 34) = false := beq_false_of_ne (fun h => h34 (UInt8.toNat_inj.1 (show c0.toNat = 34 by omega)))
    by_cases h92 : c0 = 92
    ·subst h92
     cases q with
     | true =>
      go_wp2
      go_roundg (s.size + 1 - (k + 2))
      case measure => have := HK.out; omega
      case rel => exact ⟨k + 2, j, _, LD, _, nd, ps, Lib.hid rfl, by omega, by omega, by omega, rfl, rfl, rfl, by go_num, HND, by omega, hd, Lib.hid (dvi_esc HI.out hc0 hjk), hL⟩
     | false =>
      have fc : ((92 : Int) == (c.toNat : Int)) = false := beq_false_of_ne (fun h => h92c (UInt8.toNat_inj.1 (show c.toNat = 92 by omega)))
      go_wp2
      go_roundg (s.size + 1 - (k + 1))
      case measure => have := HK.out; omega
      case rel => exact ⟨k + 1, j, _, LD, _, nd, ps, Lib.hid rfl, by omega, by omega, by omega, rfl, rfl, rfl, by go_num, HND, by omega, hd, Lib.hid (dvi_one HI.out hc0 hjk (by decide) (by simp) (fun h => h92c h.1.symm)), hL⟩
    ·have f92 : ((c0.toNat : Int) == 92) = false := beq_false_of_ne (fun h => h92 (UInt8.toNat_inj.1 (show c0.toNat = 92 by omega)))
     by_cases hcc : c0 = c
     ·subst hcc
      cases q with
      | true =>
       go_wp2
       go_roundg (s.size + 1 - (k + 1))
       case measure => have := HK.out; omega
       case rel => exact ⟨k + 1, j, _, LD, _, nd, ps, Lib.hid rfl, by omega, by omega, by omega, rfl, rfl, rfl, by go_num, HND, by omega, hd, Lib.hid (dvi_one HI.out hc0 hjk h34 (fun h => h92 h.1) (by simp)), hL⟩
      | false =>
       obtain ⟨u, hu⟩ : ∃ u, s.extract j k = u := ⟨_, rfl⟩
       have HU := Lib.hid (show u.data.toList = (s.data.toList.take k).drop j by rw [← hu, ext_list, List.drop_take])
       rcases hd with ⟨rfl, rfl, rfl, hsv⟩ | ⟨g, cap, cur, rfl, rfl, hb⟩
       ·go_wp2_with ((at_builtin; refine kn_list ?_; clear hF hL; intro W hL; simp only [kfb] at hL; have hF := hL.fx; refine wpList_append_rowL rfl _ _ 35 rfl 9 i0 _ Tryz.underlying35 hi hz0 (by rw [hz1]; rfl) (by rw [hz1]; decide) _ ([]) [] hL _ _ _ (by rw [hz1]; exact (.inl ⟨rfl, rfl, rfl, hsv⟩)) rfl _ _ _ [.string u] rfl (by rw [hz1]; rfl) (fun j u hu => by rw [Go.WideShapes.add_plain, Nat.zero_add, World.cell?, hL.has _ List.mem_cons_self]; simpa using hu) (by intro u hu; simp only [List.mem_singleton] at hu; subst hu; rfl) (by unfold maxLen; omega) (by rw [hz2]; omega) (by decide) ?_; intro g14 cap14 cur14 W2 hL2 hr14; clear hL hF; rw [hz1] at hr14; have hL := hL2.sub (List.Sublist.cons_cons (g14, Obj.cells cur14 9 (0, 0)) (List.sublist_cons_self _ _)); clear hL2; have hF := hL.fx))
        go_roundg (s.size + 1 - (k + 1))
        case measure => have := HK.out; omega
        case rel =>
         refine ⟨k + 1, k + 1, false, [(g14, .cells cur14 9 (0, 0))], _, 0 + 1, ps ++ [(s.data.toList.take k).drop j], Lib.hid rfl, by omega, by omega, by omega, rfl, by go_num, rfl, by go_num, Lib.hid (by rw [List.length_append, HND.out]; rfl), by omega, RowL.of_blk ?_, Lib.hid (dvi_cut HI.out hc0 hjk h34c h92c (by have := HND.out; omega)), hL⟩
         rw [sv_app, ← HU.out, sv_one]
         exact hr14
       ·go_wp2_with ((at_builtin; refine kn_list ?_; clear hF hL; intro W hL; simp only [kfb] at hL; have hF := hL.fx; refine wpList_append_rowL rfl _ _ 35 rfl 9 i0 _ Tryz.underlying35 hi hz0 (by rw [hz1]; rfl) (by rw [hz1]; decide) _ ([(g, .cells cur 9 (0, 0))]) [] hL _ _ _ (by rw [hz1]; exact (RowL.of_blk hb)) rfl _ _ _ [.string u] rfl (by rw [hz1]; rfl) (fun j u hu => by rw [Go.WideShapes.add_plain, Nat.zero_add, World.cell?, hL.has _ List.mem_cons_self]; simpa using hu) (by intro u hu; simp only [List.mem_singleton] at hu; subst hu; rfl) (by unfold maxLen; omega) (by rw [hz2]; omega) (by decide) ?_; intro g14 cap14 cur14 W2 hL2 hr14; clear hL hF; rw [hz1] at hr14; have hL := hL2.sub (List.Sublist.cons_cons (g14, Obj.cells cur14 9 (0, 0)) (List.sublist_cons_self _ _)); clear hL2; have hF := hL.fx))
        go_roundg (s.size + 1 - (k + 1))
        case measure => have := HK.out; omega
        case rel =>
         refine ⟨k + 1, k + 1, false, [(g14, .cells cur14 9 (0, 0))], _, nd + 1, ps ++ [(s.data.toList.take k).drop j], Lib.hid rfl, by omega, by omega, by omega, rfl, by go_num, rfl, by go_num, Lib.hid (by rw [List.length_append, HND.out]; rfl), by omega, RowL.of_blk ?_, Lib.hid (dvi_cut HI.out hc0 hjk h34c h92c (by have := HND.out; omega)), hL⟩
         rw [sv_app, ← HU.out, sv_one]
         exact hr14
     ·have fc : ((c0.toNat : Int) == (c.toNat : Int)) = false := beq_false_of_ne (fun h => hcc (UInt8.toNat_inj.1 (by omega)))
      cases q with
      | true =>
       go_wp2
       go_roundg (s.size + 1 - (k + 1))
       case measure => have := HK.out; omega
       case rel => exact ⟨k + 1, j, _, LD, _, nd, ps, Lib.hid rfl, by omega, by omega, by omega, rfl, rfl, rfl, by go_num, HND, by omega, hd, Lib.hid (dvi_one HI.out hc0 hjk h34 (fun h => h92 h.1) (fun h => hcc h.1)), hL⟩
      | false =>
       go_wp2
       go_roundg (s.size + 1 - (k + 1))
       case measure => have := HK.out; omega
       case rel => exact ⟨k + 1, j, _, LD, _, nd, ps, Lib.hid rfl, by omega, by omega, by omega, rfl, rfl, rfl, by go_num, HND, by omega, hd, Lib.hid (dvi_one HI.out hc0 hjk h34 (fun h => h92 h.1) (fun h => hcc h.1)), hL⟩
  ·obtain ⟨u, hu⟩ : ∃ u, s.extract j s.size = u := ⟨_, rfl⟩
   have hul : u.data.toList = s.data.toList.drop j := by rw [← hu, ext_list, List.take_of_length_le (by omega)]
   have hVV := dvi_end HI.out (by rw [hsl]; omega)
   have HU := Lib.hid hul
   have HVV := Lib.hid hVV
   clear hul hVV HI
   go_wp2_with ((at_builtin; refine kL ?_; clear hF hL; intro W hL hF; refine wpList_append_rowL rfl _ _ 35 rfl 9 i0 _ Tryz.underlying35 hi hz0 (by rw [hz1]; rfl) (by rw [hz1]; decide) _ (LD) [] hL _ _ _ (by rw [hz1]; exact hd) rfl _ _ _ [.string u] rfl (by rw [hz1]; rfl) (fun j u hu => by rw [Go.WideShapes.add_plain, Nat.zero_add, World.cell?, hL.has _ List.mem_cons_self]; simpa using hu) (by intro u hu; simp only [List.mem_singleton] at hu; subst hu; rfl) (by unfold maxLen; omega) (by rw [hz2]; omega) (by decide) ?_; intro g14 cap14 cur14 W2 hL2 hr14; clear hL hF; rw [hz1] at hr14; have hL := hL2.sub (List.Sublist.cons_cons (g14, Obj.cells cur14 9 (0, 0)) (List.sublist_cons_self _ _)); clear hL2; have hF := hL.fx))
   refine bodyPost_ret (by simp [results, Tryz.results69, go_sem, *]; try rfl) rfl ?_
   have e : V.length = nd + 1 := by rw [HVV.out, List.length_append, HND.out]; rfl
   rw [e]
   refine ⟨_, _, rfl, RowL.of_blk ?_, hL⟩
   rw [HVV.out, sv_app, ← HU.out, sv_one]
   exact hr14
theorem refBlank_is (c : UInt8) (b : Bool) (h : blank c = b) (w : World) : Calls Tryz.prog 71 #[.int .u8 (c.toNat : Int)] w fun e w' => e = .returned (.bool b) ∧ w = w' := by
 by_cases h32 : c = 32
 ·subst h32
  obtain rfl : b = true := h.symm
  go_enter Tryz.func71, Tryz.ntmps71
  go_wp2
  refine bodyPost_ret (by simp [results, Tryz.results71, go_sem, *]; try rfl) rfl ?_
  exact ⟨rfl, rfl⟩
 ·have f32 : ((c.toNat : Int) == 32) = false := beq_false_of_ne (fun h => h32 (UInt8.toNat_inj.1 (show c.toNat = 32 by omega)))
  by_cases h9 : c = 9
  ·subst h9
   obtain rfl : b = true := h.symm
   go_enter Tryz.func71, Tryz.ntmps71
   go_wp2
   refine bodyPost_ret (by simp [results, Tryz.results71, go_sem, *]; try rfl) rfl ?_
   exact ⟨rfl, rfl⟩
  ·have f9 : ((c.toNat : Int) == 9) = false := beq_false_of_ne (fun h => h9 (UInt8.toNat_inj.1 (show c.toNat = 9 by omega)))
   have e1 : (c == 32) = false := beq_false_of_ne h32
   have e2 : (c == 9) = false := beq_false_of_ne h9
   obtain rfl : b = false := by rw [← h]; unfold blank; rw [e1, e2]; rfl
   clear h
   go_enter Tryz.func71, Tryz.ntmps71
   go_wp2
   refine bodyPost_ret (by simp [results, Tryz.results71, go_sem, *]; try rfl) rfl ?_
   exact ⟨rfl, rfl⟩
theorem refTrim_is (s T : ByteArray) (hs : s.size ≤ 100000) (hT : Hid (T.data.toList = trim s.data.toList)) (w : World) : Calls Tryz.prog 70 #[.string s] w fun e w' => e = .returned (.string T) ∧ Below w.heap.size w w' := by
 have hL : Kn [] w w [] := Kn.refl [] w; have hF := hL.fx; go_enter Tryz.func70, Tryz.ntmps70
 go_wp2
 go_loopw [0] (fun v wr => ∃ x : ByteArray, x.size ≤ 100000 ∧ v = .string x ∧ Hid (trim x.data.toList = T.data.toList) ∧ Kn [] w wr []) (fun v _ => (match v with | .string x => x.size | _ => 0))
 case atStart => exact ⟨s, by omega, rfl, Lib.hid hT.out.symm, hL⟩
 case round =>
  clear hL
  clear hF
  obtain ⟨x, hx, rfl, HT, hL⟩ := hrel
  have hF := hL.fx
  by_cases h0 : x.size = 0
  ·have z0 : x = ⟨#[]⟩ := ba_ext (by rw [List.eq_nil_of_length_eq_zero (show x.data.toList.length = 0 by rw [szl]; exact h0)])
   subst z0
   have HT0 : T = ⟨#[]⟩ := ba_ext (by rw [← HT.out]; rfl)
   subst HT0
   go_wp2
   go_loopw [0] (fun v wr2 => v = .string ⟨#[]⟩ ∧ Kn [] w wr2 []) (fun v _ => 0)
   case atStart => exact ⟨rfl, hL⟩
   case round =>
    clear hL
    clear hF
    obtain ⟨rfl, hL⟩ := hrel
    have hF := hL.fx
    go_wp2
    refine bodyPost_ret (by simp [results, Tryz.results70, go_sem, *]; try rfl) rfl ?_
    exact ⟨rfl, hL.below0⟩
  ·obtain ⟨c0, hc0⟩ : ∃ c, x.data.toList[0]? = some c := ⟨_, List.getElem?_eq_getElem (by rw [szl]; omega)⟩
   have eb0 := byte_at hc0 (by omega)
   have hxe : x.toList.isEmpty = false := by rw [Lib.toList_data]; cases hxx : x.data.toList with | nil => rw [hxx] at hc0; simp at hc0 | cons a l => rfl
   have z1 : (x.toList == []) = false := by rw [Lib.toList_data]; cases hxx : x.data.toList with | nil => rw [hxx] at hc0; simp at hc0 | cons a l => rfl
   cases hbl : blank c0 with
   | true =>
    obtain ⟨y, hy⟩ : ∃ y, x.extract 1 x.size = y := ⟨_, rfl⟩
    have hyl : y.data.toList = x.data.toList.drop 1 := by rw [← hy, ext_list, List.take_of_length_le (by rw [szl]; omega)]
    have hys : y.size = x.size - 1 := by rw [← szl, hyl, List.length_drop, szl]
    have HTy := Lib.hid (show trim y.data.toList = T.data.toList from by rw [hyl, ← HT.out, show x.data.toList = c0 :: x.data.toList.drop 1 from by rw [← drop_step hc0]; simp, trim_l hbl]; simp)
    go_wp2_with ((go_at_call 71; (with_reducible refine (refBlank_is c0 true hbl _).mono ?_); rintro e w' ⟨rfl, rfl⟩))
    exact ⟨⟨y, by omega, rfl, HTy, hL⟩, by simp only; omega⟩
   | false =>
    go_wp2_with ((go_at_call 71; (with_reducible refine (refBlank_is c0 false hbl _).mono ?_); rintro e w' ⟨rfl, rfl⟩))
    go_loopw [0] (fun v wr2 => ∃ z : ByteArray, z.size ≤ 100000 ∧ v = .string z ∧ Hid (trim z.data.toList = T.data.toList) ∧ Hid (∀ b, z.data.toList.head? = some b → blank b = false) ∧ Kn [] w wr2 []) (fun v _ => (match v with | .string z => z.size | _ => 0))
    case atStart => exact ⟨x, hx, rfl, HT, Lib.hid (fun b hb => by cases hxx : x.data.toList with | nil => rw [hxx] at hb; cases hb | cons a l => rw [hxx] at hb hc0; simp at hb hc0; rw [← hb, hc0]; exact hbl), hL⟩
    case round =>
     clear hL
     clear hF
     obtain ⟨z, hz, rfl, HZ, HH, hL⟩ := hrel
     have hF := hL.fx
     clear hxe z1 hc0 eb0
     by_cases hz0 : z.size = 0
     ·have z0 : z = ⟨#[]⟩ := ba_ext (by rw [List.eq_nil_of_length_eq_zero (show z.data.toList.length = 0 by rw [szl]; exact hz0)])
      subst z0
      have HT0 : T = ⟨#[]⟩ := ba_ext (by rw [← HZ.out]; rfl)
      subst HT0
      go_wp2
      refine bodyPost_ret (by simp [results, Tryz.results70, go_sem, *]; try rfl) rfl ?_
      exact ⟨rfl, hL.below0⟩
     ·obtain ⟨c1, hc1⟩ : ∃ c, z.data.toList[(z.size - 1)]? = some c := ⟨_, List.getElem?_eq_getElem (by rw [szl]; omega)⟩
      have eb1 := byte_at hc1 (by omega)
      have z1 : (z.toList == []) = false := by rw [Lib.toList_data]; cases hxx : z.data.toList with | nil => rw [hxx] at hc1; simp at hc1 | cons a l => rfl
      have hzl : z.data.toList = z.data.toList.take (z.size - 1) ++ [c1] := by
       have h1 := cut_step hc1 (Nat.zero_le _)
       rw [List.drop_zero, List.drop_zero, show z.size - 1 + 1 = z.size by omega, List.take_of_length_le (by rw [szl]; omega)] at h1
       exact h1
      cases hbl1 : blank c1 with
      | true =>
       obtain ⟨y, hy⟩ : ∃ y, z.extract 0 (z.size - 1) = y := ⟨_, rfl⟩
       have hyl : y.data.toList = z.data.toList.take (z.size - 1) := by rw [← hy, ext_list, List.drop_zero]
       have hys : y.size = z.size - 1 := by rw [← szl, hyl, List.length_take, szl]; omega
       have HTy := Lib.hid (show trim y.data.toList = T.data.toList from by rw [hyl, ← HZ.out]; conv => rhs; rw [hzl, trim_r hbl1])
       have HHy := Lib.hid (show ∀ b, y.data.toList.head? = some b → blank b = false from fun b hb => HH.out b (by rw [hzl]; rw [hyl] at hb; cases htk : z.data.toList.take (z.size - 1) with | nil => rw [htk] at hb; cases hb | cons a l => rw [htk] at hb; exact hb))
       go_wp2_with ((go_at_call 71; (with_reducible refine (refBlank_is c1 true hbl1 _).mono ?_); rintro e w' ⟨rfl, rfl⟩))
       exact ⟨⟨y, by omega, rfl, HTy, HHy, hL⟩, by simp only; omega⟩
      | false =>
       have hzT : Hid (z = T) := Lib.hid <| by
        apply ba_ext
        rw [← HZ.out, trim_id HH.out (fun b hb => by rw [hzl, List.getLast?_concat] at hb; cases hb; exact hbl1)]
       go_wp2_with ((go_at_call 71; (with_reducible refine (refBlank_is c1 false hbl1 _).mono ?_); rintro e w' ⟨rfl, rfl⟩))
       refine bodyPost_ret (by simp [results, Tryz.results70, go_sem, *]; try rfl) rfl ?_
       exact ⟨by rw [hzT.out], hL.below0⟩
end Go.Proofs.YtfdlifhkeicnnaaGreatDoor
