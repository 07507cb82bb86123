/- Lemmas and walks for the law LawTells (part 32). -/
import Derived.Test.YtfdlifhkeicnnaaGreatDoorWPt31
import Derived.Test.YtfdlifhkeicnnaaGreatDoorProg
import Derived.WalkKit
import Derived.Handy
import Derived.Deep.Light
import Derived.WalkSmall
import Derived.StillTailTactics
import Derived.Lib.Hide
import Derived.Deep.QuietTactic
import Derived.IntWalk
set_option maxRecDepth 20000
set_option maxHeartbeats 4000000
set_option linter.unusedVariables false
set_option linter.unusedSimpArgs false
namespace Go.Proofs.YtfdlifhkeicnnaaGreatDoor
open Go Go.RowKit
def digB (c : UInt8) : Nat := if Lib.indexByte hexs c < 0 then 0 else (Lib.indexByte hexs c).toNat
theorem digB_lt (c : UInt8) : digB c < 16 := by
 unfold digB
 have := index_lt hexs c
 have e : (hexs.length : Int) = 16 := rfl
 split <;> omega
theorem hexs_at (k : Nat) (h : k < (⟨#[48, 49, 50, 51, 52, 53, 54, 55, 56, 57, 97, 98, 99, 100, 101, 102]⟩ : ByteArray).size) : (⟨#[48, 49, 50, 51, 52, 53, 54, 55, 56, 57, 97, 98, 99, 100, 101, 102]⟩ : ByteArray)[k]'h = hexs.getD k 0 := hex_at k h
theorem index_of : ∀ (l : Bytes) (c : UInt8) (k : Nat), l[k]? = some c → (∀ j, j < k → l[j]? ≠ some c) → Lib.indexByte l c = k
 | [], c, k, h, _ => by simp at h
 | x :: l, c, k, h, hn => by
  rw [Lib.indexByte]
  cases k with
  | zero =>
   have : x = c := by simpa using h
   rw [this]; simp
  | succ k =>
   have hx : x ≠ c := fun e => hn 0 (by omega) (by simp [e])
   have ih := index_of l c k (by simpa using h) (fun j hj => by have := hn (j + 1) (by omega); simpa using this)
   rw [beq_false_of_ne hx, ih]
   simp only [Bool.false_eq_true, if_false]
   have : ((k : Int) == -1) = false := beq_false_of_ne (by omega)
   rw [this]; simp
theorem index_not : ∀ (l : Bytes) (c : UInt8), (∀ j : Nat, l[j]? ≠ some c) → Lib.indexByte l c = -1
 | [], c, _ => rfl
 | x :: l, c, hn => by
  have hx : x ≠ c := fun e => hn 0 (by simp [e])
  rw [Lib.indexByte, beq_false_of_ne hx, index_not l c (fun j => by have := hn (j + 1); simpa using this)]
  rfl
theorem digit_is (c : UInt8) (w : World) : Calls Tryz.prog 109 #[.int .u8 c.toNat] w fun e w' => e = .returned (.int .u8 (digB c)) ∧ w' = w := by
 go_enter Tryz.func109, Tryz.ntmps109
 go_wp2
 go_loop [3] (fun i => ∃ k : Nat, k ≤ 16 ∧ i = .int .i64 k ∧ Hid (∀ j, j < k → hexs[j]? ≠ some c)) (fun i => 16 - (intOf i).toNat)
 case atStart => exact ⟨0, by omega, rfl, Lib.hid fun j hj => by omega⟩
 case round =>
  obtain ⟨k, hk, rfl, hn⟩ := hrel
  by_cases hlt : k < 16
  ·have hsz : k < (⟨#[48, 49, 50, 51, 52, 53, 54, 55, 56, 57, 97, 98, 99, 100, 101, 102]⟩ : ByteArray).size := hlt
   have hat : hexs[k]? = some (hexs.getD k 0) := by
    rw [List.getD_eq_getElem?_getD, List.getElem?_eq_getElem (show k < hexs.length from hlt)]; rfl
   obtain ⟨d, hd⟩ : ∃ d, hexs.getD k 0 = d := ⟨_, rfl⟩
   have hb : ∀ h, (⟨#[48, 49, 50, 51, 52, 53, 54, 55, 56, 57, 97, 98, 99, 100, 101, 102]⟩ : ByteArray)[k]'h = d := fun h => by rw [← hd]; exact hexs_at k h
   rw [hd] at hat
   have hb2 := hb hsz
   clear hb hd
   have hlti : (k : Int) < 16 := by omega
   by_cases hc : d = c
   ·subst hc
    have hv : digB d = k := by
     unfold digB
     rw [index_of hexs d k hat hn.out]
     rw [if_neg (by omega)]; rfl
    have HV := Lib.hid hv
    clear hv hat
    go_wp2
    refine bodyPost_ret (by simp [results, Tryz.results109, go_sem, *]; try rfl) rfl ?_
    exact ⟨by rw [HV.out], rfl⟩
   ·have hcn : ((d.toNat : Int) == (c.toNat : Int)) = false := by rw [beq_bytes]; exact beq_false_of_ne hc
    have hn2 : Hid (∀ j, j < k + 1 → hexs[j]? ≠ some c) := Lib.hid fun j hj => by
     by_cases hjk : j = k
     ·subst hjk; rw [hat]; simpa using hc
     ·exact hn.out j (by omega)
    clear hat hc
    go_wp2
    go_round
    case rel => exact ⟨k + 1, by omega, by go_num, hn2⟩
    case measure => simp [intOf]; omega
  ·obtain rfl : k = 16 := by omega
   have hv : digB c = 0 := by
    unfold digB
    rw [index_not hexs c (fun j => by
     by_cases hj : j < 16
     ·exact hn.out j hj
     ·rw [List.getElem?_eq_none (show hexs.length ≤ j by show 16 ≤ j; omega)]; simp)]
    decide
   have HV := Lib.hid hv
   clear hv
   go_wp2
   refine bodyPost_ret (by simp [results, Tryz.results109, go_sem, *]; try rfl) rfl ?_
   exact ⟨by rw [HV.out]; rfl, rfl⟩
theorem conv_all {w0 w : World} {v : Value} {l : List UInt8} (h : BOwn w0 w v l) (t : ByteArray) (ht : t.data.toList = l) : Hid (∀ W, BOwn w0 W v l → (convert 47 9 v).run Tryz.prog W = .ok (.string t) W) := Lib.hid fun W h => conv_own h t ht
theorem refUnquote_is (s : ByteArray) (hs : s.size ≤ 900000) (w : World) : Calls Tryz.prog 73 #[.string s] w (UnqPost s w) := by
 have hB := BOwn.nil w
 go_enter Tryz.func73, Tryz.ntmps73
 go_wp2
 go_loopw [4, 5] (fun u i wr => ∃ (k : Nat) (o : Bytes) (v : Value), 1 ≤ k ∧ k ≤ s.size + 1 ∧ o.length ≤ k ∧ i = .int .i64 k ∧ u = v ∧ BOwn w wr v o ∧ Hid (UR s.data.toList k o)) (fun _ i _ => s.size + 1 - (intOf i).toNat)
 case atStart => exact ⟨1, [], _, by omega, by omega, by simp, rfl, rfl, hB, Lib.hid (UR.start _)⟩
 case round =>
  obtain ⟨k, o, v, hk1, hk, hol, rfl, rfl, hB1, hinv⟩ := hrel
  clear hB
  have hB := hB1
  clear hB1
  have hsl := szl s
  by_cases hlt : (k : Int) < (s.size : Int) - 1
  ·obtain ⟨c0, hc0⟩ : ∃ c, s.data.toList[k]? = some c := ⟨_, List.getElem?_eq_getElem (by rw [szl]; omega)⟩
   have hks : k < s.size := by omega
   have eb0 := byte_at hc0 hks
   by_cases h92 : c0 = 92
   ·by_cases h2 : (k : Int) + 1 < (s.size : Int) - 1
    ·have hk1s : k + 1 < s.size := by omega
     obtain ⟨c1, hc1⟩ : ∃ c, s.data.toList[k + 1]? = some c := ⟨_, List.getElem?_eq_getElem (by rw [szl]; omega)⟩
     have eb1 := byte_at hc1 hk1s
     subst h92
     by_cases h110 : c1 = 110
     ·subst h110
      have hv2 : Hid (UR s.data.toList (k + 2) (o ++ [10])) := Lib.hid (hinv.out.letter (by omega) hc0 hc1)
      clear hc0 hc1 hinv hsl
      go_wp2_with ((at_builtin; (first | (refine wpList_appb rfl _ _ rfl _ [10] hB rfl _ rfl _ rfl rfl (by simp only [List.length_append, List.length_cons, List.length_nil]; omega) ?_)); intro v2 W2 hB2; clear hB; have hB := hB2; clear hB2))
      go_roundw
      case rel => exact ⟨k + 2, o ++ [10], _, by omega, by omega, by simp; omega, by go_num, rfl, hB, hv2⟩
      case measure => simp [intOf]; omega
     have f110 : ((c1.toNat : Int) == 110) = false := beq_false_of_ne fun h => h110 (UInt8.toNat_inj.1 (show c1.toNat = 110 by omega))
     by_cases h120 : c1 = 120 ∧ (k : Int) + 1 + 1 + 1 < (s.size : Int) - 1
     ·obtain ⟨h120, h4⟩ := h120
      subst h120
      have hk2s : k + 2 < s.size := by omega
      have hk3s : k + 3 < s.size := by omega
      obtain ⟨c2, hc2⟩ : ∃ c, s.data.toList[k + 2]? = some c := ⟨_, List.getElem?_eq_getElem (by rw [szl]; omega)⟩
      obtain ⟨c3, hc3⟩ : ∃ c, s.data.toList[k + 3]? = some c := ⟨_, List.getElem?_eq_getElem (by rw [szl]; omega)⟩
      have eb2 := byte_at hc2 hk2s
      have eb3 := byte_at hc3 hk3s
      go_wp2_with fail
      have s1 : IntKind.i64.wrap ((k : Int) + 1 + 1 + 1) = (k : Int) + 3 := by rw [IntWalk.i64_in _ (by omega)]; omega
      have s3 : 0 ≤ (k : Int) + 1 + 1 := by omega
      have s4 : (k : Int) + 1 + 1 < s.size := by omega
      have s5 : ((k : Int) + 1 + 1).toNat = k + 2 := by omega
      have s6 : 0 ≤ (k : Int) + 3 := by omega
      have s7 : (k : Int) + 3 < s.size := by omega
      have s8 : ((k : Int) + 3).toNat = k + 3 := by omega
      go_quiet ((go_at_call 109; exact Calls.quiet_of_same (digit_is _ _)))
      have hdl2 := digB_lt c2
      have hdl3 := digB_lt c3
      obtain ⟨x, hx⟩ : ∃ x : UInt8, (x.toNat : Int) = ((digB c2 : Int) * 16 % 256 + (digB c3 : Int)) % 256 := ⟨UInt8.ofNat (16 * digB c2 + digB c3), by rw [UInt8.toNat_ofNat']; omega⟩
      have hv2 : Hid (UR s.data.toList (k + 4) (o ++ [x])) := Lib.hid (hinv.out.hex (by omega) hc0 hc1 hc2 hc3 fun a b ha hb h2 h3 => by
       have e2 : digB c2 = a := by unfold digB; rw [h2, if_neg (by omega)]; rfl
       have e3 : digB c3 = b := by unfold digB; rw [h3, if_neg (by omega)]; rfl
       rw [e2, e3] at hx
       omega)
      have hxe := hx.symm
      have hB2 := hB.below (show Below wr.heap.size wr (wr.drewN nq) from ⟨rfl, rfl, rfl, Nat.le_refl _, fun _ _ => rfl⟩)
      clear hB
      generalize wr.drewN nq = W3 at hB2 ⊢
      have hB := hB2
      clear hB2 hx hdl2 hdl3 s1 s3 s4 s5 s6 s7 s8 hc0 hc1 hc2 hc3 hinv hsl
      go_wp2_with (at_builtin; (first | (refine wpList_appb rfl _ _ rfl _ [x] hB rfl _ rfl _ rfl rfl (by simp only [List.length_append, List.length_cons, List.length_nil]; omega) ?_)); intro v2 W2 hB2; clear hB; have hB := hB2; clear hB2)
      go_roundw
      case rel => exact ⟨k + 4, o ++ [x], _, by omega, by omega, by simp; omega, by go_num, rfl, hB, hv2⟩
      case measure => simp [intOf]; omega
     ·have hor : c1 ≠ 120 ∨ ¬ k + 4 < s.data.toList.length := by
       by_cases h : c1 = 120
       ·right; intro h5; exact h120 ⟨h, by omega⟩
       ·exact .inl h
      have hv2 : Hid (UR s.data.toList (k + 2) (o ++ [c1])) := Lib.hid (hinv.out.other (by omega) hc0 hc1 h110 hor)
      clear hor hc0 hc1 hinv hsl
      by_cases h120b : c1 = 120
      ·have h4 : ¬ (k : Int) + 1 + 1 + 1 < (s.size : Int) - 1 := fun h => h120 ⟨h120b, h⟩
       clear h120
       subst h120b
       go_wp2_with ((at_builtin; (first | (refine wpList_appb rfl _ _ rfl _ [120] hB rfl _ rfl _ rfl rfl (by simp only [List.length_append, List.length_cons, List.length_nil]; omega) ?_)); intro v2 W2 hB2; clear hB; have hB := hB2; clear hB2))
       go_roundw
       case rel => exact ⟨k + 2, o ++ [120], _, by omega, by omega, by simp; omega, by go_num, rfl, hB, hv2⟩
       case measure => simp [intOf]; omega
      ·have f120 : ((c1.toNat : Int) == 120) = false := beq_false_of_ne fun h => h120b (UInt8.toNat_inj.1 (show c1.toNat = 120 by omega))
       clear h120
       go_wp2_with ((at_builtin; (first | (refine wpList_appb rfl _ _ rfl _ [c1] hB rfl _ rfl _ rfl rfl (by simp only [List.length_append, List.length_cons, List.length_nil]; omega) ?_)); intro v2 W2 hB2; clear hB; have hB := hB2; clear hB2))
       go_roundw
       case rel => exact ⟨k + 2, o ++ [c1], _, by omega, by omega, by simp; omega, by go_num, rfl, hB, hv2⟩
       case measure => simp [intOf]; omega
    ·have hv2 : Hid (UR s.data.toList (k + 1) (o ++ [c0])) := Lib.hid (hinv.out.plain (by omega) hc0 (.inr (by omega)))
     subst h92
     clear hc0 hinv hsl
     go_wp2_with ((at_builtin; (first | (refine wpList_appb rfl _ _ rfl _ [92] hB rfl _ rfl _ rfl rfl (by simp only [List.length_append, List.length_cons, List.length_nil]; omega) ?_)); intro v2 W2 hB2; clear hB; have hB := hB2; clear hB2))
     go_roundw
     case rel => exact ⟨k + 1, o ++ [92], _, by omega, by omega, by simp; omega, by go_num, rfl, hB, hv2⟩
     case measure => simp [intOf]; omega
   ·have hv2 : Hid (UR s.data.toList (k + 1) (o ++ [c0])) := Lib.hid (hinv.out.plain (by omega) hc0 (.inl h92))
    have f92 : ((c0.toNat : Int) == 92) = false := beq_false_of_ne fun h => h92 (UInt8.toNat_inj.1 (show c0.toNat = 92 by omega))
    clear hc0 hinv hsl
    go_wp2_with ((at_builtin; (first | (refine wpList_appb rfl _ _ rfl _ [c0] hB rfl _ rfl _ rfl rfl (by simp only [List.length_append, List.length_cons, List.length_nil]; omega) ?_)); intro v2 W2 hB2; clear hB; have hB := hB2; clear hB2))
    go_roundw
    case rel => exact ⟨k + 1, o ++ [c0], _, by omega, by omega, by simp; omega, by go_num, rfl, hB, hv2⟩
    case measure => simp [intOf]; omega
  ·have hdone : ∀ d, quoteB d = s.data.toList → d = o := fun d hd => hinv.out.done (by omega) hd
   obtain ⟨t, ht⟩ : ∃ t : ByteArray, t.data.toList = o := ⟨⟨o.toArray⟩, by simp⟩
   have htz : t.size ≤ 1000000 := by rw [← szl, ht]; omega
   have hto : (⟨o.toArray⟩ : ByteArray) = t := ba_ext (by rw [← ht])
   have HCV := conv_all hB t ht
   have hcv1 := conv_own hB t ht
   by_cases hq : quoteB t.data.toList = s.data.toList
   ·have hE : (⟨(quoteB t.data.toList).toArray⟩ : ByteArray) = s := ba_ext (by simpa using hq)
    have QC : Hid (∀ W, Calls Tryz.prog 110 #[.string t] W fun e w' => e = .returned (.string s) ∧ Below W.heap.size W w') := Lib.hid fun W => by
     have := refQuote_any t htz W
     rw [hE] at this; exact this
    have hfin : Hid (∃ o : Bytes, quoteB o = s.data.toList ∧ (∀ d, quoteB d = s.data.toList → d = o) ∧ Ending.returned (.tuple #[.string t, .bool true]) = Ending.returned (.tuple #[.string ⟨o.toArray⟩, .bool true])) := Lib.hid ⟨o, by rw [← ht]; exact hq, hdone, by rw [hto]⟩
    clear hdone hinv hsl hE hq hto
    go_wp2_with ((go_at_call 110; (with_reducible refine (QC.out _).mono ?_); rintro e1 W1 ⟨rfl, hb1⟩; have hB1 := hB.below hb1; clear hB hcv1; have hB := hB1; clear hB1 hb1; have hcv1 := HCV.out _ hB))
    go_ret2
    exact ⟨.inl hfin.out, hB.kn.below0⟩
   ·obtain ⟨q, hE⟩ : ∃ q : ByteArray, (⟨(quoteB t.data.toList).toArray⟩ : ByteArray) = q := ⟨_, rfl⟩
    have QC : Hid (∀ W, Calls Tryz.prog 110 #[.string t] W fun e w' => e = .returned (.string q) ∧ Below W.heap.size W w') := Lib.hid fun W => by
     have := refQuote_any t htz W
     rw [hE] at this; exact this
    have hqs : q.data.toList ≠ s.data.toList := by rw [← hE]; simpa using hq
    have hne : (q.toList == s.toList) = false := (Lib.bytes_beq_false_iff _ _).2 fun e => hqs (by rw [e])
    have hne2 : (q.toList != s.toList) = true := by unfold bne; rw [hne]; rfl
    have hfin : Hid (∀ d, quoteB d ≠ s.data.toList) := Lib.hid fun d hd => by
     have := hdone d hd
     subst this
     rw [ht] at hq; exact hq hd
    clear hdone hinv hsl hE hq hto hqs
    go_wp2_with ((go_at_call 110; (with_reducible refine (QC.out _).mono ?_); rintro e1 W1 ⟨rfl, hb1⟩; have hB1 := hB.below hb1; clear hB hcv1; have hB := hB1; clear hB1 hb1; have hcv1 := HCV.out _ hB))
    go_ret2
    exact ⟨.inr ⟨hfin.out, rfl⟩, hB.kn.below0⟩
/-- v is a row of the strings l in a world that is w0 but for new memory. -/
def SOwn (w0 w : World) (v : Value) (l : List Bytes) : Prop := Kn [] w0 w [] ∧ w.ownsRow w0.heap.size 9 1 v l.length (strs l)
theorem SOwn.kn {w0 w : World} {v : Value} {l : List Bytes} (h : SOwn w0 w v l) : Kn [] w0 w [] := h.1
theorem SOwn.nil (w : World) : SOwn w w (.slice none 0 0) [] := ⟨Kn.refl [] w, ⟨rfl, .inl ⟨rfl, rfl⟩⟩⟩
theorem SOwn.row {w0 w : World} {v : Value} {l : List Bytes} (h : SOwn w0 w v l) : Row w v (strs l) := row_owns h.2
theorem wpList_apps {w0 W : World} {v : Value} {ops : Array Oper} {rest : List Oper} {o : Oper} {a : Act} {Q : Exit → Act → World → Prop} (hgd : o.guard = none) (s x : Operand)
  (ho : o.op = .call { callee := .builtin .append, args := #[s, x], argTypes := #[35, 35] }) (l : List Bytes) (y : ByteArray) (hb : SOwn w0 W v l) (hs : a.eval s = v)
  (hx : a.eval x = .slice (some ⟨W.heap.size, 0, none⟩) 1 1) {cs : Array Value} (hcs : cs = #[.string y]) (hlen : l.length + 1 ≤ 100000000)
  (h : ∀ v' W', SOwn w0 W' v' (l ++ [y.data.toList]) → wpList Tryz.prog ops Q rest (a.put o.dst v') W') : wpList Tryz.prog ops Q (o :: rest) a (W.alloc (.cells cs 9)) := by
 subst hcs
 obtain ⟨i0, hi, hz0, hz1, hz2⟩ := info_parts infoS
 have hal : Below W.heap.size W (W.alloc (.cells #[.string y] 9)) := (Below.refl _ _).alloc (Nat.le_refl _) _
 refine wpList_append_kn hgd s x _ ho 9 i0 _ Tryz.underlying35 hi hz0 (by rw [hz1]; rfl) (by rw [hz1]; decide) v l.length (strs l) hs (hb.1.below hal) (by rw [hz1]; exact owns_below hb.2 hal) (fun g _ hm => by simp at hm) ⟨W.heap.size, 0, none⟩ 1 1 [.string y] hx (by rw [hz1]; rfl) ?_ ?_ ?_ ?_ ?_
 ·intro j u hu
  rw [Go.WideShapes.add_plain, Nat.zero_add]
  have : (W.alloc (.cells #[.string y] 9)).cell? ⟨W.heap.size, j, none⟩ = #[Value.string y][j]? := World.cell?_alloc_mark W _ _ (0, 0) j
  rw [this]; simpa using hu
 ·intro u hu
  simp at hu; subst hu; rfl
 ·unfold maxLen; omega
 ·rw [hz2]; omega
 ·intro v' W' h1 h2 h3
  rw [hz1] at h2
  refine h v' W' ⟨h1, ?_⟩
  unfold strs at h2 ⊢
  rw [List.length_append, List.map_append]
  have e : (⟨y.data.toList.toArray⟩ : ByteArray) = y := ba_mk y
  simp only [List.map_cons, List.map_nil, e]; exact h2
def lnsGo : Bytes → Bytes → List Bytes
 | cur, [] => if cur = [] then [] else [cur]
 | cur, c :: t => if c = 10 then cur :: lnsGo [] t else lnsGo (cur ++ [c]) t
theorem trim_no {x : Bytes} (h : 10 ∉ x) : trim10 x = x := by
 rcases trim_or x with ⟨h1, h2⟩ | ⟨h1, _⟩
 ·exfalso; apply h; rw [h1]; simp
 ·exact h1
theorem trim_mid (x : Bytes) {t : Bytes} (h : t ≠ []) : trim10 (x ++ 10 :: t) = x ++ 10 :: trim10 t := by
 unfold trim10
 have e : (x ++ 10 :: t).getLast? = t.getLast? := by
  rw [List.getLast?_append, List.getLast?_cons]
  cases t with
  | nil => exact absurd rfl h
  | cons a t => rw [List.getLast?_eq_some_getLast h]; rfl
 rw [e]
 split
 ·rw [List.dropLast_append_of_ne_nil (by simp), List.dropLast_cons_of_ne_nil h]
 ·rfl
theorem lnsGo_is : ∀ (s cur : Bytes), 10 ∉ cur → lnsGo cur s = if cur ++ s = [] then [] else split10 (trim10 (cur ++ s))
 | [], cur, h => by
  rw [lnsGo, List.append_nil, trim_no h, split_last cur h]
 | c :: t, cur, h => by
  rw [lnsGo, if_neg (show ¬ (cur ++ c :: t = []) by simp)]
  by_cases hc : c = 10
  ·subst hc
   rw [if_pos rfl, lnsGo_is t [] (by simp), List.nil_append]
   split
   ·rename_i ht; subst ht
    rw [trim_snoc, split_last cur h]
   ·rename_i ht
    rw [trim_mid cur ht, split_line _ _ h]
  ·rw [if_neg hc, lnsGo_is t (cur ++ [c]) (by intro hm; rcases List.mem_append.1 hm with hm | hm; exact h hm; simp at hm; exact hc hm.symm)]
   rw [if_neg (by simp)]
   simp
theorem lnsGo_lns (s : Bytes) : lnsGo [] s = lns s := by rw [lnsGo_is s [] (by simp)]; rfl
theorem refLines_any (s : ByteArray) (hs : s.size ≤ 1000000) (w : World) : Calls Tryz.prog 43 #[.string s] w fun e w' => ∃ v, e = .returned v ∧ Row w' v (strs (lns s.data.toList)) ∧ Below w.heap.size w w' := by
 have hB := SOwn.nil w
 obtain ⟨L, hL0⟩ : ∃ L, lns s.data.toList = L := ⟨_, rfl⟩
 rw [hL0]
 have HL := Lib.hid hL0
 clear hL0
 have hsl := szl s
 go_enter Tryz.func43, Tryz.ntmps43
 go_wp2
 go_loopw [3, 4, 5] (fun o f i wr => ∃ (k fr : Nat) (done : List Bytes) (v : Value), fr ≤ k ∧ k ≤ s.size ∧ done.length ≤ k ∧ i = .int .i64 k ∧ f = .int .i64 fr ∧ o = v ∧ SOwn w wr v done ∧ Hid (done ++ lnsGo ((s.data.toList.take k).drop fr) (s.data.toList.drop k) = L)) (fun _ _ i _ => s.size - (intOf i).toNat)
 case atStart => exact ⟨0, 0, [], _, by omega, by omega, by simp, rfl, rfl, rfl, hB, Lib.hid (by rw [← HL.out]; exact lnsGo_lns _)⟩
 case round =>
  obtain ⟨k, fr, done, v, hfk, hk, hdl, rfl, rfl, rfl, hB1, hin⟩ := hrel
  clear hB
  have hB := hB1
  clear hB1
  by_cases hlt : k < s.size
  ·obtain ⟨c, hck⟩ : ∃ c, s.data.toList[k]? = some c := ⟨_, List.getElem?_eq_getElem (by rw [szl]; omega)⟩
   have eb := byte_at hck hlt
   have hi0 := hin.out
   have hd0 : s.data.toList.drop k = c :: s.data.toList.drop (k + 1) := by
    obtain ⟨h1, h2⟩ := List.getElem?_eq_some_iff.1 hck
    rw [List.drop_eq_getElem_cons h1, h2]
   rw [hd0, lnsGo] at hi0
   by_cases hc : c = 10
   ·subst hc
    rw [if_pos rfl] at hi0
    obtain ⟨u, hu⟩ : ∃ u, s.extract fr k = u := ⟨_, rfl⟩
    have hul : u.data.toList = (s.data.toList.take k).drop fr := by rw [← hu, ext_list]
    have hv2 : Hid ((done ++ [u.data.toList]) ++ lnsGo ((s.data.toList.take (k + 1)).drop (k + 1)) (s.data.toList.drop (k + 1)) = L) := Lib.hid (by
     rw [← hi0, hul, List.drop_eq_nil_of_le (show (s.data.toList.take (k + 1)).length ≤ k + 1 by rw [List.length_take]; omega)]; simp)
    clear hi0 hd0 hck hul hin
    go_wp2_with ((at_builtin; (first | (refine wpList_apps rfl _ _ rfl _ (u) hB rfl rfl rfl (by omega) ?_)); intro v2 W2 hB2; clear hB; have hB := hB2; clear hB2))
    go_roundw
    case rel => exact ⟨k + 1, k + 1, done ++ [u.data.toList], _, by omega, by omega, by simp; omega, by go_num, by go_num, rfl, hB, hv2⟩
    case measure => simp [intOf]; omega
   ·rw [if_neg hc] at hi0
    have f10 : ((c.toNat : Int) == 10) = false := beq_false_of_ne fun h => hc (UInt8.toNat_inj.1 (show c.toNat = 10 by omega))
    have hv2 : Hid (done ++ lnsGo ((s.data.toList.take (k + 1)).drop fr) (s.data.toList.drop (k + 1)) = L) := Lib.hid (by
     rw [← hi0, List.take_add_one, hck, List.drop_append_of_le_length (by rw [List.length_take]; omega)]; rfl)
    clear hi0 hd0 hck hc hin
    go_wp2
    go_roundw
    case rel => exact ⟨k + 1, fr, done, _, by omega, by omega, by omega, by go_num, rfl, rfl, hB, hv2⟩
    case measure => simp [intOf]; omega
  ·obtain rfl : k = s.size := by omega
   have hi0 := hin.out
   rw [List.drop_eq_nil_of_le (show s.data.toList.length ≤ s.size by omega), lnsGo, List.take_of_length_le (by omega)] at hi0
   by_cases hfl : fr < s.size
   ·obtain ⟨u, hu⟩ : ∃ u, s.extract fr s.size = u := ⟨_, rfl⟩
    have hul : u.data.toList = s.data.toList.drop fr := by rw [← hu, ext_list, List.take_of_length_le (by omega)]
    have hfin : Hid (done ++ [u.data.toList] = L) := Lib.hid (by
     rw [← hi0, if_neg (fun e => by have := congrArg List.length e; rw [List.length_drop] at this; simp only [List.length_nil] at this; omega), hul])
    clear hi0 hul hin
    go_wp2_with ((at_builtin; (first | (refine wpList_apps rfl _ _ rfl _ (u) hB rfl rfl rfl (by omega) ?_)); intro v2 W2 hB2; clear hB; have hB := hB2; clear hB2))
    refine bodyPost_ret (by simp [results, Tryz.results43, go_sem, *]; try rfl) rfl ?_
    exact ⟨_, rfl, by rw [← hfin.out]; exact hB.row, hB.kn.below0⟩
   ·have hfin : Hid (done = L) := Lib.hid (by
     rw [← hi0, if_pos (List.drop_eq_nil_of_le (by omega))]; simp)
    clear hi0 hin
    go_wp2
    refine bodyPost_ret (by simp [results, Tryz.results43, go_sem, *]; try rfl) rfl ?_
    exact ⟨_, rfl, by rw [← hfin.out]; exact hB.row, hB.kn.below0⟩
theorem refDecimal_S (n : Int) (h : -9223372036854775808 ≤ n ∧ n ≤ 9223372036854775807) (w : World) : Calls Tryz.prog 55 #[.int .i64 n] w fun e w' => e = .returned (.string (numS n)) ∧ Below w.heap.size w w' := refDecimal_any n h w
theorem strR_ne {s t : ByteArray} (h : s.data.toList ≠ t.data.toList) : (s.toList == t.toList) = false := (Lib.bytes_beq_false_iff _ _).2 fun e => h (by rw [e])
theorem dec_len : ∀ (n k : Nat), 1 ≤ n → k < 10 ^ n → (Lib.decDigits k).length ≤ n
 | 0, k, h, _ => by omega
 | n + 1, k, _, hk => by
  by_cases h10 : k < 10
  ·rw [Lib.decDigits, dif_pos h10]; simp
  ·rw [digits_step k (by omega), List.length_append]
   have h1 : (Lib.decDigits (k % 10)).length = 1 := by rw [Lib.decDigits, dif_pos (by omega)]; rfl
   have h2 : k / 10 < 10 ^ n := by rw [Nat.pow_succ] at hk; omega
   have hn : 1 ≤ n := by
    rcases Nat.eq_zero_or_pos n with h | h
    ·subst h; simp at h2; omega
    ·exact h
   have := dec_len n (k / 10) hn h2
   omega
theorem itoa_20 (m : Int) (h0 : -9223372036854775808 ≤ m) (h1 : m ≤ 9223372036854775807) : 1 ≤ (Lib.itoa m).length ∧ (Lib.itoa m).length ≤ 20 := by
 have h2 := dec_len 19 m.natAbs (by omega) (by omega)
 have h3 : (Lib.decDigits m.natAbs) ≠ [] := digits_ne _
 have h4 := List.length_pos_iff.2 h3
 unfold Lib.itoa
 split
 ·rw [List.length_cons]; omega
 ·have : m.toNat = m.natAbs := by omega
  rw [this]; omega
def stripM (l : Bytes) : Bytes := if l.head? = some 45 then l.drop 1 else l
theorem strip_snoc (l : Bytes) (c : UInt8) (h : l ≠ [] ∨ c ≠ 45) : stripM (l ++ [c]) = stripM l ++ [c] := by
 cases l with
 | nil =>
  have hc : c ≠ 45 := by rcases h with h | h; exact absurd rfl h; exact h
  unfold stripM
  simp [hc]
 | cons a l =>
  unfold stripM
  simp only [List.cons_append, List.head?_cons]
  by_cases h45 : a = 45
  ·subst h45; simp
  ·simp [h45]
def finalN (s : Bytes) : Int := if s.head? = some 45 then wrap64 (-(val (stripM s) : Int)) else wrap64 (-(wrap64 (-(val (stripM s) : Int))))
theorem final_itoa {m : Int} (h0 : -9223372036854775808 ≤ m) (h1 : m ≤ 9223372036854775807) : finalN (Lib.itoa m) = m := by
 have hd : ∀ k, (Lib.decDigits k).head? ≠ some 45 := fun k e => by
  have hm : (45 : UInt8) ∈ Lib.decDigits k := List.mem_of_head? e
  have := digits_in k 45 hm
  have e45 : (45 : UInt8).toNat = 45 := rfl
  omega
 unfold finalN stripM Lib.itoa
 by_cases hm : m < 0
 ·rw [if_pos hm]
  simp only [List.head?_cons, if_true, List.drop_succ_cons, List.drop_zero]
  rw [val_digits]
  unfold wrap64; omega
 ·rw [if_neg hm, if_neg (hd _), if_neg (hd _), val_digits]
  unfold wrap64; omega
theorem itoa_chars {m : Int} {k : Nat} {c : UInt8} (h : (Lib.itoa m)[k]? = some c) : (k = 0 ∧ c = 45) ∨ (48 ≤ c.toNat ∧ c.toNat ≤ 57) := by
 unfold Lib.itoa at h
 split at h
 ·cases k with
  | zero => left; simp at h; exact ⟨rfl, h.symm⟩
  | succ k => right; exact digits_in _ c (List.mem_of_getElem? (by simpa using h))
 ·right; exact digits_in _ c (List.mem_of_getElem? h)
def IntPost (s : ByteArray) (w : World) (e : Ending) (w' : World) : Prop := e = (match canon s.data.toList with | some m => Ending.returned (.tuple #[.int .i64 m, .bool true]) | none => Ending.returned (.tuple #[.int .i64 0, .bool false])) ∧ Below w.heap.size w w'
theorem int_no {s : ByteArray} {w w' : World} (h : ∀ m, canon s.data.toList ≠ some m) (hb : Below w.heap.size w w') : IntPost s w (.returned (.tuple #[.int .i64 0, .bool false])) w' := by
 unfold IntPost
 cases hc : canon s.data.toList with
 | some m => exact absurd hc (h m)
 | none => exact ⟨rfl, hb⟩
theorem int_yes {s : ByteArray} {w w' : World} {m : Int} (h : canon s.data.toList = some m) (hb : Below w.heap.size w w') : IntPost s w (.returned (.tuple #[.int .i64 m, .bool true])) w' := by
 unfold IntPost; rw [h]; exact ⟨rfl, hb⟩
theorem refInt_is (s : ByteArray) (hs : s.size ≤ 1000000) (w : World) : Calls Tryz.prog 111 #[.string s] w (IntPost s w) := by
 have hsl := szl s
 have hcan : Hid (∀ m, canon s.data.toList = some m → Lib.itoa m = s.data.toList ∧ -9223372036854775808 ≤ m ∧ m ≤ 9223372036854775807) := Lib.hid fun m h => canon_some h
 by_cases h0 : s.size = 0
 ·have hno : Hid (∀ m, canon s.data.toList ≠ some m) := Lib.hid fun m h => by
   obtain ⟨h1, h2, h3⟩ := hcan.out m h
   have := itoa_20 m h2 h3
   rw [h1] at this; omega
  have h0i : ((s.size : Int) == 0) = true := by rw [h0]; rfl
  have hL : Kn [] w w [] := Kn.refl [] w; have hF := hL.fx; go_enter Tryz.func111, Tryz.ntmps111
  go_wp2
  go_ret2
  exact int_no hno.out hL.below0
 have h0i : ((s.size : Int) == 0) = false := beq_false_of_ne (by omega)
 by_cases h20 : (s.size : Int) > 20
 ·have hno : Hid (∀ m, canon s.data.toList ≠ some m) := Lib.hid fun m h => by
   obtain ⟨h1, h2, h3⟩ := hcan.out m h
   have := itoa_20 m h2 h3
   rw [h1] at this; omega
  have hL : Kn [] w w [] := Kn.refl [] w; have hF := hL.fx; go_enter Tryz.func111, Tryz.ntmps111
  go_wp2
  go_ret2
  exact int_no hno.out hL.below0
 obtain ⟨c0, hc0⟩ : ∃ c, s.data.toList[0]? = some c := ⟨_, List.getElem?_eq_getElem (by omega)⟩
 have hs0 : 0 < s.size := by omega
 have eb0 := byte_at hc0 hs0
 have hhd : s.data.toList.head? = some c0 := by rw [List.head?_eq_getElem?]; exact hc0
 have HHD := Lib.hid hhd
 have HC0 := Lib.hid hc0
 clear hhd hc0
 have hL : Kn [] w w [] := Kn.refl [] w; have hF := hL.fx; go_enter Tryz.func111, Tryz.ntmps111
 go_wp2
 go_loopw [4, 5] (fun n i wr => ∃ (k : Nat) (z : Int), k ≤ s.size ∧ i = .int .i64 k ∧ n = .int .i64 z ∧ -9223372036854775808 ≤ z ∧ z ≤ 9223372036854775807 ∧ Kn [] w wr [] ∧ Hid (z = wrap64 (-(val (stripM (s.data.toList.take k)) : Int)))) (fun _ i _ => s.size - (intOf i).toNat)
 case atStart => exact ⟨0, 0, by omega, rfl, rfl, by omega, by omega, hL, Lib.hid (by simp [stripM, val, wrap64])⟩
 case round =>
  obtain ⟨k, z, hk, rfl, rfl, hz0, hz1, hK, hz⟩ := hrel
  clear hL hF
  have hL := hK
  clear hK
  have hF := hL.fx
  by_cases hlt : k < s.size
  ·obtain ⟨c, hck⟩ : ∃ c, s.data.toList[k]? = some c := ⟨_, List.getElem?_eq_getElem (by omega)⟩
   have eb := byte_at hck hlt
   have htk : s.data.toList.take (k + 1) = s.data.toList.take k ++ [c] := by rw [List.take_add_one, hck]; rfl
   by_cases hsg : k = 0 ∧ c0 = 45
   ·obtain ⟨rfl, rfl⟩ := hsg
    have hc45 : c = 45 := by rw [HC0.out] at hck; injection hck with h; exact h.symm
    have hz2 : Hid (z = wrap64 (-(val (stripM (s.data.toList.take 1)) : Int))) := Lib.hid (by rw [hz.out, htk, hc45]; rfl)
    clear htk hck
    go_wp2
    go_roundw
    case rel => exact ⟨0 + 1, z, by omega, by go_num, rfl, by omega, by omega, hL, hz2⟩
    case measure => simp [intOf]; omega
   ·have hsn : stripM (s.data.toList.take (k + 1)) = stripM (s.data.toList.take k) ++ [c] := by
     rw [htk]
     refine strip_snoc _ _ ?_
     by_cases hk0 : k = 0
     ·right; rintro rfl
      subst hk0
      rw [HC0.out] at hck; injection hck with h
      exact hsg ⟨rfl, h⟩
     ·left; intro e
      have := congrArg List.length e
      rw [List.length_take] at this
      simp only [List.length_nil] at this; omega
    have hgd : ((k : Int) == 0) = false ∨ (k = 0 ∧ c = c0 ∧ ((c0.toNat : Int) == 45) = false) := by
     by_cases hk0 : k = 0
     ·right; exact ⟨hk0, by subst hk0; rw [HC0.out] at hck; injection hck with h; exact h.symm, beq_false_of_ne fun h => hsg ⟨hk0, UInt8.toNat_inj.1 (show c0.toNat = 45 by omega)⟩⟩
     ·left; exact beq_false_of_ne (by omega)
    by_cases hdg : 48 ≤ (c.toNat : Int) ∧ (c.toNat : Int) ≤ 57
    ·obtain ⟨hd1, hd2⟩ := hdg
     obtain ⟨z2, hz2⟩ : ∃ z2 : Int, wrap64 (wrap64 (z * 10) - ((c.toNat : Int) - 48)) = z2 := ⟨_, rfl⟩
     have hzn : Hid (z2 = wrap64 (-(val (stripM (s.data.toList.take (k + 1))) : Int))) := Lib.hid (by
      rw [hsn, val_snoc, ← hz2, hz.out]
      have e : (((val (stripM (s.data.toList.take k)) * 10 + (c.toNat - 48) : Nat)) : Int) = (val (stripM (s.data.toList.take k)) : Int) * 10 + ((c.toNat : Int) - 48) := by omega
      rw [e]
      generalize (val (stripM (s.data.toList.take k)) : Int) = q
      unfold wrap64; omega)
     have hzr : -9223372036854775808 ≤ z2 ∧ z2 ≤ 9223372036854775807 := by rw [← hz2]; unfold wrap64; omega
     clear hsn htk hck hsg
     rcases hgd with hgd | ⟨rfl, rfl, hgd⟩
     all_goals
      go_wp2
      go_roundw
      case rel => exact ⟨_, z2, by omega, by go_num, by (rw [← hz2]), by omega, by omega, hL, hzn⟩
      case measure => simp [intOf]; omega
    ·have hno : Hid (∀ m, canon s.data.toList ≠ some m) := Lib.hid fun m h => by
      obtain ⟨h1, h2, h3⟩ := hcan.out m h
      rw [← h1] at hck
      rcases itoa_chars hck with ⟨h4, h5⟩ | ⟨h4, h5⟩
      ·subst h4
       rw [h1, HC0.out] at hck
       injection hck with h6
       exact hsg ⟨rfl, by rw [h6, h5]⟩
      ·exact hdg ⟨by omega, by omega⟩
     clear hsn htk hck hsg
     rcases hgd with hgd | ⟨rfl, rfl, hgd⟩
     all_goals
      by_cases hd1 : (c.toNat : Int) < 48
      ·go_wp2
       go_ret2
       exact int_no hno.out hL.below0
      ·have hd2 : (c.toNat : Int) > 57 := by omega
       go_wp2
       go_ret2
       exact int_no hno.out hL.below0
  ·obtain rfl : k = s.size := by omega
   obtain ⟨m, hm⟩ : ∃ m, finalN s.data.toList = m := ⟨_, rfl⟩
   have hzs : z = wrap64 (-(val (stripM s.data.toList) : Int)) := by rw [hz.out, List.take_of_length_le (by omega)]
   have hmr : -9223372036854775808 ≤ m ∧ m ≤ 9223372036854775807 := by
    rw [← hm]; unfold finalN
    split <;> (unfold wrap64; omega)
   have hmz : (c0 = 45 → m = z) ∧ (c0 ≠ 45 → m = wrap64 (-z)) := by
    rw [← hm]
    unfold finalN
    rw [HHD.out, hzs]
    constructor
    ·intro h; rw [h, if_pos rfl]
    ·intro h; rw [if_neg (by simpa using h)]
   have DEC := Lib.hid (fun W => refDecimal_S m hmr W)
   obtain ⟨q, hq⟩ : ∃ q, numS m = q := ⟨_, rfl⟩
   rw [hq] at DEC
   have hql : q.data.toList = Lib.itoa m := by rw [← hq]; rfl
   by_cases heq : q = s
   ·subst heq
    have hyes := Lib.hid (show canon q.data.toList = some m by rw [hql]; exact canon_itoa hmr.1 hmr.2)
    have hqq : (q.toList == q.toList) = true := beq_self_eq_true _
    clear hm hzs hq hql hz
    by_cases h45 : c0 = 45
    ·have e1 := hmz.1 h45
     subst e1
     subst h45
     clear hmz
     go_wp2_with ((go_at_call 55; refine kc (fun W hL => DEC.out _) ?_; clear hF hL; intro W hL hF))
     go_ret2
     exact int_yes hyes.out hL.below0
    ·have e1 := hmz.2 h45
     have f45 : ((c0.toNat : Int) != 45) = true := by
      unfold bne
      rw [beq_false_of_ne fun h => h45 (UInt8.toNat_inj.1 (show c0.toNat = 45 by omega))]; rfl
     have e2 : wrap64 (-z) = m := e1.symm
     clear hmz e1 h45
     go_wp2_with ((go_at_call 55; refine kc (fun W hL => DEC.out _) ?_; clear hF hL; intro W hL hF))
     go_ret2
     exact int_yes hyes.out hL.below0
   ·have hne : (q.toList == s.toList) = false := strR_ne fun e => heq (ba_ext e)
    have hne2 : (q.toList != s.toList) = true := by unfold bne; rw [hne]; rfl
    have hno : Hid (∀ j, canon s.data.toList ≠ some j) := Lib.hid fun j h => by
     obtain ⟨h1, h2, h3⟩ := hcan.out j h
     have h4 := final_itoa h2 h3
     rw [h1, hm] at h4
     subst h4
     exact heq (ba_ext (by rw [hql, h1]))
    clear hm hzs hq hql hz heq
    by_cases h45 : c0 = 45
    ·have e1 := hmz.1 h45
     subst e1
     subst h45
     clear hmz
     go_wp2_with ((go_at_call 55; refine kc (fun W hL => DEC.out _) ?_; clear hF hL; intro W hL hF))
     go_ret2
     exact int_no hno.out hL.below0
    ·have e1 := hmz.2 h45
     have f45 : ((c0.toNat : Int) != 45) = true := by
      unfold bne
      rw [beq_false_of_ne fun h => h45 (UInt8.toNat_inj.1 (show c0.toNat = 45 by omega))]; rfl
     have e2 : wrap64 (-z) = m := e1.symm
     clear hmz e1 h45
     go_wp2_with ((go_at_call 55; refine kc (fun W hL => DEC.out _) ?_; clear hF hL; intro W hL hF))
     go_ret2
     exact int_no hno.out hL.below0
theorem refNum_some (s : ByteArray) (hs : s.size ≤ 900000) (n : Int) (hc : canon s.data.toList = some n) (w : World) : Calls Tryz.prog 74 #[.string s] w fun e w' => e = .returned (.tuple #[.int .i64 n, .bool true]) ∧ Below w.heap.size w w' := by
 have HRI := Lib.hid (fun W => refInt_is s (by omega) W)
 unfold IntPost at HRI
 rw [hc] at HRI
 simp only at HRI
 have hL : Kn [] w w [] := Kn.refl [] w; have hF := hL.fx; go_enter Tryz.func74, Tryz.ntmps74
 go_wp2_with (first | ((with_reducible refine ks ?_); clear hL; intro W hL hF) | (go_at_call 111; refine kG ?_; clear hF hL; intro W hL hF; (((first | (with_reducible refine (HRI.out _).mono ?_)))); rintro e W ⟨rfl, hb⟩; replace hL := hL.below hb; clear hb hF; have hF := hL.fx))
 refine bodyPost_ret (by simp [results, Tryz.results74, go_sem, *]; try rfl) rfl ?_
 exact ⟨rfl, hL.below0⟩
theorem refNum_none (s : ByteArray) (hs : s.size ≤ 900000) (hc : canon s.data.toList = none) (w : World) : Calls Tryz.prog 74 #[.string s] w fun e w' => e = .returned (.tuple #[.int .i64 0, .bool false]) ∧ Below w.heap.size w w' := by
 have HRI := Lib.hid (fun W => refInt_is s (by omega) W)
 unfold IntPost at HRI
 rw [hc] at HRI
 simp only at HRI
 have hL : Kn [] w w [] := Kn.refl [] w; have hF := hL.fx; go_enter Tryz.func74, Tryz.ntmps74
 go_wp2_with (first | ((with_reducible refine ks ?_); clear hL; intro W hL hF) | (go_at_call 111; refine kG ?_; clear hF hL; intro W hL hF; (((first | (with_reducible refine (HRI.out _).mono ?_)))); rintro e W ⟨rfl, hb⟩; replace hL := hL.below hb; clear hb hF; have hF := hL.fx))
 refine bodyPost_ret (by simp [results, Tryz.results74, go_sem, *]; try rfl) rfl ?_
 exact ⟨rfl, hL.below0⟩
/-- What the reference returns beside false. -/
def regV (s : Bytes) : Int := match s with
 | [_, d] => (d.toNat : Int) - 48
 | _ => 0
def RegR (s : Bytes) (w : World) (e : Ending) (w' : World) : Prop := e = (match register s with
 | .ok n => Ending.returned (.tuple #[.int .i64 n, .bool true])
 | .bad _ => Ending.returned (.tuple #[.int .i64 (regV s), .bool false])) ∧ Below w.heap.size w w'
theorem refReg_is (s : ByteArray) (hs : s.size ≤ 900000) (w : World) : Calls Tryz.prog 78 #[.string s] w (RegR s.data.toList w) := by
 by_cases h2 : s.size = 2
 ·obtain ⟨c0, hc0⟩ : ∃ c, s.data.toList[0]? = some c := ⟨_, List.getElem?_eq_getElem (by rw [szl]; omega)⟩
  have eb0 := byte_at hc0 (by omega)
  obtain ⟨c1, hc1⟩ : ∃ c, s.data.toList[1]? = some c := ⟨_, List.getElem?_eq_getElem (by rw [szl]; omega)⟩
  have eb1 := byte_at hc1 (by omega)
  have hl : s.data.toList = [c0, c1] := by
   have h := szl s
   rw [h2] at h
   match hsl : s.data.toList, h with
   | [a, b], _ => rw [hsl] at hc0 hc1; simp at hc0 hc1; rw [hc0, hc1]
  have hv : regV s.data.toList = (c1.toNat : Int) - 48 := by rw [hl]; rfl
  unfold RegR
  rw [hv]
  have hb1 := c1.toNat_lt
  have hw : wrap64 ((c1.toNat : Int)) = (c1.toNat : Int) := IntWalk.wrap64_in _ (by omega)
  have hw2 : wrap64 ((c1.toNat : Int) - 48) = (c1.toNat : Int) - 48 := IntWalk.wrap64_in _ (by omega)
  by_cases h114 : c0 = 114
  ·subst h114
   have hr : register s.data.toList = if 48 ≤ c1.toNat ∧ c1.toNat ≤ 55 then .ok ((c1.toNat : Int) - 48) else .bad 2 := by rw [hl]; rfl
   rw [hr]
   clear hr hl hc0 hc1 hv
   by_cases h48 : 48 ≤ c1.toNat
   ·have q0 : decide ((48 : Int) ≤ (c1.toNat : Int)) = true := decide_eq_true (by omega)
    have p0 : decide (48 ≤ c1.toNat) = true := decide_eq_true h48
    by_cases h55 : c1.toNat ≤ 55
    ·have q1 : decide ((c1.toNat : Int) ≤ 55) = true := decide_eq_true (by omega)
     have p1 : decide (c1.toNat ≤ 55) = true := decide_eq_true h55
     rw [if_pos ⟨h48, h55⟩]
     have hL : Kn [] w w [] := Kn.refl [] w; have hF := hL.fx; go_enter Tryz.func78, Tryz.ntmps78
     go_wp2_with ((with_reducible refine at_region 3 ?_); refine kW [0, 1, 2, 3, 4, 5, 6, 7, 8, 9, 10, 11, 12, 13, 14, 15, 16, 17, 18] [0, 1, 2, 3, 4, 5, 6, 7, 8, 9, 10, 11, 12, 13, 14, 15, 16, 17, 18] [] [0, 1, 3, 4, 5, 6, 7, 8, 9, 10, 11, 12, 13, 14, 15, 16, 17, 18] ?_; clear hF hL; intro ι F hne hC hG; (repeat (first | (refine cF hC ?_; intro K hK; go_big_quiet_op; go_big_quiet_on) | (refine cP ?_; intro K hK; go_big_quiet_op; go_big_quiet_on))); refine cwk_nil ?_; clear hC hG; intro W hL; have hF := hL.fx)
     refine bodyPost_ret (by simp [results, Tryz.results78, go_sem, *]; try rfl) rfl ?_
     exact ⟨rfl, hL.below0⟩
    ·have q1 : decide ((c1.toNat : Int) ≤ 55) = false := decide_eq_false (by omega)
     have p1 : decide (c1.toNat ≤ 55) = false := decide_eq_false h55
     rw [if_neg (fun h => h55 h.2)]
     have hL : Kn [] w w [] := Kn.refl [] w; have hF := hL.fx; go_enter Tryz.func78, Tryz.ntmps78
     go_wp2_with ((with_reducible refine at_region 3 ?_); refine kW [0, 1, 2, 3, 4, 5, 6, 7, 8, 9, 10, 11, 12, 13, 14, 15, 16, 17, 18] [0, 1, 2, 3, 4, 5, 6, 7, 8, 9, 10, 11, 12, 13, 14, 15, 16, 17, 18] [] [0, 1, 3, 4, 5, 6, 7, 8, 9, 10, 11, 12, 13, 14, 15, 16, 17, 18] ?_; clear hF hL; intro ι F hne hC hG; (repeat (first | (refine cF hC ?_; intro K hK; go_big_quiet_op; go_big_quiet_on) | (refine cP ?_; intro K hK; go_big_quiet_op; go_big_quiet_on))); refine cwk_nil ?_; clear hC hG; intro W hL; have hF := hL.fx)
     refine bodyPost_ret (by simp [results, Tryz.results78, go_sem, *]; try rfl) rfl ?_
     exact ⟨rfl, hL.below0⟩
   ·have q0 : decide ((48 : Int) ≤ (c1.toNat : Int)) = false := decide_eq_false (by omega)
    have p0 : decide (48 ≤ c1.toNat) = false := decide_eq_false h48
    rw [if_neg (fun h => h48 h.1)]
    have hL : Kn [] w w [] := Kn.refl [] w; have hF := hL.fx; go_enter Tryz.func78, Tryz.ntmps78
    go_wp2_with ((with_reducible refine at_region 3 ?_); refine kW [0, 1, 2, 3, 4, 5, 6, 7, 8, 9, 10, 11, 12, 13, 14, 15, 16, 17, 18] [0, 1, 2, 3, 4, 5, 6, 7, 8, 9, 10, 11, 12, 13, 14, 15, 16, 17, 18] [] [0, 1, 3, 4, 5, 6, 7, 8, 9, 10, 11, 12, 13, 14, 15, 16, 17, 18] ?_; clear hF hL; intro ι F hne hC hG; (repeat (first | (refine cS ?_; simp only [Act.put, kT]) | (refine cF hC ?_; intro K hK; go_big_quiet_op; go_big_quiet_on) | (refine cP ?_; intro K hK; go_big_quiet_op; go_big_quiet_on))); refine cwk_nil ?_; clear hC hG; intro W hL; have hF := hL.fx)
    refine bodyPost_ret (by simp [results, Tryz.results78, go_sem, *]; try rfl) rfl ?_
    exact ⟨rfl, hL.below0⟩
  ·have f114 : ((c0.toNat : Int) == 114) = false := beq_false_of_ne (fun h => h114 (UInt8.toNat_inj.1 (show c0.toNat = 114 by omega)))
   have hr : register s.data.toList = .bad 2 := by
    rw [hl]; unfold register
    split
    ·rename_i h; cases h; exact absurd rfl h114
    ·rfl
   rw [hr]
   clear hr hl hc0 hc1 hv
   have hL : Kn [] w w [] := Kn.refl [] w; have hF := hL.fx; go_enter Tryz.func78, Tryz.ntmps78
   go_wp2_with ((with_reducible refine at_region 3 ?_); refine kW [0, 1, 2, 3, 4, 5, 6, 7, 8, 9, 10, 11, 12, 13, 14, 15, 16, 17, 18] [0, 1, 2, 3, 4, 5, 6, 7, 8, 9, 10, 11, 12, 13, 14, 15, 16, 17, 18] [] [0, 1, 3, 4, 5, 6, 7, 8, 9, 10, 11, 12, 13, 14, 15, 16, 17, 18] ?_; clear hF hL; intro ι F hne hC hG; (repeat (first | (refine cS ?_; simp only [Act.put, kT]) | (refine cF hC ?_; intro K hK; go_big_quiet_op; go_big_quiet_on) | (refine cP ?_; intro K hK; go_big_quiet_op; go_big_quiet_on))); refine cwk_nil ?_; clear hC hG; intro W hL; have hF := hL.fx)
   refine bodyPost_ret (by simp [results, Tryz.results78, go_sem, *]; try rfl) rfl ?_
   exact ⟨rfl, hL.below0⟩
 ·have hr : register s.data.toList = .bad 2 := by
   unfold register
   split
   ·rename_i d h; exact absurd (by rw [← szl, h]; rfl) h2
   ·rfl
  have hv : regV s.data.toList = 0 := by
   unfold regV
   split
   ·rename_i x d h; exact absurd (by rw [← szl, h]; rfl) h2
   ·rfl
  unfold RegR
  rw [hr, hv]
  clear hv
  have q0 : ((s.size : Int) != 2) = true := bne_iff_ne.2 (by omega)
  clear hr
  have hL : Kn [] w w [] := Kn.refl [] w; have hF := hL.fx; go_enter Tryz.func78, Tryz.ntmps78
  go_wp2
  refine bodyPost_ret (by simp [results, Tryz.results78, go_sem, *]; try rfl) rfl ?_
  exact ⟨rfl, hL.below0⟩
theorem refMany_is (f : Nat) (h : f ≤ 6) (n : Int) (hn : (f : Int) = n) (w : World) : Calls Tryz.prog 76 #[.int .i64 n] w fun e w' => e = .returned (.int .i64 (many f : Nat)) ∧ w = w' := by
 have : f = 0 ∨ f = 1 ∨ f = 2 ∨ f = 3 ∨ f = 4 ∨ f = 5 ∨ f = 6 := by omega
 rcases this with rfl | rfl | rfl | rfl | rfl | rfl | rfl <;> (obtain rfl := hn.symm; go_enter Tryz.func76, Tryz.ntmps76; go_wp2; refine bodyPost_ret (by simp [results, Tryz.results76, go_sem, *]; try rfl) rfl ?_; exact ⟨rfl, rfl⟩)
def labB (op : Int) : Bool := op == 25 || op == 26 || op == 27 || op == 28 || op == 30 || op == 2
theorem refLab_is (op : Int) (b : Bool) (hb : labB op = b) (w : World) : Calls Tryz.prog 112 #[.int .i64 op] w fun e w' => e = .returned (.bool b) ∧ w = w' := by
 unfold labB at hb
 subst hb
 go_enter Tryz.func112, Tryz.ntmps112
 cases h1 : op == 25 <;> cases h2 : op == 26 <;> cases h3 : op == 27 <;> cases h4 : op == 28 <;> cases h5 : op == 30 <;> cases h6 : op == 2 <;> (go_wp2; refine bodyPost_ret (by simp [results, Tryz.results112, go_sem, *]; try rfl) rfl ?_; exact ⟨rfl, rfl⟩)
end Go.Proofs.YtfdlifhkeicnnaaGreatDoor
