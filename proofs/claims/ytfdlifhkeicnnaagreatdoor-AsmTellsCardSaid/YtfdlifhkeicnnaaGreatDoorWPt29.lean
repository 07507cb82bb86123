/- Lemmas and walks for the law LawTells (part 29). -/
import Derived.Test.YtfdlifhkeicnnaaGreatDoorWPt28
import Derived.Test.YtfdlifhkeicnnaaGreatDoorProg
import Derived.WalkKit
import Derived.Handy
import Derived.Deep.Light
import Derived.WalkSmall
import Derived.StillTailTactics
import Derived.Lib.Hide
import Derived.Laws.BytesArg
import Derived.Lib.ItoaLen
import Derived.Lib.ItoaMem
import Derived.Lib.ItoaNum
import Derived.Shelf.Vars
import Derived.Lib.LaidIn
set_option maxRecDepth 20000
set_option maxHeartbeats 4000000
set_option linter.unusedVariables false
set_option linter.unusedSimpArgs false
namespace Go.Proofs.YtfdlifhkeicnnaaGreatDoor
open Go Go.RowKit
theorem refEncode_any (op a b c : Int) (w : World) :
  Calls Tryz.prog 80 #[.agg #[.int .i64 op, .int .i64 a, .int .i64 b, .int .i64 c]] w fun e w' => e = .returned (.string (encS op a b c)) ∧ Below w.heap.size w w' := by
 have hcv := @conv4
 cases hv : valid op a b c
 ·have hL : Kn [] w w [] := Kn.refl [] w; have hF := hL.fx; go_enter Tryz.func80, Tryz.ntmps80
  go_wp2_with ((go_at_call 79; refine kc (fun W hL => refValid_any _ _ _ _ _) ?_; clear hF hL; intro W hL hF))
  refine bodyPost_ret (by simp [results, Tryz.results80, go_sem, *]; try rfl) rfl ?_
  exact ⟨by rw [encS, if_neg (by rw [hv]; simp)], kn_here.below0⟩
 ·cases h5 : (form op == 5)
  ·cases h6 : (form op == 6)
   ·have hn : numB op = false := by unfold numB; rw [h5, h6]; rfl
    have hL : Kn [] w w [] := Kn.refl [] w; have hF := hL.fx; go_enter Tryz.func80, Tryz.ntmps80
    go_wp2_with (first | (go_at_call 79; refine kc (fun W hL => refValid_any _ _ _ _ _) ?_; clear hF hL; intro W hL hF) | (go_at_call 75; (with_reducible refine (refForm_any _ _).mono ?_); rintro e w' ⟨rfl, rfl⟩))
    refine bodyPost_ret (by simp [results, Tryz.results80, go_sem, *]; try rfl) rfl ?_
    exact ⟨by rw [encS, if_pos hv, encB, hn]; rfl, kn_here.below0⟩
   ·have hn : numB op = true := by unfold numB; rw [h5, h6]; rfl
    have hL : Kn [] w w [] := Kn.refl [] w; have hF := hL.fx; go_enter Tryz.func80, Tryz.ntmps80
    go_wp2_with (first | (go_at_call 79; refine kc (fun W hL => refValid_any _ _ _ _ _) ?_; clear hF hL; intro W hL hF) | (go_at_call 75; (with_reducible refine (refForm_any _ _).mono ?_); rintro e w' ⟨rfl, rfl⟩))
    refine bodyPost_ret (by simp [results, Tryz.results80, go_sem, *]; try rfl) rfl ?_
    exact ⟨by rw [encS, if_pos hv, encB, hn]; rfl, kn_here.below0⟩
  ·have hn : numB op = true := by unfold numB; rw [h5]; rfl
   have hL : Kn [] w w [] := Kn.refl [] w; have hF := hL.fx; go_enter Tryz.func80, Tryz.ntmps80
   go_wp2_with (first | (go_at_call 79; refine kc (fun W hL => refValid_any _ _ _ _ _) ?_; clear hF hL; intro W hL hF) | (go_at_call 75; (with_reducible refine (refForm_any _ _).mono ?_); rintro e w' ⟨rfl, rfl⟩))
   refine bodyPost_ret (by simp [results, Tryz.results80, go_sem, *]; try rfl) rfl ?_
   exact ⟨by rw [encS, if_pos hv, encB, hn]; rfl, kn_here.below0⟩
def opsB (f a b c : Int) : List ByteArray := if f = 1 then [regB a] else if f = 2 then [regB a, regB b] else if f = 3 then [regB a, regB b, regB c] else if f = 4 then [regB a, regB b, numI c] else if f = 5 then [regB a, numI b] else [numI b]
def printS (op a b c : Int) : ByteArray := if valid op a b c then (if form op = 0 then nameB op else (nameB op ++ ⟨#[32]⟩) ++ joinB (opsB (form op) a b c)) else ⟨#[]⟩
theorem valid_range {op a b c : Int} (h : valid op a b c = true) : 0 ≤ op ∧ op < 32 := by
 apply Classical.byContradiction
 intro hn
 have hf : form op = -1 := by unfold form; rw [if_pos (by omega)]
 simp [valid, validF, hf] at h
theorem Print_bad (op a b c : Int) (w : World) (hT : TabI w) (hv : valid op a b c = false) :
  Calls Tryz.prog 19 #[.agg #[.int .i64 op, .int .i64 a, .int .i64 b, .int .i64 c]] w fun e w' => e = .returned (.string ⟨#[]⟩) ∧ Below w.heap.size w w' := by
 have hL : Kn [] w w [] := Kn.refl [] w; have hF := hL.fx; go_enter Tryz.func19, Tryz.ntmps19
 go_wp2_with ((go_at_call 18; refine kc (fun W hL => Valid_any _ _ _ _ _ (hT.ext hL.below0)) ?_; clear hF hL; intro W hL hF))
 refine bodyPost_ret (by simp [results, Tryz.results19, go_sem, *]; try rfl) rfl ?_
 exact ⟨rfl, kn_here.below0⟩
theorem Print_any (op a b c : Int) (w : World) (hT : TabI w) :
  Calls Tryz.prog 19 #[.agg #[.int .i64 op, .int .i64 a, .int .i64 b, .int .i64 c]] w fun e w' => e = .returned (.string (printS op a b c)) ∧ Below w.heap.size w w' := by
 cases hv : valid op a b c with
 | false => rw [printS, if_neg (by rw [hv]; decide)]; exact Print_bad op a b c w hT hv
 | true =>
  obtain ⟨h0, h32⟩ := valid_range hv
  have key := hv
  rw [printS, if_pos hv]
  rcases form_vals op with hf | hf | hf | hf | hf | hf | hf | hf <;> unfold valid at key <;> rw [hf] at key ⊢ <;> simp [validF, inR] at key
  ·obtain ⟨rfl, rfl, rfl⟩ := key
   exact Print_0 op w hT hf h0 h32 hv
  ·obtain ⟨h1, rfl, rfl⟩ := key
   exact Print_1 op a w hT hf h0 h32 hv (by omega)
  ·obtain ⟨⟨h1, h2⟩, rfl⟩ := key
   exact Print_2 op a b w hT hf h0 h32 hv (by omega) (by omega)
  ·obtain ⟨⟨h1, h2⟩, h3⟩ := key
   exact Print_3 op a b c w hT hf h0 h32 hv (by omega) (by omega) (by omega)
  ·obtain ⟨⟨h1, h2⟩, h3⟩ := key
   exact Print_4 op a b c w hT hf h0 h32 hv (by omega) (by omega) (by omega)
  ·obtain ⟨⟨h1, h2⟩, rfl⟩ := key
   exact Print_5 op a b w hT hf h0 h32 hv (by omega) (by omega)
  ·obtain ⟨h1, rfl, rfl⟩ := key
   exact Print_6 op b w hT hf h0 h32 hv (by omega)
theorem refPrint_bad (op a b c : Int) (w : World) (hv : valid op a b c = false) :
  Calls Tryz.prog 54 #[.agg #[.int .i64 op, .int .i64 a, .int .i64 b, .int .i64 c]] w fun e w' => e = .returned (.string ⟨#[]⟩) ∧ Below w.heap.size w w' := by
 have hL : Kn [] w w [] := Kn.refl [] w; have hF := hL.fx; go_enter Tryz.func54, Tryz.ntmps54
 go_wp2_with ((go_at_call 79; refine kc (fun W hL => refValid_any _ _ _ _ _) ?_; clear hF hL; intro W hL hF))
 refine bodyPost_ret (by simp [results, Tryz.results54, go_sem, *]; try rfl) rfl ?_
 exact ⟨rfl, kn_here.below0⟩
theorem refPrint_any (op a b c : Int) (w : World) :
  Calls Tryz.prog 54 #[.agg #[.int .i64 op, .int .i64 a, .int .i64 b, .int .i64 c]] w fun e w' => e = .returned (.string (printS op a b c)) ∧ Below w.heap.size w w' := by
 cases hv : valid op a b c with
 | false => rw [printS, if_neg (by rw [hv]; decide)]; exact refPrint_bad op a b c w hv
 | true =>
  obtain ⟨h0, h32⟩ := valid_range hv
  have key := hv
  rw [printS, if_pos hv]
  rcases form_vals op with hf | hf | hf | hf | hf | hf | hf | hf <;> unfold valid at key <;> rw [hf] at key ⊢ <;> simp [validF, inR] at key
  ·obtain ⟨rfl, rfl, rfl⟩ := key
   exact refPrint_0 op w hf h0 h32 hv
  ·obtain ⟨h1, rfl, rfl⟩ := key
   exact refPrint_1 op a w hf h0 h32 hv (by omega)
  ·obtain ⟨⟨h1, h2⟩, rfl⟩ := key
   exact refPrint_2 op a b w hf h0 h32 hv (by omega) (by omega)
  ·obtain ⟨⟨h1, h2⟩, h3⟩ := key
   exact refPrint_3 op a b c w hf h0 h32 hv (by omega) (by omega) (by omega)
  ·obtain ⟨⟨h1, h2⟩, h3⟩ := key
   exact refPrint_4 op a b c w hf h0 h32 hv (by omega) (by omega) (by omega)
  ·obtain ⟨⟨h1, h2⟩, rfl⟩ := key
   exact refPrint_5 op a b w hf h0 h32 hv (by omega) (by omega)
  ·obtain ⟨h1, rfl, rfl⟩ := key
   exact refPrint_6 op b w hf h0 h32 hv (by omega)
theorem size4 {s : ByteArray} (h : s.size = 4) : ∃ x y z t, s = ⟨#[x, y, z, t]⟩ := by
 obtain ⟨d⟩ := s
 have h : d.size = 4 := h
 obtain ⟨l⟩ := d
 match l, h with
 | [x, y, z, t], _ => exact ⟨x, y, z, t, rfl⟩
theorem Decode_ok (x y z t : UInt8) (w : World) (hT : TabI w) (hk : decOk x y z t = true) :
  Calls Tryz.prog 26 #[.string ⟨#[x, y, z, t]⟩] w fun e w' => e = .returned (.tuple #[.agg #[.int .i64 x.toNat, .int .i64 y.toNat, .int .i64 (dB x z t), .int .i64 (dC x t)], .bool true]) ∧ Below w.heap.size w w' := by
 cases h5 : (form x.toNat == 5)
 ·cases h6 : (form x.toNat == 6)
  ·cases h4 : (form x.toNat == 4)
   ·exact Decode_xt x y z t w hT h5 h6 h4 hk
   ·exact Decode_ot x y z t w hT h5 h6 h4 hk
  ·exact Decode_n6t x y z t w hT h5 h6 hk
 ·exact Decode_n5t x y z t w hT h5 hk
theorem Decode_no (x y z t : UInt8) (w : World) (hT : TabI w) (hk : decOk x y z t = false) :
  Calls Tryz.prog 26 #[.string ⟨#[x, y, z, t]⟩] w fun e w' => e = .returned (.tuple #[.agg #[.int .i64 0, .int .i64 0, .int .i64 0, .int .i64 0], .bool false]) ∧ Below w.heap.size w w' := by
 cases h5 : (form x.toNat == 5)
 ·cases h6 : (form x.toNat == 6)
  ·cases h4 : (form x.toNat == 4)
   ·exact Decode_xf x y z t w hT h5 h6 h4 hk
   ·exact Decode_of x y z t w hT h5 h6 h4 hk
  ·exact Decode_n6f x y z t w hT h5 h6 hk
 ·exact Decode_n5f x y z t w hT h5 hk
theorem RefDecode_ok (x y z t : UInt8) (w : World) (hk : decOk x y z t = true) :
  Calls Tryz.prog 53 #[.string ⟨#[x, y, z, t]⟩] w fun e w' => e = .returned (.tuple #[.agg #[.int .i64 x.toNat, .int .i64 y.toNat, .int .i64 (dB x z t), .int .i64 (dC x t)], .bool true]) ∧ Below w.heap.size w w' := by
 cases h5 : (form x.toNat == 5)
 ·cases h6 : (form x.toNat == 6)
  ·cases h4 : (form x.toNat == 4)
   ·exact RefDecode_xt x y z t w h5 h6 h4 hk
   ·exact RefDecode_ot x y z t w h5 h6 h4 hk
  ·exact RefDecode_n6t x y z t w h5 h6 hk
 ·exact RefDecode_n5t x y z t w h5 hk
theorem RefDecode_no (x y z t : UInt8) (w : World) (hk : decOk x y z t = false) :
  Calls Tryz.prog 53 #[.string ⟨#[x, y, z, t]⟩] w fun e w' => e = .returned (.tuple #[.agg #[.int .i64 0, .int .i64 0, .int .i64 0, .int .i64 0], .bool false]) ∧ Below w.heap.size w w' := by
 cases h5 : (form x.toNat == 5)
 ·cases h6 : (form x.toNat == 6)
  ·cases h4 : (form x.toNat == 4)
   ·exact RefDecode_xf x y z t w h5 h6 h4 hk
   ·exact RefDecode_of x y z t w h5 h6 h4 hk
  ·exact RefDecode_n6f x y z t w h5 h6 hk
 ·exact RefDecode_n5f x y z t w h5 hk
theorem byte_id (x : UInt8) : UInt8.ofNat ((x.toNat : Int) % 256).toNat = x := by
 have h := x.toNat_lt
 have e : ((x.toNat : Int) % 256).toNat = x.toNat := by omega
 rw [e]; exact UInt8.ofNat_toNat
theorem byte_of (n : Int) (x : UInt8) (h : n % 256 = x.toNat) : UInt8.ofNat (n % 256).toNat = x := by
 rw [h, Int.toNat_natCast]; exact UInt8.ofNat_toNat
/-- What is decoded is encoded. -/
theorem dec_enc {x y z t : UInt8} (h : decOk x y z t = true) : encS x.toNat y.toNat (dB x z t) (dC x t) = ⟨#[x, y, z, t]⟩ := by
 unfold decOk at h
 have hz := z.toNat_lt
 have ht := t.toNat_lt
 rw [encS, if_pos h]
 unfold encB
 rw [byte_id x, byte_id y]
 unfold dB dC
 cases hn : numB x.toNat
 ·rw [if_neg (by decide), if_neg (by decide), if_neg (by decide), byte_id z]
  by_cases h4 : form x.toNat = 4
  ·rw [if_pos h4, byte_of _ t (by unfold s8; split <;> omega)]
  ·rw [if_neg h4, byte_id t]
 ·rw [if_pos rfl, if_pos rfl, byte_of _ z (by unfold s16; split <;> omega), byte_of _ t (by unfold s16; split <;> omega)]
def nmB (op : Nat) : Bytes := (nameB op).data.toList
def decB (p : Bytes) : Option (Nat × Int × Int × Int) := match p with
 | [x, y, z, t] => if decOk x y z t then some (x.toNat, y.toNat, dB x z t, dC x t) else none
 | _ => none
theorem digit_ok (k : Nat) (h : k < 10) : 48 ≤ (UInt8.ofNat (48 + k)).toNat ∧ (UInt8.ofNat (48 + k)).toNat ≤ 57 := by
 rw [UInt8.toNat_ofNat']; omega
theorem digits_inA (k : Nat) : Lib.decDigits k ≠ [] ∧ ∀ d ∈ Lib.decDigits k, 48 ≤ d.toNat ∧ d.toNat ≤ 57 := by
 induction k using Nat.strongRecOn with
 | _ k ih =>
  rw [Lib.decDigits]
  split
  ·rename_i h; exact ⟨by simp, fun d hd => by rw [List.mem_singleton] at hd; subst hd; exact digit_ok k h⟩
  ·rename_i h
   refine ⟨by simp, fun d hd => ?_⟩
   rcases List.mem_append.1 hd with hd | hd
   ·exact (ih (k / 10) (by omega)).2 d hd
   ·rw [List.mem_singleton] at hd; subst hd; exact digit_ok _ (by omega)
instance : DecidablePred plainC := fun c => by unfold plainC; infer_instance
instance : DecidablePred plainW := fun s => by unfold plainW; infer_instance
theorem OO_back : Back OO decB where
 ok := fun p op a b c h => by
  unfold decB at h
  split at h
  ·rename_i x y z t
   split at h
   ·rename_i hk
    injection h with h
    injection h with h1 h
    injection h with h2 h
    injection h with h3 h4
    subst h1 h2 h3 h4
    have hv : valid x.toNat y.toNat (dB x z t) (dC x t) = true := hk
    obtain ⟨r0, r1⟩ := valid_range hv
    refine ⟨by omega, ?_, hv, ?_⟩
    ·have key := hv
     show Kinds (form (x.toNat : Int)).toNat _ _ _
     rcases form_vals (x.toNat : Int) with hf | hf | hf | hf | hf | hf | hf | hf <;> unfold valid at key <;> rw [hf] at key ⊢ <;> simp [validF, inR] at key
     ·exact ⟨by omega, key.2.1, key.2.2⟩
     ·exact ⟨⟨by omega, by omega⟩, by omega, by omega⟩
     ·exact ⟨⟨by omega, by omega⟩, ⟨by omega, by omega⟩, by omega⟩
     ·exact ⟨⟨by omega, by omega⟩, ⟨by omega, by omega⟩, ⟨by omega, by omega⟩⟩
     ·exact ⟨⟨by omega, by omega⟩, ⟨by omega, by omega⟩, ⟨by omega, by omega⟩⟩
     ·exact ⟨⟨by omega, by omega⟩, ⟨by omega, by omega⟩, by omega⟩
     ·exact ⟨⟨by omega, by omega⟩, by omega, by omega⟩
    ·show (encS x.toNat y.toNat (dB x z t) (dC x t)).data.toList = _
     rw [dec_enc hk]
   ·cases h
  ·cases h
/-- What Disassemble writes. -/
def lineB (p : Bytes) : Bytes := match decB p with
 | some (op, a, b, c) => printed (nmB op) (opsOf Lib.itoa (form op).toNat a b c)
 | none => printed dByte (p.map fun b => Lib.itoa (b.toNat : Int))
def disB (s : Bytes) : Bytes := ((chunks s.length s).map lineB).flatMap (· ++ [10])
theorem joinC_join : ∀ l : List Bytes, joinC l = Lib.join l [44, 32]
 | [] => rfl
 | [x] => by simp [joinC, Lib.join, List.intercalate, List.intersperse]
 | x :: y :: r => by
  rw [joinC, joinC_join (y :: r)]
  simp [Lib.join, List.intercalate, List.intersperse]
theorem printS_line {op a b c : Int} (hv : valid op a b c = true) (n : Nat) (hn : op = n) : (printS op a b c).data.toList = printed (nmB n) (opsOf Lib.itoa (form n).toNat a b c) := by
 subst hn
 unfold printS
 rw [if_pos hv]
 have key := hv
 rcases form_vals (n : Int) with hf | hf | hf | hf | hf | hf | hf | hf
 ·exfalso; unfold valid at key; rw [hf] at key; simp [validF] at key
 ·rw [if_pos hf, hf]; simp [opsOf, printed, nmB]
 all_goals
  rw [if_neg (by rw [hf]; decide), hf]
  unfold printed
  rw [if_neg (by simp [opsOf])]
  simp [joinB, opsB, opsOf, joinC_join, nmB, regB, numI]
theorem chunks_two : ∀ (n f g : Nat) (s : Bytes), f + g ≤ n → s.length ≤ f → s.length ≤ g → chunks f s = chunks g s := by
 intro n
 induction n with
 | zero =>
  intro f g s h _ _
  obtain ⟨rfl, rfl⟩ : f = 0 ∧ g = 0 := (by omega)
  rfl
 | succ n ih =>
  intro f g s h hf hg
  cases s with
  | nil => cases f <;> cases g <;> rfl
  | cons c t =>
   simp only [List.length_cons] at hf hg
   obtain ⟨f, rfl⟩ : ∃ k, f = k + 1 := ⟨f - 1, by omega⟩
   obtain ⟨g, rfl⟩ : ∃ k, g = k + 1 := ⟨g - 1, by omega⟩
   show (if (c :: t) = [] then [] else (c :: t).take 4 :: chunks f ((c :: t).drop 4)) = (if (c :: t) = [] then [] else (c :: t).take 4 :: chunks g ((c :: t).drop 4))
   rw [if_neg (by simp), if_neg (by simp), ih f g _ (by omega) (by rw [List.length_drop, List.length_cons]; omega) (by rw [List.length_drop, List.length_cons]; omega)]
theorem chunks_step {s : Bytes} (h : s ≠ []) : chunks s.length s = s.take 4 :: chunks (s.drop 4).length (s.drop 4) := by
 cases s with
 | nil => exact absurd rfl h
 | cons c t =>
  show (if (c :: t) = [] then [] else (c :: t).take 4 :: chunks t.length ((c :: t).drop 4)) = _
  rw [if_neg (by simp), chunks_two _ t.length ((c :: t).drop 4).length _ (Nat.le_refl _) (by rw [List.length_drop, List.length_cons]; omega) (Nat.le_refl _)]
theorem disB_step {s : Bytes} (h : s ≠ []) : disB s = lineB (s.take 4) ++ [10] ++ disB (s.drop 4) := by
 unfold disB
 rw [chunks_step h, List.map_cons, List.flatMap_cons]
theorem joinC_len : ∀ l : List Bytes, (∀ x ∈ l, x.length ≤ 22) → (joinC l).length ≤ 24 * l.length
 | [], _ => by simp [joinC]
 | [x], h => by have := h x (by simp); simp [joinC]; omega
 | x :: y :: r, h => by
  have h1 := h x (by simp)
  have h2 := joinC_len (y :: r) (fun z hz => h z (List.mem_cons_of_mem _ hz))
  simp only [joinC, List.length_append, List.length_cons] at h2 ⊢
  omega
theorem printed_len (name : Bytes) (l : List Bytes) (h : ∀ x ∈ l, x.length ≤ 22) : (printed name l).length ≤ name.length + 1 + 24 * l.length := by
 unfold printed
 split
 ·omega
 ·have := joinC_len l h
  simp only [List.length_append, List.length_cons]; omega
theorem names_len : ∀ k : Fin 32, (nmB k.val).length ≤ 10 := by decide +kernel
theorem lineB_len (p : Bytes) (hp : p.length ≤ 4) : (lineB p).length ≤ 200 := by
 unfold lineB
 cases hd : decB p with
 | none =>
  have := printed_len dByte (p.map fun b => Lib.itoa (b.toNat : Int)) (fun x hx => by
   obtain ⟨b, _, rfl⟩ := List.mem_map.1 hx
   have := b.toNat_lt
   have := Lib.itoa_length_le (b.toNat : Int) (by omega) (by omega)
   omega)
  simp only [List.length_map] at this
  have e : dByte.length = 5 := rfl
  simp only; omega
 | some z =>
  obtain ⟨op, a, b, c⟩ := z
  obtain ⟨b1, b2, b3, b4⟩ := OO_back.ok p op a b c hd
  have hn := names_len ⟨op, b1⟩
  have hi : ∀ n : Int, num n → (Lib.itoa n).length ≤ 21 := fun n h => Lib.itoa_length_le n h.1 h.2
  have hr : ∀ n : Int, reg n → (114 :: Lib.itoa n).length ≤ 22 := fun n h => by
   have h1 := h.1
   have h2 := h.2
   have := Lib.itoa_length_le n (by omega) (by omega)
   simp only [List.length_cons]; omega
  have hk : Kinds (form op).toNat a b c := b2
  have hb : ∀ x ∈ opsOf Lib.itoa (form op).toNat a b c, x.length ≤ 22 := by
   intro x hx
   unfold opsOf at hx
   unfold Kinds at hk
   split at hx <;> rename_i he <;> first | (rw [he] at hk; simp at hx hk) | (simp at hx; done)
   ·subst hx; exact hr _ hk.1
   ·rcases hx with rfl | rfl
    ·exact hr _ hk.1
    ·exact hr _ hk.2.1
   ·rcases hx with rfl | rfl | rfl
    ·exact hr _ hk.1
    ·exact hr _ hk.2.1
    ·exact hr _ hk.2.2
   ·rcases hx with rfl | rfl | rfl
    ·exact hr _ hk.1
    ·exact hr _ hk.2.1
    ·have := hi _ hk.2.2; omega
   ·rcases hx with rfl | rfl
    ·exact hr _ hk.1
    ·have := hi _ hk.2.1; omega
   ·subst hx; have := hi _ hk.1; omega
  have hl : (opsOf Lib.itoa (form op).toNat a b c).length ≤ 3 := by unfold opsOf; split <;> simp
  have := printed_len (nmB op) _ hb
  simp only
  have hn2 : (nmB op).length ≤ 10 := hn
  omega
theorem belowT {w W0 W W1 : World} {L : List (Nat × Obj)} (h : Below w.heap.size w W0) (k : Kn [] W0 W L) (h2 : Below w.heap.size W W1) : Below w.heap.size w W1 :=
 ⟨h2.os.trans (k.os.trans h.os), h2.tape.trans (k.tape.trans h.tape), h2.output.trans (k.output.trans h.output), Nat.le_trans h.size (Nat.le_trans k.size h2.size), fun b hb => (h2.block b hb).trans ((k.block b (Nat.lt_of_lt_of_le hb h.size) (by simp)).trans (h.block b hb))⟩
theorem Decode_some (p : ByteArray) (n : Nat) (a b c : Int) (h : decB p.data.toList = some (n, a, b, c)) (w : World) (hT : TabI w) : Calls Tryz.prog 26 #[.string p] w fun e w' => e = .returned (.tuple #[.agg #[.int .i64 n, .int .i64 a, .int .i64 b, .int .i64 c], .bool true]) ∧ Below w.heap.size w w' := by
 unfold decB at h
 split at h
 ·rename_i x y z t hp
  split at h
  ·rename_i hk
   injection h with h
   injection h with h1 h
   injection h with h2 h
   injection h with h3 h4
   subst h1 h2 h3 h4
   obtain rfl : p = ⟨#[x, y, z, t]⟩ := ba_ext hp
   exact Decode_ok x y z t w hT hk
  ·cases h
 ·cases h
theorem Decode_none (p : ByteArray) (h : decB p.data.toList = none) (w : World) (hT : TabI w) : Calls Tryz.prog 26 #[.string p] w fun e w' => e = .returned (.tuple #[.agg #[.int .i64 0, .int .i64 0, .int .i64 0, .int .i64 0], .bool false]) ∧ Below w.heap.size w w' := by
 by_cases h4 : p.size = 4
 ·obtain ⟨x, y, z, t, rfl⟩ := size4 h4
  unfold decB at h
  simp only at h
  cases hk : decOk x y z t with
  | true => rw [hk] at h; cases h
  | false => exact Decode_no x y z t w hT hk
 ·exact Decode_short p (beq_false_of_ne (by omega)) w hT
def dgB (b : UInt8) : Bytes := Lib.itoa (b.toNat : Int)
theorem join_row (p js : ByteArray) (hjs : js.data.toList = joinC (p.data.toList.map dgB)) (hp : p.size ≤ 4) {wr W : World} {g cap : Nat} {cur : Array Value} (h : Kn [] wr W [(g, .cells cur 9 (0, 0))]) (hB : RowB 1 cur cap p.size (sv (p.data.toList.map dgB))) :
  Calls Tryz.prog 41 #[.slice (some ⟨g, 0, none⟩) p.size cap, .string ⟨#[44, 32]⟩] W fun e w' => e = .returned (.string js) ∧ Below W.heap.size W w' := by
 obtain ⟨xs, hxs⟩ : ∃ xs : List ByteArray, xs = p.data.toList.map (fun b => numS (b.toNat : Int)) := ⟨_, rfl⟩
 have hn : xs.length = p.size := by rw [hxs, List.length_map, szl]
 have hm : xs.map (·.data.toList) = p.data.toList.map dgB := by rw [hxs, List.map_map]; apply List.map_congr_left; intro b _; simp [numS, dgB]
 have hv : xs.map Value.string = sv (p.data.toList.map dgB) := by rw [hxs]; simp [sv, numS, dgB]
 have hj : (⟨(Lib.join (xs.map (·.data.toList)) [44, 32]).toArray⟩ : ByteArray) = js := by apply ba_ext; rw [hjs, hm, joinC_join]
 have hl := joinC_len (p.data.toList.map dgB) (fun x hx => by
  obtain ⟨b, _, rfl⟩ := List.mem_map.1 hx
  have := b.toNat_lt
  have := Lib.itoa_length_le (b.toNat : Int) (by omega) (by omega)
  unfold dgB; omega)
 rw [List.length_map, szl, joinC_join, ← hm] at hl
 have key := Tryz.strings_Join g 0 cap xs ⟨#[44, 32]⟩ W (fun j x hx => by
  rw [Nat.zero_add, kn_cell h List.mem_cons_self]
  exact hB.get (by rw [← hv, List.getElem?_map, hx]; rfl)) (h.lt List.mem_cons_self) (by omega) (by have := hB.le; omega) (by show (Lib.join (xs.map (·.data.toList)) [44, 32]).length ≤ _; omega)
 rw [hn] at key
 exact key.mono fun e w' ⟨h1, h2⟩ => ⟨by rw [h1]; exact congrArg (fun z => Ending.returned (.string z)) hj, h2⟩
theorem Disassemble_is (code : ByteArray) (hs : code.size ≤ 400000) (w : World) (hT : TabA w) : Calls Tryz.prog 24 #[.string code] w fun e w' => e = .returned (.string ⟨(disB code.data.toList).toArray⟩) ∧ Below w.heap.size w w' := by
 have hI : BIs w.heap.size w.heap.size [] (w.alloc (.cells #[.pointer none, .slice none 0 0] 49)) := BIs.fresh (heap_alloc_new w _)
 have hW : Below w.heap.size w (w.alloc (.cells #[.pointer none, .slice none 0 0] 49)) := (Below.refl _ _).alloc (Nat.le_refl _) _
 go_enter Tryz.func24, Tryz.ntmps24
 go_wp2
 go_loopw [4] (fun v wr => ∃ (i : Nat) (out : Bytes), v = .int .i64 (4 * i : Nat) ∧ Hid (BIs w.heap.size w.heap.size out wr) ∧ out ++ disB (code.data.toList.drop (4 * i)) = disB code.data.toList ∧ out.length ≤ 201 * i ∧ 4 * i ≤ code.size + 3 ∧ Hid (Below w.heap.size w wr) ∧ Kn [] wr wr []) (fun v _ => code.size + 4 - (intOf v).toNat)
 case atStart => exact ⟨0, [], rfl, Lib.hid hI, rfl, Nat.le_refl _, Nat.zero_le _, Lib.hid hW, Kn.refl [] _⟩
 case round =>
  clear hI hW
  obtain ⟨i, out, rfl, HI, ho, hol, hi, HWB, hL⟩ := hrel
  have HT := Lib.hid (hT.ext HWB.out)
  have HO := Lib.hid ho
  clear ho
  have hF := hL.fx
  by_cases hlt : 4 * i < code.size
  ·obtain ⟨p, hp⟩ : ∃ p : ByteArray, code.extract (4 * i) (min (4 * (i : Int) + 4) (code.size : Int)).toNat = p := ⟨_, rfl⟩
   have hpl : p.data.toList = (code.data.toList.drop (4 * i)).take 4 := by
    rw [← hp]
    have := szl code
    simp only [ByteArray.data_extract, Array.toList_extract, List.extract_eq_take_drop]
    rcases Nat.lt_or_ge (4 * i + 4) code.size with h | h
    ·rw [show (min (4 * (i : Int) + 4) (code.size : Int)).toNat - 4 * i = 4 by omega]
    ·rw [List.take_of_length_le (by rw [List.length_drop]; omega), List.take_of_length_le (by rw [List.length_drop]; omega)]
   have HPL := Lib.hid hpl
   have hne : code.data.toList.drop (4 * i) ≠ [] := by
    intro h0
    have := congrArg List.length h0
    rw [List.length_drop, szl] at this
    simp at this; omega
   have HS := Lib.hid (disB_step hne)
   have hp4 : p.data.toList.length ≤ 4 := by rw [hpl]; simp; omega
   have HLB := Lib.hid (lineB_len p.data.toList hp4)
   have hm1 : min (4 * i + 4) code.size ≤ code.size := Nat.min_le_right _ _
   have hm2 : 4 * i ≤ min (4 * i + 4) code.size := by omega
   cases hd : decB p.data.toList with
   | some z =>
    obtain ⟨op, a, b, c⟩ := z
    have HD := Lib.hid hd
    have HLN := Lib.hid (show lineB p.data.toList = (printS op a b c).data.toList from by
     obtain ⟨b1, b2, b3, b4⟩ := OO_back.ok p.data.toList op a b c hd
     have hv : valid op a b c = true := b3
     rw [printS_line hv op rfl]
     unfold lineB
     rw [hd])
    have hps : (printS op a b c).size ≤ 200 := by rw [← szl, ← HLN.out]; exact HLB.out
    have hps2 : (printS op a b c ++ ⟨#[10]⟩ : ByteArray).size = (printS op a b c).size + 1 := by rw [ByteArray.size_append]; rfl
    have HDC := Lib.hid (fun W (h : TabI W) => Decode_some p op a b c hd W h)
    clear hd hpl
    go_wp2_with (first | (go_at_call 26; refine kc (fun W hL => HDC.out _ ((HT.out.kn hL (by simp)).i)) ?_; clear hF hL; intro W hL hF) | (go_at_call 19; refine kc (fun W hL => Print_any _ _ _ _ _ ((HT.out.kn hL (by simp)).i)) ?_; clear hF hL; intro W hL hF) | (go_at_call 28; refine kG ?_; clear hF hL; intro W hL hF; (with_reducible refine (WS _ _ _ ((printS op a b c) ++ ⟨#[10]⟩) _ (HI.out.ext hL.below0) (by omega) (Nat.le_trans HWB.out.size hL.size)).mono ?_); rintro e W1 ⟨rfl, hI1, hb1⟩; have HI2 := Lib.hid hI1; have HWB2 := Lib.hid (belowT HWB.out hL hb1); clear hL hF; have hL := Kn.refl [] W1; have hF := hL.fx))
    refine ⟨⟨i + 1, _, by rw [show 4 * (i : Int) + 4 = ((4 * (i + 1) : Nat) : Int) by omega], HI2, ?_, ?_, by omega, HWB2, hL⟩, by simp [intOf]; omega⟩
    ·rw [← HO.out, HS.out, ← HPL.out, HLN.out, List.drop_drop, show 4 * (i + 1) = 4 * i + 4 from rfl]; simp
    ·rw [List.length_append, szl, hps2]; omega
   | none =>
    have HLN := Lib.hid (show lineB p.data.toList = printed dByte (p.data.toList.map fun b => Lib.itoa (b.toNat : Int)) from by unfold lineB; rw [hd])
    have HDC := Lib.hid (fun W (h : TabI W) => Decode_none p hd W h)
    have hp0 : 0 < p.size := by
     rw [← szl, hpl, List.length_take, List.length_drop, szl]; omega
    have hp5 : p.size ≤ 4 := by rw [← szl]; exact hp4
    clear hd hpl
    go_wp2_with ((go_at_call 26; refine kc (fun W hL => HDC.out _ ((HT.out.kn hL (by simp)).i)) ?_; clear hF hL; intro W hL hF))
    go_loopw [8, 9, 36] (fun t b x w2 => ∃ (j : Nat) (LP : List (Nat × Obj)) (ao : Option Addr) (cp : Nat), j ≤ p.size ∧ t = .slice ao j cp ∧ x = .int .i64 j ∧ Hid (RowL 1 9 LP (.slice ao j cp) j (sv ((p.data.toList.take j).map dgB))) ∧ Kn [] wr w2 LP) (fun _ _ x _ => p.size - (intOf x).toNat)
    case atStart => exact ⟨0, [], none, 0, by omega, rfl, rfl, Lib.hid RowL.nil, hL.below ((Below.refl _ _).alloc (Nat.le_refl _) _)⟩
    case round =>
     clear hL
     clear hF
     obtain ⟨j, LP, ao, cp, hj, rfl, rfl, HRW, hL⟩ := hrel
     have hF := hL.fx
     by_cases hlt2 : j < p.size
     ·obtain ⟨b, hb⟩ : ∃ b, p.data.toList[j]? = some b := ⟨_, List.getElem?_eq_getElem (by rw [szl]; omega)⟩
      have eb := byte_at hb hlt2
      have hb256 := b.toNat_lt
      go_wp2_with (first | (go_at_call 10; refine kc (fun W hL => Decimal_any _ (by omega) (by omega) _ ((HT.out.kn hL (by simp)).t)) ?_; clear hF hL; intro W hL hF) | (at_builtin; refine kL ?_; clear hF hL; intro W hL hF; go_loud (refine wpList_append_end rfl _ _ 35 35 rfl [(_, .cells #[.string (numS (b.toNat : Int))] 9 (0, 0))] LP hL j 1 (sv ((p.data.toList.take j).map dgB)) [.string (numS (b.toNat : Int))] _ _ HRW.out rfl rfl (fun ho => run_append_v rfl (fun j u hu => by rw [Go.WideShapes.add_plain, Nat.zero_add, kn_cell hL List.mem_cons_self]; simpa using hu) (by intro u hu; simp only [List.mem_singleton] at hu; subst hu; rfl) (by omega) ho) ?_); intro LPn an cpn W2 hL2 hrn; clear hL hF; have hL := hL2.sub (List.sublist_cons_self _ _); clear hL2; simp only [List.append_eq] at hL; simp only [kfb] at hL; have hF := hL.fx))
      refine ⟨⟨j + 1, LPn, an, cpn, by omega, rfl, by go_num, Lib.hid ?_, hL⟩, by simp [intOf]; omega⟩
      rw [List.take_add_one, hb, Option.toList_some, List.map_append, sv_app]
      exact hrn
     ·obtain rfl : j = p.size := by omega
      have hrow := HRW.out
      rw [List.take_of_length_le (by rw [szl]; omega)] at hrow
      clear HRW
      rcases hrow with ⟨_, _, h0, _⟩ | ⟨g2, cap2, cur2, rfl, heq, hB⟩
      ·omega
      ·injection heq with heq _ heq2
       subst heq heq2
       have HB := Lib.hid hB
       clear hB
       have hF := hL.fx
       obtain ⟨js, hjs⟩ := ba_of (joinC (p.data.toList.map dgB))
       have HJ := Lib.hid (fun (V W : World) (h : Kn [] V W [(g2, .cells cur2 9 (0, 0))]) => join_row p js hjs hp5 h HB.out)
       have hjl : js.size ≤ 100 := by
        rw [← szl, hjs]
        have := joinC_len (p.data.toList.map dgB) (fun x hx => by
         obtain ⟨b, _, rfl⟩ := List.mem_map.1 hx
         have := b.toNat_lt
         have := Lib.itoa_length_le (b.toNat : Int) (by omega) (by omega)
         unfold dgB; omega)
        rw [List.length_map, szl] at this
        omega
       have HLN2 := Lib.hid (show lineB p.data.toList = dByte ++ 32 :: js.data.toList from by
        rw [HLN.out, hjs]; unfold printed
        rw [if_neg (by intro h; have h9 := congrArg List.length h; rw [List.length_map, szl, List.length_nil] at h9; omega)]; rfl)
       clear hjs HLN
       have hz1 : ((⟨#[46, 98, 121, 116, 101, 32]⟩ : ByteArray) ++ js).size = 6 + js.size := by rw [ByteArray.size_append]; rfl
       have hz2 : ((⟨#[46, 98, 121, 116, 101, 32]⟩ : ByteArray) ++ js ++ ⟨#[10]⟩).size = 7 + js.size := by rw [ByteArray.size_append, hz1]; show 6 + js.size + 1 = _; omega
       go_wp2_with (first | (go_at_call 41; refine kc (fun W hL => HJ.out _ _ hL) ?_; clear hF hL; intro W hL hF) | (go_at_call 28; refine kG ?_; clear hF hL; intro W hL hF; (with_reducible refine (WS _ _ _ (((⟨#[46, 98, 121, 116, 101, 32]⟩ : ByteArray) ++ js) ++ ⟨#[10]⟩) _ (HI.out.ext hL.below0) (by omega) (Nat.le_trans HWB.out.size hL.size)).mono ?_); rintro e W1 ⟨rfl, hI1, hb1⟩; have HI2 := Lib.hid hI1; have HWB2 := Lib.hid (belowT HWB.out hL hb1); clear hL hF; have hL := Kn.refl [] W1; have hF := hL.fx))
       refine ⟨⟨i + 1, _, by rw [show 4 * (i : Int) + 4 = ((4 * (i + 1) : Nat) : Int) by omega], HI2, ?_, ?_, by omega, HWB2, hL⟩, by simp [intOf]; omega⟩
       ·rw [← HO.out, HS.out, ← HPL.out, HLN2.out, List.drop_drop, show 4 * (i + 1) = 4 * i + 4 from rfl]; simp [dByte]
       ·rw [List.length_append, szl, hz2]; omega
  ·have hnil : code.data.toList.drop (4 * i) = [] := List.drop_of_length_le (by rw [szl]; omega)
   have ho := HO.out
   rw [hnil] at ho
   go_wp2_with ((go_at_call 29; refine kG ?_; clear hF hL; intro W hL hF; (with_reducible refine (BS _ _ _ _ (HI.out.ext hL.below0) (Nat.le_trans HWB.out.size hL.size) ⟨(disB code.data.toList).toArray⟩ (by rw [← ho]; simp [disB, chunks])).mono ?_); rintro e W1 ⟨rfl, hI1, hb1⟩))
   refine bodyPost_ret (by simp [results, Tryz.results24, go_sem, *]; try rfl) rfl ?_
   exact ⟨rfl, belowT HWB.out hL hb1⟩
end Go.Proofs.YtfdlifhkeicnnaaGreatDoor
namespace Go.Proofs.YtfdlifhkeicnnaaGreatDoor
open Go Go.ChangeShapes Go.WideShapes Go.ChangeAt Go.RowKit
theorem own : ownKnob Tryz.prog.godebug = none := by kernel_rfl
theorem kids : Kids Tryz.prog (· < Tryz.prog.types.size) := kids_rows (by kernel_rfl) (by kernel_rfl)
theorem slices : ∀ t e, t < Tryz.prog.types.size → Tryz.prog.underlying t = some (.slice e) → 0 < Tryz.prog.cellsOf e := slices_full_of _ (by kernel_rfl)
def laidList : List (String × DataW Unit) := [("math/bits.deBruijn32tab", Rows.laid_math_bits_deBruijn32tab), ("math/bits.deBruijn64tab", Rows.laid_math_bits_deBruijn64tab), ("internal/strconv.uint64pow10", Rows.laid_internal_strconv_uint64pow10), ("unicode/utf8.acceptRanges", Rows.laid_unicode_utf8_acceptRanges), ("strconv.ErrRange", Rows.laid_strconv_ErrRange), ("strconv.ErrSyntax", Rows.laid_strconv_ErrSyntax), ("unicode.White_Space", Rows.laid_unicode_White_Space), ("strings.asciiSpace", Rows.laid_strings_asciiSpace), ("rehearsal/isa.names", Rows.laid_rehearsal_isa_names), ("rehearsal/isa.forms", Rows.laid_rehearsal_isa_forms), ("rehearsal/isa.operands", Rows.laid_rehearsal_isa_operands), ("unicode/utf8.first", Rows.laid_unicode_utf8_first)]
set_option maxRecDepth 100000 in
/-- What the row's list gives: the tables. -/
theorem tables {W : World} (h : laidMetH Tryz.prog laidList W) (hSh : W.ShapedOpen Tryz.prog) : TabA W := by
 have h' : laidMet Tryz.prog laidList W := h
 obtain ⟨ps, hV, _⟩ := h'
 obtain ⟨T0, qs0, hV1⟩ := laid_tab (k := .u8) (zs := [0, 1, 28, 2, 29, 14, 24, 3, 30, 22, 20, 15, 25, 17, 4, 8, 31, 27, 13, 23, 21, 19, 16, 7, 26, 12, 18, 6, 11, 5, 10, 9]) (g := 9) (by kernel_rfl) (by kernel_rfl) Tryz.underlying184 Tryz.underlying5 (by kernel_rfl) (by kernel_rfl) hV
 obtain ⟨T1, qs1, hV2⟩ := laid_tab (k := .u8) (zs := [0, 1, 56, 2, 57, 49, 28, 3, 61, 58, 42, 50, 38, 29, 17, 4, 62, 47, 59, 36, 45, 43, 51, 22, 53, 39, 33, 30, 24, 18, 12, 5, 63, 55, 48, 27, 60, 41, 37, 16, 46, 35, 44, 21, 52, 32, 23, 11, 54, 26, 40, 15, 34, 20, 31, 10, 25, 14, 19, 9, 13, 8, 7, 6]) (g := 10) (by kernel_rfl) (by kernel_rfl) Tryz.underlying185 Tryz.underlying5 (by kernel_rfl) (by kernel_rfl) hV1
 obtain ⟨T2, qs2, hV3⟩ := laid_tab (k := .u64) (zs := [1, 10, 100, 1000, 10000, 100000, 1000000, 10000000, 100000000, 1000000000, 10000000000, 100000000000, 1000000000000, 10000000000000, 100000000000000, 1000000000000000, 10000000000000000, 100000000000000000, 1000000000000000000, 10000000000000000000]) (g := 5) (by kernel_rfl) (by kernel_rfl) Tryz.underlying170 Tryz.underlying147 (by kernel_rfl) (by kernel_rfl) hV2
 obtain ⟨qs3, hV4⟩ := laid_skip hV3
 obtain ⟨T4, qs4, hV5⟩ := laid_iface (g := 12) (by kernel_rfl) (by kernel_rfl) Tryz.underlying51 hV4
 obtain ⟨T5, qs5, hV6⟩ := laid_iface (g := 11) (by kernel_rfl) (by kernel_rfl) Tryz.underlying51 hV5
 obtain ⟨qs6, hV7⟩ := laid_skip hV6
 obtain ⟨T7, qs7, hV8⟩ := laid_tab (k := .u8) (zs := [0, 0, 0, 0, 0, 0, 0, 0, 0, 1, 1, 1, 1, 1, 0, 0, 0, 0, 0, 0, 0, 0, 0, 0, 0, 0, 0, 0, 0, 0, 0, 0, 1, 0, 0, 0, 0, 0, 0, 0, 0, 0, 0, 0, 0, 0, 0, 0, 0, 0, 0, 0, 0, 0, 0, 0, 0, 0, 0, 0, 0, 0, 0, 0, 0, 0, 0, 0, 0, 0, 0, 0, 0, 0, 0, 0, 0, 0, 0, 0, 0, 0, 0, 0, 0, 0, 0, 0, 0, 0, 0, 0, 0, 0, 0, 0, 0, 0, 0, 0, 0, 0, 0, 0, 0, 0, 0, 0, 0, 0, 0, 0, 0, 0, 0, 0, 0, 0, 0, 0, 0, 0, 0, 0, 0, 0, 0, 0, 0, 0, 0, 0, 0, 0, 0, 0, 0, 0, 0, 0, 0, 0, 0, 0, 0, 0, 0, 0, 0, 0, 0, 0, 0, 0, 0, 0, 0, 0, 0, 0, 0, 0, 0, 0, 0, 0, 0, 0, 0, 0, 0, 0, 0, 0, 0, 0, 0, 0, 0, 0, 0, 0, 0, 0, 0, 0, 0, 0, 0, 0, 0, 0, 0, 0, 0, 0, 0, 0, 0, 0, 0, 0, 0, 0, 0, 0, 0, 0, 0, 0, 0, 0, 0, 0, 0, 0, 0, 0, 0, 0, 0, 0, 0, 0, 0, 0, 0, 0, 0, 0, 0, 0, 0, 0, 0, 0, 0, 0, 0, 0, 0, 0, 0, 0, 0, 0, 0, 0, 0, 0, 0, 0, 0, 0, 0, 0]) (g := 3) (by kernel_rfl) (by kernel_rfl) Tryz.underlying116 Tryz.underlying5 (by kernel_rfl) (by kernel_rfl) hV7
 obtain ⟨T8, qs8, hV9⟩ := laid_strs (ss := [[110, 111, 112], [109, 111, 118], [115, 101, 116], [104, 105, 103, 104], [97, 100, 100], [115, 117, 98], [109, 117, 108], [100, 105, 118], [109, 111, 100], [97, 110, 100], [111, 114], [120, 111, 114], [115, 104, 108], [115, 104, 114], [101, 113], [110, 101], [108, 116], [108, 101], [97, 100, 100, 105], [108, 100, 98], [108, 100, 119], [115, 116, 98], [115, 116, 119], [112, 117, 115, 104], [112, 111, 112], [106, 109, 112], [106, 122], [106, 110, 122], [108, 105, 110, 107], [106, 114], [97, 100, 100, 114], [99, 97, 108, 108]]) (g := 1) (by kernel_rfl) (by kernel_rfl) Tryz.underlying78 Tryz.underlying9 (by kernel_rfl) (by kernel_rfl) hV8
 obtain ⟨T9, qs9, hV10⟩ := laid_tab (k := .i64) (zs := [0, 2, 5, 5, 0, 0, 0, 0, 0, 0, 0, 0, 0, 0, 0, 0, 0, 0, 5, 4, 4, 4, 4, 1, 1, 6, 5, 5, 5, 1, 5, 6]) (g := 2) (by kernel_rfl) (by kernel_rfl) Tryz.underlying108 Tryz.underlying3 (by kernel_rfl) (by kernel_rfl) hV9
 obtain ⟨T10, qs10, hV11⟩ := laid_strs (ss := [[], [114], [114, 114], [114, 114, 114], [114, 114, 111], [114, 110], [110]]) (g := 0) (by kernel_rfl) (by kernel_rfl) Tryz.underlying77 Tryz.underlying9 (by kernel_rfl) (by kernel_rfl) hV10
 obtain ⟨qs11, hV12⟩ := laid_skip hV11
 obtain ⟨m, hm⟩ := cell_of_shapedOpen_int (g := 6) (zero := #[.int .i64 0]) (t := 3) hSh (of_decide_eq_true (by kernel_rfl)) (by kernel_rfl) rfl (by kernel_rfl) (by kernel_rfl) Tryz.underlying3
 have hlt2 : 14 ≤ W.heap.size := by
  obtain ⟨cs, hh, _⟩ := hSh.1 13 #[.pointer none] 145 (of_decide_eq_true (by kernel_rfl)) (by kernel_rfl)
  have := lt_of_has hh; omega
 have hfc : ∀ k : Nat, k < 32 → W.cell? ⟨2, k, none⟩ = some (.int .i64 (formsL.getD k 0)) := fun k hk => T9.cell (by kernel_rfl) k hk
 refine ⟨⟨?_, T2, T5, T4, m, hm⟩, ⟨?_, hfc, fun k hk => ?_, fun k hk => ?_, T2⟩, T7⟩
 ·omega
 ·omega
 ·rw [T10 k]
  have : k = 0 ∨ k = 1 ∨ k = 2 ∨ k = 3 ∨ k = 4 ∨ k = 5 ∨ k = 6 := by omega
  rcases this with h | h | h | h | h | h | h <;> subst h <;> rfl
 ·rw [T8 k]
  have e : ∀ k : Fin 32, ([[110, 111, 112], [109, 111, 118], [115, 101, 116], [104, 105, 103, 104], [97, 100, 100], [115, 117, 98], [109, 117, 108], [100, 105, 118], [109, 111, 100], [97, 110, 100], [111, 114], [120, 111, 114], [115, 104, 108], [115, 104, 114], [101, 113], [110, 101], [108, 116], [108, 101], [97, 100, 100, 105], [108, 100, 98], [108, 100, 119], [115, 116, 98], [115, 116, 119], [112, 117, 115, 104], [112, 111, 112], [106, 109, 112], [106, 122], [106, 110, 122], [108, 105, 110, 107], [106, 114], [97, 100, 100, 114], [99, 97, 108, 108]].map fun s : List UInt8 => Value.string ⟨s.toArray⟩)[k.val]? = some (.string (namesB.getD k.val ByteArray.empty)) := by
   intro k
   show (namesB.map Value.string)[k.val]? = _
   rw [List.getElem?_map, List.getElem?_eq_getElem (by rw [namesB_len]; exact k.isLt), List.getD_eq_getElem?_getD, List.getElem?_eq_getElem (by rw [namesB_len]; exact k.isLt)]
   rfl
  exact e ⟨k, hk⟩
def low : Nat := 19
def lay (h : Array Obj) (g : Nat) (cs : Array Value) : Array Obj := h.modify g fun
 | .cells _ t frozen => .cells cs t frozen
 | o => o
/-- A world for the witness: the settled one, the tables as the initialisers lay them. -/
noncomputable def laidWorld (os : Os) : World :=
 { World.holding Tryz.prog os ⟨#[.cells #[.string ⟨#[118, 97, 108, 117, 101, 32, 111, 117, 116, 32, 111, 102, 32, 114, 97, 110, 103, 101]⟩] 197, .cells #[.string ⟨#[105, 110, 118, 97, 108, 105, 100, 32, 115, 121, 110, 116, 97, 120]⟩] 197, .cells #[.slice (some ⟨low + 3, 0, none⟩) 7 7, .slice none 0 0, .int .i64 2] 162, .cells #[.int .u16 9, .int .u16 13, .int .u16 1, .int .u16 32, .int .u16 133, .int .u16 101, .int .u16 160, .int .u16 5760, .int .u16 5600, .int .u16 8192, .int .u16 8202, .int .u16 1, .int .u16 8232, .int .u16 8233, .int .u16 1, .int .u16 8239, .int .u16 8287, .int .u16 48, .int .u16 12288, .int .u16 12288, .int .u16 1] 164], #[], []⟩ with heap := (lay (lay (lay (lay (lay (lay (lay (lay (lay (lay (lay (lay (World.holding Tryz.prog os ⟨#[.cells #[.string ⟨#[118, 97, 108, 117, 101, 32, 111, 117, 116, 32, 111, 102, 32, 114, 97, 110, 103, 101]⟩] 197, .cells #[.string ⟨#[105, 110, 118, 97, 108, 105, 100, 32, 115, 121, 110, 116, 97, 120]⟩] 197, .cells #[.slice (some ⟨low + 3, 0, none⟩) 7 7, .slice none 0 0, .int .i64 2] 162, .cells #[.int .u16 9, .int .u16 13, .int .u16 1, .int .u16 32, .int .u16 133, .int .u16 101, .int .u16 160, .int .u16 5760, .int .u16 5600, .int .u16 8192, .int .u16 8202, .int .u16 1, .int .u16 8232, .int .u16 8233, .int .u16 1, .int .u16 8239, .int .u16 8287, .int .u16 48, .int .u16 12288, .int .u16 12288, .int .u16 1] 164], #[], []⟩).heap 9 #[.int .u8 0, .int .u8 1, .int .u8 28, .int .u8 2, .int .u8 29, .int .u8 14, .int .u8 24, .int .u8 3, .int .u8 30, .int .u8 22, .int .u8 20, .int .u8 15, .int .u8 25, .int .u8 17, .int .u8 4, .int .u8 8, .int .u8 31, .int .u8 27, .int .u8 13, .int .u8 23, .int .u8 21, .int .u8 19, .int .u8 16, .int .u8 7, .int .u8 26, .int .u8 12, .int .u8 18, .int .u8 6, .int .u8 11, .int .u8 5, .int .u8 10, .int .u8 9]) 10 #[.int .u8 0, .int .u8 1, .int .u8 56, .int .u8 2, .int .u8 57, .int .u8 49, .int .u8 28, .int .u8 3, .int .u8 61, .int .u8 58, .int .u8 42, .int .u8 50, .int .u8 38, .int .u8 29, .int .u8 17, .int .u8 4, .int .u8 62, .int .u8 47, .int .u8 59, .int .u8 36, .int .u8 45, .int .u8 43, .int .u8 51, .int .u8 22, .int .u8 53, .int .u8 39, .int .u8 33, .int .u8 30, .int .u8 24, .int .u8 18, .int .u8 12, .int .u8 5, .int .u8 63, .int .u8 55, .int .u8 48, .int .u8 27, .int .u8 60, .int .u8 41, .int .u8 37, .int .u8 16, .int .u8 46, .int .u8 35, .int .u8 44, .int .u8 21, .int .u8 52, .int .u8 32, .int .u8 23, .int .u8 11, .int .u8 54, .int .u8 26, .int .u8 40, .int .u8 15, .int .u8 34, .int .u8 20, .int .u8 31, .int .u8 10, .int .u8 25, .int .u8 14, .int .u8 19, .int .u8 9, .int .u8 13, .int .u8 8, .int .u8 7, .int .u8 6]) 5 #[.int .u64 1, .int .u64 10, .int .u64 100, .int .u64 1000, .int .u64 10000, .int .u64 100000, .int .u64 1000000, .int .u64 10000000, .int .u64 100000000, .int .u64 1000000000, .int .u64 10000000000, .int .u64 100000000000, .int .u64 1000000000000, .int .u64 10000000000000, .int .u64 100000000000000, .int .u64 1000000000000000, .int .u64 10000000000000000, .int .u64 100000000000000000, .int .u64 1000000000000000000, .int .u64 10000000000000000000]) 8 #[.int .u8 128, .int .u8 191, .int .u8 160, .int .u8 191, .int .u8 128, .int .u8 159, .int .u8 144, .int .u8 191, .int .u8 128, .int .u8 143, .int .u8 0, .int .u8 0, .int .u8 0, .int .u8 0, .int .u8 0, .int .u8 0, .int .u8 0, .int .u8 0, .int .u8 0, .int .u8 0, .int .u8 0, .int .u8 0, .int .u8 0, .int .u8 0, .int .u8 0, .int .u8 0, .int .u8 0, .int .u8 0, .int .u8 0, .int .u8 0, .int .u8 0, .int .u8 0]) 12 #[.iface 195 (.pointer (some ⟨low + 0, 0, none⟩))]) 11 #[.iface 195 (.pointer (some ⟨low + 1, 0, none⟩))]) 4 #[.pointer (some ⟨low + 2, 0, none⟩)]) 3 #[.int .u8 0, .int .u8 0, .int .u8 0, .int .u8 0, .int .u8 0, .int .u8 0, .int .u8 0, .int .u8 0, .int .u8 0, .int .u8 1, .int .u8 1, .int .u8 1, .int .u8 1, .int .u8 1, .int .u8 0, .int .u8 0, .int .u8 0, .int .u8 0, .int .u8 0, .int .u8 0, .int .u8 0, .int .u8 0, .int .u8 0, .int .u8 0, .int .u8 0, .int .u8 0, .int .u8 0, .int .u8 0, .int .u8 0, .int .u8 0, .int .u8 0, .int .u8 0, .int .u8 1, .int .u8 0, .int .u8 0, .int .u8 0, .int .u8 0, .int .u8 0, .int .u8 0, .int .u8 0, .int .u8 0, .int .u8 0, .int .u8 0, .int .u8 0, .int .u8 0, .int .u8 0, .int .u8 0, .int .u8 0, .int .u8 0, .int .u8 0, .int .u8 0, .int .u8 0, .int .u8 0, .int .u8 0, .int .u8 0, .int .u8 0, .int .u8 0, .int .u8 0, .int .u8 0, .int .u8 0, .int .u8 0, .int .u8 0, .int .u8 0, .int .u8 0, .int .u8 0, .int .u8 0, .int .u8 0, .int .u8 0, .int .u8 0, .int .u8 0, .int .u8 0, .int .u8 0, .int .u8 0, .int .u8 0, .int .u8 0, .int .u8 0, .int .u8 0, .int .u8 0, .int .u8 0, .int .u8 0, .int .u8 0, .int .u8 0, .int .u8 0, .int .u8 0, .int .u8 0, .int .u8 0, .int .u8 0, .int .u8 0, .int .u8 0, .int .u8 0, .int .u8 0, .int .u8 0, .int .u8 0, .int .u8 0, .int .u8 0, .int .u8 0, .int .u8 0, .int .u8 0, .int .u8 0, .int .u8 0, .int .u8 0, .int .u8 0, .int .u8 0, .int .u8 0, .int .u8 0, .int .u8 0, .int .u8 0, .int .u8 0, .int .u8 0, .int .u8 0, .int .u8 0, .int .u8 0, .int .u8 0, .int .u8 0, .int .u8 0, .int .u8 0, .int .u8 0, .int .u8 0, .int .u8 0, .int .u8 0, .int .u8 0, .int .u8 0, .int .u8 0, .int .u8 0, .int .u8 0, .int .u8 0, .int .u8 0, .int .u8 0, .int .u8 0, .int .u8 0, .int .u8 0, .int .u8 0, .int .u8 0, .int .u8 0, .int .u8 0, .int .u8 0, .int .u8 0, .int .u8 0, .int .u8 0, .int .u8 0, .int .u8 0, .int .u8 0, .int .u8 0, .int .u8 0, .int .u8 0, .int .u8 0, .int .u8 0, .int .u8 0, .int .u8 0, .int .u8 0, .int .u8 0, .int .u8 0, .int .u8 0, .int .u8 0, .int .u8 0, .int .u8 0, .int .u8 0, .int .u8 0, .int .u8 0, .int .u8 0, .int .u8 0, .int .u8 0, .int .u8 0, .int .u8 0, .int .u8 0, .int .u8 0, .int .u8 0, .int .u8 0, .int .u8 0, .int .u8 0, .int .u8 0, .int .u8 0, .int .u8 0, .int .u8 0, .int .u8 0, .int .u8 0, .int .u8 0, .int .u8 0, .int .u8 0, .int .u8 0, .int .u8 0, .int .u8 0, .int .u8 0, .int .u8 0, .int .u8 0, .int .u8 0, .int .u8 0, .int .u8 0, .int .u8 0, .int .u8 0, .int .u8 0, .int .u8 0, .int .u8 0, .int .u8 0, .int .u8 0, .int .u8 0, .int .u8 0, .int .u8 0, .int .u8 0, .int .u8 0, .int .u8 0, .int .u8 0, .int .u8 0, .int .u8 0, .int .u8 0, .int .u8 0, .int .u8 0, .int .u8 0, .int .u8 0, .int .u8 0, .int .u8 0, .int .u8 0, .int .u8 0, .int .u8 0, .int .u8 0, .int .u8 0, .int .u8 0, .int .u8 0, .int .u8 0, .int .u8 0, .int .u8 0, .int .u8 0, .int .u8 0, .int .u8 0, .int .u8 0, .int .u8 0, .int .u8 0, .int .u8 0, .int .u8 0, .int .u8 0, .int .u8 0, .int .u8 0, .int .u8 0, .int .u8 0, .int .u8 0, .int .u8 0, .int .u8 0, .int .u8 0, .int .u8 0, .int .u8 0, .int .u8 0, .int .u8 0, .int .u8 0, .int .u8 0, .int .u8 0, .int .u8 0, .int .u8 0, .int .u8 0, .int .u8 0, .int .u8 0, .int .u8 0, .int .u8 0, .int .u8 0, .int .u8 0, .int .u8 0, .int .u8 0]) 1 #[.string ⟨#[110, 111, 112]⟩, .string ⟨#[109, 111, 118]⟩, .string ⟨#[115, 101, 116]⟩, .string ⟨#[104, 105, 103, 104]⟩, .string ⟨#[97, 100, 100]⟩, .string ⟨#[115, 117, 98]⟩, .string ⟨#[109, 117, 108]⟩, .string ⟨#[100, 105, 118]⟩, .string ⟨#[109, 111, 100]⟩, .string ⟨#[97, 110, 100]⟩, .string ⟨#[111, 114]⟩, .string ⟨#[120, 111, 114]⟩, .string ⟨#[115, 104, 108]⟩, .string ⟨#[115, 104, 114]⟩, .string ⟨#[101, 113]⟩, .string ⟨#[110, 101]⟩, .string ⟨#[108, 116]⟩, .string ⟨#[108, 101]⟩, .string ⟨#[97, 100, 100, 105]⟩, .string ⟨#[108, 100, 98]⟩, .string ⟨#[108, 100, 119]⟩, .string ⟨#[115, 116, 98]⟩, .string ⟨#[115, 116, 119]⟩, .string ⟨#[112, 117, 115, 104]⟩, .string ⟨#[112, 111, 112]⟩, .string ⟨#[106, 109, 112]⟩, .string ⟨#[106, 122]⟩, .string ⟨#[106, 110, 122]⟩, .string ⟨#[108, 105, 110, 107]⟩, .string ⟨#[106, 114]⟩, .string ⟨#[97, 100, 100, 114]⟩, .string ⟨#[99, 97, 108, 108]⟩]) 2 #[.int .i64 0, .int .i64 2, .int .i64 5, .int .i64 5, .int .i64 0, .int .i64 0, .int .i64 0, .int .i64 0, .int .i64 0, .int .i64 0, .int .i64 0, .int .i64 0, .int .i64 0, .int .i64 0, .int .i64 0, .int .i64 0, .int .i64 0, .int .i64 0, .int .i64 5, .int .i64 4, .int .i64 4, .int .i64 4, .int .i64 4, .int .i64 1, .int .i64 1, .int .i64 6, .int .i64 5, .int .i64 5, .int .i64 5, .int .i64 1, .int .i64 5, .int .i64 6]) 0 #[.string ⟨#[]⟩, .string ⟨#[114]⟩, .string ⟨#[114, 114]⟩, .string ⟨#[114, 114, 114]⟩, .string ⟨#[114, 114, 111]⟩, .string ⟨#[114, 110]⟩, .string ⟨#[110]⟩]) 7 (Go.Pinned.utf8FirstZ.map fun z : Nat => Value.int .u8 z).toArray) }
theorem laid_all (os : Os) (args : Array Value) : laidMet Tryz.prog laidList ((laidWorld os).forCall (fun _ _ => 0) ⟨#[], args, []⟩).memory :=
 (LaidIn.of_run [9, 10, 5, 8, 12, 11, 4, 3, 1, 2, 0, 7, 19, 20, 21, 22] 8 (by kernel_rfl) (by kernel_rfl) (by kernel_rfl) (by kernel_rfl)).met
end Go.Proofs.YtfdlifhkeicnnaaGreatDoor
