/- Lemmas and walks for the law of this seat (part 28). -/
import Derived.Test.YtfdlifhkeicnnaaGreatDoorPc27
import Derived.Test.YtfdlifhkeicnnaaGreatDoorProg
import Derived.WalkKit
import Derived.Handy
import Derived.Deep.Light
import Derived.WalkSmall
import Derived.StillTailTactics
import Derived.Lib.Hide
import Derived.Lib.ItoaLen
import Derived.Lib.ItoaMem
import Derived.Lib.ItoaNum
import Derived.Shelf.Vars
import Derived.Lib.LaidIn
namespace Go.Proofs.YtfdlifhkeicnnaaGreatDoor
open Go Go.RowKit
set_option linter.unusedSimpArgs false
set_option linter.unusedVariables false

def opsB (f a b c : Int) : List ByteArray := if f = 1 then [regB a] else if f = 2 then [regB a, regB b] else if f = 3 then [regB a, regB b, regB c] else if f = 4 then [regB a, regB b, numI c] else if f = 5 then [regB a, numI b] else [numI b]
def printS (op a b c : Int) : ByteArray := if valid op a b c then (if form op = 0 then nameB op else (nameB op ++ ⟨#[32]⟩) ++ joinB (opsB (form op) a b c)) else ⟨#[]⟩
theorem valid_range {op a b c : Int} (h : valid op a b c = true) : 0 ≤ op ∧ op < 32 := by
  apply Classical.byContradiction
  intro hn
  have hf : form op = -1 := by unfold form; rw [if_pos (by omega)]
  simp [valid, validF, hf] at h

theorem Print_bad (op a b c : Int) (w : World) (hT : TabI w) (hv : valid op a b c = false) :
    Calls Tryz.prog 19 #[.agg #[.int .i64 op, .int .i64 a, .int .i64 b, .int .i64 c]] w fun e w' => e = .returned (.string ⟨#[]⟩) ∧ Below w.heap.size w w' := by
  have hL : Kn [] w w [] := Kn.refl [] w; (try simp only [kfb] at hL); have hF := hL.facts; (try simp only [Facts, Dist, kd] at hF); go_enter Tryz.func19, Tryz.ntmps19
  go_wp2_with (first | ((with_reducible refine kn_list_set ?_); (try clear hF); clear hL; intro W hL; (try simp only [kfb] at hL); have hF := hL.facts; (try simp only [Facts, Dist, kd] at hF)) | (go_at_call 18; refine kn_calls ?_; (try clear hF); clear hL; intro W hL; (try simp only [kfb] at hL); have hF := hL.facts; (try simp only [Facts, Dist, kd] at hF); (((with_reducible refine (Valid_any _ _ _ _ _ (hT.ext hL.below0)).mono ?_))); rintro e W ⟨rfl, hb⟩; replace hL := hL.below hb; clear hb; (try clear hF); (try simp only [kfb] at hL); have hF := hL.facts; (try simp only [Facts, Dist, kd] at hF)))
  (try simp only [Exit.inBlock, Exit.then]); refine bodyPost_ret (by simp [results, Tryz.results19, go_sem, *]; try rfl) rfl ?_
  exact ⟨rfl, kn_here.below0⟩
theorem Print_any (op a b c : Int) (w : World) (hT : TabI w) :
    Calls Tryz.prog 19 #[.agg #[.int .i64 op, .int .i64 a, .int .i64 b, .int .i64 c]] w fun e w' => e = .returned (.string (printS op a b c)) ∧ Below w.heap.size w w' := by
  cases hv : valid op a b c with
  | false => rw [printS, if_neg (by rw [hv]; decide)]; exact Print_bad op a b c w hT hv
  | true =>
    obtain ⟨h0, h32⟩ := valid_range hv
    have key := hv
    rw [printS, if_pos hv]
    rcases form_vals op with hf | hf | hf | hf | hf | hf | hf | hf <;> unfold valid at key <;> rw [hf] at key ⊢ <;> simp [validF, inR] at key
    · obtain ⟨rfl, rfl, rfl⟩ := key
      exact Print_0 op w hT hf h0 h32 hv
    · obtain ⟨h1, rfl, rfl⟩ := key
      exact Print_1 op a w hT hf h0 h32 hv (by omega)
    · obtain ⟨⟨h1, h2⟩, rfl⟩ := key
      exact Print_2 op a b w hT hf h0 h32 hv (by omega) (by omega)
    · obtain ⟨⟨h1, h2⟩, h3⟩ := key
      exact Print_3 op a b c w hT hf h0 h32 hv (by omega) (by omega) (by omega)
    · obtain ⟨⟨h1, h2⟩, h3⟩ := key
      exact Print_4 op a b c w hT hf h0 h32 hv (by omega) (by omega) (by omega)
    · obtain ⟨⟨h1, h2⟩, rfl⟩ := key
      exact Print_5 op a b w hT hf h0 h32 hv (by omega) (by omega)
    · obtain ⟨h1, rfl, rfl⟩ := key
      exact Print_6 op b w hT hf h0 h32 hv (by omega)

end Go.Proofs.YtfdlifhkeicnnaaGreatDoor
namespace Go.Proofs.YtfdlifhkeicnnaaGreatDoor
open Go Go.RowKit
set_option linter.unusedSimpArgs false
set_option linter.unusedVariables false

theorem Decode_ok (x y z t : UInt8) (w : World) (hT : TabI w) (hk : decOk x y z t = true) :
    Calls Tryz.prog 26 #[.string ⟨#[x, y, z, t]⟩] w fun e w' => e = .returned (.tuple #[.agg #[.int .i64 x.toNat, .int .i64 y.toNat, .int .i64 (dB x z t), .int .i64 (dC x t)], .bool true]) ∧ Below w.heap.size w w' := by
  cases h5 : (form x.toNat == 5)
  · cases h6 : (form x.toNat == 6)
    · cases h4 : (form x.toNat == 4)
      · exact Decode_xt x y z t w hT h5 h6 h4 hk
      · exact Decode_ot x y z t w hT h5 h6 h4 hk
    · exact Decode_n6t x y z t w hT h5 h6 hk
  · exact Decode_n5t x y z t w hT h5 hk
theorem byte_id (x : UInt8) : UInt8.ofNat ((x.toNat : Int) % 256).toNat = x := by
  have h := x.toNat_lt
  have e : ((x.toNat : Int) % 256).toNat = x.toNat := by omega
  rw [e]; exact UInt8.ofNat_toNat
theorem byte_val (n : Int) (m : Int) (h : m = n % 256) : ((UInt8.ofNat m.toNat).toNat : Int) = n % 256 := by
  rw [UInt8.toNat_ofNat', h]; omega
theorem byte_of (n : Int) (x : UInt8) (h : n % 256 = x.toNat) : UInt8.ofNat (n % 256).toNat = x := by
  rw [h, Int.toNat_natCast]; exact UInt8.ofNat_toNat
/-- What is encoded is decoded. -/
theorem enc_dec {op a b c : Int} (hv : valid op a b c = true) : ∃ x y z t : UInt8, encS op a b c = ⟨#[x, y, z, t]⟩ ∧ decOk x y z t = true ∧ (x.toNat : Int) = op ∧ (y.toNat : Int) = a ∧ dB x z t = b ∧ dC x t = c := by
  obtain ⟨h0, h32⟩ := valid_range hv
  have key := hv
  refine ⟨_, _, _, _, by rw [encS, if_pos hv]; rfl, ?_⟩
  have ex : ((UInt8.ofNat (op % 256).toNat).toNat : Int) = op := by rw [byte_val op _ rfl]; omega
  have ey : 0 ≤ a → a ≤ 7 → ((UInt8.ofNat (a % 256).toNat).toNat : Int) = a := fun _ _ => by rw [byte_val a _ rfl]; omega
  have main : ((UInt8.ofNat (a % 256).toNat).toNat : Int) = a ∧ dB (UInt8.ofNat (op % 256).toNat) (UInt8.ofNat (b % 256).toNat) (UInt8.ofNat ((if numB op then b / 256 else c) % 256).toNat) = b ∧ dC (UInt8.ofNat (op % 256).toNat) (UInt8.ofNat ((if numB op then b / 256 else c) % 256).toNat) = c := by
    unfold dB dC
    rw [ex]
    unfold valid at key
    rcases form_vals op with hf | hf | hf | hf | hf | hf | hf | hf <;> rw [hf] at key <;> simp [validF, inR] at key
    · have hn : numB op = false := by unfold numB; rw [hf]; rfl
      rw [if_neg (by rw [hn]; decide), if_neg (by rw [hn]; decide), if_neg (by rw [hf]; decide), if_neg (by rw [hn]; decide), byte_val b _ rfl, byte_val c _ rfl, byte_val a _ rfl]; omega
    · have hn : numB op = false := by unfold numB; rw [hf]; rfl
      rw [if_neg (by rw [hn]; decide), if_neg (by rw [hn]; decide), if_neg (by rw [hf]; decide), if_neg (by rw [hn]; decide), byte_val b _ rfl, byte_val c _ rfl, byte_val a _ rfl]; omega
    · have hn : numB op = false := by unfold numB; rw [hf]; rfl
      rw [if_neg (by rw [hn]; decide), if_neg (by rw [hn]; decide), if_neg (by rw [hf]; decide), if_neg (by rw [hn]; decide), byte_val b _ rfl, byte_val c _ rfl, byte_val a _ rfl]; omega
    · have hn : numB op = false := by unfold numB; rw [hf]; rfl
      rw [if_neg (by rw [hn]; decide), if_neg (by rw [hn]; decide), if_neg (by rw [hf]; decide), if_neg (by rw [hn]; decide), byte_val b _ rfl, byte_val c _ rfl, byte_val a _ rfl]; omega
    · have hn : numB op = false := by unfold numB; rw [hf]; rfl
      rw [if_neg (by rw [hn]; decide), if_neg (by rw [hn]; decide), if_pos hf, if_neg (by rw [hn]; decide), byte_val b _ rfl, byte_val a _ rfl]
      refine ⟨by omega, by omega, ?_⟩
      have e := byte_val c _ rfl
      unfold s8
      split <;> omega
    · have hn : numB op = true := by unfold numB; rw [hf]; rfl
      rw [if_pos hn, if_pos hn, if_pos hn, byte_val a _ rfl]
      refine ⟨by omega, ?_, by omega⟩
      have e := byte_val b _ rfl
      have e2 := byte_val (b / 256) _ rfl
      unfold s16
      rw [e, e2]
      split <;> omega
    · have hn : numB op = true := by unfold numB; rw [hf]; rfl
      rw [if_pos hn, if_pos hn, if_pos hn, byte_val a _ rfl]
      refine ⟨by omega, ?_, by omega⟩
      have e := byte_val b _ rfl
      have e2 := byte_val (b / 256) _ rfl
      unfold s16
      rw [e, e2]
      split <;> omega
  refine ⟨?_, ex, main.1, main.2.1, main.2.2⟩
  unfold decOk
  rw [ex, main.1, main.2.1, main.2.2]
  exact hv
/-- What is decoded is encoded. -/
theorem dec_enc {x y z t : UInt8} (h : decOk x y z t = true) : encS x.toNat y.toNat (dB x z t) (dC x t) = ⟨#[x, y, z, t]⟩ := by
  unfold decOk at h
  have hz := z.toNat_lt
  have ht := t.toNat_lt
  rw [encS, if_pos h]
  unfold encB
  rw [byte_id x, byte_id y]
  unfold dB dC
  cases hn : numB x.toNat
  · rw [if_neg (by decide), if_neg (by decide), if_neg (by decide), byte_id z]
    by_cases h4 : form x.toNat = 4
    · rw [if_pos h4, byte_of _ t (by unfold s8; split <;> omega)]
    · rw [if_neg h4, byte_id t]
  · rw [if_pos rfl, if_pos rfl, byte_of _ z (by unfold s16; split <;> omega), byte_of _ t (by unfold s16; split <;> omega)]

end Go.Proofs.YtfdlifhkeicnnaaGreatDoor
namespace Go.Proofs.YtfdlifhkeicnnaaGreatDoor
open Go Go.RowKit
set_option linter.unusedSimpArgs false
set_option linter.unusedVariables false

def nmB (op : Nat) : Bytes := (nameB op).data.toList
def decB (p : Bytes) : Option (Nat × Int × Int × Int) := match p with
  | [x, y, z, t] => if decOk x y z t then some (x.toNat, y.toNat, dB x z t, dC x t) else none
  | _ => none
theorem digit_ok (k : Nat) (h : k < 10) : 48 ≤ (UInt8.ofNat (48 + k)).toNat ∧ (UInt8.ofNat (48 + k)).toNat ≤ 57 := by
  rw [UInt8.toNat_ofNat']; omega
theorem digits_inA (k : Nat) : Lib.decDigits k ≠ [] ∧ ∀ d ∈ Lib.decDigits k, 48 ≤ d.toNat ∧ d.toNat ≤ 57 := by
  induction k using Nat.strongRecOn with
  | _ k ih =>
    rw [Lib.decDigits]
    split
    · rename_i h; exact ⟨by simp, fun d hd => by rw [List.mem_singleton] at hd; subst hd; exact digit_ok k h⟩
    · rename_i h
      refine ⟨by simp, fun d hd => ?_⟩
      rcases List.mem_append.1 hd with hd | hd
      · exact (ih (k / 10) (by omega)).2 d hd
      · rw [List.mem_singleton] at hd; subst hd; exact digit_ok _ (by omega)
theorem plain_digit {d : UInt8} (h1 : 48 ≤ d.toNat) (h2 : d.toNat ≤ 57) : plainC d := by
  have ne : ∀ v : UInt8, (v.toNat < 48 ∨ 57 < v.toNat) → d ≠ v := fun v hv e => by subst e; omega
  refine ⟨ne _ (by decide), ne _ (by decide), ne _ (by decide), ne _ (by decide), ?_⟩
  unfold blank
  rw [beq_false_of_ne (ne 32 (by decide)), beq_false_of_ne (ne 9 (by decide))]; rfl
theorem itoa_word (n : Int) : plainW (Lib.itoa n) := by
  by_cases h : 0 ≤ n
  · obtain ⟨k, rfl⟩ : ∃ k : Nat, n = k := ⟨n.toNat, by omega⟩
    rw [Lib.itoa_nonneg]
    exact ⟨(digits_inA k).1, fun c hc => plain_digit ((digits_inA k).2 c hc).1 ((digits_inA k).2 c hc).2⟩
  · obtain ⟨k, rfl⟩ : ∃ k : Nat, n = -(k : Int) := ⟨n.natAbs, by omega⟩
    rw [Lib.itoa_neg k (by omega)]
    refine ⟨by simp, fun c hc => ?_⟩
    rcases List.mem_cons.1 hc with rfl | hc
    · exact ⟨by decide, by decide, by decide, by decide, by decide⟩
    · exact plain_digit ((digits_inA k).2 c hc).1 ((digits_inA k).2 c hc).2
instance : DecidablePred plainC := fun c => by unfold plainC; infer_instance
instance : DecidablePred plainW := fun s => by unfold plainW; infer_instance
theorem names_all : ∀ k : Fin 32, plainW (nmB k.val) ∧ findI (nameB (k.val : Nat)) = (k.val : Int) ∧ isDir (nmB k.val) = false := by decide +kernel
theorem OO_dec : Dec OO Lib.itoa nmB where
  int := fun n h0 h1 => canon_itoa h0 h1
  word := itoa_word
  small := fun k hk => by rw [Lib.itoa_nonneg, Lib.decDigits_one (by omega)]
  name := fun op h => by
    obtain ⟨h1, h2, h3⟩ := names_all ⟨op, h⟩
    exact ⟨h1, find_some (s := nameB op) h2, h3⟩
theorem OO_back : Back OO decB where
  ok := fun p op a b c h => by
    unfold decB at h
    split at h
    · rename_i x y z t
      split at h
      · rename_i hk
        injection h with h
        injection h with h1 h
        injection h with h2 h
        injection h with h3 h4
        subst h1 h2 h3 h4
        have hv : valid x.toNat y.toNat (dB x z t) (dC x t) = true := hk
        obtain ⟨r0, r1⟩ := valid_range hv
        refine ⟨by omega, ?_, hv, ?_⟩
        · have key := hv
          show Kinds (form (x.toNat : Int)).toNat _ _ _
          rcases form_vals (x.toNat : Int) with hf | hf | hf | hf | hf | hf | hf | hf <;> unfold valid at key <;> rw [hf] at key ⊢ <;> simp [validF, inR] at key
          · exact ⟨by omega, key.2.1, key.2.2⟩
          · exact ⟨⟨by omega, by omega⟩, by omega, by omega⟩
          · exact ⟨⟨by omega, by omega⟩, ⟨by omega, by omega⟩, by omega⟩
          · exact ⟨⟨by omega, by omega⟩, ⟨by omega, by omega⟩, ⟨by omega, by omega⟩⟩
          · exact ⟨⟨by omega, by omega⟩, ⟨by omega, by omega⟩, ⟨by omega, by omega⟩⟩
          · exact ⟨⟨by omega, by omega⟩, ⟨by omega, by omega⟩, by omega⟩
          · exact ⟨⟨by omega, by omega⟩, by omega, by omega⟩
        · show (encS x.toNat y.toNat (dB x z t) (dC x t)).data.toList = _
          rw [dec_enc hk]
      · cases h
    · cases h
/-- What Disassemble writes. -/
def lineB (p : Bytes) : Bytes := match decB p with
  | some (op, a, b, c) => printed (nmB op) (opsOf Lib.itoa (form op).toNat a b c)
  | none => printed dByte (p.map fun b => Lib.itoa (b.toNat : Int))
theorem joinC_join : ∀ l : List Bytes, joinC l = Lib.join l [44, 32]
  | [] => rfl
  | [x] => by simp [joinC, Lib.join, List.intercalate, List.intersperse]
  | x :: y :: r => by
    rw [joinC, joinC_join (y :: r)]
    simp [Lib.join, List.intercalate, List.intersperse]
theorem printS_line {op a b c : Int} (hv : valid op a b c = true) (n : Nat) (hn : op = n) : (printS op a b c).data.toList = printed (nmB n) (opsOf Lib.itoa (form n).toNat a b c) := by
  subst hn
  unfold printS
  rw [if_pos hv]
  have key := hv
  rcases form_vals (n : Int) with hf | hf | hf | hf | hf | hf | hf | hf
  · exfalso; unfold valid at key; rw [hf] at key; simp [validF] at key
  · rw [if_pos hf, hf]; simp [opsOf, printed, nmB]
  all_goals
    rw [if_neg (by rw [hf]; decide), hf]
    unfold printed
    rw [if_neg (by simp [opsOf])]
    simp [joinB, opsB, opsOf, joinC_join, nmB, regB, numI]

end Go.Proofs.YtfdlifhkeicnnaaGreatDoor
namespace Go.Proofs.YtfdlifhkeicnnaaGreatDoor
open Go Go.RowKit
set_option linter.unusedSimpArgs false
set_option linter.unusedVariables false

theorem joinC_len : ∀ l : List Bytes, (∀ x ∈ l, x.length ≤ 22) → (joinC l).length ≤ 24 * l.length
  | [], _ => by simp [joinC]
  | [x], h => by have := h x (by simp); simp [joinC]; omega
  | x :: y :: r, h => by
    have h1 := h x (by simp)
    have h2 := joinC_len (y :: r) (fun z hz => h z (List.mem_cons_of_mem _ hz))
    simp only [joinC, List.length_append, List.length_cons] at h2 ⊢
    omega
theorem printed_len (name : Bytes) (l : List Bytes) (h : ∀ x ∈ l, x.length ≤ 22) : (printed name l).length ≤ name.length + 1 + 24 * l.length := by
  unfold printed
  split
  · omega
  · have := joinC_len l h
    simp only [List.length_append, List.length_cons]; omega
theorem names_len : ∀ k : Fin 32, (nmB k.val).length ≤ 10 := by decide +kernel
theorem Decode_some (p : ByteArray) (n : Nat) (a b c : Int) (h : decB p.data.toList = some (n, a, b, c)) (w : World) (hT : TabI w) : Calls Tryz.prog 26 #[.string p] w fun e w' => e = .returned (.tuple #[.agg #[.int .i64 n, .int .i64 a, .int .i64 b, .int .i64 c], .bool true]) ∧ Below w.heap.size w w' := by
  unfold decB at h
  split at h
  · rename_i x y z t hp
    split at h
    · rename_i hk
      injection h with h
      injection h with h1 h
      injection h with h2 h
      injection h with h3 h4
      subst h1 h2 h3 h4
      obtain rfl : p = ⟨#[x, y, z, t]⟩ := ba_ext hp
      exact Decode_ok x y z t w hT hk
    · cases h
  · cases h
end Go.Proofs.YtfdlifhkeicnnaaGreatDoor
namespace Go.Proofs.YtfdlifhkeicnnaaGreatDoor
open Go Go.ChangeShapes Go.WideShapes Go.ChangeAt Go.RowKit
theorem own : ownKnob Tryz.prog.godebug = none := by kernel_rfl
theorem kids : Kids Tryz.prog (· < Tryz.prog.types.size) := kids_rows (by kernel_rfl) (by kernel_rfl)
theorem slices : ∀ t e, t < Tryz.prog.types.size → Tryz.prog.underlying t = some (.slice e) → 0 < Tryz.prog.cellsOf e := slices_full_of _ (by kernel_rfl)
theorem ints_one : ∀ t, t < Tryz.prog.types.size → Tryz.prog.underlying t = some (.int .i64) → Tryz.prog.cellsOf t = 1 := by
  intro t ht hu
  have h : (List.range Tryz.prog.types.size).all (fun t => match Tryz.prog.underlying t with | some (.int .i64) => Tryz.prog.cellsOf t == 1 | _ => true) = true := by kernel_rfl
  have := List.all_eq_true.1 h t (List.mem_range.2 ht)
  simpa [hu] using this
def laidList : List (String × DataW Unit) := [("math/bits.deBruijn32tab", Rows.laid_math_bits_deBruijn32tab), ("math/bits.deBruijn64tab", Rows.laid_math_bits_deBruijn64tab), ("internal/strconv.uint64pow10", Rows.laid_internal_strconv_uint64pow10), ("unicode/utf8.acceptRanges", Rows.laid_unicode_utf8_acceptRanges), ("strconv.ErrRange", Rows.laid_strconv_ErrRange), ("strconv.ErrSyntax", Rows.laid_strconv_ErrSyntax), ("unicode.White_Space", Rows.laid_unicode_White_Space), ("strings.asciiSpace", Rows.laid_strings_asciiSpace), ("rehearsal/isa.names", Rows.laid_rehearsal_isa_names), ("rehearsal/isa.forms", Rows.laid_rehearsal_isa_forms), ("rehearsal/isa.operands", Rows.laid_rehearsal_isa_operands), ("unicode/utf8.first", Rows.laid_unicode_utf8_first)]
set_option maxRecDepth 100000 in
/-- What the row's list gives: the tables. -/
theorem tables {W : World} (h : laidMetH Tryz.prog laidList W) (hSh : W.ShapedOpen Tryz.prog) : TabA W := by
  have h' : laidMet Tryz.prog laidList W := h
  obtain ⟨ps, hV, _⟩ := h'
  obtain ⟨T0, qs0, hV1⟩ := laid_tab (k := .u8) (zs := [0, 1, 28, 2, 29, 14, 24, 3, 30, 22, 20, 15, 25, 17, 4, 8, 31, 27, 13, 23, 21, 19, 16, 7, 26, 12, 18, 6, 11, 5, 10, 9]) (g := 9) (by kernel_rfl) (by kernel_rfl) Tryz.underlying184 Tryz.underlying5 (by kernel_rfl) (by kernel_rfl) hV
  obtain ⟨T1, qs1, hV2⟩ := laid_tab (k := .u8) (zs := [0, 1, 56, 2, 57, 49, 28, 3, 61, 58, 42, 50, 38, 29, 17, 4, 62, 47, 59, 36, 45, 43, 51, 22, 53, 39, 33, 30, 24, 18, 12, 5, 63, 55, 48, 27, 60, 41, 37, 16, 46, 35, 44, 21, 52, 32, 23, 11, 54, 26, 40, 15, 34, 20, 31, 10, 25, 14, 19, 9, 13, 8, 7, 6]) (g := 10) (by kernel_rfl) (by kernel_rfl) Tryz.underlying185 Tryz.underlying5 (by kernel_rfl) (by kernel_rfl) hV1
  obtain ⟨T2, qs2, hV3⟩ := laid_tab (k := .u64) (zs := [1, 10, 100, 1000, 10000, 100000, 1000000, 10000000, 100000000, 1000000000, 10000000000, 100000000000, 1000000000000, 10000000000000, 100000000000000, 1000000000000000, 10000000000000000, 100000000000000000, 1000000000000000000, 10000000000000000000]) (g := 5) (by kernel_rfl) (by kernel_rfl) Tryz.underlying170 Tryz.underlying147 (by kernel_rfl) (by kernel_rfl) hV2
  obtain ⟨qs3, hV4⟩ := laid_skip hV3
  obtain ⟨T4, qs4, hV5⟩ := laid_iface (g := 12) (by kernel_rfl) (by kernel_rfl) Tryz.underlying51 hV4
  obtain ⟨T5, qs5, hV6⟩ := laid_iface (g := 11) (by kernel_rfl) (by kernel_rfl) Tryz.underlying51 hV5
  obtain ⟨qs6, hV7⟩ := laid_skip hV6
  obtain ⟨T7, qs7, hV8⟩ := laid_tab (k := .u8) (zs := [0, 0, 0, 0, 0, 0, 0, 0, 0, 1, 1, 1, 1, 1, 0, 0, 0, 0, 0, 0, 0, 0, 0, 0, 0, 0, 0, 0, 0, 0, 0, 0, 1, 0, 0, 0, 0, 0, 0, 0, 0, 0, 0, 0, 0, 0, 0, 0, 0, 0, 0, 0, 0, 0, 0, 0, 0, 0, 0, 0, 0, 0, 0, 0, 0, 0, 0, 0, 0, 0, 0, 0, 0, 0, 0, 0, 0, 0, 0, 0, 0, 0, 0, 0, 0, 0, 0, 0, 0, 0, 0, 0, 0, 0, 0, 0, 0, 0, 0, 0, 0, 0, 0, 0, 0, 0, 0, 0, 0, 0, 0, 0, 0, 0, 0, 0, 0, 0, 0, 0, 0, 0, 0, 0, 0, 0, 0, 0, 0, 0, 0, 0, 0, 0, 0, 0, 0, 0, 0, 0, 0, 0, 0, 0, 0, 0, 0, 0, 0, 0, 0, 0, 0, 0, 0, 0, 0, 0, 0, 0, 0, 0, 0, 0, 0, 0, 0, 0, 0, 0, 0, 0, 0, 0, 0, 0, 0, 0, 0, 0, 0, 0, 0, 0, 0, 0, 0, 0, 0, 0, 0, 0, 0, 0, 0, 0, 0, 0, 0, 0, 0, 0, 0, 0, 0, 0, 0, 0, 0, 0, 0, 0, 0, 0, 0, 0, 0, 0, 0, 0, 0, 0, 0, 0, 0, 0, 0, 0, 0, 0, 0, 0, 0, 0, 0, 0, 0, 0, 0, 0, 0, 0, 0, 0, 0, 0, 0, 0, 0, 0, 0, 0, 0, 0, 0, 0]) (g := 3) (by kernel_rfl) (by kernel_rfl) Tryz.underlying116 Tryz.underlying5 (by kernel_rfl) (by kernel_rfl) hV7
  obtain ⟨T8, qs8, hV9⟩ := laid_strs (ss := [[110, 111, 112], [109, 111, 118], [115, 101, 116], [104, 105, 103, 104], [97, 100, 100], [115, 117, 98], [109, 117, 108], [100, 105, 118], [109, 111, 100], [97, 110, 100], [111, 114], [120, 111, 114], [115, 104, 108], [115, 104, 114], [101, 113], [110, 101], [108, 116], [108, 101], [97, 100, 100, 105], [108, 100, 98], [108, 100, 119], [115, 116, 98], [115, 116, 119], [112, 117, 115, 104], [112, 111, 112], [106, 109, 112], [106, 122], [106, 110, 122], [108, 105, 110, 107], [106, 114], [97, 100, 100, 114], [99, 97, 108, 108]]) (g := 1) (by kernel_rfl) (by kernel_rfl) Tryz.underlying78 Tryz.underlying9 (by kernel_rfl) (by kernel_rfl) hV8
  obtain ⟨T9, qs9, hV10⟩ := laid_tab (k := .i64) (zs := [0, 2, 5, 5, 0, 0, 0, 0, 0, 0, 0, 0, 0, 0, 0, 0, 0, 0, 5, 4, 4, 4, 4, 1, 1, 6, 5, 5, 5, 1, 5, 6]) (g := 2) (by kernel_rfl) (by kernel_rfl) Tryz.underlying108 Tryz.underlying3 (by kernel_rfl) (by kernel_rfl) hV9
  obtain ⟨T10, qs10, hV11⟩ := laid_strs (ss := [[], [114], [114, 114], [114, 114, 114], [114, 114, 111], [114, 110], [110]]) (g := 0) (by kernel_rfl) (by kernel_rfl) Tryz.underlying77 Tryz.underlying9 (by kernel_rfl) (by kernel_rfl) hV10
  obtain ⟨qs11, hV12⟩ := laid_skip hV11
  obtain ⟨m, hm⟩ := cell_of_shapedOpen_int (g := 6) (zero := #[.int .i64 0]) (t := 3) hSh (of_decide_eq_true (by kernel_rfl)) (by kernel_rfl) rfl (by kernel_rfl) (by kernel_rfl) Tryz.underlying3
  have hlt2 : 14 ≤ W.heap.size := by
    obtain ⟨cs, hh, _⟩ := hSh.1 13 #[.pointer none] 145 (of_decide_eq_true (by kernel_rfl)) (by kernel_rfl)
    have := lt_of_has hh; omega
  have hfc : ∀ k : Nat, k < 32 → W.cell? ⟨2, k, none⟩ = some (.int .i64 (formsL.getD k 0)) := fun k hk => T9.cell (by kernel_rfl) k hk
  refine ⟨⟨?_, T2, T5, T4, m, hm⟩, ⟨?_, hfc, fun k hk => ?_, fun k hk => ?_, T2⟩, T7⟩
  · omega
  · omega
  · rw [T10 k]
    have : k = 0 ∨ k = 1 ∨ k = 2 ∨ k = 3 ∨ k = 4 ∨ k = 5 ∨ k = 6 := by omega
    rcases this with h | h | h | h | h | h | h <;> subst h <;> rfl
  · rw [T8 k]
    have e : ∀ k : Fin 32, ([[110, 111, 112], [109, 111, 118], [115, 101, 116], [104, 105, 103, 104], [97, 100, 100], [115, 117, 98], [109, 117, 108], [100, 105, 118], [109, 111, 100], [97, 110, 100], [111, 114], [120, 111, 114], [115, 104, 108], [115, 104, 114], [101, 113], [110, 101], [108, 116], [108, 101], [97, 100, 100, 105], [108, 100, 98], [108, 100, 119], [115, 116, 98], [115, 116, 119], [112, 117, 115, 104], [112, 111, 112], [106, 109, 112], [106, 122], [106, 110, 122], [108, 105, 110, 107], [106, 114], [97, 100, 100, 114], [99, 97, 108, 108]].map fun s : List UInt8 => Value.string ⟨s.toArray⟩)[k.val]? = some (.string (namesB.getD k.val ByteArray.empty)) := by
      intro k
      show (namesB.map Value.string)[k.val]? = _
      rw [List.getElem?_map, List.getElem?_eq_getElem (by rw [namesB_len]; exact k.isLt), List.getD_eq_getElem?_getD, List.getElem?_eq_getElem (by rw [namesB_len]; exact k.isLt)]
      rfl
    exact e ⟨k, hk⟩
end Go.Proofs.YtfdlifhkeicnnaaGreatDoor
namespace Go.Proofs.YtfdlifhkeicnnaaGreatDoor
open Go Go.ChangeShapes Go.WideShapes Go.ChangeAt Go.RowKit
def low : Nat := 19
def lay (h : Array Obj) (g : Nat) (cs : Array Value) : Array Obj := h.modify g fun
  | .cells _ t frozen => .cells cs t frozen
  | o => o
/-- A world for the witness: the settled one, the tables as the initialisers lay them. -/
noncomputable def laidWorld (os : Os) : World :=
  { World.holding Tryz.prog os ⟨#[.cells #[.string ⟨#[118, 97, 108, 117, 101, 32, 111, 117, 116, 32, 111, 102, 32, 114, 97, 110, 103, 101]⟩] 197, .cells #[.string ⟨#[105, 110, 118, 97, 108, 105, 100, 32, 115, 121, 110, 116, 97, 120]⟩] 197, .cells #[.slice (some ⟨low + 3, 0, none⟩) 7 7, .slice none 0 0, .int .i64 2] 162, .cells #[.int .u16 9, .int .u16 13, .int .u16 1, .int .u16 32, .int .u16 133, .int .u16 101, .int .u16 160, .int .u16 5760, .int .u16 5600, .int .u16 8192, .int .u16 8202, .int .u16 1, .int .u16 8232, .int .u16 8233, .int .u16 1, .int .u16 8239, .int .u16 8287, .int .u16 48, .int .u16 12288, .int .u16 12288, .int .u16 1] 164], #[], []⟩ with heap := (lay (lay (lay (lay (lay (lay (lay (lay (lay (lay (lay (lay (World.holding Tryz.prog os ⟨#[.cells #[.string ⟨#[118, 97, 108, 117, 101, 32, 111, 117, 116, 32, 111, 102, 32, 114, 97, 110, 103, 101]⟩] 197, .cells #[.string ⟨#[105, 110, 118, 97, 108, 105, 100, 32, 115, 121, 110, 116, 97, 120]⟩] 197, .cells #[.slice (some ⟨low + 3, 0, none⟩) 7 7, .slice none 0 0, .int .i64 2] 162, .cells #[.int .u16 9, .int .u16 13, .int .u16 1, .int .u16 32, .int .u16 133, .int .u16 101, .int .u16 160, .int .u16 5760, .int .u16 5600, .int .u16 8192, .int .u16 8202, .int .u16 1, .int .u16 8232, .int .u16 8233, .int .u16 1, .int .u16 8239, .int .u16 8287, .int .u16 48, .int .u16 12288, .int .u16 12288, .int .u16 1] 164], #[], []⟩).heap 9 #[.int .u8 0, .int .u8 1, .int .u8 28, .int .u8 2, .int .u8 29, .int .u8 14, .int .u8 24, .int .u8 3, .int .u8 30, .int .u8 22, .int .u8 20, .int .u8 15, .int .u8 25, .int .u8 17, .int .u8 4, .int .u8 8, .int .u8 31, .int .u8 27, .int .u8 13, .int .u8 23, .int .u8 21, .int .u8 19, .int .u8 16, .int .u8 7, .int .u8 26, .int .u8 12, .int .u8 18, .int .u8 6, .int .u8 11, .int .u8 5, .int .u8 10, .int .u8 9]) 10 #[.int .u8 0, .int .u8 1, .int .u8 56, .int .u8 2, .int .u8 57, .int .u8 49, .int .u8 28, .int .u8 3, .int .u8 61, .int .u8 58, .int .u8 42, .int .u8 50, .int .u8 38, .int .u8 29, .int .u8 17, .int .u8 4, .int .u8 62, .int .u8 47, .int .u8 59, .int .u8 36, .int .u8 45, .int .u8 43, .int .u8 51, .int .u8 22, .int .u8 53, .int .u8 39, .int .u8 33, .int .u8 30, .int .u8 24, .int .u8 18, .int .u8 12, .int .u8 5, .int .u8 63, .int .u8 55, .int .u8 48, .int .u8 27, .int .u8 60, .int .u8 41, .int .u8 37, .int .u8 16, .int .u8 46, .int .u8 35, .int .u8 44, .int .u8 21, .int .u8 52, .int .u8 32, .int .u8 23, .int .u8 11, .int .u8 54, .int .u8 26, .int .u8 40, .int .u8 15, .int .u8 34, .int .u8 20, .int .u8 31, .int .u8 10, .int .u8 25, .int .u8 14, .int .u8 19, .int .u8 9, .int .u8 13, .int .u8 8, .int .u8 7, .int .u8 6]) 5 #[.int .u64 1, .int .u64 10, .int .u64 100, .int .u64 1000, .int .u64 10000, .int .u64 100000, .int .u64 1000000, .int .u64 10000000, .int .u64 100000000, .int .u64 1000000000, .int .u64 10000000000, .int .u64 100000000000, .int .u64 1000000000000, .int .u64 10000000000000, .int .u64 100000000000000, .int .u64 1000000000000000, .int .u64 10000000000000000, .int .u64 100000000000000000, .int .u64 1000000000000000000, .int .u64 10000000000000000000]) 8 #[.int .u8 128, .int .u8 191, .int .u8 160, .int .u8 191, .int .u8 128, .int .u8 159, .int .u8 144, .int .u8 191, .int .u8 128, .int .u8 143, .int .u8 0, .int .u8 0, .int .u8 0, .int .u8 0, .int .u8 0, .int .u8 0, .int .u8 0, .int .u8 0, .int .u8 0, .int .u8 0, .int .u8 0, .int .u8 0, .int .u8 0, .int .u8 0, .int .u8 0, .int .u8 0, .int .u8 0, .int .u8 0, .int .u8 0, .int .u8 0, .int .u8 0, .int .u8 0]) 12 #[.iface 195 (.pointer (some ⟨low + 0, 0, none⟩))]) 11 #[.iface 195 (.pointer (some ⟨low + 1, 0, none⟩))]) 4 #[.pointer (some ⟨low + 2, 0, none⟩)]) 3 #[.int .u8 0, .int .u8 0, .int .u8 0, .int .u8 0, .int .u8 0, .int .u8 0, .int .u8 0, .int .u8 0, .int .u8 0, .int .u8 1, .int .u8 1, .int .u8 1, .int .u8 1, .int .u8 1, .int .u8 0, .int .u8 0, .int .u8 0, .int .u8 0, .int .u8 0, .int .u8 0, .int .u8 0, .int .u8 0, .int .u8 0, .int .u8 0, .int .u8 0, .int .u8 0, .int .u8 0, .int .u8 0, .int .u8 0, .int .u8 0, .int .u8 0, .int .u8 0, .int .u8 1, .int .u8 0, .int .u8 0, .int .u8 0, .int .u8 0, .int .u8 0, .int .u8 0, .int .u8 0, .int .u8 0, .int .u8 0, .int .u8 0, .int .u8 0, .int .u8 0, .int .u8 0, .int .u8 0, .int .u8 0, .int .u8 0, .int .u8 0, .int .u8 0, .int .u8 0, .int .u8 0, .int .u8 0, .int .u8 0, .int .u8 0, .int .u8 0, .int .u8 0, .int .u8 0, .int .u8 0, .int .u8 0, .int .u8 0, .int .u8 0, .int .u8 0, .int .u8 0, .int .u8 0, .int .u8 0, .int .u8 0, .int .u8 0, .int .u8 0, .int .u8 0, .int .u8 0, .int .u8 0, .int .u8 0, .int .u8 0, .int .u8 0, .int .u8 0, .int .u8 0, .int .u8 0, .int .u8 0, .int .u8 0, .int .u8 0, .int .u8 0, .int .u8 0, .int .u8 0, .int .u8 0, .int .u8 0, .int .u8 0, .int .u8 0, .int .u8 0, .int .u8 0, .int .u8 0, .int .u8 0, .int .u8 0, .int .u8 0, .int .u8 0, .int .u8 0, .int .u8 0, .int .u8 0, .int .u8 0, .int .u8 0, .int .u8 0, .int .u8 0, .int .u8 0, .int .u8 0, .int .u8 0, .int .u8 0, .int .u8 0, .int .u8 0, .int .u8 0, .int .u8 0, .int .u8 0, .int .u8 0, .int .u8 0, .int .u8 0, .int .u8 0, .int .u8 0, .int .u8 0, .int .u8 0, .int .u8 0, .int .u8 0, .int .u8 0, .int .u8 0, .int .u8 0, .int .u8 0, .int .u8 0, .int .u8 0, .int .u8 0, .int .u8 0, .int .u8 0, .int .u8 0, .int .u8 0, .int .u8 0, .int .u8 0, .int .u8 0, .int .u8 0, .int .u8 0, .int .u8 0, .int .u8 0, .int .u8 0, .int .u8 0, .int .u8 0, .int .u8 0, .int .u8 0, .int .u8 0, .int .u8 0, .int .u8 0, .int .u8 0, .int .u8 0, .int .u8 0, .int .u8 0, .int .u8 0, .int .u8 0, .int .u8 0, .int .u8 0, .int .u8 0, .int .u8 0, .int .u8 0, .int .u8 0, .int .u8 0, .int .u8 0, .int .u8 0, .int .u8 0, .int .u8 0, .int .u8 0, .int .u8 0, .int .u8 0, .int .u8 0, .int .u8 0, .int .u8 0, .int .u8 0, .int .u8 0, .int .u8 0, .int .u8 0, .int .u8 0, .int .u8 0, .int .u8 0, .int .u8 0, .int .u8 0, .int .u8 0, .int .u8 0, .int .u8 0, .int .u8 0, .int .u8 0, .int .u8 0, .int .u8 0, .int .u8 0, .int .u8 0, .int .u8 0, .int .u8 0, .int .u8 0, .int .u8 0, .int .u8 0, .int .u8 0, .int .u8 0, .int .u8 0, .int .u8 0, .int .u8 0, .int .u8 0, .int .u8 0, .int .u8 0, .int .u8 0, .int .u8 0, .int .u8 0, .int .u8 0, .int .u8 0, .int .u8 0, .int .u8 0, .int .u8 0, .int .u8 0, .int .u8 0, .int .u8 0, .int .u8 0, .int .u8 0, .int .u8 0, .int .u8 0, .int .u8 0, .int .u8 0, .int .u8 0, .int .u8 0, .int .u8 0, .int .u8 0, .int .u8 0, .int .u8 0, .int .u8 0, .int .u8 0, .int .u8 0, .int .u8 0, .int .u8 0, .int .u8 0, .int .u8 0, .int .u8 0, .int .u8 0, .int .u8 0, .int .u8 0, .int .u8 0, .int .u8 0, .int .u8 0, .int .u8 0, .int .u8 0, .int .u8 0, .int .u8 0, .int .u8 0, .int .u8 0, .int .u8 0, .int .u8 0, .int .u8 0, .int .u8 0, .int .u8 0, .int .u8 0, .int .u8 0, .int .u8 0, .int .u8 0, .int .u8 0, .int .u8 0, .int .u8 0]) 1 #[.string ⟨#[110, 111, 112]⟩, .string ⟨#[109, 111, 118]⟩, .string ⟨#[115, 101, 116]⟩, .string ⟨#[104, 105, 103, 104]⟩, .string ⟨#[97, 100, 100]⟩, .string ⟨#[115, 117, 98]⟩, .string ⟨#[109, 117, 108]⟩, .string ⟨#[100, 105, 118]⟩, .string ⟨#[109, 111, 100]⟩, .string ⟨#[97, 110, 100]⟩, .string ⟨#[111, 114]⟩, .string ⟨#[120, 111, 114]⟩, .string ⟨#[115, 104, 108]⟩, .string ⟨#[115, 104, 114]⟩, .string ⟨#[101, 113]⟩, .string ⟨#[110, 101]⟩, .string ⟨#[108, 116]⟩, .string ⟨#[108, 101]⟩, .string ⟨#[97, 100, 100, 105]⟩, .string ⟨#[108, 100, 98]⟩, .string ⟨#[108, 100, 119]⟩, .string ⟨#[115, 116, 98]⟩, .string ⟨#[115, 116, 119]⟩, .string ⟨#[112, 117, 115, 104]⟩, .string ⟨#[112, 111, 112]⟩, .string ⟨#[106, 109, 112]⟩, .string ⟨#[106, 122]⟩, .string ⟨#[106, 110, 122]⟩, .string ⟨#[108, 105, 110, 107]⟩, .string ⟨#[106, 114]⟩, .string ⟨#[97, 100, 100, 114]⟩, .string ⟨#[99, 97, 108, 108]⟩]) 2 #[.int .i64 0, .int .i64 2, .int .i64 5, .int .i64 5, .int .i64 0, .int .i64 0, .int .i64 0, .int .i64 0, .int .i64 0, .int .i64 0, .int .i64 0, .int .i64 0, .int .i64 0, .int .i64 0, .int .i64 0, .int .i64 0, .int .i64 0, .int .i64 0, .int .i64 5, .int .i64 4, .int .i64 4, .int .i64 4, .int .i64 4, .int .i64 1, .int .i64 1, .int .i64 6, .int .i64 5, .int .i64 5, .int .i64 5, .int .i64 1, .int .i64 5, .int .i64 6]) 0 #[.string ⟨#[]⟩, .string ⟨#[114]⟩, .string ⟨#[114, 114]⟩, .string ⟨#[114, 114, 114]⟩, .string ⟨#[114, 114, 111]⟩, .string ⟨#[114, 110]⟩, .string ⟨#[110]⟩]) 7 (Go.Pinned.utf8FirstZ.map fun z : Nat => Value.int .u8 z).toArray) }
theorem laid_all (os : Os) (args : Array Value) : laidMet Tryz.prog laidList ((laidWorld os).forCall (fun _ _ => 0) ⟨#[], args, []⟩).memory :=
  (LaidIn.of_run [9, 10, 5, 8, 12, 11, 4, 3, 1, 2, 0, 7, 19, 20, 21, 22] 8 (by kernel_rfl) (by kernel_rfl) (by kernel_rfl) (by kernel_rfl)).met
end Go.Proofs.YtfdlifhkeicnnaaGreatDoor
namespace Go.Proofs.YtfdlifhkeicnnaaGreatDoor
open Go Go.RowKit
set_option linter.unusedSimpArgs false
set_option linter.unusedVariables false
theorem smallT0 : asm OO (linesB [97, 58, 32, 46, 98, 121, 116, 101, 32, 49, 10, 98, 58, 32, 115, 101, 116, 32, 114, 49, 44, 32, 98, 10, 106, 109, 112, 32, 97, 32, 59, 32, 120]) = .ok ([1, 0, 0, 0] ++ (encS 2 1 68 0).data.toList ++ (encS 25 0 (-12) 0).data.toList) := by kernel_rfl
theorem smallT2 : asm OO (linesB [106, 109, 112, 32, 110, 111, 119, 104, 101, 114, 101]) = .bad 4 1 := by kernel_rfl
theorem smallT3 : asm OO (linesB [115, 101, 116, 32, 114, 56, 44, 32, 49]) = .bad 2 1 := by kernel_rfl
theorem smallT4 : asm OO (linesB [115, 101, 116, 32, 114, 49, 44, 32, 52, 48, 48, 48, 48]) = .bad 3 1 := by kernel_rfl
theorem smallT1 (hu : unqB [34, 97, 59, 92, 110, 34] = some [97, 59, 10]) : asm OO (linesB [46, 116, 101, 120, 116, 32, 34, 97, 59, 92, 110, 34]) = .ok [97, 59, 10] := by
  have hl : (linesB [46, 116, 101, 120, 116, 32, 34, 97, 59, 92, 110, 34]).map read = [⟨[], dText, [[34, 97, 59, 92, 110, 34]]⟩] := by kernel_rfl
  have hd : ∀ last, direct OO [] ⟨[], dText, [[34, 97, 59, 92, 110, 34]]⟩ last = .ok [97, 59, 10] := fun last => by
    have h : direct OO [] ⟨[], dText, [[34, 97, 59, 92, 110, 34]]⟩ last = (match OO.unq [34, 97, 59, 92, 110, 34] with
      | some u => .ok u
      | none => .bad 2) := by unfold direct; simp only; rw [if_neg (by decide), if_neg (by decide), if_pos trivial]; rfl
    rw [h, show OO.unq [34, 97, 59, 92, 110, 34] = some [97, 59, 10] from hu]
  have h1 : measure OO ⟨[], dText, [[34, 97, 59, 92, 110, 34]]⟩ 0 [] = .ok (3, 0, []) := by
    have h : measure OO ⟨[], dText, [[34, 97, 59, 92, 110, 34]]⟩ 0 [] = ((direct OO [] ⟨[], dText, [[34, 97, 59, 92, 110, 34]]⟩ false).bind fun b => .ok b.length).bind fun n => if 4096 < 0 + n then .bad 6 else .ok (0 + n, 0, []) := by kernel_rfl
    rw [h, hd]; rfl
  have h2 : emit OO [] ⟨[], dText, [[34, 97, 59, 92, 110, 34]]⟩ 0 [] = .ok [97, 59, 10] := by
    have h : emit OO [] ⟨[], dText, [[34, 97, 59, 92, 110, 34]]⟩ 0 [] = (direct OO [] ⟨[], dText, [[34, 97, 59, 92, 110, 34]]⟩ true).bind fun b => .ok ([] ++ b) := by kernel_rfl
    rw [h, hd]; rfl
  simp only [asm, hl, pass1, h1, pass2, h2]
theorem qb_head {c v : UInt8} {x t : Bytes} (hv : v ≠ 92) (h : qb c ++ x = v :: t) : c = v ∧ x = t := by
  unfold qb at h
  split at h
  · simp at h; exact absurd h.1.symm hv
  · split at h
    · simp at h; exact absurd h.1.symm hv
    · split at h
      · simpa using h
      · simp at h; exact absurd h.1.symm hv
theorem qb_lf {c : UInt8} {x t : Bytes} (h : qb c ++ x = 92 :: 110 :: t) : c = 10 ∧ x = t := by
  unfold qb at h
  split at h
  · rename_i hc
    rcases hc with rfl | rfl <;> simp at h
  · rename_i hn
    split at h
    · rename_i hc; simp at h; exact ⟨hc, h⟩
    · split at h
      · simp at h; exact absurd (.inr h.1) hn
      · simp at h
theorem unq_a : unqB [34, 97, 59, 92, 110, 34] = some [97, 59, 10] := unq_some (by decide) fun d hd => by
  have h : d.flatMap qb = [97, 59, 92, 110] := List.append_cancel_right (show d.flatMap qb ++ [34] = [97, 59, 92, 110] ++ [34] from by unfold quoteB at hd; injection hd)
  cases d with
  | nil => cases h
  | cons c d =>
    rw [List.flatMap_cons] at h
    obtain ⟨e, h1⟩ := qb_head (by decide) h; clear h; subst e; have h := h1; clear h1
    cases d with
    | nil => cases h
    | cons c d =>
      rw [List.flatMap_cons] at h
      obtain ⟨e, h1⟩ := qb_head (by decide) h; clear h; subst e; have h := h1; clear h1
      cases d with
      | nil => cases h
      | cons c d =>
        rw [List.flatMap_cons] at h
        obtain ⟨e, h1⟩ := qb_lf h; clear h; subst e; have h := h1; clear h1
        cases d with
        | nil => rfl
        | cons c d =>
          exfalso
          have h9 := congrArg List.length h
          have hq : 0 < (qb c).length := by unfold qb; split <;> (try split) <;> (try split) <;> simp
          rw [List.flatMap_cons, List.length_append, List.length_nil] at h9
          omega

end Go.Proofs.YtfdlifhkeicnnaaGreatDoor
namespace Go.Proofs.YtfdlifhkeicnnaaGreatDoor
open Go Go.RowKit
set_option linter.unusedSimpArgs false
set_option linter.unusedVariables false
def smallW : Bytes := [1, 0, 0, 0] ++ (encS 2 1 68 0).data.toList ++ (encS 25 0 (-12) 0).data.toList
theorem smallC0 (w : World) (hT : TabA w) : Calls Tryz.prog 11 #[.string ⟨#[97, 58, 32, 46, 98, 121, 116, 101, 32, 49, 10, 98, 58, 32, 115, 101, 116, 32, 114, 49, 44, 32, 98, 10, 106, 109, 112, 32, 97, 32, 59, 32, 120]⟩] w fun e w' => e = .returned (.tuple #[.string ⟨smallW.toArray⟩, .int .i64 0, .int .i64 0]) ∧ Below w.heap.size w w' := by
  refine (Assemble_is (Lib.hid iany) ⟨#[97, 58, 32, 46, 98, 121, 116, 101, 32, 49, 10, 98, 58, 32, 115, 101, 116, 32, 114, 49, 44, 32, 98, 10, 106, 109, 112, 32, 97, 32, 59, 32, 120]⟩ (by decide) w hT).mono ?_
  intro e w' h
  unfold AsmP at h
  rw [show asm OO (linesB (⟨#[97, 58, 32, 46, 98, 121, 116, 101, 32, 49, 10, 98, 58, 32, 115, 101, 116, 32, 114, 49, 44, 32, 98, 10, 106, 109, 112, 32, 97, 32, 59, 32, 120]⟩ : ByteArray).data.toList) = _ from smallT0] at h
  exact ⟨h.2, h.1⟩
theorem smallC1 (w : World) (hT : TabA w) : Calls Tryz.prog 11 #[.string ⟨#[46, 116, 101, 120, 116, 32, 34, 97, 59, 92, 110, 34]⟩] w fun e w' => e = .returned (.tuple #[.string ⟨#[97, 59, 10]⟩, .int .i64 0, .int .i64 0]) ∧ Below w.heap.size w w' := by
  refine (Assemble_is (Lib.hid iany) ⟨#[46, 116, 101, 120, 116, 32, 34, 97, 59, 92, 110, 34]⟩ (by decide) w hT).mono ?_
  intro e w' h
  unfold AsmP at h
  rw [show asm OO (linesB (⟨#[46, 116, 101, 120, 116, 32, 34, 97, 59, 92, 110, 34]⟩ : ByteArray).data.toList) = _ from smallT1 unq_a] at h
  exact ⟨h.2, h.1⟩
theorem smallC2 (w : World) (hT : TabA w) : Calls Tryz.prog 11 #[.string ⟨#[106, 109, 112, 32, 110, 111, 119, 104, 101, 114, 101]⟩] w fun e w' => e = .returned (.tuple #[.string ⟨#[]⟩, .int .i64 4, .int .i64 1]) ∧ Below w.heap.size w w' := by
  refine (Assemble_is (Lib.hid iany) ⟨#[106, 109, 112, 32, 110, 111, 119, 104, 101, 114, 101]⟩ (by decide) w hT).mono ?_
  intro e w' h
  unfold AsmP at h
  rw [show asm OO (linesB (⟨#[106, 109, 112, 32, 110, 111, 119, 104, 101, 114, 101]⟩ : ByteArray).data.toList) = _ from smallT2] at h
  exact ⟨h.2, h.1⟩
theorem smallC3 (w : World) (hT : TabA w) : Calls Tryz.prog 11 #[.string ⟨#[115, 101, 116, 32, 114, 56, 44, 32, 49]⟩] w fun e w' => e = .returned (.tuple #[.string ⟨#[]⟩, .int .i64 2, .int .i64 1]) ∧ Below w.heap.size w w' := by
  refine (Assemble_is (Lib.hid iany) ⟨#[115, 101, 116, 32, 114, 56, 44, 32, 49]⟩ (by decide) w hT).mono ?_
  intro e w' h
  unfold AsmP at h
  rw [show asm OO (linesB (⟨#[115, 101, 116, 32, 114, 56, 44, 32, 49]⟩ : ByteArray).data.toList) = _ from smallT3] at h
  exact ⟨h.2, h.1⟩
theorem smallC4 (w : World) (hT : TabA w) : Calls Tryz.prog 11 #[.string ⟨#[115, 101, 116, 32, 114, 49, 44, 32, 52, 48, 48, 48, 48]⟩] w fun e w' => e = .returned (.tuple #[.string ⟨#[]⟩, .int .i64 3, .int .i64 1]) ∧ Below w.heap.size w w' := by
  refine (Assemble_is (Lib.hid iany) ⟨#[115, 101, 116, 32, 114, 49, 44, 32, 52, 48, 48, 48, 48]⟩ (by decide) w hT).mono ?_
  intro e w' h
  unfold AsmP at h
  rw [show asm OO (linesB (⟨#[115, 101, 116, 32, 114, 49, 44, 32, 52, 48, 48, 48, 48]⟩ : ByteArray).data.toList) = _ from smallT4] at h
  exact ⟨h.2, h.1⟩
theorem smallW_eq : smallW = ((⟨#[1, 0, 0, 0]⟩ : ByteArray) ++ encS 2 1 68 0 ++ encS 25 0 (-12) 0).toList := by decide +kernel
theorem smallE : (encS 2 1 68 0).size = 4 ∧ (encS 25 0 (-12) 0).size = 4 ∧ ((⟨#[1, 0, 0, 0]⟩ : ByteArray) ++ encS 2 1 68 0).size = 8 ∧ ((⟨#[1, 0, 0, 0]⟩ : ByteArray) ++ encS 2 1 68 0 ++ encS 25 0 (-12) 0).size = 12 := by decide +kernel
set_option maxRecDepth 20000 in
set_option maxHeartbeats 4000000 in
theorem small_is (w : World) (hT : TabA w) : Calls Tryz.prog 8 #[] w fun e w' => e = .returned (.bool true) ∧ Below w.heap.size w w' := by
  obtain ⟨s1, s2, s3, s4⟩ := smallE
  have s5 := smallW_eq
  have hL : Kn [] w w [] := Kn.refl [] w; (try simp only [kfb] at hL); have hF := hL.facts; (try simp only [Facts, Dist, kd] at hF); go_enter Tryz.func8, Tryz.ntmps8
  go_wp2_with (first | ((with_reducible refine kn_list_set ?_); (try clear hF); clear hL; intro W hL; (try simp only [kfb] at hL); have hF := hL.facts; (try simp only [Facts, Dist, kd] at hF)) | (go_at_call 11; refine kn_calls ?_; (try clear hF); clear hL; intro W hL; (try simp only [kfb] at hL); have hF := hL.facts; (try simp only [Facts, Dist, kd] at hF); (((first | (with_reducible refine (smallC0 _ (hT.kn hL (by simp))).mono ?_) | (with_reducible refine (smallC1 _ (hT.kn hL (by simp))).mono ?_) | (with_reducible refine (smallC2 _ (hT.kn hL (by simp))).mono ?_) | (with_reducible refine (smallC3 _ (hT.kn hL (by simp))).mono ?_) | (with_reducible refine (smallC4 _ (hT.kn hL (by simp))).mono ?_)))); rintro e W ⟨rfl, hb⟩; replace hL := hL.below hb; clear hb; (try clear hF); (try simp only [kfb] at hL); have hF := hL.facts; (try simp only [Facts, Dist, kd] at hF)) | (go_at_call 20; refine kn_calls ?_; (try clear hF); clear hL; intro W hL; (try simp only [kfb] at hL); have hF := hL.facts; (try simp only [Facts, Dist, kd] at hF); (((with_reducible refine (Encode_any _ _ _ _ _ ((hT.kn hL (by simp)).i)).mono ?_))); rintro e W ⟨rfl, hb⟩; replace hL := hL.below hb; clear hb; (try clear hF); (try simp only [kfb] at hL); have hF := hL.facts; (try simp only [Facts, Dist, kd] at hF)))
  (try simp only [Exit.inBlock, Exit.then]); refine bodyPost_ret (by simp [results, Tryz.results8, go_sem, *]; try rfl) rfl ?_
  exact ⟨rfl, hL.below0⟩

end Go.Proofs.YtfdlifhkeicnnaaGreatDoor
namespace Go.Proofs.YtfdlifhkeicnnaaGreatDoor
open Go Go.RowKit
set_option linter.unusedSimpArgs false
set_option linter.unusedVariables false
def join10 (l : List Bytes) : Bytes := l.flatMap fun x => x ++ [10]
/-- A string divided at its line feeds (as split10). -/
theorem split_line : ∀ (x t : Bytes), 10 ∉ x → split10 (x ++ 10 :: t) = x :: split10 t
  | [], t, _ => by rw [List.nil_append, split10, if_pos rfl]
  | c :: x, t, h => by
    have hc : c ≠ 10 := fun e => h (by rw [e]; simp)
    rw [List.cons_append, split10, if_neg hc, split_line x t (fun hm => h (List.mem_cons_of_mem _ hm))]
theorem split_last : ∀ x : Bytes, 10 ∉ x → split10 x = [x]
  | [], _ => rfl
  | c :: x, h => by
    have hc : c ≠ 10 := fun e => h (by rw [e]; simp)
    rw [split10, if_neg hc, split_last x (fun hm => h (List.mem_cons_of_mem _ hm))]
theorem split_ne : ∀ s : Bytes, split10 s ≠ []
  | [] => by simp [split10]
  | c :: t => by
    rw [split10]
    split
    · simp
    · split <;> simp
theorem split_in : ∀ (s : Bytes), ∀ x ∈ split10 s, 10 ∉ x
  | [], x, hx => by simp [split10] at hx; subst hx; simp
  | c :: t, x, hx => by
    rw [split10] at hx
    split at hx
    · rcases List.mem_cons.1 hx with rfl | hx
      · simp
      · exact split_in t x hx
    · rename_i hc
      have ih := split_in t
      split at hx
      · rename_i h r e
        rw [e] at ih
        rcases List.mem_cons.1 hx with rfl | hx
        · have := ih h (by simp)
          intro hm
          rcases List.mem_cons.1 hm with e2 | hm
          · exact hc e2.symm
          · exact this hm
        · exact ih x (by simp [hx])
      · rename_i e
        exact absurd e (split_ne t)
theorem split_join : ∀ s : Bytes, join10 (split10 s) = s ++ [10]
  | [] => rfl
  | c :: t => by
    have ih := split_join t
    rw [split10]
    split
    · rename_i h; subst h
      unfold join10 at ih ⊢
      rw [List.flatMap_cons, ih]; rfl
    · split
      · rename_i h r e
        rw [e] at ih
        unfold join10 at ih ⊢
        rw [List.flatMap_cons] at ih ⊢
        rw [List.cons_append, List.cons_append, ih]; rfl
      · rename_i e
        exact absurd e (split_ne t)
/-- What is left without a line feed at the end. -/
def trim10 (s : Bytes) : Bytes := if s.getLast? = some 10 then s.dropLast else s
theorem trim_snoc (s : Bytes) : trim10 (s ++ [10]) = s := by unfold trim10; rw [if_pos (by simp)]; simp
theorem trim_or (s : Bytes) : (s = trim10 s ++ [10] ∧ s.getLast? = some 10) ∨ (trim10 s = s ∧ s.getLast? ≠ some 10) := by
  unfold trim10
  split
  · rename_i h
    left
    have hne : s ≠ [] := by rintro rfl; simp at h
    have := List.dropLast_concat_getLast hne
    rw [List.getLast?_eq_some_getLast hne] at h
    injection h with h
    rw [h] at this
    exact ⟨this.symm, by rw [← this]; simp⟩
  · rename_i h; right; exact ⟨rfl, h⟩
def lns (s : Bytes) : List Bytes := if s = [] then [] else split10 (trim10 s)
theorem lns_in (s : Bytes) : ∀ x ∈ lns s, 10 ∉ x := by
  unfold lns
  split
  · simp
  · exact split_in _
theorem lns_join (s : Bytes) : join10 (lns s) = if s = [] then [] else if s.getLast? = some 10 then s else s ++ [10] := by
  unfold lns
  split
  · rfl
  · rw [split_join]
    rcases trim_or s with ⟨h1, h2⟩ | ⟨h1, h2⟩
    · rw [if_pos h2]; exact h1.symm
    · rw [if_neg h2, h1]
theorem split_lines : ∀ (l : List Bytes) (x : Bytes), (∀ y ∈ l, 10 ∉ y) → 10 ∉ x → split10 (join10 l ++ x) = l ++ [x]
  | [], x, _, hx => split_last x hx
  | y :: l, x, h, hx => by
    have e : join10 (y :: l) ++ x = y ++ 10 :: (join10 l ++ x) := by simp [join10]
    rw [e, split_line _ _ (h y (by simp)), split_lines l x (fun z hz => h z (List.mem_cons_of_mem _ hz)) hx]; rfl
theorem lns_lines (l : List Bytes) (h : ∀ y ∈ l, 10 ∉ y) : lns (join10 l) = l := by
  rcases List.eq_nil_or_concat l with rfl | ⟨l', x, rfl⟩
  · rfl
  · rw [List.concat_eq_append] at h ⊢
    have e : join10 (l' ++ [x]) = (join10 l' ++ x) ++ [10] := by simp [join10]
    unfold lns
    rw [e, if_neg (by simp), trim_snoc]
    exact split_lines l' x (fun y hy => h y (by simp [hy])) (h x (by simp))
/-! Fields. -/
theorem suffix10 : ∀ s : Bytes, List.isSuffixOf [10] s = (s.getLast? == some 10) := fun s => by
  rcases List.eq_nil_or_concat s with rfl | ⟨l, x, rfl⟩
  · rfl
  · rw [List.concat_eq_append]
    unfold List.isSuffixOf
    rw [List.reverse_append]
    simp [List.isPrefixOf]
    rcases Decidable.em (x = 10) with h | h
    · subst h; simp
    · rw [beq_false_of_ne h, beq_false_of_ne (Ne.symm h)]
theorem lines_lns (s : Bytes) : linesB s = lns s := by
  unfold linesB lns
  split
  · rfl
  · congr 1
    unfold Lib.trimSuffix trim10 Lib.hasSuffix
    rw [suffix10]
    by_cases h : s.getLast? = some 10
    · rw [if_pos (by rw [h]; rfl), if_pos h, List.dropLast_eq_take]; rfl
    · rw [if_neg (by simpa using h), if_neg h]

end Go.Proofs.YtfdlifhkeicnnaaGreatDoor
namespace Go.Proofs.YtfdlifhkeicnnaaGreatDoor
open Go Go.RowKit
set_option linter.unusedSimpArgs false
set_option linter.unusedVariables false

theorem itoa_no (n : Int) : (10 : UInt8) ∉ Lib.itoa n := by
  by_cases h : 0 ≤ n
  · obtain ⟨k, rfl⟩ : ∃ k : Nat, n = k := ⟨n.toNat, by omega⟩
    rw [Lib.itoa_nonneg]
    intro hc
    have := ((digits_inA k).2 _ hc).1
    exact absurd this (by decide)
  · obtain ⟨k, rfl⟩ : ∃ k : Nat, n = -(k : Int) := ⟨n.natAbs, by omega⟩
    rw [Lib.itoa_neg k (by omega)]
    intro hc
    rcases List.mem_cons.1 hc with hc | hc
    · exact absurd hc (by decide)
    · have := ((digits_inA k).2 _ hc).1
      exact absurd this (by decide)
theorem joinC_no : ∀ l : List Bytes, (∀ x ∈ l, (10 : UInt8) ∉ x) → (10 : UInt8) ∉ joinC l
  | [], _ => by simp [joinC]
  | [x], h => h x (by simp)
  | x :: y :: r, h => by
    have h1 := h x (by simp)
    have h2 := joinC_no (y :: r) (fun z hz => h z (List.mem_cons_of_mem _ hz))
    simp only [joinC] at h2 ⊢
    intro hc
    simp at hc
    rcases hc with hc | hc
    · exact h1 hc
    · exact h2 hc
theorem printed_no (name : Bytes) (l : List Bytes) (hn : (10 : UInt8) ∉ name) (h : ∀ x ∈ l, (10 : UInt8) ∉ x) : (10 : UInt8) ∉ printed name l := by
  unfold printed
  split
  · exact hn
  · have := joinC_no l h
    intro hc
    simp at hc
    rcases hc with hc | hc
    · exact hn hc
    · exact this hc
theorem names_no : ∀ k : Fin 32, (10 : UInt8) ∉ nmB k.val := by decide +kernel
theorem reg_no (n : Int) : (10 : UInt8) ∉ (114 :: Lib.itoa n : Bytes) := by
  intro hc
  rcases List.mem_cons.1 hc with hc | hc
  · exact absurd hc (by decide)
  · exact itoa_no n hc
theorem lineB_no (p : Bytes) : (10 : UInt8) ∉ lineB p := by
  unfold lineB
  cases hd : decB p with
  | none =>
    exact printed_no _ _ (by decide) (fun x hx => by
      obtain ⟨b, _, rfl⟩ := List.mem_map.1 hx
      exact itoa_no _)
  | some z =>
    obtain ⟨op, a, b, c⟩ := z
    obtain ⟨b1, b2, b3, b4⟩ := OO_back.ok p op a b c hd
    refine printed_no _ _ (names_no ⟨op, b1⟩) (fun x hx => ?_)
    unfold opsOf at hx
    split at hx <;> simp at hx
    all_goals (repeat' (first | (rcases hx with rfl | hx) | subst hx)) <;> first | exact reg_no _ | exact itoa_no _
end Go.Proofs.YtfdlifhkeicnnaaGreatDoor
namespace Go.Proofs.YtfdlifhkeicnnaaGreatDoor
open Go Go.RowKit
set_option linter.unusedSimpArgs false
set_option linter.unusedVariables false

theorem byte_len : ∀ k : Fin 256, (Lib.itoa (k.val : Int)).length ≤ 3 := by decide +kernel
theorem joinC_len3 : ∀ l : List Bytes, (∀ x ∈ l, x.length ≤ 3) → (joinC l).length ≤ 5 * l.length
  | [], _ => by simp [joinC]
  | [x], h => by have := h x (by simp); simp [joinC]; omega
  | x :: y :: r, h => by
    have h1 := h x (by simp)
    have h2 := joinC_len3 (y :: r) (fun z hz => h z (List.mem_cons_of_mem _ hz))
    simp only [joinC, List.length_append, List.length_cons] at h2 ⊢
    omega
theorem lineB_len99 (p : Bytes) (hp : p.length ≤ 4) : (lineB p).length ≤ 99 := by
  unfold lineB
  cases hd : decB p with
  | none =>
    have := joinC_len3 (p.map fun b => Lib.itoa (b.toNat : Int)) (fun x hx => by
      obtain ⟨b, _, rfl⟩ := List.mem_map.1 hx
      exact byte_len ⟨b.toNat, b.toNat_lt⟩)
    rw [List.length_map] at this
    show (printed dByte (p.map fun b => Lib.itoa (b.toNat : Int))).length ≤ 99
    unfold printed
    have e : dByte.length = 5 := rfl
    split
    · omega
    · rw [List.length_append, List.length_cons]; omega
  | some z =>
    obtain ⟨op, a, b, c⟩ := z
    obtain ⟨b1, b2, b3, b4⟩ := OO_back.ok p op a b c hd
    have hn := names_len ⟨op, b1⟩
    have hi : ∀ n : Int, num n → (Lib.itoa n).length ≤ 21 := fun n h => Lib.itoa_length_le n h.1 h.2
    have hr : ∀ n : Int, reg n → (114 :: Lib.itoa n).length ≤ 22 := fun n h => by
      have h1 := h.1
      have h2 := h.2
      have := Lib.itoa_length_le n (by omega) (by omega)
      simp only [List.length_cons]; omega
    have hk : Kinds (form op).toNat a b c := b2
    have hb : ∀ x ∈ opsOf Lib.itoa (form op).toNat a b c, x.length ≤ 22 := by
      intro x hx
      unfold opsOf at hx
      unfold Kinds at hk
      split at hx <;> rename_i he <;> first | (rw [he] at hk; simp at hx hk) | (simp at hx; done)
      · subst hx; exact hr _ hk.1
      · rcases hx with rfl | rfl
        · exact hr _ hk.1
        · exact hr _ hk.2.1
      · rcases hx with rfl | rfl | rfl
        · exact hr _ hk.1
        · exact hr _ hk.2.1
        · exact hr _ hk.2.2
      · rcases hx with rfl | rfl | rfl
        · exact hr _ hk.1
        · exact hr _ hk.2.1
        · have := hi _ hk.2.2; omega
      · rcases hx with rfl | rfl
        · exact hr _ hk.1
        · have := hi _ hk.2.1; omega
      · subst hx; have := hi _ hk.1; omega
    have hl : (opsOf Lib.itoa (form op).toNat a b c).length ≤ 3 := by unfold opsOf; split <;> simp
    have := printed_len (nmB op) _ hb
    simp only
    have hn2 : (nmB op).length ≤ 10 := hn
    omega
end Go.Proofs.YtfdlifhkeicnnaaGreatDoor
