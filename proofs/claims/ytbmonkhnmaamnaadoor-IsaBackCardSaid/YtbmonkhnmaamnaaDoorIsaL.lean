import Derived.Test.YtbmonkhnmaamnaaDoorProg
import Derived.WalkKit
import Derived.Handy
import Derived.Deep.Light
import Derived.WalkSmall
import Derived.StillTailTactics
import Derived.Lib.Hide
import Derived.Test.YtbmonkhnmaamnaaDoorReg
import Derived.Test.YtbmonkhnmaamnaaDoorIsa0
import Derived.Test.YtbmonkhnmaamnaaDoorIsaK
namespace Go.Proofs.YtbmonkhnmaamnaaDoor
open Go Go.RowKit
set_option linter.unusedSimpArgs false
set_option linter.unusedVariables false

theorem size4 {s : ByteArray} (h : s.size = 4) : ∃ x y z t, s = ⟨#[x, y, z, t]⟩ := by
  obtain ⟨d⟩ := s
  have h : d.size = 4 := h
  obtain ⟨l⟩ := d
  match l, h with
  | [x, y, z, t], _ => exact ⟨x, y, z, t, rfl⟩
theorem Decode_ok (x y z t : UInt8) (w : World) (hT : Tab w) (hk : decOk x y z t = true) :
    Calls Tryd.prog 10 #[.string ⟨#[x, y, z, t]⟩] w fun e w' => e = .returned (.tuple #[.agg #[.int .i64 x.toNat, .int .i64 y.toNat, .int .i64 (dB x z t), .int .i64 (dC x t)], .bool true]) ∧ Below w.heap.size w w' := by
  cases h5 : (form x.toNat == 5)
  · cases h6 : (form x.toNat == 6)
    · cases h4 : (form x.toNat == 4)
      · exact Decode_xt x y z t w hT h5 h6 h4 hk
      · exact Decode_ot x y z t w hT h5 h6 h4 hk
    · exact Decode_n6t x y z t w hT h5 h6 hk
  · exact Decode_n5t x y z t w hT h5 hk
theorem Decode_no (x y z t : UInt8) (w : World) (hT : Tab w) (hk : decOk x y z t = false) :
    Calls Tryd.prog 10 #[.string ⟨#[x, y, z, t]⟩] w fun e w' => e = .returned (.tuple #[.agg #[.int .i64 0, .int .i64 0, .int .i64 0, .int .i64 0], .bool false]) ∧ Below w.heap.size w w' := by
  cases h5 : (form x.toNat == 5)
  · cases h6 : (form x.toNat == 6)
    · cases h4 : (form x.toNat == 4)
      · exact Decode_xf x y z t w hT h5 h6 h4 hk
      · exact Decode_of x y z t w hT h5 h6 h4 hk
    · exact Decode_n6f x y z t w hT h5 h6 hk
  · exact Decode_n5f x y z t w hT h5 hk
theorem RefDecode_ok (x y z t : UInt8) (w : World) (hk : decOk x y z t = true) :
    Calls Tryd.prog 14 #[.string ⟨#[x, y, z, t]⟩] w fun e w' => e = .returned (.tuple #[.agg #[.int .i64 x.toNat, .int .i64 y.toNat, .int .i64 (dB x z t), .int .i64 (dC x t)], .bool true]) ∧ Below w.heap.size w w' := by
  cases h5 : (form x.toNat == 5)
  · cases h6 : (form x.toNat == 6)
    · cases h4 : (form x.toNat == 4)
      · exact RefDecode_xt x y z t w h5 h6 h4 hk
      · exact RefDecode_ot x y z t w h5 h6 h4 hk
    · exact RefDecode_n6t x y z t w h5 h6 hk
  · exact RefDecode_n5t x y z t w h5 hk
theorem RefDecode_no (x y z t : UInt8) (w : World) (hk : decOk x y z t = false) :
    Calls Tryd.prog 14 #[.string ⟨#[x, y, z, t]⟩] w fun e w' => e = .returned (.tuple #[.agg #[.int .i64 0, .int .i64 0, .int .i64 0, .int .i64 0], .bool false]) ∧ Below w.heap.size w w' := by
  cases h5 : (form x.toNat == 5)
  · cases h6 : (form x.toNat == 6)
    · cases h4 : (form x.toNat == 4)
      · exact RefDecode_xf x y z t w h5 h6 h4 hk
      · exact RefDecode_of x y z t w h5 h6 h4 hk
    · exact RefDecode_n6f x y z t w h5 h6 hk
  · exact RefDecode_n5f x y z t w h5 hk

theorem byte_id (x : UInt8) : UInt8.ofNat ((x.toNat : Int) % 256).toNat = x := by
  have h := x.toNat_lt
  have e : ((x.toNat : Int) % 256).toNat = x.toNat := by omega
  rw [e]; exact UInt8.ofNat_toNat
theorem byte_val (n : Int) (m : Int) (h : m = n % 256) : ((UInt8.ofNat m.toNat).toNat : Int) = n % 256 := by
  rw [UInt8.toNat_ofNat', h]; omega
theorem byte_of (n : Int) (x : UInt8) (h : n % 256 = x.toNat) : UInt8.ofNat (n % 256).toNat = x := by
  rw [h, Int.toNat_natCast]; exact UInt8.ofNat_toNat
/-- What is encoded is decoded. -/
theorem enc_dec {op a b c : Int} (hv : valid op a b c = true) : ∃ x y z t : UInt8, encS op a b c = ⟨#[x, y, z, t]⟩ ∧ decOk x y z t = true ∧ (x.toNat : Int) = op ∧ (y.toNat : Int) = a ∧ dB x z t = b ∧ dC x t = c := by
  obtain ⟨h0, h32⟩ := valid_range hv
  have key := hv
  refine ⟨_, _, _, _, by rw [encS, if_pos hv]; rfl, ?_⟩
  have ex : ((UInt8.ofNat (op % 256).toNat).toNat : Int) = op := by rw [byte_val op _ rfl]; omega
  have ey : 0 ≤ a → a ≤ 7 → ((UInt8.ofNat (a % 256).toNat).toNat : Int) = a := fun _ _ => by rw [byte_val a _ rfl]; omega
  have main : ((UInt8.ofNat (a % 256).toNat).toNat : Int) = a ∧ dB (UInt8.ofNat (op % 256).toNat) (UInt8.ofNat (b % 256).toNat) (UInt8.ofNat ((if numB op then b / 256 else c) % 256).toNat) = b ∧ dC (UInt8.ofNat (op % 256).toNat) (UInt8.ofNat ((if numB op then b / 256 else c) % 256).toNat) = c := by
    unfold dB dC
    rw [ex]
    unfold valid at key
    rcases form_vals op with hf | hf | hf | hf | hf | hf | hf | hf <;> rw [hf] at key <;> simp [validF, inR] at key
    · have hn : numB op = false := by unfold numB; rw [hf]; rfl
      rw [if_neg (by rw [hn]; decide), if_neg (by rw [hn]; decide), if_neg (by rw [hf]; decide), if_neg (by rw [hn]; decide), byte_val b _ rfl, byte_val c _ rfl, byte_val a _ rfl]; omega
    · have hn : numB op = false := by unfold numB; rw [hf]; rfl
      rw [if_neg (by rw [hn]; decide), if_neg (by rw [hn]; decide), if_neg (by rw [hf]; decide), if_neg (by rw [hn]; decide), byte_val b _ rfl, byte_val c _ rfl, byte_val a _ rfl]; omega
    · have hn : numB op = false := by unfold numB; rw [hf]; rfl
      rw [if_neg (by rw [hn]; decide), if_neg (by rw [hn]; decide), if_neg (by rw [hf]; decide), if_neg (by rw [hn]; decide), byte_val b _ rfl, byte_val c _ rfl, byte_val a _ rfl]; omega
    · have hn : numB op = false := by unfold numB; rw [hf]; rfl
      rw [if_neg (by rw [hn]; decide), if_neg (by rw [hn]; decide), if_neg (by rw [hf]; decide), if_neg (by rw [hn]; decide), byte_val b _ rfl, byte_val c _ rfl, byte_val a _ rfl]; omega
    · have hn : numB op = false := by unfold numB; rw [hf]; rfl
      rw [if_neg (by rw [hn]; decide), if_neg (by rw [hn]; decide), if_pos hf, if_neg (by rw [hn]; decide), byte_val b _ rfl, byte_val a _ rfl]
      refine ⟨by omega, by omega, ?_⟩
      have e := byte_val c _ rfl
      unfold s8
      split <;> omega
    · have hn : numB op = true := by unfold numB; rw [hf]; rfl
      rw [if_pos hn, if_pos hn, if_pos hn, byte_val a _ rfl]
      refine ⟨by omega, ?_, by omega⟩
      have e := byte_val b _ rfl
      have e2 := byte_val (b / 256) _ rfl
      unfold s16
      rw [e, e2]
      split <;> omega
    · have hn : numB op = true := by unfold numB; rw [hf]; rfl
      rw [if_pos hn, if_pos hn, if_pos hn, byte_val a _ rfl]
      refine ⟨by omega, ?_, by omega⟩
      have e := byte_val b _ rfl
      have e2 := byte_val (b / 256) _ rfl
      unfold s16
      rw [e, e2]
      split <;> omega
  refine ⟨?_, ex, main.1, main.2.1, main.2.2⟩
  unfold decOk
  rw [ex, main.1, main.2.1, main.2.2]
  exact hv
/-- What is decoded is encoded. -/
theorem dec_enc {x y z t : UInt8} (h : decOk x y z t = true) : encS x.toNat y.toNat (dB x z t) (dC x t) = ⟨#[x, y, z, t]⟩ := by
  unfold decOk at h
  have hz := z.toNat_lt
  have ht := t.toNat_lt
  rw [encS, if_pos h]
  unfold encB
  rw [byte_id x, byte_id y]
  unfold dB dC
  cases hn : numB x.toNat
  · rw [if_neg (by decide), if_neg (by decide), if_neg (by decide), byte_id z]
    by_cases h4 : form x.toNat = 4
    · rw [if_pos h4, byte_of _ t (by unfold s8; split <;> omega)]
    · rw [if_neg h4, byte_id t]
  · rw [if_pos rfl, if_pos rfl, byte_of _ z (by unfold s16; split <;> omega), byte_of _ t (by unfold s16; split <;> omega)]

end Go.Proofs.YtbmonkhnmaamnaaDoor
