/- Plain facts of the instruction set. -/
import Derived.WalkKit
import Derived.Lib.LaidTab
import Derived.Test.YtbmonkhnmaamnaaDoorProg
import Derived.Test.YtbmonkhnmaamnaaDoorShelf
namespace Go.Proofs.YtbmonkhnmaamnaaDoor
open Go Go.RowKit
set_option linter.unusedSimpArgs false
set_option linter.unusedVariables false
def formsL : List Int := [0, 2, 5, 5, 0, 0, 0, 0, 0, 0, 0, 0, 0, 0, 0, 0, 0, 0, 5, 4, 4, 4, 4, 1, 1, 6, 5, 5, 5, 1, 5, 6]

def kindsL : List ByteArray := [⟨#[]⟩, ⟨#[114]⟩, ⟨#[114, 114]⟩, ⟨#[114, 114, 114]⟩, ⟨#[114, 114, 111]⟩, ⟨#[114, 110]⟩, ⟨#[110]⟩]

def form (op : Int) : Int := if op < 0 ∨ 32 ≤ op then -1 else if 4 ≤ op ∧ op ≤ 17 then 3 else formsL.getD op.toNat 0

def inR (n a b : Int) : Bool := decide (a ≤ n ∧ n ≤ b)

def validF (f a b c : Int) : Bool :=
  if f = 0 then decide (a = 0 ∧ b = 0 ∧ c = 0)
  else if f = 1 then inR a 0 7 && decide (b = 0 ∧ c = 0)
  else if f = 2 then inR a 0 7 && inR b 0 7 && decide (c = 0)
  else if f = 3 then inR a 0 7 && inR b 0 7 && inR c 0 7
  else if f = 4 then inR a 0 7 && inR b 0 7 && inR c (-128) 127
  else if f = 5 then inR a 0 7 && inR b (-32768) 32767 && decide (c = 0)
  else if f = 6 then inR b (-32768) 32767 && decide (a = 0 ∧ c = 0)
  else false

def valid (op a b c : Int) : Bool := validF (form op) a b c

theorem w64_32 (n : Int) : wrap64 (wrap32 n) = wrap32 n := IntWalk.wrap64_in _ (by unfold wrap32; omega)

theorem and_mask (k : Nat) (hk : k ≤ 62) (x : Int) : bits .and .i64 x (2 ^ k - 1) = x % 2 ^ k := by
  have h1 : ((2 : Int) ^ k - 1) = ((2 ^ k - 1 : Nat) : Int) := by rw [Int.natCast_sub (Nat.two_pow_pos k)]; simp
  have h2 : 2 ^ k ≤ 2 ^ 62 := Nat.pow_le_pow_right (by decide) hk
  have h3 : (BitVec.ofInt 64 ((2 ^ k - 1 : Nat) : Int)).toNat = 2 ^ k - 1 := by
    rw [BitVec.ofInt_natCast, BitVec.toNat_ofNat, Nat.mod_eq_of_lt (by omega)]
  have h4 : ((BitVec.ofInt 64 x).toNat : Int) = x % 18446744073709551616 := by
    rw [BitVec.toNat_ofInt]; omega
  have h5 : (x % 18446744073709551616) % 2 ^ k = x % 2 ^ k := by
    refine Int.emod_emod_of_dvd _ ?_
    have : (2 : Int) ^ k * 2 ^ (64 - k) = 2 ^ 64 := by rw [← Int.pow_add]; congr 1; omega
    exact ⟨2 ^ (64 - k), by rw [this]; rfl⟩
  have h6 : (0 : Int) < 2 ^ k := Int.pow_pos (by decide)
  have h7 : (2 : Int) ^ k ≤ 2 ^ 62 := by exact_mod_cast h2
  have h8 := Int.emod_nonneg x (Int.ne_of_gt h6)
  have h9 := Int.emod_lt_of_pos x h6
  rw [h1]
  show IntKind.i64.wrap ((BitVec.ofInt 64 x &&& BitVec.ofInt 64 ((2 ^ k - 1 : Nat) : Int)).toNat : Int) = _
  rw [BitVec.toNat_and, h3, Nat.and_two_pow_sub_one_eq_mod]
  push_cast
  rw [h4, h5]
  exact IntWalk.i64_in _ (by simp at h7; omega)

theorem and255 (x : Int) : bits .and .i64 x 255 = x % 256 := and_mask 8 (by decide) x

theorem and16 (x : Int) : bits .and .i64 x 65535 = x % 65536 := and_mask 16 (by decide) x

theorem and32 (x : Int) : bits .and .i64 x 4294967295 = x % 4294967296 := and_mask 32 (by decide) x

def namesB : List ByteArray := [⟨#[110, 111, 112]⟩, ⟨#[109, 111, 118]⟩, ⟨#[115, 101, 116]⟩, ⟨#[104, 105, 103, 104]⟩, ⟨#[97, 100, 100]⟩, ⟨#[115, 117, 98]⟩, ⟨#[109, 117, 108]⟩, ⟨#[100, 105, 118]⟩, ⟨#[109, 111, 100]⟩, ⟨#[97, 110, 100]⟩, ⟨#[111, 114]⟩, ⟨#[120, 111, 114]⟩, ⟨#[115, 104, 108]⟩, ⟨#[115, 104, 114]⟩, ⟨#[101, 113]⟩, ⟨#[110, 101]⟩, ⟨#[108, 116]⟩, ⟨#[108, 101]⟩, ⟨#[97, 100, 100, 105]⟩, ⟨#[108, 100, 98]⟩, ⟨#[108, 100, 119]⟩, ⟨#[115, 116, 98]⟩, ⟨#[115, 116, 119]⟩, ⟨#[112, 117, 115, 104]⟩, ⟨#[112, 111, 112]⟩, ⟨#[106, 109, 112]⟩, ⟨#[106, 122]⟩, ⟨#[106, 110, 122]⟩, ⟨#[108, 105, 110, 107]⟩, ⟨#[106, 114]⟩, ⟨#[97, 100, 100, 114]⟩, ⟨#[99, 97, 108, 108]⟩]
/-- The tables of the instruction set, and the powers of ten of strconv. -/
def Tab (w : World) : Prop := 7 ≤ w.heap.size ∧ (∀ k : Nat, k < 32 → w.cell? ⟨2, k, none⟩ = some (.int .i64 (formsL.getD k 0))) ∧ (∀ k : Nat, k < 7 → w.cell? ⟨0, k, none⟩ = some (.string (kindsL.getD k ByteArray.empty)))
  ∧ (∀ k : Nat, k < 32 → w.cell? ⟨1, k, none⟩ = some (.string (namesB.getD k ByteArray.empty))) ∧ Lib.TabIs Tryd.prog w "internal/strconv.uint64pow10" .u64 Lib.pow10Tab
theorem tabIs_below {w w' : World} {B : Nat} {n : String} {k : IntKind} {zs : List Int} {g : Nat} (hg : Tryd.prog.globalNamed n = some g) (h : Lib.TabIs Tryd.prog w n k zs) (hb : Below B w w') (hB : g < B) : Lib.TabIs Tryd.prog w' n k zs := by
  unfold Lib.TabIs at h ⊢
  rw [← h]
  unfold World.var?
  rw [hg]
  simp only [Option.bind_some, hb.block g hB]
theorem gPow : Tryd.prog.globalNamed "internal/strconv.uint64pow10" = some 4 := by kernel_rfl
theorem Tab.below {w w' : World} {B : Nat} (h : Tab w) (hb : Below B w w') (hB : 7 ≤ B) : Tab w' := by
  refine ⟨Nat.le_trans h.1 hb.size, fun k hk => ?_, fun k hk => ?_, fun k hk => ?_, tabIs_below gPow h.2.2.2.2 hb (Nat.lt_of_lt_of_le (by decide) hB)⟩
  · rw [hb.cell (show (⟨2, k, none⟩ : Addr).block < B from Nat.lt_of_lt_of_le (show 2 < 7 by decide) hB)]; exact h.2.1 k hk
  · rw [hb.cell (show (⟨0, k, none⟩ : Addr).block < B from Nat.lt_of_lt_of_le (show 0 < 7 by decide) hB)]; exact h.2.2.1 k hk
  · rw [hb.cell (show (⟨1, k, none⟩ : Addr).block < B from Nat.lt_of_lt_of_le (show 1 < 7 by decide) hB)]; exact h.2.2.2.1 k hk
theorem Tab.ext {w w' : World} (h : Tab w) (hb : Below w.heap.size w w') : Tab w' := h.below hb h.1
theorem Tab.alloc {w : World} (h : Tab w) (o : Obj) : Tab (w.alloc o) := h.ext ((Below.refl _ _).alloc (Nat.le_refl _) _)
theorem Tab.drew {w : World} (h : Tab w) : Tab w.drew := h.ext (Below.refl _ _).drew
end Go.Proofs.YtbmonkhnmaamnaaDoor
