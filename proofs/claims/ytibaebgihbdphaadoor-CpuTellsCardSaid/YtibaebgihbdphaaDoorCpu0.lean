/- Plain arithmetic of the instruction set and of the processor. -/
import Derived.WalkKit
namespace Go.Proofs.YtibaebgihbdphaaDoor
open Go Go.RowKit
def isW (n : Int) : Bool := decide (-2147483648 ≤ n ∧ n < 2147483648)
def formsL : List Int := [0, 2, 5, 5, 0, 0, 0, 0, 0, 0, 0, 0, 0, 0, 0, 0, 0, 0, 5, 4, 4, 4, 4, 1, 1, 6, 5, 5, 5, 1, 5, 6]
def kindsL : List ByteArray := [⟨#[]⟩, ⟨#[114]⟩, ⟨#[114, 114]⟩, ⟨#[114, 114, 114]⟩, ⟨#[114, 114, 111]⟩, ⟨#[114, 110]⟩, ⟨#[110]⟩]
def form (op : Int) : Int := if op < 0 ∨ 32 ≤ op then -1 else if 4 ≤ op ∧ op ≤ 17 then 3 else formsL.getD op.toNat 0
def inR (n a b : Int) : Bool := decide (a ≤ n ∧ n ≤ b)
def validF (f a b c : Int) : Bool :=
  if f = 0 then decide (a = 0 ∧ b = 0 ∧ c = 0)
  else if f = 1 then inR a 0 7 && decide (b = 0 ∧ c = 0)
  else if f = 2 then inR a 0 7 && inR b 0 7 && decide (c = 0)
  else if f = 3 then inR a 0 7 && inR b 0 7 && inR c 0 7
  else if f = 4 then inR a 0 7 && inR b 0 7 && inR c (-128) 127
  else if f = 5 then inR a 0 7 && inR b (-32768) 32767 && decide (c = 0)
  else if f = 6 then inR b (-32768) 32767 && decide (a = 0 ∧ c = 0)
  else false
def valid (op a b c : Int) : Bool := validF (form op) a b c
def one (b : Bool) : Int := if b then 1 else 0
theorem w64_32 (n : Int) : wrap64 (wrap32 n) = wrap32 n := IntWalk.wrap64_in _ (by unfold wrap32; omega)
theorem and_mask (k : Nat) (hk : k ≤ 62) (x : Int) : bits .and .i64 x (2 ^ k - 1) = x % 2 ^ k := by
  have h1 : ((2 : Int) ^ k - 1) = ((2 ^ k - 1 : Nat) : Int) := by rw [Int.natCast_sub (Nat.two_pow_pos k)]; simp
  have h2 : 2 ^ k ≤ 2 ^ 62 := Nat.pow_le_pow_right (by decide) hk
  have h3 : (BitVec.ofInt 64 ((2 ^ k - 1 : Nat) : Int)).toNat = 2 ^ k - 1 := by
    rw [BitVec.ofInt_natCast, BitVec.toNat_ofNat, Nat.mod_eq_of_lt (by omega)]
  have h4 : ((BitVec.ofInt 64 x).toNat : Int) = x % 18446744073709551616 := by
    rw [BitVec.toNat_ofInt]; omega
  have h5 : (x % 18446744073709551616) % 2 ^ k = x % 2 ^ k := by
    refine Int.emod_emod_of_dvd _ ?_
    have : (2 : Int) ^ k * 2 ^ (64 - k) = 2 ^ 64 := by rw [← Int.pow_add]; congr 1; omega
    exact ⟨2 ^ (64 - k), by rw [this]; rfl⟩
  have h6 : (0 : Int) < 2 ^ k := Int.pow_pos (by decide)
  have h7 : (2 : Int) ^ k ≤ 2 ^ 62 := by exact_mod_cast h2
  have h8 := Int.emod_nonneg x (Int.ne_of_gt h6)
  have h9 := Int.emod_lt_of_pos x h6
  rw [h1]
  show IntKind.i64.wrap ((BitVec.ofInt 64 x &&& BitVec.ofInt 64 ((2 ^ k - 1 : Nat) : Int)).toNat : Int) = _
  rw [BitVec.toNat_and, h3, Nat.and_two_pow_sub_one_eq_mod]
  push_cast
  rw [h4, h5]
  exact IntWalk.i64_in _ (by simp at h7; omega)
theorem and31 (x : Int) : bits .and .i64 x 31 = x % 32 := and_mask 5 (by decide) x
theorem and255 (x : Int) : bits .and .i64 x 255 = x % 256 := and_mask 8 (by decide) x
theorem and16 (x : Int) : bits .and .i64 x 65535 = x % 65536 := and_mask 16 (by decide) x
theorem and32 (x : Int) : bits .and .i64 x 4294967295 = x % 4294967296 := and_mask 32 (by decide) x
/-- The operations on two words, as the program has them. -/
def calcN (op a b : Int) : Int :=
  if op = 4 then wrap64 (a + b) else if op = 5 then wrap64 (a - b) else if op = 6 then wrap64 (a * b)
  else if op = 7 then (if b = 0 then 0 else wrap64 (a.tdiv b)) else if op = 8 then (if b = 0 then 0 else a.tmod b)
  else if op = 9 then bits .and .i64 a b else if op = 10 then bits .or .i64 a b else if op = 11 then bits .xor .i64 a b
  else if op = 12 then wrap64 (a * 2 ^ (b % 32).toNat) else if op = 13 then a % 4294967296 / 2 ^ (b % 32).toNat
  else if op = 14 then one (a == b) else if op = 15 then one (a != b) else if op = 16 then one (decide (a < b)) else one (decide (a ≤ b))
/-- The two tables of the instruction set. -/
def Tab (w : World) : Prop := 2 ≤ w.heap.size ∧ (∀ k : Nat, k < 32 → w.cell? ⟨1, k, none⟩ = some (.int .i64 (formsL.getD k 0))) ∧ (∀ k : Nat, k < 7 → w.cell? ⟨0, k, none⟩ = some (.string (kindsL.getD k ByteArray.empty)))
theorem Tab.below {w w' : World} {B : Nat} (h : Tab w) (hb : Below B w w') (hB : 2 ≤ B) : Tab w' := by
  refine ⟨Nat.le_trans h.1 hb.size, fun k hk => ?_, fun k hk => ?_⟩
  · rw [hb.cell (show (⟨1, k, none⟩ : Addr).block < B from Nat.lt_of_lt_of_le (show 1 < 2 by decide) hB)]; exact h.2.1 k hk
  · rw [hb.cell (show (⟨0, k, none⟩ : Addr).block < B from Nat.lt_of_lt_of_le (show 0 < 2 by decide) hB)]; exact h.2.2 k hk
theorem Tab.ext {w w' : World} (h : Tab w) (hb : Below w.heap.size w w') : Tab w' := h.below hb h.1
theorem Tab.alloc {w : World} (h : Tab w) (o : Obj) : Tab (w.alloc o) := h.ext ((Below.refl _ _).alloc (Nat.le_refl _) _)
theorem Tab.drew {w : World} (h : Tab w) : Tab w.drew := h.ext (Below.refl _ _).drew
structure Rg where
  (r0 r1 r2 r3 r4 r5 r6 r7 pc : Int)
structure Ef where
  (kind at_ size reg value n : Int)
def Rg.sel (r : Rg) (a : Int) : Int :=
  if a = 0 then r.r0 else if a = 1 then r.r1 else if a = 2 then r.r2 else if a = 3 then r.r3 else if a = 4 then r.r4 else if a = 5 then r.r5 else if a = 6 then r.r6 else r.r7
def upd (k a v r : Int) : Int := if a = k then v else r
def Rg.set (r : Rg) (a v : Int) : Rg := ⟨upd 0 a v r.r0, upd 1 a v r.r1, upd 2 a v r.r2, upd 3 a v r.r3, upd 4 a v r.r4, upd 5 a v r.r5, upd 6 a v r.r6, upd 7 a v r.r7, r.pc⟩
def Rg.wrap (r : Rg) : Rg := ⟨wrap32 r.r0, wrap32 r.r1, wrap32 r.r2, wrap32 r.r3, wrap32 r.r4, wrap32 r.r5, wrap32 r.r6, wrap32 r.r7, wrap32 r.pc⟩
def Rg.go (r : Rg) (n : Int) : Rg := ⟨r.r0, r.r1, r.r2, r.r3, r.r4, r.r5, r.r6, r.r7, n⟩
theorem sel_get (a r0 r1 r2 r3 r4 r5 r6 r7 pc : Int) (h0 : 0 ≤ a) (h7 : a ≤ 7) :
    (#[Value.int .i64 r0, .int .i64 r1, .int .i64 r2, .int .i64 r3, .int .i64 r4, .int .i64 r5, .int .i64 r6, .int .i64 r7, .int .i64 pc] : Array Value)[a.toNat]? = some (.int .i64 (Rg.sel ⟨r0, r1, r2, r3, r4, r5, r6, r7, pc⟩ a)) := by
  have : a = 0 ∨ a = 1 ∨ a = 2 ∨ a = 3 ∨ a = 4 ∨ a = 5 ∨ a = 6 ∨ a = 7 := by omega
  rcases this with h | h | h | h | h | h | h | h <;> subst h <;> rfl
theorem upd_set (a v r0 r1 r2 r3 r4 r5 r6 r7 pc : Int) (h0 : 0 ≤ a) (h7 : a ≤ 7) :
    (#[Value.int .i64 r0, .int .i64 r1, .int .i64 r2, .int .i64 r3, .int .i64 r4, .int .i64 r5, .int .i64 r6, .int .i64 r7, .int .i64 pc] : Array Value).setIfInBounds a.toNat (.int .i64 v) =
    #[Value.int .i64 (upd 0 a v r0), .int .i64 (upd 1 a v r1), .int .i64 (upd 2 a v r2), .int .i64 (upd 3 a v r3), .int .i64 (upd 4 a v r4), .int .i64 (upd 5 a v r5), .int .i64 (upd 6 a v r6), .int .i64 (upd 7 a v r7), .int .i64 pc] := by
  have : a = 0 ∨ a = 1 ∨ a = 2 ∨ a = 3 ∨ a = 4 ∨ a = 5 ∨ a = 6 ∨ a = 7 := by omega
  rcases this with h | h | h | h | h | h | h | h <;> subst h <;> rfl
/-- Loads and stores; push and pop move r7. -/
def accessS (op a b c : Int) (r : Rg) : Rg × Ef :=
  if op = 19 then (r, ⟨1, wrap64 (r.sel b + c), 1, a, 0, 0⟩)
  else if op = 20 then (r, ⟨1, wrap64 (r.sel b + c), 4, a, 0, 0⟩)
  else if op = 21 then (r, ⟨2, wrap64 (r.sel b + c), 1, 0, r.sel a % 256, 0⟩)
  else if op = 22 then (r, ⟨2, wrap64 (r.sel b + c), 4, 0, r.sel a, 0⟩)
  else if op = 23 then (⟨r.r0, r.r1, r.r2, r.r3, r.r4, r.r5, r.r6, wrap64 (r.r7 - 4), r.pc⟩, ⟨2, wrap64 (r.r7 - 4), 4, 0, r.sel a, 0⟩)
  else (⟨r.r0, r.r1, r.r2, r.r3, r.r4, r.r5, r.r6, wrap64 (r.r7 + 4), r.pc⟩, ⟨1, r.r7, 4, a, 0, 0⟩)
def jumpS (op a b : Int) (r : Rg) : Rg :=
  if op = 25 then r.go (wrap64 (r.pc + b))
  else if op = 26 then r.go (wrap64 (r.pc + wrap64 (b * one (r.sel a == 0))))
  else if op = 27 then r.go (wrap64 (r.pc + wrap64 (b * one (r.sel a != 0))))
  else if op = 28 then (r.set a r.pc).go (wrap64 (r.pc + b))
  else if op = 29 then r.go (r.sel a)
  else if op = 30 then r.set a (wrap64 (r.pc + b))
  else r
def moveS (op a b : Int) (r : Rg) : Rg :=
  if op = 1 then r.set a (r.sel b)
  else if op = 2 then r.set a b
  else if op = 3 then r.set a (wrap64 (r.sel a % 65536 + wrap64 (b * 65536)))
  else if op = 18 then r.set a (wrap64 (r.sel a + b))
  else r
def calcOk (op b : Int) : Bool := !((op == 7 || op == 8) && b == 0)
def execS (op a b c : Int) (r : Rg) : Rg × Ef :=
  if valid op a b c = false then (r.wrap, ⟨4, 0, 0, 0, 0, 14⟩)
  else if op = 31 then (r.wrap, ⟨3, 0, 0, 0, 0, b⟩)
  else if form op = 3 then
    if calcOk op (r.wrap.sel c) = true then (((r.wrap.go (wrap64 (r.wrap.pc + 4))).set a (calcN op (r.wrap.sel b) (r.wrap.sel c))).wrap, ⟨0, 0, 0, 0, 0, 0⟩) else (r.wrap, ⟨4, 0, 0, 0, 0, 14⟩)
  else if 19 ≤ op ∧ op ≤ 24 then
    ((accessS op a b c (r.wrap.go (wrap64 (r.wrap.pc + 4)))).1.wrap,
      ⟨(accessS op a b c (r.wrap.go (wrap64 (r.wrap.pc + 4)))).2.kind, wrap32 (accessS op a b c (r.wrap.go (wrap64 (r.wrap.pc + 4)))).2.at_, (accessS op a b c (r.wrap.go (wrap64 (r.wrap.pc + 4)))).2.size,
        (accessS op a b c (r.wrap.go (wrap64 (r.wrap.pc + 4)))).2.reg, (accessS op a b c (r.wrap.go (wrap64 (r.wrap.pc + 4)))).2.value, (accessS op a b c (r.wrap.go (wrap64 (r.wrap.pc + 4)))).2.n⟩)
  else if 25 ≤ op ∧ op ≤ 30 then ((jumpS op a b (r.wrap.go (wrap64 (r.wrap.pc + 4)))).wrap, ⟨0, 0, 0, 0, 0, 0⟩)
  else ((moveS op a b (r.wrap.go (wrap64 (r.wrap.pc + 4)))).wrap, ⟨0, 0, 0, 0, 0, 0⟩)
end Go.Proofs.YtibaebgihbdphaaDoor
