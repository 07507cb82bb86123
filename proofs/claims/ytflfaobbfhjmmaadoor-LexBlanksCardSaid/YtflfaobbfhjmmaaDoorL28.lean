import Derived.Test.YtflfaobbfhjmmaaDoorProg
import Derived.WalkKit
import Derived.Handy
import Derived.Deep.Light
import Derived.WalkSmall
import Derived.StillTailTactics
import Derived.Lib.Hide
import Derived.Test.YtflfaobbfhjmmaaDoorT0
import Derived.Test.YtflfaobbfhjmmaaDoorIt
import Derived.Test.YtflfaobbfhjmmaaDoorL27
namespace Go.Proofs.YtflfaobbfhjmmaaDoor
open Go Go.RowKit
set_option linter.unusedSimpArgs false
set_option linter.unusedVariables false

theorem Kn.rot1 {X : List Nat} {w0 W : World} {a : Nat × Obj} {A B : List (Nat × Obj)} (h : Kn X w0 W (a :: (A ++ B))) : Kn X w0 W (a :: (B ++ A)) := h.perm fun p => by simp only [List.countP_cons, List.countP_append]; omega
theorem convR {w0 : World} {LP R : List (Nat × Obj)} {v : Value} {n : Nat} {l : Bytes} (h : RowL 1 5 LP v n (bc l)) (hn : n = l.length) (t : ByteArray) (ht : t.data.toList = l) : ∀ W, Kn [] w0 W (LP ++ R) → (convert 23 9 v).run Tryd.prog W = .ok (.string t) W := fun W hk => conv_rowL hk (by rw [← hn]; exact h) t ht
theorem convL {w0 : World} {LP R : List (Nat × Obj)} {v : Value} {n : Nat} {l : Bytes} (h : RowL 1 5 LP v n (bc l)) (hn : n = l.length) (t : ByteArray) (ht : t.data.toList = l) : ∀ W, Kn [] w0 W (R ++ LP) → (convert 23 9 v).run Tryd.prog W = .ok (.string t) W := fun W hk => conv_rowL (R := R) (LP := LP) (hk.perm (L' := LP ++ R) fun p => by simp only [List.countP_append]; omega) (by rw [← hn]; exact h) t ht
theorem ne_nat (c d : UInt8) : ((c.toNat : Int) != (d.toNat : Int)) = (c != d) := by
  by_cases h : c = d
  · subst h; simp
  · have h1 : (c.toNat : Int) ≠ d.toNat := fun e => h (UInt8.toNat_inj.1 (by omega))
    rw [bne_iff_ne.2 h1, bne_iff_ne.2 h]
theorem bc_one (l : Bytes) : ∀ u ∈ bc l, u.oneCell' = true := by
  intro u hu
  obtain ⟨c, _, rfl⟩ := List.mem_map.1 hu
  rfl
theorem bc_append (a b : Bytes) : bc (a ++ b) = bc a ++ bc b := by simp [bc]
theorem lex_quo {x s : Bytes} {m : Nat} (hx : x.length ≤ 8000) (h : rawl x 1 = ([quo s 1], .fin m)) : lex x = .ok [quo s 1, endT m] := by
  rw [lex_lim _ hx, h]; rfl
def LQR (w : World) (s : ByteArray) (single plain : Bool) (o1 o2 o3 o4 : Value) (k : Nat) (wr : World) : Prop := ∃ LD vd LB vb, o1 = .bool ((s.data.toList.take k).all (· != 39)) ∧ o2 = .bool (plain && (s.data.toList.take k).all (· != 10)) ∧ o3 = vd ∧ o4 = vb ∧ RowL 1 5 LD vd ((s.data.toList.take k).flatMap de).length (bc ((s.data.toList.take k).flatMap de)) ∧ RowL 1 5 LB vb ((s.data.toList.take k).flatMap (fun c => [92, c])).length (bc ((s.data.toList.take k).flatMap (fun c => [92, c]))) ∧ Kn [] w wr (LD ++ LB)
theorem de_len (l : Bytes) : (l.flatMap de).length ≤ 2 * l.length := by
  induction l with
  | nil => simp
  | cons c t ih =>
    rw [List.flatMap_cons, List.length_append]
    have : (de c).length ≤ 2 := by unfold de; split <;> simp
    simp only [List.length_cons]; omega
theorem bk_len (l : Bytes) : (l.flatMap (fun c => [92, c])).length = 2 * l.length := by
  induction l with
  | nil => rfl
  | cons c t ih => rw [List.flatMap_cons, List.length_append, ih]; simp; omega

end Go.Proofs.YtflfaobbfhjmmaaDoor
