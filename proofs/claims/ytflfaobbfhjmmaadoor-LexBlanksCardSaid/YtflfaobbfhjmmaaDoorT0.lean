/- What of the library's variables the program reads. -/
import Derived.WalkKit
import Derived.Lib.LaidTab
import Derived.Sort.Grow
import Derived.Test.YtflfaobbfhjmmaaDoorProg
import Derived.Test.YtflfaobbfhjmmaaDoorShelf
import Derived.Test.YtflfaobbfhjmmaaDoorSt
namespace Go.Proofs.YtflfaobbfhjmmaaDoor
open Go Go.RowKit
set_option linter.unusedSimpArgs false
set_option linter.unusedVariables false

def Tab (w : World) : Prop := 8 ≤ w.heap.size ∧ Lib.TabIs Tryd.prog w "internal/strconv.uint64pow10" .u64 Lib.pow10Tab ∧ (∃ tp p, w.var? Tryd.prog "strconv.ErrSyntax" = some #[.iface tp p]) ∧ (∃ tp p, w.var? Tryd.prog "strconv.ErrRange" = some #[.iface tp p]) ∧ (∃ m : Int, w.cell? ⟨0, 0, none⟩ = some (.int .i64 m))
theorem var_same {w w' : World} {n : String} {g : Nat} (hg : Tryd.prog.globalNamed n = some g) (h : w'.heap[g]? = w.heap[g]?) : w'.var? Tryd.prog n = w.var? Tryd.prog n := by
  unfold World.var?
  rw [hg]
  simp only [Option.bind_some, h]
theorem gPow : Tryd.prog.globalNamed "internal/strconv.uint64pow10" = some 5 := by kernel_rfl
theorem gSyn : Tryd.prog.globalNamed "strconv.ErrSyntax" = some 1 := by kernel_rfl
theorem gRan : Tryd.prog.globalNamed "strconv.ErrRange" = some 2 := by kernel_rfl
theorem Tab.same {w w' : World} (h : Tab w) (hs : w.heap.size ≤ w'.heap.size) (hb : ∀ g, g < 8 → w'.heap[g]? = w.heap[g]?) : Tab w' := by
  obtain ⟨h1, h2, h3, h4, m, h5⟩ := h
  refine ⟨Nat.le_trans h1 hs, ?_, ?_, ?_, m, ?_⟩
  · unfold Lib.TabIs at h2 ⊢; rw [var_same gPow (hb _ (by decide))]; exact h2
  · obtain ⟨tp, p, e⟩ := h3; exact ⟨tp, p, by rw [var_same gSyn (hb _ (by decide))]; exact e⟩
  · obtain ⟨tp, p, e⟩ := h4; exact ⟨tp, p, by rw [var_same gRan (hb _ (by decide))]; exact e⟩
  · unfold World.cell? at h5 ⊢; rw [hb _ (by decide)]; exact h5
theorem Tab.ext {w w' : World} (h : Tab w) (hb : Below w.heap.size w w') : Tab w' := h.same hb.size fun g hg => hb.block g (Nat.lt_of_lt_of_le hg h.1)
theorem Tab.kn {X : List Nat} {w w' : World} {L : List (Nat × Obj)} (h : Tab w) (k : Kn X w w' L) (hx : ∀ x ∈ X, 8 ≤ x) : Tab w' :=
  h.same k.size fun g hg => k.block g (Nat.lt_of_lt_of_le hg h.1) fun hm => by have := hx g hm; omega
theorem below_grow (w : World) (k : Nat) (os : Array Obj) : Below w.heap.size w (Go.Sort.grow (w.drewN k) os) :=
  ⟨rfl, rfl, rfl, (by show w.heap.size ≤ (w.heap ++ os).size; simp), fun b hb => (by show (w.heap ++ os)[b]? = w.heap[b]?; rw [Array.getElem?_append_left hb])⟩
end Go.Proofs.YtflfaobbfhjmmaaDoor
