/- What of the variables of the package strconv the program reads. -/
import Derived.WalkKit
import Derived.Lib.LaidTab
import Derived.Sort.Grow
import Derived.Test.YtedifjdhdhcbhaaDoorProg
import Derived.Test.YtedifjdhdhcbhaaDoorShelf
import Derived.Test.YtedifjdhdhcbhaaDoorSt
namespace Go.Proofs.YtedifjdhdhcbhaaDoor
open Go Go.RowKit
set_option linter.unusedSimpArgs false
set_option linter.unusedVariables false

def Tab (w : World) : Prop := 6 ≤ w.heap.size ∧ Lib.TabIs Tryd.prog w "internal/strconv.uint64pow10" .u64 Lib.pow10Tab ∧ (∃ tp p, w.var? Tryd.prog "strconv.ErrSyntax" = some #[.iface tp p]) ∧ (∃ tp p, w.var? Tryd.prog "strconv.ErrRange" = some #[.iface tp p])
theorem var_same {w w' : World} {n : String} {g : Nat} (hg : Tryd.prog.globalNamed n = some g) (h : w'.heap[g]? = w.heap[g]?) : w'.var? Tryd.prog n = w.var? Tryd.prog n := by
  unfold World.var?
  rw [hg]
  simp only [Option.bind_some, h]
theorem gPow : Tryd.prog.globalNamed "internal/strconv.uint64pow10" = some 0 := by kernel_rfl
theorem gSyn : Tryd.prog.globalNamed "strconv.ErrSyntax" = some 2 := by kernel_rfl
theorem gRan : Tryd.prog.globalNamed "strconv.ErrRange" = some 3 := by kernel_rfl
theorem Tab.same {w w' : World} (h : Tab w) (hs : w.heap.size ≤ w'.heap.size) (hb : ∀ g, g < 6 → w'.heap[g]? = w.heap[g]?) : Tab w' := by
  obtain ⟨h1, h2, h3, h4⟩ := h
  refine ⟨Nat.le_trans h1 hs, ?_, ?_, ?_⟩
  · unfold Lib.TabIs at h2 ⊢; rw [var_same gPow (hb _ (by decide))]; exact h2
  · obtain ⟨tp, p, e⟩ := h3; exact ⟨tp, p, by rw [var_same gSyn (hb _ (by decide))]; exact e⟩
  · obtain ⟨tp, p, e⟩ := h4; exact ⟨tp, p, by rw [var_same gRan (hb _ (by decide))]; exact e⟩
theorem Tab.ext {w w' : World} (h : Tab w) (hb : Below w.heap.size w w') : Tab w' := h.same hb.size fun g hg => hb.block g (Nat.lt_of_lt_of_le hg h.1)
theorem Tab.kn {X : List Nat} {w w' : World} {L : List (Nat × Obj)} (h : Tab w) (k : Kn X w w' L) (hx : ∀ x ∈ X, 6 ≤ x) : Tab w' :=
  h.same k.size fun g hg => k.block g (Nat.lt_of_lt_of_le hg h.1) fun hm => by have := hx g hm; omega
theorem Tab.one {b : Nat} {w w' : World} {L : List (Nat × Obj)} (h : Tab w) (k : Kn [b] w w' L) (hb : 6 ≤ b) : Tab w' := h.kn k (by simpa using hb)
theorem below_grow (w : World) (k : Nat) (os : Array Obj) : Below w.heap.size w (Go.Sort.grow (w.drewN k) os) :=
  ⟨rfl, rfl, rfl, (by show w.heap.size ≤ (w.heap ++ os).size; simp), fun b hb => (by show (w.heap ++ os)[b]? = w.heap[b]?; rw [Array.getElem?_append_left hb])⟩
theorem Itoa_any (n : Int) (h0 : -9223372036854775808 ≤ n) (h1 : n ≤ 9223372036854775807) (w : World) (hT : Tab w) :
    Calls Tryd.prog 44 #[.int .i64 n] w fun e w' => e = .returned (.string ⟨(Lib.itoa n).toArray⟩) ∧ Below w.heap.size w w' :=
  (Tryd.strconv_Itoa n h0 h1 w hT.2.1).mono fun e w' ⟨he, k, os, hw⟩ => ⟨he, by rw [hw]; exact below_grow w k os⟩
end Go.Proofs.YtedifjdhdhcbhaaDoor
