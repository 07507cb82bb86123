/- A call met in a world of which only what some blocks hold is known. -/
import Derived.Test.YtibaebgihbdphaaDoorMix
namespace Go.Proofs.YtibaebgihbdphaaDoor
open Go Go.RowKit
/-! What a block holds, through stores and new blocks; a call met in a world of which only that is known. -/
def setObj (o : Nat) (v : Value) : Obj → Obj
  | .cells cs t f => .cells (cs.setIfInBounds o v) t f
  | x => x
theorem setObj_cells (o : Nat) (v : Value) (cs : Array Value) (t : TypeId) (f : Nat × Nat) : setObj o v (.cells cs t f) = .cells (cs.setIfInBounds o v) t f := rfl
theorem heap_same (w : World) (b o n : Nat) (v : Value) (h : n = b) : (w.setCell ⟨b, o, none⟩ v).heap[n]? = (w.heap[n]?).map (setObj o v) := by
  subst h
  simp only [World.setCell, Array.getElem?_modify, if_true]
  cases w.heap[n]? with
  | none => rfl
  | some x => cases x <;> rfl
theorem heap_set_far (w : World) (b o n : Nat) (v : Value) (h : n ≠ b) : (w.setCell ⟨b, o, none⟩ v).heap[n]? = w.heap[n]? := Below.heap_setCell w ⟨b, o, none⟩ v n h
theorem calls_know {P : Program} {f : FuncId} {args : Array Value} {X : World} {Q : Ending → World → Prop} (bs : List Nat)
    (h : ∀ W, (∀ b ∈ bs, W.heap[b]? = X.heap[b]?) → (∀ B w0, Below B w0 X → Below B w0 W) → X.heap.size ≤ W.heap.size → Calls P f args W Q) : Calls P f args X Q :=
  h X (fun _ _ => rfl) (fun _ _ h => h) (Nat.le_refl _)
theorem wp_know {P : Program} {c : Code} {a : Act} {X : World} {Q : Exit → Act → World → Prop} (bs : List Nat)
    (h : ∀ W, (∀ b ∈ bs, W.heap[b]? = X.heap[b]?) → (∀ B w0, Below B w0 X → Below B w0 W) → X.heap.size ≤ W.heap.size → c.wp P Q a W) : c.wp P Q a X :=
  h X (fun _ _ => rfl) (fun _ _ h => h) (Nat.le_refl _)
theorem old_cell {w W : World} (h : Below w.heap.size w W) : ∀ b o, b < w.heap.size → W.cell? ⟨b, o, none⟩ = w.cell? ⟨b, o, none⟩ := fun b o hb => h.cell (p := ⟨b, o, none⟩) hb
end Go.Proofs.YtibaebgihbdphaaDoor
