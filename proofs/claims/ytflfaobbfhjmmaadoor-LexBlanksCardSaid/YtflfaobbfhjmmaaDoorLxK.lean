import Derived.Test.YtflfaobbfhjmmaaDoorProg
import Derived.WalkKit
import Derived.Handy
import Derived.Deep.Light
import Derived.WalkSmall
import Derived.StillTailTactics
import Derived.Lib.Hide
import Derived.Test.YtflfaobbfhjmmaaDoorT0
import Derived.Test.YtflfaobbfhjmmaaDoorIt
import Derived.Test.YtflfaobbfhjmmaaDoorBlk
namespace Go.Proofs.YtflfaobbfhjmmaaDoor
open Go Go.RowKit
set_option linter.unusedSimpArgs false
set_option linter.unusedVariables false

abbrev keys (P : List (Nat × Obj)) : List Nat := P.map (·.1)
theorem Kn.self {X : List Nat} {w0 W : World} {P : List (Nat × Obj)} (A R : List (Nat × Obj)) (h : Kn X w0 W (A ++ (P ++ R))) : Kn (keys P) W W P :=
  ⟨rfl, rfl, rfl, Nat.le_refl _, fun _ _ _ => rfl, fun p hp => .inr (List.mem_map.2 ⟨p, hp, rfl⟩), fun p hp => h.has p (List.mem_append_right _ (List.mem_append_left _ hp)),
    h.nd.sublist (((List.sublist_append_left P R).trans (List.sublist_append_right A _)).map _)⟩
theorem Kn.joinA {X : List Nat} {w0 W W' : World} {P P' : List (Nat × Obj)} (A R : List (Nat × Obj)) (h : Kn X w0 W (A ++ (P ++ R))) (k : Kn (keys P) W W' P') : Kn X w0 W' (A ++ (P' ++ R)) := by
  have nd := h.nd
  simp only [List.map_append, List.nodup_append] at nd
  obtain ⟨ndA, ⟨ndP, ndR, dPR⟩, dA⟩ := nd
  have hPin : ∀ q ∈ P, q ∈ A ++ (P ++ R) := fun q hq => List.mem_append_right _ (List.mem_append_left _ hq)
  have keep : ∀ p ∈ A ++ (P ++ R), p.1 ∉ keys P → W'.heap[p.1]? = some p.2 := fun p hp hn => (k.block p.1 (h.lt hp) hn).trans (h.has p hp)
  have nA : ∀ p ∈ A, p.1 ∉ keys P := fun p hp hm => dA p.1 (List.mem_map.2 ⟨p, hp, rfl⟩) p.1 (List.mem_append_left _ hm) rfl
  have nR : ∀ p ∈ R, p.1 ∉ keys P := fun p hp hm => dPR p.1 hm p.1 (List.mem_map.2 ⟨p, hp, rfl⟩) rfl
  have own' : ∀ p ∈ P', w0.heap.size ≤ p.1 ∨ p.1 ∈ X := fun p hp => by
    rcases k.own p hp with e | e
    · exact .inl (Nat.le_trans h.size e)
    · obtain ⟨q, hq, e2⟩ := List.mem_map.1 e
      rw [← e2]; exact h.own q (hPin q hq)
  have far : ∀ q ∈ A ++ (P ++ R), q.1 ∉ keys P → ∀ p ∈ P', p.1 ≠ q.1 := fun q hq hn p hp e => by
    rcases k.own p hp with e1 | e1
    · have := h.lt hq; omega
    · exact hn (e ▸ e1)
  refine ⟨k.os.trans h.os, k.tape.trans h.tape, k.output.trans h.output, Nat.le_trans h.size k.size, fun b hb hx => ?_, fun p hp => ?_, fun p hp => ?_, ?_⟩
  · rw [k.block b (Nat.lt_of_lt_of_le hb h.size) fun hm => ?_, h.block b hb hx]
    obtain ⟨q, hq, e⟩ := List.mem_map.1 hm
    rcases h.own q (hPin q hq) with e1 | e1
    · omega
    · exact hx (e ▸ e1)
  · rcases List.mem_append.1 hp with hp | hp
    · exact h.own p (List.mem_append_left _ hp)
    rcases List.mem_append.1 hp with hp | hp
    · exact own' p hp
    · exact h.own p (List.mem_append_right _ (List.mem_append_right _ hp))
  · rcases List.mem_append.1 hp with hp | hp
    · exact keep p (List.mem_append_left _ hp) (nA p hp)
    rcases List.mem_append.1 hp with hp | hp
    · exact k.has p hp
    · exact keep p (List.mem_append_right _ (List.mem_append_right _ hp)) (nR p hp)
  · simp only [List.map_append, List.nodup_append]
    refine ⟨ndA, ⟨k.nd, ndR, fun a ha b hb e => ?_⟩, fun a ha b hb e => ?_⟩
    · obtain ⟨p, hp, rfl⟩ := List.mem_map.1 ha
      obtain ⟨q, hq, rfl⟩ := List.mem_map.1 hb
      exact far q (List.mem_append_right _ (List.mem_append_right _ hq)) (nR q hq) p hp e
    · obtain ⟨q, hq, rfl⟩ := List.mem_map.1 ha
      rcases List.mem_append.1 hb with hb | hb
      · obtain ⟨p, hp, rfl⟩ := List.mem_map.1 hb
        exact far q (List.mem_append_left _ hq) (nA q hq) p hp e.symm
      · exact dA q.1 (List.mem_map.2 ⟨q, hq, rfl⟩) b (List.mem_append_right _ hb) e
theorem Kn.pick {X : List Nat} {w0 w : World} {L L' : List (Nat × Obj)} (h : Kn X w0 w L) (hm : ∀ p ∈ L', p ∈ L) (nd : (keys L').Nodup) : Kn X w0 w L' :=
  ⟨h.os, h.tape, h.output, h.size, h.block, fun p hp => h.own p (hm p hp), fun p hp => h.has p (hm p hp), nd⟩
/-- Two calls one after the other. -/
theorem Kn.trans {X Y Z : List Nat} {w0 W W' : World} {L L' : List (Nat × Obj)} (h : Kn X w0 W L) (k : Kn Y W W' L') (hX : ∀ x ∈ X, x ∈ Z) (hY : ∀ y ∈ Y, y ∈ Z ∨ w0.heap.size ≤ y) : Kn Z w0 W' L' :=
  ⟨k.os.trans h.os, k.tape.trans h.tape, k.output.trans h.output, Nat.le_trans h.size k.size,
    fun b hb hx => (k.block b (Nat.lt_of_lt_of_le hb h.size) fun hm => by rcases hY b hm with e | e; exact hx e; omega).trans (h.block b hb fun hm => hx (hX b hm)),
    fun p hp => by
      rcases k.own p hp with e | e
      · exact .inl (Nat.le_trans h.size e)
      · exact (hY p.1 e).symm, k.has, k.nd⟩

end Go.Proofs.YtflfaobbfhjmmaaDoor
