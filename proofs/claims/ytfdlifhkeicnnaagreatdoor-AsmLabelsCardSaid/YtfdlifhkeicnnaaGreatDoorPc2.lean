/- Lemmas and walks for the law of this seat (part 2). -/
import Derived.Test.YtfdlifhkeicnnaaGreatDoorPc1
import Derived.Deep.Slices
import Derived.Deep.Strs
import Derived.Deep.Fields
/- What is known of a world on the way through a call: memory that was there before it is as it was but for the blocks X, and what some blocks hold (L). Worlds are kept as variables: a store, a new block or a call turns one list into the next. -/
namespace Go.Proofs.YtfdlifhkeicnnaaGreatDoor
open Go Go.RowKit
set_option linter.unusedVariables false
set_option linter.unusedSimpArgs false

/-- What puts lists of blocks into their form, in one name (kfb: at the list; kfa: at what it says). -/
theorem kfb : (∀ {α : Type} (l : List α) (i : Nat) (a : α), l.toArray.setIfInBounds i a = (l.set i a).toArray) ∧ (∀ {α : Type} (x : α) (xs : List α) (a : α), (x :: xs).set 0 a = a :: xs) ∧ (∀ {α : Type} (x : α) (xs : List α) (i : Nat) (a : α), (x :: xs).set (i + 1) a = x :: xs.set i a) ∧ (∀ {α : Type} (a : α) (u v : List α), (a :: u) ++ v = a :: (u ++ v)) ∧ (∀ {α : Type} (u : List α), [] ++ u = u) :=
  ⟨fun l i a => List.setIfInBounds_toArray l i a, fun _ _ _ => rfl, fun _ _ _ _ => rfl, fun _ _ _ => rfl, fun _ => rfl⟩
theorem kfa : (∀ {α β : Type} (f : α → β) (a : α) (l : List α), (a :: l).map f = f a :: l.map f) ∧ (∀ {α β : Type} (f : α → β), List.map f [] = []) ∧ (∀ {α : Type} (p : α → Prop) (a : α) (l : List α), (∀ x ∈ a :: l, p x) ↔ p a ∧ ∀ x ∈ l, p x) ∧ (∀ p : Prop, (False → p) = True) ∧ (∀ {α : Type} (a b : α), (a ≠ b) = ¬ (a = b)) ∧ ((¬ False) = True) ∧ (∀ {α : Type} (a : α), ¬ a ∈ ([] : List α)) ∧ (∀ p : Prop, (True → p) = p) ∧ (∀ {α : Type} {a b : α} {l : List α}, a ∈ b :: l ↔ a = b ∨ a ∈ l) ∧ (∀ p : Prop, (p ∨ False) = p) ∧ (∀ p : Prop, (p ∧ True) = p) ∧ (∀ p : Prop, (True ∧ p) = p) ∧ (∀ n : Nat, n ≤ n) ∧ (∀ {α : Type} (l : List α) (i : Nat) (a : α), l.toArray.setIfInBounds i a = (l.set i a).toArray) ∧ (∀ {α : Type} (x : α) (xs : List α) (a : α), (x :: xs).set 0 a = a :: xs) ∧ (∀ {α : Type} (x : α) (xs : List α) (i : Nat) (a : α), (x :: xs).set (i + 1) a = x :: xs.set i a) :=
  ⟨fun _ _ _ => rfl, fun _ => rfl, fun _ _ _ => List.forall_mem_cons, false_implies, fun a b => ne_eq a b, not_false_eq_true, fun _ => List.not_mem_nil, true_implies, List.mem_cons, or_false, and_true, true_and, Nat.le_refl, fun l i a => List.setIfInBounds_toArray l i a, fun _ _ _ => rfl, fun _ _ _ _ => rfl⟩
theorem kd : ((∀ {α β : Type} (f : α → β) (a : α) (l : List α), (a :: l).map f = f a :: l.map f) ∧ (∀ {α β : Type} (f : α → β), List.map f [] = []) ∧ (∀ {α : Type} (p : α → Prop) (a : α) (l : List α), (∀ x ∈ a :: l, p x) ↔ p a ∧ ∀ x ∈ l, p x) ∧ (∀ p : Prop, (False → p) = True) ∧ (∀ {α : Type} (a b : α), (a ≠ b) = ¬ (a = b)) ∧ ((¬ False) = True) ∧ (∀ {α : Type} (a : α), ¬ a ∈ ([] : List α)) ∧ (∀ p : Prop, (True → p) = p) ∧ (∀ {α : Type} {a b : α} {l : List α}, a ∈ b :: l ↔ a = b ∨ a ∈ l) ∧ (∀ p : Prop, (p ∨ False) = p) ∧ (∀ p : Prop, (p ∧ True) = p) ∧ (∀ p : Prop, (True ∧ p) = p) ∧ (∀ n : Nat, n ≤ n) ∧ (∀ {α : Type} (l : List α) (i : Nat) (a : α), l.toArray.setIfInBounds i a = (l.set i a).toArray) ∧ (∀ {α : Type} (x : α) (xs : List α) (a : α), (x :: xs).set 0 a = a :: xs) ∧ (∀ {α : Type} (x : α) (xs : List α) (i : Nat) (a : α), (x :: xs).set (i + 1) a = x :: xs.set i a)) ∧ (∀ (α : Type), (α → True) = True) ∧ (∀ p : Prop, (p → True) = True) ∧ (∀ {p : Prop} (α : Type) [Nonempty α], (α → p) ↔ p) :=
  ⟨kfa, fun α => implies_true α, fun p => implies_true p, fun α _ => forall_const α⟩
/-- X: the old blocks that may have changed; w0: the world when the call began; L: what blocks hold. -/
class Kn (X : outParam (List Nat)) (w0 : outParam World) (w : World) (L : outParam (List (Nat × Obj))) : Prop where
  os : w.os = w0.os
  tape : w.tape = w0.tape
  output : w.output = w0.output
  size : w0.heap.size ≤ w.heap.size
  block : ∀ b, b < w0.heap.size → b ∉ X → w.heap[b]? = w0.heap[b]?
  own : ∀ p ∈ L, w0.heap.size ≤ p.1 ∨ p.1 ∈ X
  has : ∀ p ∈ L, w.heap[p.1]? = some p.2
  nd : (L.map (·.1)).Nodup

theorem Kn.refl (X : List Nat) (w : World) : Kn X w w [] := ⟨rfl, rfl, rfl, Nat.le_refl _, fun _ _ _ => rfl, fun _ h => (by cases h), fun _ h => (by cases h), List.nodup_nil⟩
theorem lt_of_has {w : World} {b : Nat} {o : Obj} (h : w.heap[b]? = some o) : b < w.heap.size := (Array.getElem?_eq_some_iff.1 h).1
theorem Kn.one {w : World} {b : Nat} {o : Obj} (h : w.heap[b]? = some o) : Kn [b] w w [(b, o)] :=
  ⟨rfl, rfl, rfl, Nat.le_refl _, fun _ _ _ => rfl, fun p hp => (by simp at hp; subst hp; right; simp), fun p hp => (by simp at hp; subst hp; exact h), by simp⟩
theorem Kn.below0 {w0 w : World} {L : List (Nat × Obj)} (h : Kn [] w0 w L) : Below w0.heap.size w0 w := ⟨h.os, h.tape, h.output, h.size, fun b hb => h.block b hb (by simp)⟩
theorem Kn.lt {X : List Nat} {w0 w : World} {L : List (Nat × Obj)} (h : Kn X w0 w L) {p : Nat × Obj} (hp : p ∈ L) : p.1 < w.heap.size := lt_of_has (h.has p hp)
/-- A callee that only makes memory. -/
theorem Kn.below {X : List Nat} {w0 w w' : World} {L : List (Nat × Obj)} (h : Kn X w0 w L) (k : Below w.heap.size w w') : Kn X w0 w' L :=
  ⟨k.os.trans h.os, k.tape.trans h.tape, k.output.trans h.output, Nat.le_trans h.size k.size, fun b hb hx => (k.block b (Nat.lt_of_lt_of_le hb h.size)).trans (h.block b hb hx), h.own,
    fun p hp => (k.block p.1 (h.lt hp)).trans (h.has p hp), h.nd⟩
theorem Kn.sub {X : List Nat} {w0 w : World} {L L' : List (Nat × Obj)} (h : Kn X w0 w L) (k : L'.Sublist L) : Kn X w0 w L' :=
  ⟨h.os, h.tape, h.output, h.size, h.block, fun p hp => h.own p (k.subset hp), fun p hp => h.has p (k.subset hp), h.nd.sublist (k.map _)⟩
/-- A callee that leaves something new. -/
theorem Kn.join {X : List Nat} {w0 w w' : World} {L L' : List (Nat × Obj)} (h : Kn X w0 w L) (k : Kn [] w w' L') : Kn X w0 w' (L' ++ L) := by
  have h1 := h.below k.below0
  refine ⟨h1.os, h1.tape, h1.output, h1.size, h1.block, fun p hp => ?_, fun p hp => ?_, ?_⟩
  · rcases List.mem_append.1 hp with hp | hp
    · rcases k.own p hp with e | e
      · exact .inl (Nat.le_trans h.size e)
      · simp at e
    · exact h.own p hp
  · rcases List.mem_append.1 hp with hp | hp
    · exact k.has p hp
    · exact h1.has p hp
  · rw [List.map_append, List.nodup_append]
    refine ⟨k.nd, h.nd, fun a ha b hb => ?_⟩
    obtain ⟨p, hp, rfl⟩ := List.mem_map.1 ha
    obtain ⟨q, hq, rfl⟩ := List.mem_map.1 hb
    have := h.lt hq
    rcases k.own p hp with e | e
    · omega
    · simp at e
/-! How a world written out is known: found by its make. -/
class SizeIs (w : World) (n : outParam Nat) : Prop where
  eq : w.heap.size = n
instance (priority := 10) sizeIs_self (w : World) : SizeIs w w.heap.size := ⟨rfl⟩
instance sizeIs_alloc (w : World) (o : Obj) (n : Nat) [h : SizeIs w n] : SizeIs (w.alloc o) (n + 1) := ⟨by simp [h.eq]⟩
instance sizeIs_setCell (w : World) (a : Addr) (v : Value) (n : Nat) [h : SizeIs w n] : SizeIs (w.setCell a v) n := ⟨by simp [h.eq]⟩
instance sizeIs_drewN (w : World) (k n : Nat) [h : SizeIs w n] : SizeIs (w.drewN k) n := ⟨h.eq⟩
instance sizeIs_drew (w : World) (n : Nat) [h : SizeIs w n] : SizeIs w.drew n := ⟨h.eq⟩
instance sizeIs_iter (w : World) (s : ByteArray) (k n : Nat) [h : SizeIs w n] : SizeIs (w.iter s k) (n + 1) := ⟨by simp [World.iter, h.eq]⟩

class SetIn (b o : Nat) (v : Value) (L : List (Nat × Obj)) (L' : outParam (List (Nat × Obj))) : Prop where
  ex : ∃ i c t f, L[i]? = some (b, .cells c t f) ∧ L' = L.set i (b, .cells (c.setIfInBounds o v) t f)
instance (priority := 2000) setIn_head (b o : Nat) (v : Value) (c : Array Value) (t : TypeId) (f : Nat × Nat) (L : List (Nat × Obj)) : SetIn b o v ((b, .cells c t f) :: L) ((b, .cells (c.setIfInBounds o v) t f) :: L) :=
  ⟨0, c, t, f, rfl, rfl⟩
instance (priority := 1000) setIn_tail (b o : Nat) (v : Value) (p : Nat × Obj) (L L' : List (Nat × Obj)) [h : SetIn b o v L L'] : SetIn b o v (p :: L) (p :: L') := by
  obtain ⟨i, c, t, f, h1, h2⟩ := h.ex
  exact ⟨i + 1, c, t, f, by simpa using h1, by rw [h2]; rfl⟩

instance kn_alloc (X : List Nat) (w0 w : World) (L : List (Nat × Obj)) (o : Obj) (n : Nat) [h : Kn X w0 w L] [s : SizeIs w n] : Kn X w0 (w.alloc o) ((n, o) :: L) := by
  have hn := s.eq
  have hb : Below w.heap.size w (w.alloc o) := (Below.refl _ _).alloc (Nat.le_refl _) _
  have k := h.below hb
  refine ⟨k.os, k.tape, k.output, k.size, k.block, fun p hp => ?_, fun p hp => ?_, ?_⟩
  · rcases List.mem_cons.1 hp with rfl | hp
    · left; have := h.size; simp; omega
    · exact h.own p hp
  · rcases List.mem_cons.1 hp with rfl | hp
    · show (w.heap.push o)[n]? = some o
      subst hn; simp
    · exact k.has p hp
  · rw [List.map_cons, List.nodup_cons]
    refine ⟨fun hm => ?_, h.nd⟩
    obtain ⟨q, hq, e⟩ := List.mem_map.1 hm
    have := h.lt hq
    simp only at e; omega
theorem set_same (w : World) (b o : Nat) (v : Value) (c : Array Value) (t : TypeId) (f : Nat × Nat) (h : w.heap[b]? = some (.cells c t f)) : (w.setCell ⟨b, o, none⟩ v).heap[b]? = some (.cells (c.setIfInBounds o v) t f) := by
  simp only [World.setCell, Array.getElem?_modify, if_true, h]; rfl
instance kn_setCell (X : List Nat) (w0 w : World) (L L' : List (Nat × Obj)) (b o : Nat) (v : Value) [h : Kn X w0 w L] [s : SetIn b o v L L'] : Kn X w0 (w.setCell ⟨b, o, none⟩ v) L' := by
  obtain ⟨i, c, t, f, hi, rfl⟩ := s.ex
  have hm : (b, Obj.cells c t f) ∈ L := List.mem_of_getElem? hi
  have hkeys : ((L.set i (b, Obj.cells (c.setIfInBounds o v) t f)).map (·.1)) = L.map (·.1) := by
    rw [List.map_set]
    apply List.ext_getElem?
    intro j
    rw [List.getElem?_set]
    split
    · rename_i e; subst e
      split
      · simp [hi]
      · rename_i hn; simp at hn; simp [List.getElem?_eq_none hn]
    · rfl
  have hmem : ∀ p ∈ L.set i (b, Obj.cells (c.setIfInBounds o v) t f), p = (b, Obj.cells (c.setIfInBounds o v) t f) ∨ (p ∈ L ∧ p.1 ≠ b) := by
    intro p hp
    obtain ⟨j, hj⟩ := List.mem_iff_getElem?.1 hp
    rw [List.getElem?_set] at hj
    split at hj
    · split at hj
      · left; exact (Option.some.inj hj).symm
      · cases hj
    · rename_i hij
      right
      refine ⟨List.mem_of_getElem? hj, fun e => hij ?_⟩
      obtain ⟨hjl, hje⟩ := List.getElem?_eq_some_iff.1 hj
      obtain ⟨hil, hie⟩ := List.getElem?_eq_some_iff.1 hi
      have h1 : (L.map (·.1))[i]'(by simpa using hil) = (L.map (·.1))[j]'(by simpa using hjl) := by simp [hje, hie, e]
      exact (List.getElem_inj h.nd).1 h1
  refine ⟨h.os, h.tape, h.output, by simpa using h.size, fun d hd hx => ?_, fun p hp => ?_, fun p hp => ?_, by rw [hkeys]; exact h.nd⟩
  · have hdb : d ≠ b := by
      rintro rfl
      rcases h.own _ hm with e | e
      · exact absurd hd (by simpa using e)
      · exact hx e
    rw [Below.heap_setCell w ⟨b, o, none⟩ v d hdb]; exact h.block d hd hx
  · rcases hmem p hp with rfl | ⟨hp, _⟩
    · exact h.own (b, Obj.cells c t f) hm
    · exact h.own p hp
  · rcases hmem p hp with rfl | ⟨hp, hne⟩
    · exact set_same w b o v c t f (h.has _ hm)
    · rw [Below.heap_setCell w ⟨b, o, none⟩ v p.1 hne]; exact h.has p hp
theorem kn_same {X : List Nat} {w0 w w' : World} {L : List (Nat × Obj)} (h : Kn X w0 w L) (e1 : w'.heap = w.heap) (e2 : w'.os = w.os) (e3 : w'.tape = w.tape) (e4 : w'.output = w.output) : Kn X w0 w' L :=
  ⟨e2.trans h.os, e3.trans h.tape, e4.trans h.output, by rw [e1]; exact h.size, fun b hb hx => by rw [e1]; exact h.block b hb hx, h.own, fun p hp => by rw [e1]; exact h.has p hp, h.nd⟩
instance kn_drewN (X : List Nat) (w0 w : World) (L : List (Nat × Obj)) (n : Nat) [h : Kn X w0 w L] : Kn X w0 (w.drewN n) L := kn_same h rfl rfl rfl rfl
instance kn_drew (X : List Nat) (w0 w : World) (L : List (Nat × Obj)) [h : Kn X w0 w L] : Kn X w0 w.drew L := kn_same h rfl rfl rfl rfl
theorem kn_iter_below (w : World) (s : ByteArray) (k : Nat) : Below w.heap.size w (w.iter s k) := by
  unfold World.iter; exact (Below.refl _ _).alloc (Nat.le_refl _) _
instance kn_iter (X : List Nat) (w0 w : World) (L : List (Nat × Obj)) (s : ByteArray) (k : Nat) [h : Kn X w0 w L] : Kn X w0 (w.iter s k) L := h.below (kn_iter_below w s k)

/-- What the list says, as the walk uses it. -/
def Facts (w : World) : List (Nat × Obj) → Prop
  | [] => True
  | (b, .cells c _ (0, 0)) :: r => (∀ o, w.cell? ⟨b, o, none⟩ = c[o]?) ∧ (∀ o, w.frozen? ⟨b, o, none⟩ = false) ∧ b < w.heap.size ∧ Facts w r
  | (b, _) :: r => b < w.heap.size ∧ Facts w r
theorem facts_of_has {w : World} : ∀ {L : List (Nat × Obj)}, (∀ p ∈ L, w.heap[p.1]? = some p.2) → Facts w L := by
  intro L
  induction L with
  | nil => exact fun _ => trivial
  | cons p L ih =>
    intro h
    have hp := h p (by simp)
    have hr := ih (fun q hq => h q (List.mem_cons_of_mem _ hq))
    obtain ⟨b, ob⟩ := p
    unfold Facts
    split
    · rename_i heq; cases heq
    · rename_i heq; cases heq; exact ⟨fun o => by simp [World.cell?, hp], fun o => by simp [World.frozen?, hp], lt_of_has hp, hr⟩
    · rename_i heq; cases heq; exact ⟨lt_of_has hp, hr⟩
/-- No two of the blocks are the same. -/
def Dist : List Nat → Prop
  | [] => True
  | b :: r => (∀ c ∈ r, b ≠ c ∧ c ≠ b) ∧ Dist r
theorem dist_of_nodup : ∀ {l : List Nat}, l.Nodup → Dist l := by
  intro l
  induction l with
  | nil => exact fun _ => trivial
  | cons b r ih =>
    intro h
    rw [List.nodup_cons] at h
    exact ⟨fun c hc => ⟨fun e => h.1 (e ▸ hc), fun e => h.1 (e ▸ hc)⟩, ih h.2⟩
theorem Kn.facts {X : List Nat} {w0 w : World} {L : List (Nat × Obj)} (h : Kn X w0 w L) : Facts w L ∧ Dist (L.map (·.1)) ∧ w0.heap.size ≤ w.heap.size ∧ (∀ b o, b < w0.heap.size → b ∉ X → w.cell? ⟨b, o, none⟩ = w0.cell? ⟨b, o, none⟩) ∧ (∀ b o, b < w0.heap.size → b ∉ X → w.frozen? ⟨b, o, none⟩ = w0.frozen? ⟨b, o, none⟩) :=
  ⟨facts_of_has h.has, dist_of_nodup h.nd, h.size, fun b o hb hx => World.cell?_of_block (w := w0) (h.block b hb hx), fun b o hb hx => World.frozen?_of_block (w := w0) (h.block b hb hx)⟩

/-! A world written out becomes a variable. -/
theorem kn_calls {P : Program} {f : FuncId} {args : Array Value} {Q : Ending → World → Prop} {X : List Nat} {w0 Xw : World} {L : List (Nat × Obj)} [h : Kn X w0 Xw L]
    (k : ∀ W, Kn X w0 W L → Calls P f args W Q) : Calls P f args Xw Q := k Xw h
theorem kn_wp {P : Program} {c : Code} {a : Act} {Q : Exit → Act → World → Prop} {X : List Nat} {w0 Xw : World} {L : List (Nat × Obj)} [h : Kn X w0 Xw L]
    (k : ∀ W, Kn X w0 W L → c.wp P Q a W) : c.wp P Q a Xw := k Xw h
theorem kn_list {P : Program} {ops : Array Oper} {l : List Oper} {a : Act} {Q : Exit → Act → World → Prop} {X : List Nat} {w0 Xw : World} {L : List (Nat × Obj)} [h : Kn X w0 Xw L]
    (k : ∀ W, Kn X w0 W L → wpList P ops Q l a W) : wpList P ops Q l a Xw := k Xw h
theorem kn_list_set {P : Program} {ops : Array Oper} {l : List Oper} {a : Act} {Q : Exit → Act → World → Prop} {X : List Nat} {w0 w : World} {p : Addr} {v : Value} {L : List (Nat × Obj)} [h : Kn X w0 (w.setCell p v) L]
    (k : ∀ W, Kn X w0 W L → wpList P ops Q l a W) : wpList P ops Q l a (w.setCell p v) := k _ h
theorem kn_here {X : List Nat} {w0 w : World} {L : List (Nat × Obj)} [h : Kn X w0 w L] : Kn X w0 w L := h

/-! A region whose order is drawn. -/
section
variable {P : Program} {ops : Array Oper} {fl br pu : Nat → Bool} {Q : Act → World → Prop} {Qp : List PanicEntry → World → Prop} {X : List Nat} {w0 : World} {L Lw : List (Nat × Obj)} {a : Act} {rest : List Nat} {i : Nat} {o : Oper}
/-- The walk of such a region: L is what is known of the world, Lw what is known of it all the while. -/
def cwk (P : Program) (ops : Array Oper) (fl br pu : Nat → Bool) (Q : Act → World → Prop) (Qp : List PanicEntry → World → Prop) (X : List Nat) (w0 : World) (l : List Nat) (a : Act) (L Lw : List (Nat × Obj)) : Prop :=
  cw P ops fl br pu Q Qp l a (fun u => Kn X w0 u L) (fun u => Kn X w0 u Lw)
theorem kn_fam (X : List Nat) (w0 : World) (L : List (Nat × Obj)) (h : ∃ w, Kn X w0 w L) : ∃ (ι : Type) (F : ι → World), Nonempty ι ∧ (∀ w, Kn X w0 w L → ∃ n, w = F n) ∧ ∀ n, Kn X w0 (F n) L :=
  ⟨{ w : World // Kn X w0 w L }, Subtype.val, h.elim fun w hw => ⟨⟨w, hw⟩⟩, fun w hw => ⟨⟨w, hw⟩, rfl⟩, fun n => n.2⟩
theorem kn_region {id : Nat} {Q : Exit → Act → World → Prop} {w : World} {l : List Oper} [h : Kn X w0 w L] (order fls brs pus : List Nat) (hm : P.follows .mixedOrders = true)
    (hB : (Region.noSelect l.toArray && permB l.length order && okAll .any l.toArray (fun i => fls.contains i) (fun i => brs.contains i) (fun i => pus.contains i) order) = true) (hs : Lw.Sublist L)
    (k : ∀ (ι : Type) (F : ι → World) [Nonempty ι], (∀ w, Kn X w0 w Lw → ∃ n, w = F n) → (∀ n, Kn X w0 (F n) Lw) → cwk P l.toArray (fun i => fls.contains i) (fun i => brs.contains i) (fun i => pus.contains i) (Q .normal) (fun _ _ => False) X w0 order a L Lw) : (Code.region id l.toArray true).wp P Q a w := by
  obtain ⟨ι, F, hne, h1, h2⟩ := kn_fam X w0 Lw ⟨w, h.sub hs⟩
  exact wp_region_cw order fls brs pus (fun _ _ => False) hm hB (fun _ _ _ _ h => h.elim) _ _ (kn_drew X w0 w L) (fun u hu => hu.sub hs) (k ι F h1 h2)
theorem at_region (n : Nat) {ops : Array Oper} {d : Bool} {Q : Exit → Act → World → Prop} {w : World} (h : (Code.region n ops d).wp P Q a w) : (Code.region n ops d).wp P Q a w := h
def nth : List Oper → Nat → Option Oper
  | [], _ => none
  | o :: _, 0 => some o
  | _ :: r, n + 1 => nth r n
theorem nth_get : ∀ {l : List Oper} {i : Nat} {o : Oper}, nth l i = some o → l.toArray[i]? = some o := by
  intro l
  induction l with
  | nil => intro i o h; simp [nth] at h
  | cons x l ih =>
    intro i o h
    cases i with
    | zero => simpa [nth] using h
    | succ i => have := ih (i := i) (o := o) (by simpa [nth] using h); simpa using this
theorem cwk_nil (h : ∀ w, Kn X w0 w L → Q a w) : cwk P ops fl br pu Q Qp X w0 [] a L Lw := h
theorem cwk_skip {l : List Oper} (ho : nth l i = some o) (hw : Region.wanted o (yielded l.toArray a.tmps) = false) (h : cwk P l.toArray fl br pu Q Qp X w0 rest (a.put o.dst undef) L Lw) : cwk P l.toArray fl br pu Q Qp X w0 (i :: rest) a L Lw :=
  ⟨o, nth_get ho, .inr (.inr ⟨hw, h⟩)⟩
/-- Operations that enter nothing. -/
def noEnter : Op → Bool
  | .nilCheck _ | .move _ | .assign _ | .pick .. | .build .. | .load .. | .binOp .. | .unOp .. | .convert .. | .slice .. | .fieldAddr .. | .field .. | .indexAddr .. | .index .. | .extract .. | .lookup .. | .makeInterface .. => true
  | .call { callee := .builtin .len, .. } | .call { callee := .builtin .cap, .. } | .call { callee := .builtin .max, .. } | .call { callee := .builtin .min, .. } => true
  | _ => false
theorem val_run {s : Sem Value} {w : World} : (∃ v w', (Sem.run P (do pure (Next.value (← s)) : Sem Next) w) = .ok (.value v) w') ∨ ∃ h w', (Sem.run P (do pure (Next.value (← s)) : Sem Next) w) = .halt h w' := by
  rw [Sem.run_bind]
  cases s.run P w with
  | ok v w' => exact .inl ⟨v, w', rfl⟩
  | halt h w' => exact .inr ⟨h, w', rfl⟩
theorem nil_run (ρ : Operand → Value) (x : Operand) (dst : Option Tmp) (ty : TypeId) (pos : String) (after : Array Edge) (guard : Option (Nat × Bool)) (w : World) :
    (∃ v w', (execOp ρ ⟨dst, .nilCheck x, ty, pos, after, guard⟩).run P w = .ok (.value v) w') ∨ ∃ h w', (execOp ρ ⟨dst, .nilCheck x, ty, pos, after, guard⟩).run P w = .halt h w' := by
  simp only [execOp]
  split
  · exact .inr ⟨_, _, rfl⟩
  · exact .inr ⟨_, _, rfl⟩
  · exact .inr ⟨_, _, rfl⟩
  · split
    · exact .inr ⟨_, _, rfl⟩
    · rw [Sem.run_bind]
      cases (program).run P w with
      | halt x w' => exact .inr ⟨x, w', rfl⟩
      | ok p w' =>
        simp only [Result.andThen_ok]
        rw [Sem.run_bind]
        generalize (nilAhead _ _ _ _).run P w' = r
        cases r with
        | halt x w' => exact .inr ⟨x, w', rfl⟩
        | ok b w' =>
          simp only [Result.andThen_ok]
          split
          · exact .inr ⟨_, _, rfl⟩
          · exact .inl ⟨_, _, rfl⟩
    · exact .inl ⟨_, _, rfl⟩
  · exact .inl ⟨_, _, rfl⟩
theorem noEnter_run (ρ : Operand → Value) (o : Oper) (h : noEnter o.op = true) (w : World) : (∃ v w', (execOp ρ o).run P w = .ok (.value v) w') ∨ ∃ x w', (execOp ρ o).run P w = .halt x w' := by
  obtain ⟨dst, op, ty, pos, after, guard⟩ := o
  cases op
  case move x => exact .inl ⟨ρ x, w, rfl⟩
  case assign x => exact .inl ⟨ρ x, w, rfl⟩
  case pick c x y =>
    simp only [execOp]
    rw [Sem.run_bind]
    cases (asBool (ρ c)).run P w with
    | ok b w' => exact .inl ⟨_, w', rfl⟩
    | halt x w' => exact .inr ⟨x, w', rfl⟩
  case nilCheck x => exact nil_run ρ x dst ty pos after guard w
  case call c =>
    obtain ⟨callee, args, argTypes⟩ := c
    cases callee
    case builtin b =>
      simp only [execOp, resolve, pure_bind, invoke]
      cases b <;> simp only [noEnter, Bool.false_eq_true] at h <;> simp only [builtin] <;> exact val_run
    all_goals simp only [noEnter, Bool.false_eq_true] at h
  all_goals first | (simp only [noEnter, Bool.false_eq_true] at h; done) | exact val_run
theorem cwk_float {ι : Type} {F : ι → World} {l : List Oper} (ho : nth l i = some o) (hp : noEnter o.op = true) (hw : Region.wanted o (yielded l.toArray a.tmps) = true) (hf : fl i = true) (hu : pu i = false) (hC : ∀ w, Kn X w0 w Lw → ∃ n, w = F n)
    (h : ∀ K : Act → Prop, (∀ a, cwk P l.toArray fl br pu Q Qp X w0 rest a L Lw → K a) → o.quiet P a (fun w' => ∃ n, w' = F n) K) : cwk P l.toArray fl br pu Q Qp X w0 (i :: rest) a L Lw := by
  obtain ⟨v, h1, h2⟩ := h _ (fun _ h => h)
  refine ⟨o, nth_get ho, .inl ⟨hw, hf, v, fun w hk => ?_, h2⟩⟩
  have hk : Kn X w0 w Lw := hk.elim (fun e => by rw [hu] at e; cases e) id
  have h3 := h1 w (hC w hk)
  unfold Oper.quietAt at h3
  unfold floatAt
  rcases noEnter_run (P := P) a.eval o hp w with ⟨u, w', e⟩ | ⟨x, w', e⟩
  · rw [e] at h3 ⊢; exact h3
  · rw [e] at h3; exact h3.elim
/-- An operation that reads nothing. -/
theorem cwk_pure {l : List Oper} (ho : nth l i = some o) (hp : noEnter o.op = true) (hw : Region.wanted o (yielded l.toArray a.tmps) = true) (hf : fl i = true)
    (h : ∀ K : Act → Prop, (∀ a, cwk P l.toArray fl br pu Q Qp X w0 rest a L Lw → K a) → o.quiet P a (fun _ => True) K) : cwk P l.toArray fl br pu Q Qp X w0 (i :: rest) a L Lw := by
  obtain ⟨v, h1, h2⟩ := h _ (fun _ h => h)
  refine ⟨o, nth_get ho, .inl ⟨hw, hf, v, fun w _ => ?_, h2⟩⟩
  have h3 := h1 w trivial
  unfold Oper.quietAt at h3
  unfold floatAt
  rcases noEnter_run (P := P) a.eval o hp w with ⟨u, w', e⟩ | ⟨x, w', e⟩
  · rw [e] at h3 ⊢; exact h3
  · rw [e] at h3; exact h3.elim
/-- What is owed behind an operation that does not float. -/
def Owed (P : Program) (ops : Array Oper) (fl br pu : Nat → Bool) (Q : Act → World → Prop) (Qp : List PanicEntry → World → Prop) (X : List Nat) (w0 : World) (i : Nat) (rest : List Nat) (a : Act) (Lw : List (Nat × Obj)) (w' : World) : Prop :=
  ∃ L' Lw', Kn X w0 w' L' ∧ Lw'.Sublist L' ∧ (br i = true ∨ Lw.Sublist Lw') ∧ cwk P ops fl br pu Q Qp X w0 rest a L' Lw'
theorem cwk_call {f : FuncId} {args : Array Value} {l : List Oper} (ho : nth l i = some o) (hw : Region.wanted o (yielded l.toArray a.tmps) = true) (hf : fl i = false) (hx : ∀ w, (execOp a.eval o).run P w = .ok (.enter f args) w)
    (h : ∀ W, Kn X w0 W L → Calls P f args W fun e w' => ∃ v, e = .returned v ∧ Owed P l.toArray fl br pu Q Qp X w0 i rest (a.put o.dst v) Lw w') : cwk P l.toArray fl br pu Q Qp X w0 (i :: rest) a L Lw := by
  refine ⟨o, nth_get ho, .inr (.inl ⟨hw, hf, fun w hk => ?_⟩)⟩
  unfold anchAt
  rw [hx w]
  refine (h w hk).mono fun e w' hh => ?_
  obtain ⟨v, rfl, L', Lw', k1, k2, k3, k4⟩ := hh
  exact ⟨_, _, k1, fun u hu => hu.sub k2, k3.imp id fun k3 u hu => hu.sub k3, k4⟩
/-- Operations that enter nothing, but may make or write memory. -/
def plainOp : Op → Bool
  | .nilCheck _ | .move _ | .assign _ | .pick .. | .build .. | .load .. | .binOp .. | .unOp .. | .convert .. | .slice .. | .fieldAddr .. | .field .. | .indexAddr .. | .index .. | .extract .. | .lookup .. | .makeInterface .. => true
  | .alloc _ | .box .. | .buildSlice .. | .store .. | .makeFunc .. | .makeMap .. | .makeSlice .. | .mapUpdate .. | .insert .. | .mapEntry .. | .entryStore .. | .range .. | .next .. | .entry _ | .typeAssert .. => true
  | .call { callee := .builtin .len, .. } | .call { callee := .builtin .cap, .. } | .call { callee := .builtin .max, .. } | .call { callee := .builtin .min, .. } => true
  | .call { callee := .builtin .append, .. } | .call { callee := .builtin .copy, .. } | .call { callee := .builtin .delete, .. } | .call { callee := .builtin .clear, .. } => true
  | _ => false
theorem unit_run {s : Sem Unit} {w : World} : (∃ w', (Sem.run P (do s; pure .skip : Sem Next) w) = .ok .skip w') ∨ ∃ h w', (Sem.run P (do s; pure .skip : Sem Next) w) = .halt h w' := by
  rw [Sem.run_bind]
  cases s.run P w with
  | ok v w' => exact .inl ⟨w', rfl⟩
  | halt h w' => exact .inr ⟨h, w', rfl⟩
theorem plain_run (ρ : Operand → Value) (o : Oper) (h : plainOp o.op = true) (w : World) : (∃ v w', (execOp ρ o).run P w = .ok (.value v) w') ∨ (∃ w', (execOp ρ o).run P w = .ok .skip w') ∨ ∃ x w', (execOp ρ o).run P w = .halt x w' := by
  obtain ⟨dst, op, ty, pos, after, guard⟩ := o
  cases op
  case move x => exact .inl ⟨ρ x, w, rfl⟩
  case assign x => exact .inl ⟨ρ x, w, rfl⟩
  case pick c x y =>
    simp only [execOp]
    rw [Sem.run_bind]
    cases (asBool (ρ c)).run P w with
    | ok b w' => exact .inl ⟨_, w', rfl⟩
    | halt x w' => exact .inr (.inr ⟨x, w', rfl⟩)
  case nilCheck x => exact (nil_run ρ x dst ty pos after guard w).imp id .inr
  case call c =>
    obtain ⟨callee, args, argTypes⟩ := c
    cases callee
    case builtin b =>
      simp only [execOp, resolve, pure_bind, invoke]
      cases b <;> simp only [plainOp, Bool.false_eq_true] at h <;> simp only [builtin] <;> exact (val_run).imp id .inr
    all_goals simp only [plainOp, Bool.false_eq_true] at h
  all_goals first | (simp only [plainOp, Bool.false_eq_true] at h; done) | exact (val_run).imp id .inr | exact .inr unit_run
/-- .. and how such a one ends. -/
def AnchQ (P : Program) (ops : Array Oper) (fl br pu : Nat → Bool) (Q : Act → World → Prop) (Qp : List PanicEntry → World → Prop) (X : List Nat) (w0 : World) (i : Nat) (rest : List Nat) (Lw : List (Nat × Obj)) : Exit → Act → World → Prop
  | .normal, a, w => Owed P ops fl br pu Q Qp X w0 i rest a Lw w
  | .panic ch, _, w => Qp ch w
  | _, _, _ => False
theorem cwk_anch {l : List Oper} (ho : nth l i = some o) (hp : plainOp o.op = true) (hw : Region.wanted o (yielded l.toArray a.tmps) = true) (hf : fl i = false)
    (h : ∀ W, Kn X w0 W L → wpList P l.toArray (AnchQ P l.toArray fl br pu Q Qp X w0 i rest Lw) [o] a W) : cwk P l.toArray fl br pu Q Qp X w0 (i :: rest) a L Lw := by
  refine ⟨o, nth_get ho, .inr (.inl ⟨hw, hf, fun w hk => ?_⟩)⟩
  have h3 := h w hk
  unfold wpList at h3
  rw [if_pos hw] at h3
  have h4 : o.wp P a w (wpList P l.toArray (AnchQ P l.toArray fl br pu Q Qp X w0 i rest Lw) []) (AnchQ P l.toArray fl br pu Q Qp X w0 i rest Lw) := by
    rcases h3 with h3 | ⟨_, _, _, hh⟩
    · exact h3
    · exact hh.elim
  unfold anchAt
  unfold Oper.wp at h4
  rcases plain_run (P := P) a.eval o hp w with ⟨v, w', e⟩ | ⟨w', e⟩ | ⟨x, w', e⟩
  · rw [e] at h4 ⊢
    obtain ⟨L', Lw', k1, k2, k3, k4⟩ : Owed P l.toArray fl br pu Q Qp X w0 i rest (a.put o.dst v) Lw w' := h4
    exact ⟨_, _, k1, fun u hu => hu.sub k2, k3.imp id fun k3 u hu => hu.sub k3, k4⟩
  · rw [e] at h4 ⊢
    obtain ⟨L', Lw', k1, k2, k3, k4⟩ : Owed P l.toArray fl br pu Q Qp X w0 i rest (a.put o.dst undef) Lw w' := h4
    exact ⟨_, _, k1, fun u hu => hu.sub k2, k3.imp id fun k3 u hu => hu.sub k3, k4⟩
  · rw [e] at h4 ⊢
    cases x <;> simp only [Oper.upon] at h4 ⊢ <;> first | exact h4 | exact h4.elim
theorem anchQ_normal {w : World} (h : Owed P ops fl br pu Q Qp X w0 i rest a Lw w) : AnchQ P ops fl br pu Q Qp X w0 i rest Lw .normal a w := h
theorem owed0 (w' : World) {L' : List (Nat × Obj)} [k1 : Kn X w0 w' L'] (k2 : Lw.Sublist L') (k4 : cwk P ops fl br pu Q Qp X w0 rest a L' Lw) : Owed P ops fl br pu Q Qp X w0 i rest a Lw w' :=
  ⟨L', Lw, k1, k2, .inr (List.Sublist.refl _), k4⟩
/-- .. where everything that floats before it has come: all that is known may be used from here on. -/
theorem owedB (w' : World) {L' : List (Nat × Obj)} [k1 : Kn X w0 w' L'] (hb : br i = true) (k4 : ∀ (ι : Type) (F : ι → World) [Nonempty ι], (∀ w, Kn X w0 w L' → ∃ n, w = F n) → (∀ n, Kn X w0 (F n) L') → cwk P ops fl br pu Q Qp X w0 rest a L' L') : Owed P ops fl br pu Q Qp X w0 i rest a Lw w' := by
  obtain ⟨ι, F, hne, h1, h2⟩ := kn_fam X w0 L' ⟨w', k1⟩
  exact ⟨L', L', k1, List.Sublist.refl _, .inl hb, k4 ι F h1 h2⟩
theorem owed_ret {v : Value} {w' : World} {d : Option Tmp} (h : Owed P ops fl br pu Q Qp X w0 i rest (a.put d v) Lw w') : ∃ u, Ending.returned v = .returned u ∧ Owed P ops fl br pu Q Qp X w0 i rest (a.put d u) Lw w' := ⟨v, rfl, h⟩
end
end Go.Proofs.YtfdlifhkeicnnaaGreatDoor
/- The elements of a slice stand in a world (Row: one cell an element; RowK: k cells an element); an argument that is a slice is opened into its list. Of no program. -/
namespace Go.Proofs.YtfdlifhkeicnnaaGreatDoor
open Go Go.ChangeShapes Go.WideShapes Go.RowKit
set_option linter.unusedVariables false
set_option linter.unusedSimpArgs false

def Row (w : World) (v : Value) (xs : List Value) : Prop :=
  ∃ ao cap, v = .slice ao xs.length cap ∧ ∀ (j : Nat) x, xs[j]? = some x → ∃ g o, ao = some ⟨g, o, none⟩ ∧ w.cell? ⟨g, o + j, none⟩ = some x
def RowK (k : Nat) (w : World) (v : Value) (xs : List (List Value)) : Prop :=
  ∃ ao cap, v = .slice ao xs.length cap ∧ ∀ (j : Nat) cs, xs[j]? = some cs → ∃ g o, ao = some ⟨g, o, none⟩ ∧ ∀ (c : Nat) x, cs[c]? = some x → w.cell? ⟨g, o + j * k + c, none⟩ = some x
theorem cell_lt {w : World} {g j : Nat} {x : Value} (h : w.cell? ⟨g, j, none⟩ = some x) : g < w.heap.size := by
  rcases Nat.lt_or_ge g w.heap.size with h' | h'
  · exact h'
  · simp [World.cell?, Array.getElem?_eq_none h'] at h
theorem cell_same {w w' : World} {g j : Nat} (h : w'.heap[g]? = w.heap[g]?) : w'.cell? ⟨g, j, none⟩ = w.cell? ⟨g, j, none⟩ := by
  unfold World.cell?; simp only [h]
theorem cell_ext {w w' : World} {g j : Nat} {x : Value} (h : w.cell? ⟨g, j, none⟩ = some x) (k : Below w.heap.size w w') : w'.cell? ⟨g, j, none⟩ = some x :=
  (cell_same (k.block g (cell_lt h))).trans h
theorem Row.ext {w w' : World} {v : Value} {xs : List Value} (h : Row w v xs) (k : Below w.heap.size w w') : Row w' v xs := by
  obtain ⟨ao, cap, hv, hc⟩ := h
  refine ⟨ao, cap, hv, fun j x hx => ?_⟩
  obtain ⟨g, o, hg, hx⟩ := hc j x hx
  exact ⟨g, o, hg, cell_ext hx k⟩
theorem RowK.ext {k : Nat} {w w' : World} {v : Value} {xs : List (List Value)} (h : RowK k w v xs) (b : Below w.heap.size w w') : RowK k w' v xs := by
  obtain ⟨ao, cap, hv, hc⟩ := h
  refine ⟨ao, cap, hv, fun j x hx => ?_⟩
  obtain ⟨g, o, hg, hx⟩ := hc j x hx
  exact ⟨g, o, hg, fun c y hy => cell_ext (hx c y hy) b⟩
theorem Row.kn {X : List Nat} {w w' : World} {L : List (Nat × Obj)} {v : Value} {xs : List Value} (h : Row w v xs) (k : Kn X w w' L) (hx : ∀ x ∈ X, w.heap.size ≤ x) : Row w' v xs := by
  obtain ⟨ao, cap, hv, hc⟩ := h
  refine ⟨ao, cap, hv, fun j x hx' => ?_⟩
  obtain ⟨g, o, hg, hx'⟩ := hc j x hx'
  exact ⟨g, o, hg, (cell_same (k.block g (cell_lt hx') fun hm => by have := hx g hm; have := cell_lt hx'; omega)).trans hx'⟩
theorem RowK.kn {n : Nat} {X : List Nat} {w w' : World} {L : List (Nat × Obj)} {v : Value} {xs : List (List Value)} (h : RowK n w v xs) (k : Kn X w w' L) (hx : ∀ x ∈ X, w.heap.size ≤ x) : RowK n w' v xs := by
  obtain ⟨ao, cap, hv, hc⟩ := h
  refine ⟨ao, cap, hv, fun j x hx' => ?_⟩
  obtain ⟨g, o, hg, hx'⟩ := hc j x hx'
  exact ⟨g, o, hg, fun c y hy => (cell_same (k.block g (cell_lt (hx' c y hy)) fun hm => by have := hx g hm; have := cell_lt (hx' c y hy); omega)).trans (hx' c y hy)⟩
/-- What stood in w stands in w'. -/
def Old (w w' : World) : Prop := ∀ g, g < w.heap.size → w'.heap[g]? = w.heap[g]?
theorem Old.refl (w : World) : Old w w := fun _ _ => rfl
theorem Old.kn {X : List Nat} {w0 w w' : World} {L : List (Nat × Obj)} (h : Old w0 w) (k : Kn X w w' L) (hs : w0.heap.size ≤ w.heap.size) (hx : ∀ x ∈ X, w0.heap.size ≤ x) : Old w0 w' := fun g hg =>
  (k.block g (Nat.lt_of_lt_of_le hg hs) (fun hm => by have := hx g hm; omega)).trans (h g hg)
theorem Kn.old {X : List Nat} {w w' : World} {L : List (Nat × Obj)} (k : Kn X w w' L) (hx : ∀ x ∈ X, w.heap.size ≤ x) : Old w w' := fun g hg => k.block g hg (fun hm => by have := hx g hm; omega)
theorem Row.old {w w' : World} {v : Value} {xs : List Value} (h : Row w v xs) (k : Old w w') : Row w' v xs := by
  obtain ⟨ao, cap, hv, hc⟩ := h
  refine ⟨ao, cap, hv, fun j x hx' => ?_⟩
  obtain ⟨g, o, hg, hx'⟩ := hc j x hx'
  exact ⟨g, o, hg, (cell_same (k g (cell_lt hx'))).trans hx'⟩
theorem RowK.old {n : Nat} {w w' : World} {v : Value} {xs : List (List Value)} (h : RowK n w v xs) (k : Old w w') : RowK n w' v xs := by
  obtain ⟨ao, cap, hv, hc⟩ := h
  refine ⟨ao, cap, hv, fun j x hx' => ?_⟩
  obtain ⟨g, o, hg, hx'⟩ := hc j x hx'
  exact ⟨g, o, hg, fun c y hy => (cell_same (k g (cell_lt (hx' c y hy)))).trans (hx' c y hy)⟩
theorem Row.one {v : Value} {xs : List Value} {w : World} (h : Row w v xs) : v.oneCell' = true := by
  obtain ⟨ao, cap, rfl, _⟩ := h; rfl
section
variable {H : Type} {enc : TypeId × Value → H} {P : Program} {w : World} {base : Nat} {sp : Nat → Bool} {held : Bool}
end
end Go.Proofs.YtfdlifhkeicnnaaGreatDoor
