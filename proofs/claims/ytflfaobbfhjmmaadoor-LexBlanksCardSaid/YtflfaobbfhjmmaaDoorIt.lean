/- What is known of a world, with iterators over strings among the known blocks. -/
import Derived.Test.YtflfaobbfhjmmaaDoorSt
import Derived.Lib.OthersKept
namespace Go.Proofs.YtflfaobbfhjmmaaDoor
open Go Go.RowKit Go.Lib
set_option linter.unusedVariables false
set_option linter.unusedSimpArgs false
/-- One known block is replaced. -/
theorem kn_put {X : List Nat} {w0 w w' : World} {L : List (Nat × Obj)} {i b : Nat} {ob ob' : Obj} (h : Kn X w0 w L) (hi : L[i]? = some (b, ob)) (e1 : w'.os = w.os) (e2 : w'.tape = w.tape) (e3 : w'.output = w.output) (e4 : w'.heap.size = w.heap.size)
    (e5 : w'.heap[b]? = some ob') (e6 : ∀ c, c ≠ b → w'.heap[c]? = w.heap[c]?) : Kn X w0 w' (L.set i (b, ob')) := by
  have hm : (b, ob) ∈ L := List.mem_of_getElem? hi
  have hkeys : ((L.set i (b, ob')).map (·.1)) = L.map (·.1) := by
    rw [List.map_set]
    apply List.ext_getElem?
    intro j
    rw [List.getElem?_set]
    split
    · rename_i e; subst e
      split
      · simp [hi]
      · rename_i hn; simp at hn; simp [List.getElem?_eq_none hn]
    · rfl
  have hmem : ∀ p ∈ L.set i (b, ob'), p = (b, ob') ∨ (p ∈ L ∧ p.1 ≠ b) := by
    intro p hp
    obtain ⟨j, hj⟩ := List.mem_iff_getElem?.1 hp
    rw [List.getElem?_set] at hj
    split at hj
    · split at hj
      · left; exact (Option.some.inj hj).symm
      · cases hj
    · rename_i hij
      right
      refine ⟨List.mem_of_getElem? hj, fun e => hij ?_⟩
      obtain ⟨hjl, hje⟩ := List.getElem?_eq_some_iff.1 hj
      obtain ⟨hil, hie⟩ := List.getElem?_eq_some_iff.1 hi
      have h1 : (L.map (·.1))[i]'(by simpa using hil) = (L.map (·.1))[j]'(by simpa using hjl) := by simp [hje, hie, e]
      exact (List.getElem_inj h.nd).1 h1
  refine ⟨e1.trans h.os, e2.trans h.tape, e3.trans h.output, by rw [e4]; exact h.size, fun d hd hx => ?_, fun p hp => ?_, fun p hp => ?_, by rw [hkeys]; exact h.nd⟩
  · have hdb : d ≠ b := by
      rintro rfl
      rcases h.own _ hm with e | e
      · exact absurd hd (by simpa using e)
      · exact hx e
    rw [e6 d hdb]; exact h.block d hd hx
  · rcases hmem p hp with rfl | ⟨hp, _⟩
    · exact h.own (b, ob) hm
    · exact h.own p hp
  · rcases hmem p hp with rfl | ⟨hp, hne⟩
    · exact e5
    · rw [e6 p.1 hne]; exact h.has p hp
instance (priority := 3000) kn_iter_new (X : List Nat) (w0 w : World) (L : List (Nat × Obj)) (s : ByteArray) (k n : Nat) [h : Kn X w0 w L] [z : SizeIs w n] : Kn X w0 (w.iter s k) ((n, .stringIter s k) :: L) := by
  unfold World.iter; exact kn_alloc X w0 w L _ n
class IterIn (b : Nat) (s : ByteArray) (p : Nat) (L : List (Nat × Obj)) (L' : outParam (List (Nat × Obj))) : Prop where
  ex : ∃ i s0 k, L[i]? = some (b, .stringIter s0 k) ∧ L' = L.set i (b, .stringIter s p)
instance (priority := 2000) iterIn_head (b p : Nat) (s s0 : ByteArray) (k : Nat) (L : List (Nat × Obj)) : IterIn b s p ((b, .stringIter s0 k) :: L) ((b, .stringIter s p) :: L) := ⟨0, s0, k, rfl, rfl⟩
instance (priority := 1000) iterIn_tail (b p : Nat) (s : ByteArray) (q : Nat × Obj) (L L' : List (Nat × Obj)) [h : IterIn b s p L L'] : IterIn b s p (q :: L) (q :: L') := by
  obtain ⟨i, s0, k, h1, h2⟩ := h.ex
  exact ⟨i + 1, s0, k, by simpa using h1, by rw [h2]; rfl⟩
instance kn_iterAt (X : List Nat) (w0 w : World) (L L' : List (Nat × Obj)) (b p : Nat) (s : ByteArray) [h : Kn X w0 w L] [z : IterIn b s p L L'] : Kn X w0 (w.iterAt b s p) L' := by
  obtain ⟨i, s0, k, hi, rfl⟩ := z.ex
  have hl := lt_of_has (h.has _ (List.mem_of_getElem? hi))
  exact kn_put h hi rfl rfl rfl (iterAt_size w b s p) (by simp only at hl; simp [World.iterAt, hl]) (fun c hc => iterAt_other w b c s p hc)
instance sizeIs_iterAt (w : World) (b p n : Nat) (s : ByteArray) [h : SizeIs w n] : SizeIs (w.iterAt b s p) n := ⟨by rw [iterAt_size, h.eq]⟩
section
variable {P : Program} {X : List Nat} {w0 w : World} {L : List (Nat × Obj)} {b : Nat} {s : ByteArray} {pos : Nat}
theorem next_in (h : Kn X w0 w L) (hm : (b, Obj.stringIter s pos) ∈ L) (c : Nat) (hc : s.data[pos]? = some (UInt8.ofNat c)) (hlt : c < 128) (ty : TypeId) :
    (Instr.next (.pointer (some ⟨b, 0, none⟩)) true ty).run P w = .ok (.tuple #[.bool true, .int .i64 pos, .int .i32 c]) (w.iterAt b s (pos + 1)) := by
  obtain ⟨hl, he⟩ := Array.getElem?_eq_some_iff.1 hc
  have e : (s[pos]'hl).toNat = c := by
    show (s.data[pos]'hl).toNat = c
    rw [he]; simp; omega
  rw [run_next_ascii_at w b s pos ty (h.has _ hm) hl (by omega), e]
theorem next_out (h : Kn X w0 w L) (hm : (b, Obj.stringIter s pos) ∈ L) (hs : ¬ pos < s.size) (ty : TypeId) : (Instr.next (.pointer (some ⟨b, 0, none⟩)) true ty).run P w = .ok (.tuple #[.bool false]) w :=
  run_next_end_at w b s pos ty (h.has _ hm) hs
end
section
variable {P : Program} {ops : Array Oper} {fl br pu : Nat → Bool} {Q : Act → World → Prop} {Qp : List PanicEntry → World → Prop} {X : List Nat} {w0 : World} {L Lw : List (Nat × Obj)} {a : Act} {rest : List Nat} {i : Nat}
/-- Behind an operation that leaves something new, and turns nothing that was known: from here on all of it may be read. -/
theorem owedS (w' : World) {L' : List (Nat × Obj)} [k1 : Kn X w0 w' L'] (k2 : Lw.Sublist L') (k4 : ∀ (ι : Type) (F : ι → World) [Nonempty ι], (∀ w, Kn X w0 w L' → ∃ n, w = F n) → (∀ n, Kn X w0 (F n) L') → cwk P ops fl br pu Q Qp X w0 rest a L' L') : Owed P ops fl br pu Q Qp X w0 i rest a Lw w' := by
  obtain ⟨ι, F, hne, h1, h2⟩ := kn_fam X w0 L' ⟨w', k1⟩
  exact ⟨L', L', k1, List.Sublist.refl _, .inr k2, k4 ι F h1 h2⟩
end
end Go.Proofs.YtflfaobbfhjmmaaDoor
