/- A row of bytes of the call's own: append onto it, and its string. -/
import Derived.Test.YtflfaobbfhjmmaaDoorProg
import Derived.Test.YtflfaobbfhjmmaaDoorBlk
import Derived.Laws.IdiomStrings
import Derived.Laws.BytesArg
namespace Go.Proofs.YtflfaobbfhjmmaaDoor
open Go Go.RowKit
set_option linter.unusedVariables false
set_option linter.unusedSimpArgs false
def bc (l : List UInt8) : List Value := l.map fun c => Value.int .u8 (c.toNat : Int)
theorem bc_len (l : List UInt8) : (bc l).length = l.length := by simp [bc]
/-- v is a row of the bytes l in a world that is w0 but for new memory. -/
def BOwn (w0 w : World) (v : Value) (l : List UInt8) : Prop := Kn [] w0 w [] ∧ w.ownsRow w0.heap.size 5 1 v l.length (bc l)
theorem BOwn.kn {w0 w : World} {v : Value} {l : List UInt8} (h : BOwn w0 w v l) : Kn [] w0 w [] := h.1
theorem BOwn.below {w0 w w' : World} {v : Value} {l : List UInt8} (h : BOwn w0 w v l) (k : Below w.heap.size w w') : BOwn w0 w' v l := ⟨h.1.below k, owns_below h.2 k⟩
theorem BOwn.nil (w : World) : BOwn w w (.slice none 0 0) [] := ⟨Kn.refl [] w, ⟨rfl, .inl ⟨rfl, rfl⟩⟩⟩
theorem BOwn.new {w0 w : World} (h : Kn [] w0 w []) (l : List UInt8) (cs : Array Value) (hcs : cs = (bc l).toArray) (n : Nat) (hn : n = l.length) (hl : l.length ≤ 100000000) : BOwn w0 (w.alloc (.cells cs 5)) (.slice (some ⟨w.heap.size, 0, none⟩) n n) l := by
  subst hcs; subst hn
  refine ⟨h.below ((Below.refl _ _).alloc (Nat.le_refl _) _), ⟨by rw [bc_len, Nat.mul_one], .inr ⟨_, _, (bc l).toArray, rfl, h.size, ?_, Nat.le_refl _, by unfold maxLen; omega, by simp [bc_len], ?_⟩⟩⟩
  · show (w.heap.push _)[w.heap.size]? = _
    simp
  · rw [Nat.mul_one, List.take_of_length_le (by simp [bc_len])]
theorem infoB8 : (Tryd.prog.info? 5).map (fun i => (i.zero, i.size, i.bytes)) = some (some (.int .u8 0), 1, 1) := by kernel_rfl
theorem wpList_appb {w0 W : World} {v : Value} {ops : Array Oper} {rest : List Oper} {o : Oper} {a : Act} {Q : Exit → Act → World → Prop} (hgd : o.guard = none) (s x : Operand)
    (ho : o.op = .call { callee := .builtin .append, args := #[s, x], argTypes := #[23, 23] }) (l news : List UInt8) (hb : BOwn w0 W v l) (hs : a.eval s = v)
    (m : Nat) (hx : a.eval x = .slice (some ⟨W.heap.size, 0, none⟩) m m) (cs : Array Value) (hcs : cs = (bc news).toArray) (hm : m = news.length) (hlen : l.length + news.length ≤ 100000000)
    (h : ∀ v' W', BOwn w0 W' v' (l ++ news) → wpList Tryd.prog ops Q rest (a.put o.dst v') W') : wpList Tryd.prog ops Q (o :: rest) a (W.alloc (.cells cs 5)) := by
  subst hcs; subst hm
  obtain ⟨i0, hi, hz0, hz1, hz2⟩ := info_parts infoB8
  have hal : Below W.heap.size W (W.alloc (.cells (bc news).toArray 5)) := (Below.refl _ _).alloc (Nat.le_refl _) _
  refine wpList_append_kn hgd s x _ ho 5 i0 _ Tryd.underlying23 hi hz0 (by rw [hz1]; rfl) (by rw [hz1]; decide) v l.length (bc l) hs (hb.1.below hal) (by rw [hz1]; exact owns_below hb.2 hal) (fun g _ hm => by simp at hm) ⟨W.heap.size, 0, none⟩ news.length news.length (bc news) hx (by rw [hz1, bc_len, Nat.mul_one]) ?_ ?_ ?_ ?_ ?_
  · intro j u hu
    rw [Go.WideShapes.add_plain, Nat.zero_add]
    have : (W.alloc (.cells (bc news).toArray 5)).cell? ⟨W.heap.size, j, none⟩ = (bc news).toArray[j]? := World.cell?_alloc_mark W _ _ (0, 0) j
    rw [this]; simpa using hu
  · intro u hu
    obtain ⟨c, _, rfl⟩ := List.mem_map.1 hu
    rfl
  · unfold maxLen; omega
  · rw [hz2]; omega
  · intro v' W' h1 h2 h3
    rw [hz1] at h2
    refine h v' W' ⟨h1, ?_⟩
    unfold bc at h2 ⊢
    rw [List.length_append, List.map_append]; exact h2
theorem conv_own {w0 w : World} {v : Value} {l : List UInt8} (h : BOwn w0 w v l) (t : ByteArray) (ht : t.data.toList = l) : (convert 23 9 v).run Tryd.prog w = .ok (.string t) w := by
  have e : (⟨l.toArray⟩ : ByteArray) = t := by cases t; subst ht; simp
  rw [← e]
  obtain ⟨h1, ⟨h2, ⟨rfl, h3⟩ | ⟨g, cap, cur, rfl, _, hg, _, _, _, h4⟩⟩⟩ := h
  · have : l = [] := List.eq_nil_of_length_eq_zero h3
    subst this
    exact run_convert_bytes_nil (P := Tryd.prog) w 23 5 Tryd.underlying23 Tryd.underlying5 0 0 9 Tryd.underlying9
  · refine run_convert_bytes_back (P := Tryd.prog) w 23 9 5 ⟨g, 0, none⟩ cap l Tryd.underlying23 Tryd.underlying5 Tryd.underlying9 fun j hj => ?_
    rw [Go.WideShapes.add_plain, Nat.zero_add]
    have h5 : (bc l)[j]? = some (.int .u8 (l[j].toNat : Int)) := by simp [bc, hj]
    rw [← h4, List.getElem?_take] at h5
    split at h5
    · simp only [World.cell?, hg]; simpa using h5
    · cases h5
theorem conv_rowL {X : List Nat} {w0 w : World} {LP R : List (Nat × Obj)} {v : Value} {l : List UInt8} (hk : Kn X w0 w (LP ++ R)) (h : RowL 1 5 LP v l.length (bc l)) (t : ByteArray) (ht : t.data.toList = l) : (convert 23 9 v).run Tryd.prog w = .ok (.string t) w := by
  have e : (⟨l.toArray⟩ : ByteArray) = t := by cases t; subst ht; simp
  rw [← e]
  rcases h with ⟨_, rfl, h3, _⟩ | ⟨g, cap, cur, rfl, rfl, hr⟩
  · have : l = [] := List.eq_nil_of_length_eq_zero h3
    subst this
    exact run_convert_bytes_nil (P := Tryd.prog) w 23 5 Tryd.underlying23 Tryd.underlying5 0 0 9 Tryd.underlying9
  · refine run_convert_bytes_back (P := Tryd.prog) w 23 9 5 ⟨g, 0, none⟩ cap l Tryd.underlying23 Tryd.underlying5 Tryd.underlying9 fun j hj => ?_
    rw [Go.WideShapes.add_plain, Nat.zero_add]
    have h5 : (bc l)[j]? = some (.int .u8 (l[j].toNat : Int)) := by simp [bc, hj]
    have h6 := hr.get h5
    simp only [World.cell?, hk.has (g, .cells cur 5 (0, 0)) (by simp)]
    simpa using h6
end Go.Proofs.YtflfaobbfhjmmaaDoor
