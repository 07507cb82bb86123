/- A region whose order is drawn, walked once in the order of the text, where some operations store to blocks of the call's own that nothing else in the region reads, and the others read, or call what only makes new memory. -/
import Derived.StillTail
import Derived.Deep.Quiet
import Derived.Deep.QuietTactic
import Derived.Below
import Derived.BigQuiet
import Derived.WalkKit
import Derived.WalkSmall
import Derived.Test.YtibaebgihbdphaaDoorReg
namespace Go.Proofs.YtibaebgihbdphaaDoor
open Go Go.RowKit
set_option linter.unusedVariables false
set_option linter.unusedSimpArgs false

/-- Block b of the world, replaced. -/
def setBlk (w : World) (b : Nat) (o : Obj) : World := { w with heap := w.heap.setIfInBounds b o }
theorem setBlk_size (w : World) (b : Nat) (o : Obj) : (setBlk w b o).heap.size = w.heap.size := by simp [setBlk]
theorem setBlk_same (w : World) (b : Nat) (o : Obj) (h : b < w.heap.size) : (setBlk w b o).heap[b]? = some o := by simp [setBlk, h]
theorem setBlk_other (w : World) (b c : Nat) (o : Obj) (h : c ≠ b) : (setBlk w b o).heap[c]? = w.heap[c]? := by simp [setBlk, Array.getElem?_setIfInBounds_ne (Ne.symm h)]
theorem setCell_blk {w : World} {b : Nat} {cs : Array Value} {t : TypeId} {f : Nat × Nat} (h : w.heap[b]? = some (.cells cs t f)) (o : Nat) (v : Value) :
    w.setCell ⟨b, o, none⟩ v = setBlk w b (.cells (cs.setIfInBounds o v) t f) := by
  unfold World.setCell setBlk
  congr 1
  apply Array.ext_getElem?
  intro i
  by_cases hi : b = i
  · subst hi
    have hb : b < w.heap.size := (Array.getElem?_eq_some_iff.1 h).1
    rw [Array.getElem?_modify, if_pos rfl, h, Array.getElem?_setIfInBounds_self_of_lt hb]
    rfl
  · simp [Array.getElem?_modify, Array.getElem?_setIfInBounds_ne hi, hi]
theorem setBlk_setCell {w : World} {b : Nat} (cs : Array Value) (t : TypeId) (f : Nat × Nat) (hb : b < w.heap.size) (o : Nat) (v : Value) :
    (setBlk w b (.cells cs t f)).setCell ⟨b, o, none⟩ v = setBlk w b (.cells (cs.setIfInBounds o v) t f) := by
  rw [setCell_blk (setBlk_same w b _ hb)]
  simp [setBlk]
theorem setBlk_cell {w : World} {b : Nat} (cs : Array Value) (t : TypeId) (f : Nat × Nat) (hb : b < w.heap.size) (o : Nat) : (setBlk w b (.cells cs t f)).cell? ⟨b, o, none⟩ = cs[o]? := by
  simp [World.cell?, setBlk_same w b _ hb]
theorem setBlk_frozen {w : World} {b : Nat} (cs : Array Value) (t : TypeId) (hb : b < w.heap.size) (o : Nat) : (setBlk w b (.cells cs t (0, 0))).frozen? ⟨b, o, none⟩ = false := by
  simp [World.frozen?, setBlk_same w b _ hb]
theorem blk_cell {w : World} {b : Nat} {cs : Array Value} {t : TypeId} {f : Nat × Nat} (h : w.heap[b]? = some (.cells cs t f)) (o : Nat) : w.cell? ⟨b, o, none⟩ = cs[o]? := by simp [World.cell?, h]
theorem blk_frozen {w : World} {b : Nat} {cs : Array Value} {t : TypeId} (h : w.heap[b]? = some (.cells cs t (0, 0))) (o : Nat) : w.frozen? ⟨b, o, none⟩ = false := by simp [World.frozen?, h]
theorem blk_lt {w : World} {b : Nat} {o : Obj} (h : w.heap[b]? = some o) : b < w.heap.size := (Array.getElem?_eq_some_iff.1 h).1
theorem heap_at (w : World) (o : Obj) (n : Nat) (h : n = w.heap.size) : (w.alloc o).heap[n]? = some o := by subst h; show (w.heap.push o)[w.heap.size]? = _; simp
theorem heap_past (w : World) (o : Obj) (n : Nat) (h : n < w.heap.size) : (w.alloc o).heap[n]? = w.heap[n]? := Below.heap_alloc w o n h
theorem heap_other (w : World) (a : Addr) (v : Value) (n : Nat) (h : n ≠ a.block) : (w.setCell a v).heap[n]? = w.heap[n]? := Below.heap_setCell w a v n h
theorem heap_drewN (w : World) (n : Nat) : (w.drewN n).heap = w.heap := rfl
theorem setCell_drewN (w : World) (n : Nat) (a : Addr) (v : Value) : (w.drewN n).setCell a v = (w.setCell a v).drewN n := rfl
theorem alloc_drewN (w : World) (n : Nat) (o : Obj) : (w.drewN n).alloc o = (w.alloc o).drewN n := rfl
theorem heap_drew (w : World) : (w.drew).heap = w.heap := rfl

/-- All blocks but those of X are as they were. -/
structure Kept (X : Nat → Prop) (w w' : World) : Prop where
  os : w'.os = w.os
  tape : w'.tape = w.tape
  output : w'.output = w.output
  size : w.heap.size ≤ w'.heap.size
  block : ∀ b, b < w.heap.size → ¬ X b → w'.heap[b]? = w.heap[b]?
theorem Kept.cell {X : Nat → Prop} {w w' : World} (h : Kept X w w') {b : Nat} (hb : b < w.heap.size) (hx : ¬ X b) (o : Nat) : w'.cell? ⟨b, o, none⟩ = w.cell? ⟨b, o, none⟩ := World.cell?_of_block (w := w) (h.block b hb hx)
theorem Kept.below {X : Nat → Prop} {w w' w0 : World} {B : Nat} (h : Kept X w w') (h0 : Below B w0 w) (hB : B ≤ w.heap.size) (hx : ∀ b, X b → B ≤ b) : Below B w0 w' :=
  ⟨h.os.trans h0.os, h.tape.trans h0.tape, h.output.trans h0.output, Nat.le_trans h0.size h.size, fun k hk => (h.block k (by omega) (fun hX => by have := hx k hX; omega)).trans (h0.block k hk)⟩

section
variable {P : Program} {ops : Array Oper} {md : Region.Mode}
/-- What an operation that stores nowhere does in a world: it yields v and leaves it; or calls, and what is called hands back v and makes new memory alone. -/
def mixUpon (P : Program) (w : World) (v : Value) : Result Next → Prop
  | .ok (.value u) w' => w' = w ∧ u = v
  | .ok .skip w' => w' = w ∧ v = undef
  | .ok (.enter f args) w' => w' = w ∧ Calls P f args w (fun e w'' => e = .returned v ∧ Below w.heap.size w w'')
  | _ => False
def mixAt (P : Program) (o : Oper) (a : Act) (w : World) (v : Value) : Prop := mixUpon P w v ((execOp a.eval o).run P w)

/-- Which operation stores to which block, and what stands there then. -/
abbrev Eff := Nat → Option (Nat × Obj)
structure Eff.fits (eff : Eff) (X : Nat → Prop) (W : World) : Prop where
  inX : ∀ i b o, eff i = some (b, o) → X b
  one : ∀ i j b o o', eff i = some (b, o) → eff j = some (b, o') → i = j
  lt : ∀ i b o, eff i = some (b, o) → b < W.heap.size

/-- Operation k of the region, in state a, leaves v. -/
def Good (P : Program) (ops : Array Oper) (X : Nat → Prop) (W : World) (eff : Eff) (k : Nat) (o : Oper) (a : Act) (v : Value) : Prop :=
  (Region.wanted o (yielded ops a.tmps) = true ∧ eff k = none ∧ ∀ w, Kept X W w → mixAt P o a w v) ∨
  (Region.wanted o (yielded ops a.tmps) = true ∧ v = undef ∧ ∃ b ob, eff k = some (b, ob) ∧ ∀ w, Kept X W w → w.heap[b]? = W.heap[b]? → (execOp a.eval o).run P w = .ok .skip (setBlk w b ob)) ∨
  (Region.wanted o (yielded ops a.tmps) = false ∧ eff k = none ∧ v = undef)

def wpMixE (P : Program) (ops : Array Oper) (X : Nat → Prop) (W : World) (eff : Eff) (Q : Act → Prop) : Nat → List Oper → Act → Prop
  | _, [], a => Q a
  | k, o :: rest, a => ∃ v, Good P ops X W eff k o a v ∧ wpMixE P ops X W eff Q (k + 1) rest (a.put o.dst v)

def anyMix (P : Program) (md : Region.Mode) (ops : Array Oper) (X : Nat → Prop) (W : World) (eff : Eff) (Q : Act → Prop) : Nat → Array Bool → Act → Prop
  | 0, listed, a => (∀ j, j < ops.size → listed.getD j false = true) ∧ Q a
  | f + 1, listed, a => Region.ready md ops listed ≠ [] ∧ ∀ i ∈ Region.ready md ops listed, ∃ o v, ops[i]? = some o ∧ Good P ops X W eff i o a v ∧
      anyMix P md ops X W eff Q f (listed.setIfInBounds i true) (a.put o.dst v)

/-- The world on the way: what has been stored stands there. -/
def Way (X : Nat → Prop) (W : World) (eff : Eff) (listed : Array Bool) (w : World) : Prop :=
  Kept X W w ∧ ∀ i b o, eff i = some (b, o) → w.heap[b]? = if listed.getD i false then some o else W.heap[b]?

theorem Way.ext {X : Nat → Prop} {W : World} {eff : Eff} (hf : eff.fits X W) {listed : Array Bool} {w w' : World} {i : Nat} (h : Way X W eff listed w) (hi : eff i = none) (hb : Below w.heap.size w w') : Way X W eff (listed.setIfInBounds i true) w' := by
  refine ⟨⟨hb.os.trans h.1.os, hb.tape.trans h.1.tape, hb.output.trans h.1.output, Nat.le_trans h.1.size hb.size, fun b hlt hx => (hb.block b (Nat.lt_of_lt_of_le hlt h.1.size)).trans (h.1.block b hlt hx)⟩, fun j b o hj => ?_⟩
  have hne : i ≠ j := fun e => by subst e; rw [hi] at hj; cases hj
  rw [hb.block b (Nat.lt_of_lt_of_le (hf.lt j b o hj) h.1.size), h.2 j b o hj, getD_set_ne false hne]
theorem Way.store {X : Nat → Prop} {W : World} {eff : Eff} (hf : eff.fits X W) {listed : Array Bool} {w : World} {i b : Nat} {o : Obj} (h : Way X W eff listed w) (hi : eff i = some (b, o)) (hs : i < listed.size) : Way X W eff (listed.setIfInBounds i true) (setBlk w b o) := by
  have hb := hf.lt i b o hi
  refine ⟨⟨h.1.os, h.1.tape, h.1.output, by rw [setBlk_size]; exact h.1.size, fun c hlt hx => ?_⟩, fun j c o' hj => ?_⟩
  · have : c ≠ b := fun e => hx (e ▸ hf.inX i b o hi)
    rw [setBlk_other _ _ _ _ this]; exact h.1.block c hlt hx
  · by_cases hij : i = j
    · subst hij
      rw [hi] at hj; cases hj
      rw [setBlk_same _ _ _ (Nat.lt_of_lt_of_le hb h.1.size)]
      simp [hs]
    · have : c ≠ b := fun e => hij (hf.one i j b o o' hi (by rw [← e]; exact hj))
      rw [setBlk_other _ _ _ _ this, h.2 j c o' hj, getD_set_ne false hij]

theorem wpAny_of_mix {X : Nat → Prop} {W : World} {eff : Eff} (hf : eff.fits X W) {Q : Act → Prop} {Q' : Exit → Act → World → Prop}
    (hQ : ∀ a w, Kept X W w → (∀ i b o, i < ops.size → eff i = some (b, o) → w.heap[b]? = some o) → Q a → Q' .normal a w) :
    ∀ (f : Nat) (listed : Array Bool) (a : Act) (w : World), listed.size = ops.size → Way X W eff listed w → anyMix P md ops X W eff Q f listed a → wpAny P md ops Q' f listed a w := by
  intro f
  induction f with
  | zero =>
    intro listed a w hsz hw h
    refine ⟨?_, hQ a w hw.1 (fun i b o hi he => by rw [hw.2 i b o he, if_pos (h.1 i hi)]) h.2⟩
    apply List.eq_nil_iff_forall_not_mem.2
    intro j hj
    have h1 := mem_ready.1 hj
    obtain ⟨h0, o, ho, _⟩ := h1
    have := h.1 j (Array.getElem?_eq_some_iff.1 ho).1
    rw [getD_both h0] at this; cases this
  | succ f ih =>
    intro listed a w hsz hw h
    refine ⟨fun h0 => absurd h0 h.1, fun i hi => ?_⟩
    obtain ⟨o, v, ho, hg, hn⟩ := h.2 i hi
    have hun := (mem_ready.1 hi).1
    have hlt : i < listed.size := by rw [hsz]; exact (Array.getElem?_eq_some_iff.1 ho).1
    have hsz' : (listed.setIfInBounds i true).size = ops.size := by simp [hsz]
    unfold wpOp
    simp only [ho]
    rcases hg with ⟨hwn, he, hm⟩ | ⟨hwn, rfl, b, ob, he, hm⟩ | ⟨hwn, he, rfl⟩
    · rw [if_pos hwn]
      left
      have h3 := hm w hw.1
      unfold mixAt at h3
      unfold Oper.wp
      generalize (execOp a.eval o).run P w = r at *
      cases r with
      | ok n w' =>
        cases n <;> simp only [mixUpon] at h3 <;> simp only [Oper.upon]
        case value u =>
          obtain ⟨e1, e2⟩ := h3
          subst e1; subst e2
          exact ih _ _ _ hsz' (hw.ext hf he (Below.refl _ _)) hn
        case skip =>
          obtain ⟨e1, e2⟩ := h3
          subst e1; subst e2
          exact ih _ _ _ hsz' (hw.ext hf he (Below.refl _ _)) hn
        case enter f' args =>
          obtain ⟨e1, hc⟩ := h3
          subst e1
          exact hc.mono fun e w'' ⟨he', hb⟩ => by subst he'; exact ih _ _ _ hsz' (hw.ext hf he hb) hn
      | halt x w' => simp only [mixUpon] at h3
    · rw [if_pos hwn]
      left
      have hb0 : w.heap[b]? = W.heap[b]? := by rw [hw.2 i b ob he, if_neg (by rw [getD_both hun]; simp)]
      unfold Oper.wp
      rw [hm w hw.1 hb0]
      simp only [Oper.upon]
      exact ih _ _ _ hsz' (hw.store hf he hlt) hn
    · rw [if_neg (by rw [hwn]; simp)]
      exact ih _ _ _ hsz' (hw.ext hf he (Below.refl _ _)) hn

theorem Good.same {X : Nat → Prop} {W : World} {eff : Eff} {k : Nat} {o : Oper} {a a' : Act} {v : Value} (h : Good P ops X W eff k o a v) (he : execOp a'.eval o = execOp a.eval o)
    (hw : Region.wanted o (yielded ops a'.tmps) = Region.wanted o (yielded ops a.tmps)) : Good P ops X W eff k o a' v := by
  unfold Good mixAt at *
  rw [he, hw]
  exact h

theorem anyMix_first {X : Nat → Prop} {W : World} {eff : Eff} {Q : Act → Prop} {i : Nat} {oi : Oper} {v : Value} (hi : ops[i]? = some oi) (hsel : ∀ (j : Nat) (o : Oper) cs b, ops[j]? = some o → o.op ≠ .select cs b) :
    ∀ (f : Nat) (listed : Array Bool) (a : Act), listed.size = ops.size →
      (∀ j oj, ops[j]? = some oj → j ≠ i → listed.getD j true = false → (∀ e ∈ oj.after, Region.binds md e = true → e.on ≠ i) → oi.apart ops oj = true) →
      i ∈ Region.ready md ops listed → Good P ops X W eff i oi a v →
      anyMix P md ops X W eff Q f (listed.setIfInBounds i true) (a.put oi.dst v) → anyMix P md ops X W eff Q (f + 1) listed a := by
  intro f
  induction f with
  | zero =>
    intro listed a hsz hfree hr hg H
    refine ⟨fun h => (by rw [h] at hr; cases hr), fun j hj => ?_⟩
    by_cases hji : j = i
    · subst hji; exact ⟨oi, v, hi, hg, H⟩
    · obtain ⟨h0, o, ho, _⟩ := mem_ready.1 (ready_mono hj hji)
      have := H.1 j (Array.getElem?_eq_some_iff.1 ho).1
      rw [getD_both h0] at this; cases this
  | succ f ih =>
    intro listed a hsz hfree hr hg H
    refine ⟨fun h => (by rw [h] at hr; cases hr), fun j hj => ?_⟩
    by_cases hji : j = i
    · subst hji; exact ⟨oi, v, hi, hg, H⟩
    · obtain ⟨oj', u, hoj', hgj, hn⟩ := H.2 j (ready_mono hj hji)
      obtain ⟨hjun, oj, hoj, hall⟩ := mem_ready.1 hj
      obtain rfl : oj' = oj := Option.some.inj (hoj'.symm.trans hoj)
      have hnot : ∀ e ∈ oj'.after, Region.binds md e = true → e.on ≠ i := fun e he hb heq => by
        have h1 := hall e he hb
        rw [heq, getD_both (mem_ready.1 hr).1] at h1
        cases h1
      have hap := hfree j oj' hoj hji hjun hnot
      obtain ⟨h1, h2, h3⟩ := Oper.apart_spec hap
      have hgj' : Good P ops X W eff j oj' a u := hgj.same (execOp_put oj' (fun cs b => hsel j oj' cs b hoj) a oi.dst v h1).symm (wanted_put oj' a oi.dst v h1).symm
      have hgi' : Good P ops X W eff i oi (a.put oj'.dst u) v := hg.same (execOp_put oi (fun cs b => hsel i oi cs b hi) a oj'.dst u h3) (wanted_put oi a oj'.dst u h3)
      refine ⟨oj', u, hoj, hgj', ih (listed.setIfInBounds j true) _ (by simp [hsz]) (fun k ok hk hki hun' hno => ?_) (ready_mono hr (Ne.symm hji)) hgi' ?_⟩
      · refine hfree k ok hk hki ?_ hno
        by_cases hjk : j = k
        · subst hjk; exact hjun
        · rw [getD_set_ne true hjk] at hun'; exact hun'
      · rw [Array.setIfInBounds_comm _ _ hji, ← Act.put_comm a v u h2]
        exact hn

theorem anyMix_lex {X : Nat → Prop} {W : World} {eff : Eff} {Q : Act → Prop} (hs : Region.noSelect ops = true) : ∀ (l : List Oper) (k : Nat) (listed : Array Bool) (a : Act), listed.size = ops.size → k + l.length = ops.size →
    (∀ j, j < k → listed.getD j false = true) → (∀ j, l[j]? = ops[k + j]?) → Region.lexFrom md ops l.length k listed = true → wpMixE P ops X W eff Q k l a → anyMix P md ops X W eff Q l.length listed a := by
  intro l
  induction l with
  | nil => intro k listed a _ hk hd _ _ h; exact ⟨fun j hj => hd j (by simp at hk; omega), h⟩
  | cons o l ih =>
    intro k listed a hsz hk hd hl hB h
    have h0 : ops[k]? = some o := by simpa using (hl 0).symm
    simp only [List.length_cons, Region.lexFrom, Bool.and_eq_true] at hB
    obtain ⟨⟨hr, hf⟩, hB'⟩ := hB
    obtain ⟨v, hg, hn⟩ := h
    refine anyMix_first h0 (Region.noSelect_spec hs) l.length listed a hsz (Region.free_spec h0 hf) (by simpa using hr) hg (ih (k + 1) _ _ (by simp [hsz]) (by simp at hk; omega) (fun j hj => ?_) (fun j => ?_) hB' hn)
    · by_cases hjk : k = j
      · subst hjk
        have : k < listed.size := by rw [hsz]; exact (Array.getElem?_eq_some_iff.1 h0).1
        simp [this]
      · rw [getD_set_ne false hjk]; exact hd j (by omega)
    · have := hl (j + 1); simpa [Nat.add_assoc, Nat.add_comm 1 j] using this

/-- The walk in the order of the text: dom says which operation stores to which block; what they leave there is gathered. -/
def wpMix (P : Program) (ops : Array Oper) (X : Nat → Prop) (W : World) (dom : Nat → Option Nat) (Q : Act → List (Nat × Obj) → Prop) : Nat → List Oper → Act → List (Nat × Obj) → Prop
  | _, [], a, acc => Q a acc
  | k, o :: rest, a, acc =>
    (Region.wanted o (yielded ops a.tmps) = true ∧ dom k = none ∧ ∃ v, (∀ w, Kept X W w → mixAt P o a w v) ∧ wpMix P ops X W dom Q (k + 1) rest (a.put o.dst v) acc) ∨
    (Region.wanted o (yielded ops a.tmps) = true ∧ ∃ b, dom k = some b ∧ ∃ ob, (∀ w, Kept X W w → w.heap[b]? = W.heap[b]? → (execOp a.eval o).run P w = .ok .skip (setBlk w b ob)) ∧ wpMix P ops X W dom Q (k + 1) rest (a.put o.dst undef) ((b, ob) :: acc)) ∨
    (Region.wanted o (yielded ops a.tmps) = false ∧ dom k = none ∧ wpMix P ops X W dom Q (k + 1) rest (a.put o.dst undef) acc)

theorem Good.eff {X : Nat → Prop} {W : World} {eff eff' : Eff} {k : Nat} {o : Oper} {a : Act} {v : Value} (h : Good P ops X W eff k o a v) (e : eff' k = eff k) : Good P ops X W eff' k o a v := by
  unfold Good at *; rw [e]; exact h
theorem wpMixE_eff {X : Nat → Prop} {W : World} {eff eff' : Eff} {Q : Act → Prop} : ∀ (l : List Oper) (k : Nat) (a : Act), (∀ i, k ≤ i → eff' i = eff i) → wpMixE P ops X W eff Q k l a → wpMixE P ops X W eff' Q k l a := by
  intro l
  induction l with
  | nil => exact fun k a _ h => h
  | cons o l ih => exact fun k a he ⟨v, hg, hn⟩ => ⟨v, hg.eff (he k (Nat.le_refl _)), ih _ _ (fun i hi => he i (by omega)) hn⟩
theorem eff_of_mix {X : Nat → Prop} {W : World} {dom : Nat → Option Nat} {Q : Act → List (Nat × Obj) → Prop} : ∀ (l : List Oper) (k : Nat) (a : Act) (acc : List (Nat × Obj)), wpMix P ops X W dom Q k l a acc →
    ∃ (eff : Eff) (acc' : List (Nat × Obj)), (∀ i b o, eff i = some (b, o) → k ≤ i ∧ i < k + l.length ∧ dom i = some b) ∧ (∀ p ∈ acc', p ∈ acc ∨ ∃ i, eff i = some p) ∧ wpMixE P ops X W eff (fun a' => Q a' acc') k l a := by
  intro l
  induction l with
  | nil => exact fun k a acc h => ⟨fun _ => none, acc, fun _ _ _ h => (by cases h), fun p hp => .inl hp, h⟩
  | cons o l ih =>
    intro k a acc h
    rcases h with ⟨hw, hd, v, hv, hn⟩ | ⟨hw, b, hd, ob, hs, hn⟩ | ⟨hw, hd, hn⟩
    · obtain ⟨eff, acc', h1, h2, h3⟩ := ih _ _ _ hn
      have hk : eff k = none := by
        cases he : eff k with
        | none => rfl
        | some p => have := (h1 k p.1 p.2 he).1; omega
      exact ⟨eff, acc', fun i b o hi => (by have := h1 i b o hi; simp only [List.length_cons]; exact ⟨by omega, by omega, this.2.2⟩), h2, v, .inl ⟨hw, hk, hv⟩, h3⟩
    · obtain ⟨eff, acc', h1, h2, h3⟩ := ih _ _ _ hn
      refine ⟨fun i => if i = k then some (b, ob) else eff i, acc', fun i b' o' hi => ?_, fun p hp => ?_, undef, .inr (.inl ⟨hw, rfl, b, ob, if_pos rfl, hs⟩), wpMixE_eff l _ _ (fun i hi => if_neg (by omega)) h3⟩
      · simp only [List.length_cons]
        dsimp only at hi
        split at hi
        · rename_i e; cases hi; subst e; exact ⟨Nat.le_refl _, by omega, hd⟩
        · have := h1 i b' o' hi; exact ⟨by omega, by omega, this.2.2⟩
      · rcases h2 p hp with h | ⟨i, hi⟩
        · rcases List.mem_cons.1 h with rfl | h
          · exact .inr ⟨k, if_pos rfl⟩
          · exact .inl h
        · have := (h1 i p.1 p.2 hi).1
          exact .inr ⟨i, by dsimp only; rw [if_neg (by omega)]; exact hi⟩
    · obtain ⟨eff, acc', h1, h2, h3⟩ := ih _ _ _ hn
      have hk : eff k = none := by
        cases he : eff k with
        | none => rfl
        | some p => have := (h1 k p.1 p.2 he).1; omega
      exact ⟨eff, acc', fun i b o hi => (by have := h1 i b o hi; simp only [List.length_cons]; exact ⟨by omega, by omega, this.2.2⟩), h2, undef, .inr (.inr ⟨hw, hk, rfl⟩), h3⟩

/-- The worlds on the way, as a family: for the quiet walk's own steps. -/
theorem kept_family (X : Nat → Prop) (W : World) : ∃ (ι : Type) (F : ι → World), Nonempty ι ∧ (∀ w, Kept X W w → ∃ n, w = F n) ∧ (∀ n, Kept X W (F n)) :=
  ⟨{ w : World // Kept X W w }, Subtype.val, ⟨⟨W, rfl, rfl, rfl, Nat.le_refl _, fun _ _ _ => rfl⟩⟩, fun w h => ⟨⟨w, h⟩, rfl⟩, fun n => n.2⟩
theorem nodup_snd {l : List (Nat × Nat)} (h : (l.map (·.2)).Nodup) {i j b : Nat} (hi : (i, b) ∈ l) (hj : (j, b) ∈ l) : i = j := by
  induction l with
  | nil => cases hi
  | cons p l ih =>
    simp only [List.map_cons, List.nodup_cons] at h
    rcases List.mem_cons.1 hi with e1 | h1
    · rcases List.mem_cons.1 hj with e2 | h2
      · rw [← e1] at e2; cases e2; rfl
      · exact (h.1 (List.mem_map.2 ⟨_, h2, by rw [← e1]⟩)).elim
    · rcases List.mem_cons.1 hj with e2 | h2
      · exact (h.1 (List.mem_map.2 ⟨_, h1, by rw [← e2]⟩)).elim
      · exact ih h.2 h1 h2
/-- The blocks that are stored to, each by one operation. -/
def Dom (l : List (Nat × Nat)) (k : Nat) : Option Nat := (l.find? fun p => p.1 == k).map (·.2)
theorem Dom.mem {l : List (Nat × Nat)} {k b : Nat} (h : Dom l k = some b) : (k, b) ∈ l := by
  unfold Dom at h
  obtain ⟨p, hp, hb⟩ := Option.map_eq_some_iff.1 h
  have h1 := List.find?_some hp
  have h2 := List.mem_of_find?_eq_some hp
  obtain ⟨x, y⟩ := p
  simp only [beq_iff_eq] at h1 hb
  subst h1; subst hb; exact h2

theorem region_mix {id : Nat} {Q : Exit → Act → World → Prop} {a : Act} {w : World} {l : List Oper} (st : List (Nat × Nat)) (hm : P.follows .mixedOrders = true) (hB : Region.lexB .any l.toArray = true)
    (hlt : ∀ p ∈ st, p.2 < w.heap.size) (hnd : (st.map (·.2)).Nodup)
    (h : ∀ (ι : Type) (F : ι → World) [Nonempty ι], (∀ w', Kept (fun b => b ∈ st.map (·.2)) w w' → ∃ n, w' = F n) → (∀ n, Kept (fun b => b ∈ st.map (·.2)) w (F n)) →
      wpMix P l.toArray (fun b => b ∈ st.map (·.2)) w (Dom st) (fun a' acc => ∀ w', Kept (fun b => b ∈ st.map (·.2)) w w' → (∀ p ∈ acc, w'.heap[p.1]? = some p.2) → Q .normal a' w') 0 l a []) : (Code.region id l.toArray true).wp P Q a w := by
  obtain ⟨ι, F, hn, h1, h2⟩ := kept_family (fun b => b ∈ st.map (·.2)) w
  obtain ⟨eff, acc', e1, e2, H⟩ := eff_of_mix l 0 a [] (h ι F h1 h2)
  have hf : eff.fits (fun b => b ∈ st.map (·.2)) w := by
    refine ⟨fun i b o hi => ?_, fun i j b o o' hi hj => ?_, fun i b o hi => ?_⟩
    · exact List.mem_map.2 ⟨(i, b), Dom.mem (e1 i b o hi).2.2, rfl⟩
    · have h1 := Dom.mem (e1 i b o hi).2.2
      have h2 := Dom.mem (e1 j b o' hj).2.2
      exact nodup_snd hnd h1 h2
    · exact hlt _ (Dom.mem (e1 i b o hi).2.2)
  simp only [Region.lexB, Bool.and_eq_true] at hB
  refine wp_region_any hm ?_
  have H' := anyMix_lex (md := .any) hB.1 l 0 (Array.replicate l.toArray.size false) a (by simp) (by simp) (fun j hj => by omega) (by simp) (by simpa using hB.2) H
  have := wpAny_of_mix (md := .any) hf (Q' := Q) (fun a' w' k1 k2 k3 => k3 w' k1 (fun p hp => by
      rcases e2 p hp with hp' | ⟨i, hi⟩
      · cases hp'
      · have := (e1 i p.1 p.2 hi).2.1
        exact k2 i p.1 p.2 (by simpa using this) hi)) l.length (Array.replicate l.toArray.size false) a w.drew (by simp)
    ⟨⟨rfl, rfl, rfl, Nat.le_refl _, fun _ _ _ => rfl⟩, fun i b o hi => by rw [getD_replicate_false]; rfl⟩ H'
  simpa using this

/-! The steps -/
variable {X : Nat → Prop} {W : World} {dom : Nat → Option Nat} {Q : Act → List (Nat × Obj) → Prop} {a : Act} {o : Oper} {rest : List Oper} {k : Nat} {acc : List (Nat × Obj)}
theorem mix_skip (hw : Region.wanted o (yielded ops a.tmps) = false) (he : dom k = none) (h : wpMix P ops X W dom Q (k + 1) rest (a.put o.dst undef) acc) : wpMix P ops X W dom Q k (o :: rest) a acc :=
  .inr (.inr ⟨hw, he, h⟩)
theorem mix_store {b : Nat} (hw : Region.wanted o (yielded ops a.tmps) = true) (he : dom k = some b)
    (h : ∃ ob, (∀ w, Kept X W w → w.heap[b]? = W.heap[b]? → (execOp a.eval o).run P w = .ok .skip (setBlk w b ob)) ∧ wpMix P ops X W dom Q (k + 1) rest (a.put o.dst undef) ((b, ob) :: acc)) : wpMix P ops X W dom Q k (o :: rest) a acc :=
  .inr (.inl ⟨hw, b, he, h⟩)
theorem mix_call {f : FuncId} {args : Array Value} (hw : Region.wanted o (yielded ops a.tmps) = true) (he : dom k = none) (hx : ∀ w, (execOp a.eval o).run P w = .ok (.enter f args) w)
    (h : ∃ v, (∀ w, Kept X W w → Calls P f args w (fun e w' => e = .returned v ∧ Below w.heap.size w w')) ∧ wpMix P ops X W dom Q (k + 1) rest (a.put o.dst v) acc) : wpMix P ops X W dom Q k (o :: rest) a acc := by
  obtain ⟨v, hc, h⟩ := h
  exact .inl ⟨hw, he, v, fun w hk => by unfold mixAt; rw [hx w]; exact ⟨rfl, hc w hk⟩, h⟩

/-- An operation that is no call enters nothing. -/
def noCall : Op → Bool
  | .move _ | .assign _ | .pick .. | .build .. | .load .. | .binOp .. | .unOp .. | .convert .. | .slice .. | .fieldAddr .. | .field .. | .indexAddr .. | .index .. | .extract .. | .lookup .. | .makeInterface .. => true
  | _ => false
theorem run_value {s : Sem Value} {w : World} : (∃ v w', (Sem.run P (do pure (Next.value (← s)) : Sem Next) w) = .ok (.value v) w') ∨ ∃ h w', (Sem.run P (do pure (Next.value (← s)) : Sem Next) w) = .halt h w' := by
  rw [Sem.run_bind]
  cases s.run P w with
  | ok v w' => exact .inl ⟨v, w', rfl⟩
  | halt h w' => exact .inr ⟨h, w', rfl⟩
theorem noCall_run (ρ : Operand → Value) (o : Oper) (h : noCall o.op = true) (w : World) : (∃ v w', (execOp ρ o).run P w = .ok (.value v) w') ∨ ∃ x w', (execOp ρ o).run P w = .halt x w' := by
  obtain ⟨dst, op, ty, pos, after, guard⟩ := o
  cases op <;> simp only [noCall, Bool.false_eq_true] at h
  case move x => exact .inl ⟨ρ x, w, rfl⟩
  case assign x => exact .inl ⟨ρ x, w, rfl⟩
  case pick c x y =>
    simp only [execOp]
    rw [Sem.run_bind]
    cases (asBool (ρ c)).run P w with
    | ok b w' => exact .inl ⟨_, w', rfl⟩
    | halt x w' => exact .inr ⟨x, w', rfl⟩
  all_goals exact run_value
theorem mix_plain {C : World → Prop} (hp : noCall o.op = true) (hw : Region.wanted o (yielded ops a.tmps) = true) (he : dom k = none) (hC : ∀ w, Kept X W w → C w)
    (h : ∀ K : Act → Prop, (∀ a, wpMix P ops X W dom Q (k + 1) rest a acc → K a) → o.quiet P a C K) : wpMix P ops X W dom Q k (o :: rest) a acc := by
  obtain ⟨v, h1, h2⟩ := h _ (fun _ h => h)
  refine .inl ⟨hw, he, v, fun w hk => ?_, h2⟩
  have h3 := h1 w (hC w hk)
  unfold Oper.quietAt at h3
  unfold mixAt
  rcases noCall_run (P := P) a.eval o hp w with ⟨u, w', e⟩ | ⟨x, w', e⟩
  · rw [e] at h3 ⊢; exact h3
  · rw [e] at h3; exact h3.elim
theorem wpMix_mono {Q' : Act → List (Nat × Obj) → Prop} (hQ : ∀ a acc, Q a acc → Q' a acc) : ∀ (l : List Oper) (k : Nat) (a : Act) (acc : List (Nat × Obj)), wpMix P ops X W dom Q k l a acc → wpMix P ops X W dom Q' k l a acc := by
  intro l
  induction l with
  | nil => exact fun _ a acc h => hQ a acc h
  | cons o l ih =>
    rintro k a acc (⟨hw, hd, v, hv, hn⟩ | ⟨hw, b, hd, ob, hs, hn⟩ | ⟨hw, hd, hn⟩)
    · exact .inl ⟨hw, hd, v, hv, ih _ _ _ hn⟩
    · exact .inr (.inl ⟨hw, b, hd, ob, hs, ih _ _ _ hn⟩)
    · exact .inr (.inr ⟨hw, hd, ih _ _ _ hn⟩)
theorem mix_nil (h : Q a acc) : wpMix P ops X W dom Q k [] a acc := h

end

/-- The region with the stores st (operation, block): what is known behind it. -/
theorem mix {P : Program} {id : Nat} {Q : Exit → Act → World → Prop} {a : Act} {w : World} {l : List Oper} (st : List (Nat × Nat)) (hm : P.follows .mixedOrders = true) (hB : Region.lexB .any l.toArray = true)
    (hlt : ∀ p ∈ st, p.2 < w.heap.size) (hnd : (st.map (·.2)).Nodup)
    (h : ∀ (ι : Type) (F : ι → World) [Nonempty ι], (∀ w', Kept (fun b => b ∈ st.map (·.2)) w w' → ∃ n, w' = F n) → (∀ n, Kept (fun b => b ∈ st.map (·.2)) w (F n)) →
      (∀ n b o, b < w.heap.size → b ∉ st.map (·.2) → (F n).cell? ⟨b, o, none⟩ = w.cell? ⟨b, o, none⟩) →
      wpMix P l.toArray (fun b => b ∈ st.map (·.2)) w (Dom st) (fun a' acc => ∀ w', (∀ B w0, (∀ p ∈ st, B ≤ p.2) → B ≤ w.heap.size → Below B w0 w → Below B w0 w') →
        (∀ b o, b < w.heap.size → b ∉ st.map (·.2) → w'.cell? ⟨b, o, none⟩ = w.cell? ⟨b, o, none⟩) → w.heap.size ≤ w'.heap.size → (∀ p ∈ acc, w'.heap[p.1]? = some p.2) → Q .normal a' w') 0 l a []) :
    (Code.region id l.toArray true).wp P Q a w := by
  refine region_mix st hm hB hlt hnd (fun ι F hn h1 h2 => ?_)
  refine wpMix_mono (fun a' acc hq w' hk hs => hq w' (fun B w0 hB hB' h0 => hk.below h0 hB' (fun b hb => ?_)) (fun b o hlt' hne => hk.cell hlt' hne o) hk.size hs) _ _ _ _ (h ι F h1 h2 (fun n b o hlt' hne => (h2 n).cell hlt' hne o))
  obtain ⟨p, hp, rfl⟩ := List.mem_map.1 hb
  exact hB p hp
/-- A forced tail behind a head that reads, or calls what leaves the world alone. -/
theorem drew_tail {P : Program} {id : Nat} {Q : Exit → Act → World → Prop} {a : Act} {w : World} {l : List Oper} (n : Nat) (hm : P.follows .mixedOrders = true) (hB : Region.lexTailB .any l.toArray n = true)
    (h : wpQuiet P l.toArray (fun w' => ∃ n, w' = w.drewN n) (fun a' => ∀ w', (∃ n, w' = w.drewN n) → wpList P l.toArray Q (l.drop n) a' w') (l.take n) a) : (Code.region id l.toArray true).wp P Q a w :=
  region_tail n (fun w' => ∃ n, w' = w.drewN n) hm hB ⟨1, rfl⟩ h
end Go.Proofs.YtibaebgihbdphaaDoor
