/- Lemmas and walks for the law of this seat (part 2). -/
import Derived.Test.YtgboffbbpmileaaGreatDoorPj1
import Derived.Shelf.Strings.Trim
import Derived.Shelf.Small.Utf8
import Derived.Shelf.Small.Strs
import Derived.Shelf.Utf8.RuneCount
import Derived.Shelf.Strconv.Atoi
import Derived.Shelf.Strconv.Itoa0
import Derived.Shelf.Strconv.Itoa1
import Derived.Shelf.LaysM
import Derived.Shelf.Strconv.Itoa2
import Derived.Shelf.Strconv.Itoa3
import Derived.Shelf.Strconv.AtoiErrFast
import Derived.Shelf.Strconv.ParseIntEmpty
import Derived.Shelf.Strconv.AtoiFail
import Derived.Shelf.Strconv.Clone
import Derived.Shelf.Strconv.SyntaxError
import Derived.Shelf.LaysC
import Derived.Shelf.Strconv.ToError
import Derived.Shelf.Strconv.AtoiErr
import Derived.Shelf.Strconv.ErrVar
import Derived.Shelf.Strconv.Lower
import Derived.Shelf.Strconv.ParseUint10
import Derived.Shelf.Strconv.ParseUint10Empty
import Derived.Shelf.Strconv.ParseUint10Any
import Derived.Shelf.Strconv.ParseInt10
import Derived.Shelf.Strconv.AtoiLong
import Derived.Shelf.Strconv.AtoiInnerAll
import Derived.Shelf.Strconv.RangeError
import Derived.Shelf.Strconv.ToErrorRange
import Derived.Shelf.Strconv.AtoiAll
import Derived.Shelf.Strconv.ErrVarAll
import Derived.Shelf.Strconv.ParseUintEmpty
import Derived.Shelf.Strconv.ParseUint10b64
import Derived.Shelf.Strconv.ParseUint10b32
import Derived.Shelf.Strconv.ParseUint10b16
import Derived.Shelf.Strconv.ParseUint10b8
import Derived.Shelf.Strconv.ParseUint10At
import Derived.Shelf.Strconv.ParseInt10At64
import Derived.Shelf.Strconv.ParseInt10At32
import Derived.Shelf.Strconv.ParseInt10At16
import Derived.Shelf.Strconv.ParseInt10At8
import Derived.Shelf.Strconv.ParseInt10All
import Derived.Shelf.Strings.Search1
import Derived.Shelf.Strings.Search2
import Derived.Shelf.Strings.Search3
import Derived.Shelf.Strings.Cut
import Derived.Shelf.Strings.Count
import Derived.Shelf.Strings.Shaped
import Derived.Shelf.Strings.Prefix
import Derived.Shelf.Strings.Split
import Derived.Shelf.Unicode.Decode
import Derived.Shelf.Strings.Runes
import Derived.Shelf.Strings.RuneCount
import Derived.Shelf.Strings.AsciiSet
import Derived.Shelf.Unicode.DecodeSlow
import Derived.Shelf.Unicode.DecodeAny
import Derived.Shelf.Unicode.DecodeLast
import Derived.Shelf.Slices.Turned
import Derived.Test.YtgboffbbpmileaaGreatDoorProg
import Derived.WalkKit
import Derived.Lib.LaidTab
import Derived.Sort.Grow
import Derived.Lib.OthersKept
import Derived.Laws.AppendOwn
import Derived.Handy
import Derived.Deep.Light
import Derived.WalkSmall
import Derived.StillTailTactics
import Derived.Lib.Hide
set_option linter.unusedVariables false
namespace Go.Proofs.YtgboffbbpmileaaGreatDoor
open Go Go.RowKit
/-! Short forms of what the walks say often. -/
theorem zD : ((∀ {α β : Type} (f : α → β) (a : α) (l : List α), (a :: l).map f = f a :: l.map f) ∧ (∀ {α β : Type} (f : α → β), List.map f [] = []) ∧ (∀ {α : Type} (p : α → Prop) (a : α) (l : List α), (∀ x ∈ a :: l, p x) ↔ p a ∧ ∀ x ∈ l, p x) ∧ (∀ p : Prop, (False → p) = True) ∧ (∀ {α : Type} (a b : α), (a ≠ b) = ¬ (a = b)) ∧ ((¬ False) = True) ∧ (∀ {α : Type} (a : α), ¬ a ∈ ([] : List α)) ∧ (∀ p : Prop, (True → p) = p) ∧ (∀ {α : Type} {a b : α} {l : List α}, a ∈ b :: l ↔ a = b ∨ a ∈ l) ∧ (∀ p : Prop, (p ∨ False) = p) ∧ (∀ p : Prop, (p ∧ True) = p) ∧ (∀ p : Prop, (True ∧ p) = p) ∧ (∀ n : Nat, n ≤ n) ∧ (∀ {α : Type} (l : List α) (i : Nat) (a : α), l.toArray.setIfInBounds i a = (l.set i a).toArray) ∧ (∀ {α : Type} (x : α) (xs : List α) (a : α), (x :: xs).set 0 a = a :: xs) ∧ (∀ {α : Type} (x : α) (xs : List α) (i : Nat) (a : α), (x :: xs).set (i + 1) a = x :: xs.set i a)) ∧ (∀ (α : Type), (α → True) = True) ∧ (∀ p : Prop, (p → True) = True) ∧ (∀ {p : Prop} (α : Type) [Nonempty α], (α → p) ↔ p) :=
  ⟨kfa, fun α => implies_true α, fun p => implies_true p, fun α _ => forall_const α⟩
def Fz (X : List Nat) (w0 w : World) (L : List (Nat × Obj)) : Prop := Facts w L ∧ Dist (L.map (·.1)) ∧ w0.heap.size ≤ w.heap.size ∧ (∀ b o, b < w0.heap.size → b ∉ X → w.cell? ⟨b, o, none⟩ = w0.cell? ⟨b, o, none⟩) ∧ (∀ b o, b < w0.heap.size → b ∉ X → w.frozen? ⟨b, o, none⟩ = w0.frozen? ⟨b, o, none⟩)
theorem Kn.fx {X : List Nat} {w0 w : World} {L : List (Nat × Obj)} {Q : Prop} (h : Kn X w0 w L) (e : Fz X w0 w L = Q := by (simp only [Fz]; (try simp only [Facts, Dist, zD]); rfl)) : Q := e ▸ h.facts
theorem zC {P : Program} {f : FuncId} {args : Array Value} {Q : Ending → World → Prop} {X : List Nat} {w0 V : World} {L : List (Nat × Obj)} {E : Ending} {R : World → Prop} [h : Kn X w0 V L] (c : ∀ W, Kn X w0 W L → Calls P f args W fun e U => e = E ∧ Below W.heap.size W U) (k : ∀ W, Kn X w0 W L → R W → Q E W) (e : ∀ W, Fz X w0 W L = R W := by (intro W; simp only [Fz]; (try simp only [Facts, Dist, zD]); rfl)) : Calls P f args V Q := (c V h).mono fun _ U ⟨he, hb⟩ => he ▸ k U (h.below hb) (e U ▸ (h.below hb).facts)
theorem zG {P : Program} {f : FuncId} {args : Array Value} {Q : Ending → World → Prop} {X : List Nat} {w0 V : World} {L : List (Nat × Obj)} {R : World → Prop} [h : Kn X w0 V L] (k : ∀ W, Kn X w0 W L → R W → Calls P f args W Q) (e : ∀ W, Fz X w0 W L = R W := by (intro W; simp only [Fz]; (try simp only [Facts, Dist, zD]); rfl)) : Calls P f args V Q := k V h (e V ▸ h.facts)
theorem zL {P : Program} {ops : Array Oper} {l : List Oper} {a : Act} {Q : Exit → Act → World → Prop} {X : List Nat} {w0 V : World} {L : List (Nat × Obj)} {R : World → Prop} [h : Kn X w0 V L] (k : ∀ W, Kn X w0 W L → R W → wpList P ops Q l a W) (e : ∀ W, Fz X w0 W L = R W := by (intro W; simp only [Fz]; (try simp only [Facts, Dist, zD]); rfl)) : wpList P ops Q l a V := k V h (e V ▸ h.facts)
theorem zS {P : Program} {ops : Array Oper} {l : List Oper} {a : Act} {Q : Exit → Act → World → Prop} {X : List Nat} {w0 w : World} {p : Addr} {v : Value} {L M : List (Nat × Obj)} {R : World → Prop} [h : Kn X w0 (w.setCell p v) L] (k : ∀ W, Kn X w0 W M → R W → wpList P ops Q l a W) (m : L = M := by ((try simp only [kfb]); rfl)) (e : ∀ W, Fz X w0 W M = R W := by (intro W; simp only [Fz]; (try simp only [Facts, Dist, zD]); rfl)) : wpList P ops Q l a (w.setCell p v) := k _ (m ▸ h) (e _ ▸ (m ▸ h : Kn X w0 _ M).facts)
section
variable {P : Program} {ops : Array Oper} {fl br pu : Nat → Bool} {Q : Act → World → Prop} {Qp : List PanicEntry → World → Prop} {X : List Nat} {w0 : World} {L Lw : List (Nat × Obj)} {a : Act} {rest : List Nat} {i : Nat} {o : Oper}
theorem zW {id : Nat} {Q : Exit → Act → World → Prop} {w : World} {l : List Oper} {R : World → Prop} [h : Kn X w0 w L] (order fls brs pus : List Nat)
    (k : ∀ (ι : Type) (F : ι → World) [Nonempty ι], (∀ w, Kn X w0 w L → ∃ n, w = F n) → (∀ n, R (F n)) → cwk P l.toArray (fun i => fls.contains i) (fun i => brs.contains i) (fun i => pus.contains i) (Q .normal) (fun _ _ => False) X w0 order a L L) (hm : P.follows .mixedOrders = true := by kernel_rfl)
    (hB : (Region.noSelect l.toArray && permB l.length order && okAll .any l.toArray (fun i => fls.contains i) (fun i => brs.contains i) (fun i => pus.contains i) order) = true := by kernel_rfl) (e : ∀ W, Fz X w0 W L = R W := by (intro W; simp only [Fz]; (try simp only [Facts, Dist, zD]); rfl)) : (Code.region id l.toArray true).wp P Q a w := kn_region order fls brs pus hm hB (List.Sublist.refl _) fun ι F _ hC hF => k ι F hC fun n => e _ ▸ (hF n).facts
theorem cS {l : List Oper} (h : cwk P l.toArray fl br pu Q Qp X w0 rest (a.put o.dst undef) L Lw) (ho : nth l i = some o := by rfl) (hw : Region.wanted o (yielded l.toArray a.tmps) = false := by rfl) : cwk P l.toArray fl br pu Q Qp X w0 (i :: rest) a L Lw := cwk_skip ho hw h
theorem cF {ι : Type} {F : ι → World} {l : List Oper} (hC : ∀ w, Kn X w0 w Lw → ∃ n, w = F n) (h : ∀ K : Act → Prop, (∀ a, cwk P l.toArray fl br pu Q Qp X w0 rest a L Lw → K a) → o.quiet P a (fun w' => ∃ n, w' = F n) K) (ho : nth l i = some o := by rfl) (hp : noEnter o.op = true := by rfl) (hw : Region.wanted o (yielded l.toArray a.tmps) = true := by rfl) (hf : fl i = true := by rfl) (hu : pu i = false := by rfl) : cwk P l.toArray fl br pu Q Qp X w0 (i :: rest) a L Lw := cwk_float ho hp hw hf hu hC h
theorem cP {l : List Oper} (h : ∀ K : Act → Prop, (∀ a, cwk P l.toArray fl br pu Q Qp X w0 rest a L Lw → K a) → o.quiet P a (fun _ => True) K) (ho : nth l i = some o := by rfl) (hp : noEnter o.op = true := by rfl) (hw : Region.wanted o (yielded l.toArray a.tmps) = true := by rfl) (hf : fl i = true := by rfl) : cwk P l.toArray fl br pu Q Qp X w0 (i :: rest) a L Lw := cwk_pure ho hp hw hf h
theorem cC {f : FuncId} {args : Array Value} {l : List Oper} (h : ∀ W, Kn X w0 W L → Calls P f args W fun e w' => ∃ v, e = .returned v ∧ Owed P l.toArray fl br pu Q Qp X w0 i rest (a.put o.dst v) Lw w') (ho : nth l i = some o := by rfl) (hw : Region.wanted o (yielded l.toArray a.tmps) = true := by rfl) (hf : fl i = false := by rfl) (hx : ∀ w, (execOp a.eval o).run P w = .ok (.enter f args) w := by exact fun _ => rfl) : cwk P l.toArray fl br pu Q Qp X w0 (i :: rest) a L Lw := cwk_call ho hw hf hx h
theorem cN {l : List Oper} (h : ∀ W, Kn X w0 W L → wpList P l.toArray (AnchQ P l.toArray fl br pu Q Qp X w0 i rest Lw) [o] a W) (ho : nth l i = some o := by rfl) (hp : plainOp o.op = true := by rfl) (hw : Region.wanted o (yielded l.toArray a.tmps) = true := by rfl) (hf : fl i = false := by rfl) : cwk P l.toArray fl br pu Q Qp X w0 (i :: rest) a L Lw := cwk_anch ho hp hw hf h
theorem zO {v : Value} {w' : World} {d : Option Tmp} {M : List (Nat × Obj)} [Kn X w0 w' M] (k : cwk P ops fl br pu Q Qp X w0 rest (a.put d v) M Lw) (s : Lw.Sublist M := by (repeat' (first | (with_reducible exact List.Sublist.refl _) | (with_reducible apply List.Sublist.cons)))) : ∃ u, Ending.returned v = .returned u ∧ Owed P ops fl br pu Q Qp X w0 i rest (a.put d u) Lw w' := owed_ret (owed0 _ s k)
theorem zB {v : Value} {w' : World} {d : Option Tmp} {M : List (Nat × Obj)} {R : World → Prop} [Kn X w0 w' M] (k : ∀ (ι : Type) (F : ι → World) [Nonempty ι], (∀ w, Kn X w0 w M → ∃ n, w = F n) → (∀ n, R (F n)) → cwk P ops fl br pu Q Qp X w0 rest (a.put d v) M M) (hb : br i = true := by rfl) (e : ∀ W, Fz X w0 W M = R W := by (intro W; simp only [Fz]; (try simp only [Facts, Dist, zD]); rfl)) : ∃ u, Ending.returned v = .returned u ∧ Owed P ops fl br pu Q Qp X w0 i rest (a.put d u) Lw w' := owed_ret (owedB _ hb fun ι F _ hC hF => k ι F hC fun n => e _ ▸ (hF n).facts)
theorem zO2 {w : World} {M : List (Nat × Obj)} [Kn X w0 w M] (k : cwk P ops fl br pu Q Qp X w0 rest a M Lw) (s : Lw.Sublist M := by (repeat' (first | (with_reducible exact List.Sublist.refl _) | (with_reducible apply List.Sublist.cons)))) : AnchQ P ops fl br pu Q Qp X w0 i rest Lw .normal a w := owed0 _ s k
theorem zB2 {w : World} {M : List (Nat × Obj)} {R : World → Prop} [Kn X w0 w M] (k : ∀ (ι : Type) (F : ι → World) [Nonempty ι], (∀ w, Kn X w0 w M → ∃ n, w = F n) → (∀ n, R (F n)) → cwk P ops fl br pu Q Qp X w0 rest a M M) (hb : br i = true := by rfl) (e : ∀ W, Fz X w0 W M = R W := by (intro W; simp only [Fz]; (try simp only [Facts, Dist, zD]); rfl)) : AnchQ P ops fl br pu Q Qp X w0 i rest Lw .normal a w := owedB _ hb fun ι F _ hC hF => k ι F hC fun n => e _ ▸ (hF n).facts
end
theorem zA : (∀ {α β : Type} (f : α → β) (l : List α), l.toArray.map f = (l.map f).toArray) ∧ (∀ {α β : Type} (f : α → β) (a : α) (l : List α), (a :: l).map f = f a :: l.map f) ∧ (∀ {α β : Type} (f : α → β), List.map f [] = []) ∧ (∀ {α : Type} (l : Array α), #[] ++ l = l) ∧ (∀ {α : Type} (l : Array α), l ++ #[] = l) ∧ (∀ {α : Type} (xs : Array α) (i : Nat) (d : α), xs.getD i d = xs[i]?.getD d) ∧ (∀ {α : Type} (l : List α) (i : Nat), l.toArray[i]? = l[i]?) ∧ (∀ {α : Type} (a : α) (l : List α), (a :: l)[0]? = some a) ∧ (∀ {α : Type} (a : α) (l : List α) (i : Nat), (a :: l)[i + 1]? = l[i]?) ∧ (∀ {α : Type} (a b : α), (some a).getD b = a) :=
  ⟨fun _ _ => by simp, fun _ _ _ => rfl, fun _ => rfl, fun _ => by simp, fun _ => by simp, fun _ _ _ => by simp, fun _ _ => by simp, fun _ _ => rfl, fun _ _ _ => rfl, fun _ _ => rfl⟩
theorem zT : (∀ {α : Type} (l : List α) (i : Nat) (a : α), l.toArray.setIfInBounds i a = (l.set i a).toArray) ∧ (∀ {α : Type} (x : α) (xs : List α) (a : α), (x :: xs).set 0 a = a :: xs) ∧ (∀ {α : Type} (x : α) (xs : List α) (i : Nat) (a : α), (x :: xs).set (i + 1) a = x :: xs.set i a) := ⟨fun _ _ _ => List.setIfInBounds_toArray .., fun _ _ _ => rfl, fun _ _ _ _ => rfl⟩
end Go.Proofs.YtgboffbbpmileaaGreatDoor
/- The contracts of the library's functions that this seat's program calls, each one application of a theorem of the shelf. -/
namespace Go.Proofs.YtgboffbbpmileaaGreatDoor
open Go
open Go.Shelf
def Tryz.lays160_ren : Go.Shelf.Ren := ⟨fun | 160 => 116 | 232 => 128 | 231 => 127 | 227 => 129 | 234 => 131 | 233 => 130 | 236 => 133 | 235 => 132 | 228 => 153 | 271 => 156 | 151 => 155 | 197 => 154 | 120 => 171 | 152 => 170 | 260 => 169 | 137 => 81 | 119 => 177 | 224 => 149 | 225 => 148 | 217 => 99 | 266 => 110 | n => n, fun | 9 => 9 | 4 => 4 | 3 => 3 | 5 => 5 | 117 => 155 | 116 => 154 | 0 => 0 | 124 => 158 | 21 => 21 | 105 => 167 | 46 => 121 | 119 => 190 | 139 => 193 | 138 => 192 | n => n, fun | 3 => 4 | 4 => 5 | n => n⟩
theorem Tryz.lays160 : Go.Proofs.Lays.n160 Tryz.prog Tryz.lays160_ren := {
  mixed := by kernel_rfl
  f119 := Tryz.func177.trans (congrArg some (by kernel_rfl))
  f120 := Tryz.func171.trans (congrArg some (by kernel_rfl))
  f137 := Tryz.func81.trans (congrArg some (by kernel_rfl))
  f151 := Tryz.func155.trans (congrArg some (by kernel_rfl))
  f152 := Tryz.func170.trans (congrArg some (by kernel_rfl))
  f160 := Tryz.func116.trans (congrArg some (by kernel_rfl))
  f197 := Tryz.func154.trans (congrArg some (by kernel_rfl))
  f217 := Tryz.func99.trans (congrArg some (by kernel_rfl))
  f224 := Tryz.func149.trans (congrArg some (by kernel_rfl))
  f225 := Tryz.func148.trans (congrArg some (by kernel_rfl))
  f227 := Tryz.func129.trans (congrArg some (by kernel_rfl))
  f228 := Tryz.func153.trans (congrArg some (by kernel_rfl))
  f231 := Tryz.func127.trans (congrArg some (by kernel_rfl))
  f232 := Tryz.func128.trans (congrArg some (by kernel_rfl))
  f233 := Tryz.func130.trans (congrArg some (by kernel_rfl))
  f234 := Tryz.func131.trans (congrArg some (by kernel_rfl))
  f235 := Tryz.func132.trans (congrArg some (by kernel_rfl))
  f236 := Tryz.func133.trans (congrArg some (by kernel_rfl))
  f260 := Tryz.func169.trans (congrArg some (by kernel_rfl))
  f266 := Tryz.func110.trans (congrArg some (by kernel_rfl))
  f271 := Tryz.func156.trans (congrArg some (by kernel_rfl))
  t0 := Tryz.underlying0
  a0 := Tryz.isAgg0
  z0 := Tryz.sizeOf0
  v0 := Tryz.zeroValue0
  t3 := Tryz.underlying3
  a3 := Tryz.isAgg3
  z3 := Tryz.sizeOf3
  v3 := Tryz.zeroValue3
  t4 := Tryz.underlying4
  a4 := Tryz.isAgg4
  z4 := Tryz.sizeOf4
  v4 := Tryz.zeroValue4
  t5 := Tryz.underlying5
  a5 := Tryz.isAgg5
  z5 := Tryz.sizeOf5
  v5 := Tryz.zeroValue5
  t9 := Tryz.underlying9
  a9 := Tryz.isAgg9
  z9 := Tryz.sizeOf9
  v9 := Tryz.zeroValue9
  t21 := Tryz.underlying21
  a21 := Tryz.isAgg21
  z21 := Tryz.sizeOf21
  v21 := Tryz.zeroValue21
  t46 := Tryz.underlying121
  a46 := Tryz.isAgg121
  z46 := Tryz.sizeOf121
  v46 := Tryz.zeroValue121
  t105 := Tryz.underlying167
  a105 := Tryz.isAgg167
  z105 := Tryz.sizeOf167
  v105 := Tryz.zeroValue167
  t116 := Tryz.underlying154
  a116 := Tryz.isAgg154
  z116 := Tryz.sizeOf154
  t117 := Tryz.underlying155
  a117 := Tryz.isAgg155
  z117 := Tryz.sizeOf155
  v117 := Tryz.zeroValue155
  t119 := Tryz.underlying190
  a119 := Tryz.isAgg190
  z119 := Tryz.sizeOf190
  t124 := Tryz.underlying158
  a124 := Tryz.isAgg158
  z124 := Tryz.sizeOf158
  v124 := Tryz.zeroValue158
  t138 := Tryz.underlying192
  a138 := Tryz.isAgg192
  z138 := Tryz.sizeOf192
  v138 := Tryz.zeroValue192
  t139 := Tryz.underlying193
  a139 := Tryz.isAgg193
  z139 := Tryz.sizeOf193
  v139 := Tryz.zeroValue193
  g3 := by kernel_rfl
  g4 := by kernel_rfl }
def Tryz.lays137_ren : Go.Shelf.Ren := ⟨fun | 137 => 81 | 217 => 99 | 266 => 110 | n => n, fun | 9 => 9 | 5 => 5 | 3 => 3 | n => n, fun | n => n⟩
theorem Tryz.lays137 : Go.Proofs.Lays.n137 Tryz.prog Tryz.lays137_ren := {
  mixed := by kernel_rfl
  f137 := Tryz.func81.trans (congrArg some (by kernel_rfl))
  f217 := Tryz.func99.trans (congrArg some (by kernel_rfl))
  f266 := Tryz.func110.trans (congrArg some (by kernel_rfl))
  t3 := Tryz.underlying3
  a3 := Tryz.isAgg3
  z3 := Tryz.sizeOf3
  v3 := Tryz.zeroValue3
  t5 := Tryz.underlying5
  a5 := Tryz.isAgg5
  z5 := Tryz.sizeOf5
  v5 := Tryz.zeroValue5
  t9 := Tryz.underlying9
  a9 := Tryz.isAgg9
  z9 := Tryz.sizeOf9
  v9 := Tryz.zeroValue9 }
open Go.RowKit in
theorem Tryz.strings_IndexByte (s : ByteArray) (c : Int) (w : World) :
    Calls Tryz.prog 81 #[.string s, .int .u8 c] w fun e w' => e = .returned (.int .i64 (Lib.indexByte s.data.toList c.toNat.toUInt8)) ∧ w' = w := Any.strings_IndexByte Tryz.lays137 s c w
def Tryz.laysC172_ren : Go.Shelf.Ren := ⟨fun | 172 => 117 | 244 => 134 | 245 => 135 | 247 => 157 | 279 => 158 | 280 => 159 | 281 => 160 | 282 => 161 | 287 => 172 | 316 => 173 | 171 => 175 | 205 => 174 | 321 => 178 | 322 => 179 | 243 => 180 | 246 => 181 | 283 => 182 | 284 => 183 | 285 => 184 | 286 => 185 | 129 => 187 | 317 => 186 | 318 => 188 | 319 => 189 | 320 => 190 | 337 => 191 | 338 => 192 | n => n, fun | 9 => 9 | 3 => 3 | 75 => 145 | 76 => 146 | 4 => 4 | 5 => 5 | 167 => 170 | 37 => 119 | 0 => 0 | 85 => 171 | 2 => 2 | 168 => 173 | 53 => 183 | 175 => 184 | 46 => 121 | 210 => 188 | 127 => 196 | 145 => 199 | 143 => 197 | 21 => 21 | 171 => 201 | 173 => 204 | 212 => 207 | 51 => 179 | 20 => 20 | 213 => 208 | 232 => 212 | 233 => 213 | 80 => 214 | n => n, fun | 15 => 2 | 16 => 3 | 17 => 6 | 18 => 7 | 19 => 8 | n => n⟩
theorem Tryz.laysC172 : Go.Proofs.LaysC.n172 Tryz.prog Tryz.laysC172_ren := {
  mixed := by kernel_rfl
  f129 := Tryz.func187.trans (congrArg some (by kernel_rfl))
  f171 := Tryz.func175.trans (congrArg some (by kernel_rfl))
  f172 := Tryz.func117.trans (congrArg some (by kernel_rfl))
  f205 := Tryz.func174.trans (congrArg some (by kernel_rfl))
  f243 := Tryz.func180.trans (congrArg some (by kernel_rfl))
  f244 := Tryz.func134.trans (congrArg some (by kernel_rfl))
  f245 := Tryz.func135.trans (congrArg some (by kernel_rfl))
  f246 := Tryz.func181.trans (congrArg some (by kernel_rfl))
  f247 := Tryz.func157.trans (congrArg some (by kernel_rfl))
  f279 := Tryz.func158.trans (congrArg some (by kernel_rfl))
  f280 := Tryz.func159.trans (congrArg some (by kernel_rfl))
  f281 := Tryz.func160.trans (congrArg some (by kernel_rfl))
  f282 := Tryz.func161.trans (congrArg some (by kernel_rfl))
  f283 := Tryz.func182.trans (congrArg some (by kernel_rfl))
  f284 := Tryz.func183.trans (congrArg some (by kernel_rfl))
  f285 := Tryz.func184.trans (congrArg some (by kernel_rfl))
  f286 := Tryz.func185.trans (congrArg some (by kernel_rfl))
  f287 := Tryz.func172.trans (congrArg some (by kernel_rfl))
  f316 := Tryz.func173.trans (congrArg some (by kernel_rfl))
  f317 := Tryz.func186.trans (congrArg some (by kernel_rfl))
  f318 := Tryz.func188.trans (congrArg some (by kernel_rfl))
  f319 := Tryz.func189.trans (congrArg some (by kernel_rfl))
  f320 := Tryz.func190.trans (congrArg some (by kernel_rfl))
  f321 := Tryz.func178.trans (congrArg some (by kernel_rfl))
  f322 := Tryz.func179.trans (congrArg some (by kernel_rfl))
  f337 := Tryz.func191.trans (congrArg some (by kernel_rfl))
  f338 := Tryz.func192.trans (congrArg some (by kernel_rfl))
  t0 := Tryz.underlying0
  a0 := Tryz.isAgg0
  z0 := Tryz.sizeOf0
  v0 := Tryz.zeroValue0
  t2 := Tryz.underlying2
  a2 := Tryz.isAgg2
  z2 := Tryz.sizeOf2
  v2 := Tryz.zeroValue2
  t3 := Tryz.underlying3
  a3 := Tryz.isAgg3
  z3 := Tryz.sizeOf3
  v3 := Tryz.zeroValue3
  t4 := Tryz.underlying4
  a4 := Tryz.isAgg4
  z4 := Tryz.sizeOf4
  v4 := Tryz.zeroValue4
  t5 := Tryz.underlying5
  a5 := Tryz.isAgg5
  z5 := Tryz.sizeOf5
  v5 := Tryz.zeroValue5
  t9 := Tryz.underlying9
  a9 := Tryz.isAgg9
  z9 := Tryz.sizeOf9
  v9 := Tryz.zeroValue9
  t20 := Tryz.underlying20
  a20 := Tryz.isAgg20
  z20 := Tryz.sizeOf20
  v20 := Tryz.zeroValue20
  t21 := Tryz.underlying21
  a21 := Tryz.isAgg21
  z21 := Tryz.sizeOf21
  v21 := Tryz.zeroValue21
  t37 := Tryz.underlying119
  a37 := Tryz.isAgg119
  z37 := Tryz.sizeOf119
  v37 := Tryz.zeroValue119
  t46 := Tryz.underlying121
  a46 := Tryz.isAgg121
  z46 := Tryz.sizeOf121
  v46 := Tryz.zeroValue121
  t51 := Tryz.underlying179
  a51 := Tryz.isAgg179
  z51 := Tryz.sizeOf179
  v51 := Tryz.zeroValue179
  t53 := Tryz.underlying183
  a53 := Tryz.isAgg183
  z53 := Tryz.sizeOf183
  v53 := Tryz.zeroValue183
  t75 := Tryz.underlying145
  a75 := Tryz.isAgg145
  z75 := Tryz.sizeOf145
  v75 := Tryz.zeroValue145
  t76 := Tryz.underlying146
  a76 := Tryz.isAgg146
  z76 := Tryz.sizeOf146
  v76 := Tryz.zeroValue146
  t85 := Tryz.underlying171
  a85 := Tryz.isAgg171
  z85 := Tryz.sizeOf171
  v85 := Tryz.zeroValue171
  t127 := Tryz.underlying196
  a127 := Tryz.isAgg196
  z127 := Tryz.sizeOf196
  v127 := Tryz.zeroValue196
  t143 := Tryz.underlying197
  a143 := Tryz.isAgg197
  z143 := Tryz.sizeOf197
  v143 := Tryz.zeroValue197
  t145 := Tryz.underlying199
  a145 := Tryz.isAgg199
  z145 := Tryz.sizeOf199
  v145 := Tryz.zeroValue199
  t167 := Tryz.underlying170
  a167 := Tryz.isAgg170
  z167 := Tryz.sizeOf170
  v167 := Tryz.zeroValue170
  t168 := Tryz.underlying173
  a168 := Tryz.isAgg173
  z168 := Tryz.sizeOf173
  v168 := Tryz.zeroValue173
  t171 := Tryz.underlying201
  a171 := Tryz.isAgg201
  z171 := Tryz.sizeOf201
  v171 := Tryz.zeroValue201
  t173 := Tryz.underlying204
  a173 := Tryz.isAgg204
  z173 := Tryz.sizeOf204
  v173 := Tryz.zeroValue204
  t175 := Tryz.underlying184
  a175 := Tryz.isAgg184
  z175 := Tryz.sizeOf184
  v175 := Tryz.zeroValue184
  t210 := Tryz.underlying188
  a210 := Tryz.isAgg188
  z210 := Tryz.sizeOf188
  v210 := Tryz.zeroValue188
  t212 := Tryz.underlying207
  a212 := Tryz.isAgg207
  z212 := Tryz.sizeOf207
  v212 := Tryz.zeroValue207
  t213 := Tryz.underlying208
  a213 := Tryz.isAgg208
  z213 := Tryz.sizeOf208
  t232 := Tryz.underlying212
  a232 := Tryz.isAgg212
  z232 := Tryz.sizeOf212
  v232 := Tryz.zeroValue212
  t233 := Tryz.underlying213
  a233 := Tryz.isAgg213
  z233 := Tryz.sizeOf213
  v233 := Tryz.zeroValue213
  g15 := by kernel_rfl
  g16 := by kernel_rfl
  g17 := by kernel_rfl
  g18 := by kernel_rfl
  g19 := by kernel_rfl
  t80 := Tryz.underlying214
  a80 := Tryz.isAgg214
  z80 := Tryz.sizeOf214
  v80 := Tryz.zeroValue214
  i0 := by kernel_rfl
  i2 := by kernel_rfl
  i3 := by kernel_rfl
  i4 := by kernel_rfl
  i5 := by kernel_rfl
  i9 := by kernel_rfl
  i20 := by kernel_rfl
  i21 := by kernel_rfl
  i37 := by kernel_rfl
  i46 := by kernel_rfl
  i51 := by kernel_rfl
  i53 := by kernel_rfl
  i75 := by kernel_rfl
  i76 := by kernel_rfl
  i80 := by kernel_rfl
  i85 := by kernel_rfl
  i127 := by kernel_rfl
  i143 := by kernel_rfl
  i145 := by kernel_rfl
  i167 := by kernel_rfl
  i168 := by kernel_rfl
  i171 := by kernel_rfl
  i173 := by kernel_rfl
  i175 := by kernel_rfl
  i210 := by kernel_rfl
  i212 := by kernel_rfl
  i232 := by kernel_rfl
  i233 := by kernel_rfl
  m15 := by kernel_rfl
  m16 := by kernel_rfl
  m17 := by kernel_rfl
  m18 := by kernel_rfl
  m19 := by kernel_rfl
  c0 := by kernel_rfl
  c2 := by kernel_rfl
  c3 := by kernel_rfl
  c4 := by kernel_rfl
  c5 := by kernel_rfl
  c9 := by kernel_rfl
  c20 := by kernel_rfl
  c21 := by kernel_rfl
  c37 := by kernel_rfl
  c46 := by kernel_rfl
  c51 := by kernel_rfl
  c53 := by kernel_rfl
  c75 := by kernel_rfl
  c76 := by kernel_rfl
  c80 := by kernel_rfl
  c85 := by kernel_rfl
  c127 := by kernel_rfl
  c143 := by kernel_rfl
  c145 := by kernel_rfl
  c167 := by kernel_rfl
  c168 := by kernel_rfl
  c171 := by kernel_rfl
  c173 := by kernel_rfl
  c175 := by kernel_rfl
  c210 := by kernel_rfl
  c212 := by kernel_rfl
  c213 := by kernel_rfl
  c232 := by kernel_rfl
  c233 := by kernel_rfl }
open Go.RowKit in
theorem Tryz.strconv_Atoi_ok (s : ByteArray) (hmax : s.size ≤ 9223372036854775806) (v : Int) (h : Lib.atoiAll s.data.toList = .ok v) (w : World) :
    Calls Tryz.prog 117 #[.string s] w fun e w' => e = .returned (.tuple #[.int .i64 v, .nilIface]) ∧ (w' = w ∨ ∃ t, w' = Lib.bytesWorld w 5 t) := Any.strconv_Atoi_ok Tryz.laysC172 s hmax v h w
def Tryz.lays145_ren : Go.Shelf.Ren := ⟨fun | 145 => 167 | 220 => 176 | 219 => 124 | 217 => 99 | 225 => 148 | 224 => 149 | 267 => 150 | 266 => 110 | 314 => 168 | n => n, fun | 9 => 9 | 4 => 4 | 59 => 177 | 3 => 3 | 5 => 5 | 46 => 121 | 146 => 180 | 51 => 179 | n => n, fun | 1 => 1 | n => n⟩
theorem Tryz.lays145 : Go.Proofs.Lays.n145 Tryz.prog Tryz.lays145_ren := {
  mixed := by kernel_rfl
  f145 := Tryz.func167.trans (congrArg some (by kernel_rfl))
  f217 := Tryz.func99.trans (congrArg some (by kernel_rfl))
  f219 := Tryz.func124.trans (congrArg some (by kernel_rfl))
  f220 := Tryz.func176.trans (congrArg some (by kernel_rfl))
  f224 := Tryz.func149.trans (congrArg some (by kernel_rfl))
  f225 := Tryz.func148.trans (congrArg some (by kernel_rfl))
  f266 := Tryz.func110.trans (congrArg some (by kernel_rfl))
  f267 := Tryz.func150.trans (congrArg some (by kernel_rfl))
  f314 := Tryz.func168.trans (congrArg some (by kernel_rfl))
  t3 := Tryz.underlying3
  a3 := Tryz.isAgg3
  z3 := Tryz.sizeOf3
  v3 := Tryz.zeroValue3
  t4 := Tryz.underlying4
  a4 := Tryz.isAgg4
  z4 := Tryz.sizeOf4
  v4 := Tryz.zeroValue4
  t5 := Tryz.underlying5
  a5 := Tryz.isAgg5
  z5 := Tryz.sizeOf5
  v5 := Tryz.zeroValue5
  t9 := Tryz.underlying9
  a9 := Tryz.isAgg9
  z9 := Tryz.sizeOf9
  v9 := Tryz.zeroValue9
  t46 := Tryz.underlying121
  a46 := Tryz.isAgg121
  z46 := Tryz.sizeOf121
  v46 := Tryz.zeroValue121
  t51 := Tryz.underlying179
  a51 := Tryz.isAgg179
  z51 := Tryz.sizeOf179
  v51 := Tryz.zeroValue179
  t59 := Tryz.underlying177
  a59 := Tryz.isAgg177
  z59 := Tryz.sizeOf177
  v59 := Tryz.zeroValue177
  t146 := Tryz.underlying180
  a146 := Tryz.isAgg180
  z146 := Tryz.sizeOf180
  v146 := Tryz.zeroValue180
  g1 := by kernel_rfl }
open Go.RowKit Go.Lib in
theorem Tryz.strings_Cut (s sep : ByteArray) (m : Int) (w : World) (hs : s.size < 4294967281) (hm : w.cell? ⟨1, 0, none⟩ = some (.int .i64 m)) :
    Calls Tryz.prog 167 #[.string s, .string sep] w fun e w' => e = .returned (.tuple #[.string ⟨(Lib.cut s.data.toList sep.data.toList).1.toArray⟩, .string ⟨(Lib.cut s.data.toList sep.data.toList).2.1.toArray⟩, .bool (Lib.cut s.data.toList sep.data.toList).2.2]) ∧ ∃ n, w' = w.drewN n := Any.strings_Cut Tryz.lays145 s sep m w hs hm
def Tryz.lays138_ren : Go.Shelf.Ren := ⟨fun | 138 => 98 | 195 => 107 | 218 => 108 | 143 => 109 | 219 => 124 | 217 => 99 | 225 => 148 | 224 => 149 | 267 => 150 | 266 => 110 | 314 => 168 | n => n, fun | 9 => 9 | 3 => 3 | 4 => 4 | 5 => 5 | 0 => 0 | 46 => 121 | 146 => 180 | 51 => 179 | n => n, fun | 1 => 1 | n => n⟩
theorem Tryz.lays138 : Go.Proofs.Lays.n138 Tryz.prog Tryz.lays138_ren := {
  mixed := by kernel_rfl
  f138 := Tryz.func98.trans (congrArg some (by kernel_rfl))
  f143 := Tryz.func109.trans (congrArg some (by kernel_rfl))
  f195 := Tryz.func107.trans (congrArg some (by kernel_rfl))
  f217 := Tryz.func99.trans (congrArg some (by kernel_rfl))
  f218 := Tryz.func108.trans (congrArg some (by kernel_rfl))
  f219 := Tryz.func124.trans (congrArg some (by kernel_rfl))
  f224 := Tryz.func149.trans (congrArg some (by kernel_rfl))
  f225 := Tryz.func148.trans (congrArg some (by kernel_rfl))
  f266 := Tryz.func110.trans (congrArg some (by kernel_rfl))
  f267 := Tryz.func150.trans (congrArg some (by kernel_rfl))
  f314 := Tryz.func168.trans (congrArg some (by kernel_rfl))
  t0 := Tryz.underlying0
  a0 := Tryz.isAgg0
  z0 := Tryz.sizeOf0
  v0 := Tryz.zeroValue0
  t3 := Tryz.underlying3
  a3 := Tryz.isAgg3
  z3 := Tryz.sizeOf3
  v3 := Tryz.zeroValue3
  t4 := Tryz.underlying4
  a4 := Tryz.isAgg4
  z4 := Tryz.sizeOf4
  v4 := Tryz.zeroValue4
  t5 := Tryz.underlying5
  a5 := Tryz.isAgg5
  z5 := Tryz.sizeOf5
  v5 := Tryz.zeroValue5
  t9 := Tryz.underlying9
  a9 := Tryz.isAgg9
  z9 := Tryz.sizeOf9
  v9 := Tryz.zeroValue9
  t46 := Tryz.underlying121
  a46 := Tryz.isAgg121
  z46 := Tryz.sizeOf121
  v46 := Tryz.zeroValue121
  t51 := Tryz.underlying179
  a51 := Tryz.isAgg179
  z51 := Tryz.sizeOf179
  v51 := Tryz.zeroValue179
  t146 := Tryz.underlying180
  a146 := Tryz.isAgg180
  z146 := Tryz.sizeOf180
  v146 := Tryz.zeroValue180
  g1 := by kernel_rfl }
open Go.RowKit Go.Lib in
theorem Tryz.strings_Count_one (s : ByteArray) (c : UInt8) (w : World) :
    Calls Tryz.prog 98 #[.string s, .string ⟨#[c]⟩] w fun e w' => e = .returned (.int .i64 (Lib.countByte s.data.toList c)) ∧ w' = w := Any.strings_Count_one Tryz.lays138 s c w
def Tryz.lays99_ren : Go.Shelf.Ren := ⟨fun | 99 => 101 | 206 => 111 | n => n, fun | 9 => 9 | 4 => 4 | 3 => 3 | n => n, fun | n => n⟩
theorem Tryz.lays99 : Go.Proofs.Lays.n99 Tryz.prog Tryz.lays99_ren := {
  mixed := by kernel_rfl
  f99 := Tryz.func101.trans (congrArg some (by kernel_rfl))
  f206 := Tryz.func111.trans (congrArg some (by kernel_rfl))
  t3 := Tryz.underlying3
  a3 := Tryz.isAgg3
  z3 := Tryz.sizeOf3
  v3 := Tryz.zeroValue3
  t4 := Tryz.underlying4
  a4 := Tryz.isAgg4
  z4 := Tryz.sizeOf4
  v4 := Tryz.zeroValue4
  t9 := Tryz.underlying9
  a9 := Tryz.isAgg9
  z9 := Tryz.sizeOf9
  v9 := Tryz.zeroValue9 }
open Go.RowKit Go.Lib in
theorem Tryz.strings_HasPrefix (s p : ByteArray) (w : World) :
    Calls Tryz.prog 101 #[.string s, .string p] w fun e w' => e = .returned (.bool (Lib.hasPrefix s.data.toList p.data.toList)) ∧ w' = w := Any.strings_HasPrefix Tryz.lays99 s p w
def Tryz.lays109_ren : Go.Shelf.Ren := ⟨fun | 109 => 118 | n => n, fun | 31 => 50 | 9 => 9 | 3 => 3 | 0 => 0 | 4 => 4 | n => n, fun | n => n⟩
theorem Tryz.lays109 : Go.Proofs.Lays.n109 Tryz.prog Tryz.lays109_ren := {
  mixed := by kernel_rfl
  f109 := Tryz.func118.trans (congrArg some (by kernel_rfl))
  t0 := Tryz.underlying0
  a0 := Tryz.isAgg0
  z0 := Tryz.sizeOf0
  v0 := Tryz.zeroValue0
  t3 := Tryz.underlying3
  a3 := Tryz.isAgg3
  z3 := Tryz.sizeOf3
  v3 := Tryz.zeroValue3
  t4 := Tryz.underlying4
  a4 := Tryz.isAgg4
  z4 := Tryz.sizeOf4
  v4 := Tryz.zeroValue4
  t9 := Tryz.underlying9
  a9 := Tryz.isAgg9
  z9 := Tryz.sizeOf9
  v9 := Tryz.zeroValue9
  t31 := Tryz.underlying50
  a31 := Tryz.isAgg50
  z31 := Tryz.sizeOf50
  v31 := Tryz.zeroValue50 }
open Go.Lib in
theorem Tryz.slices_Index_string (b off n c : Nat) (zs : List ByteArray) (x : ByteArray) (w : World) (hz : n ≤ zs.length) (hbig : n ≤ 9223372036854775807) (hc : ∀ j, j < zs.length → w.cell? ⟨b, off + j, none⟩ = some (.string (zs.getD j ByteArray.empty))) :
    Calls Tryz.prog 118 #[.slice (some ⟨b, off, none⟩) n c, .string x] w fun e w' => e = .returned (.int .i64 (Lib.idxOfS (zs.take n) x)) ∧ w' = w := Any.slices_Index_string Tryz.lays109 b off n c zs x w hz hbig hc
def Tryz.lays110_ren : Go.Shelf.Ren := ⟨fun | 110 => 104 | 109 => 118 | n => n, fun | 31 => 50 | 9 => 9 | 4 => 4 | 3 => 3 | 0 => 0 | n => n, fun | n => n⟩
theorem Tryz.lays110 : Go.Proofs.Lays.n110 Tryz.prog Tryz.lays110_ren := {
  mixed := by kernel_rfl
  f109 := Tryz.func118.trans (congrArg some (by kernel_rfl))
  f110 := Tryz.func104.trans (congrArg some (by kernel_rfl))
  t0 := Tryz.underlying0
  a0 := Tryz.isAgg0
  z0 := Tryz.sizeOf0
  v0 := Tryz.zeroValue0
  t3 := Tryz.underlying3
  a3 := Tryz.isAgg3
  z3 := Tryz.sizeOf3
  v3 := Tryz.zeroValue3
  t4 := Tryz.underlying4
  a4 := Tryz.isAgg4
  z4 := Tryz.sizeOf4
  v4 := Tryz.zeroValue4
  t9 := Tryz.underlying9
  a9 := Tryz.isAgg9
  z9 := Tryz.sizeOf9
  v9 := Tryz.zeroValue9
  t31 := Tryz.underlying50
  a31 := Tryz.isAgg50
  z31 := Tryz.sizeOf50
  v31 := Tryz.zeroValue50 }
open Go.Lib in
theorem Tryz.slices_Contains_string (b off n c : Nat) (zs : List ByteArray) (x : ByteArray) (w : World) (hz : n ≤ zs.length) (hbig : n ≤ 9223372036854775807) (hc : ∀ j, j < zs.length → w.cell? ⟨b, off + j, none⟩ = some (.string (zs.getD j ByteArray.empty))) :
    Calls Tryz.prog 104 #[.slice (some ⟨b, off, none⟩) n c, .string x] w fun e w' => e = .returned (.bool (Lib.containsS (zs.take n) x)) ∧ w' = w := Any.slices_Contains_string Tryz.lays110 b off n c zs x w hz hbig hc
end Go.Proofs.YtgboffbbpmileaaGreatDoor
/- What of the library's variables the program reads. -/
set_option linter.unusedVariables false
set_option linter.unusedSimpArgs false
namespace Go.Proofs.YtgboffbbpmileaaGreatDoor
open Go Go.RowKit
def Tab (w : World) : Prop := 9 ≤ w.heap.size ∧ Lib.TabIs Tryz.prog w "internal/strconv.uint64pow10" .u64 Lib.pow10Tab ∧ (∃ tp p, w.var? Tryz.prog "strconv.ErrSyntax" = some #[.iface tp p]) ∧ (∃ tp p, w.var? Tryz.prog "strconv.ErrRange" = some #[.iface tp p]) ∧ (∃ m : Int, w.cell? ⟨1, 0, none⟩ = some (.int .i64 m))
theorem var_same {w w' : World} {n : String} {g : Nat} (hg : Tryz.prog.globalNamed n = some g) (h : w'.heap[g]? = w.heap[g]?) : w'.var? Tryz.prog n = w.var? Tryz.prog n := by
 unfold World.var?
 rw [hg]
 simp only [Option.bind_some, h]
theorem gPow : Tryz.prog.globalNamed "internal/strconv.uint64pow10" = some 6 := by kernel_rfl
theorem gSyn : Tryz.prog.globalNamed "strconv.ErrSyntax" = some 2 := by kernel_rfl
theorem gRan : Tryz.prog.globalNamed "strconv.ErrRange" = some 3 := by kernel_rfl
theorem Tab.same {w w' : World} (h : Tab w) (hs : w.heap.size ≤ w'.heap.size) (hb : ∀ g, g < 9 → w'.heap[g]? = w.heap[g]?) : Tab w' := by
 obtain ⟨h1, h2, h3, h4, m, h5⟩ := h
 refine ⟨Nat.le_trans h1 hs, ?_, ?_, ?_, m, ?_⟩
 ·unfold Lib.TabIs at h2 ⊢; rw [var_same gPow (hb _ (by decide))]; exact h2
 ·obtain ⟨tp, p, e⟩ := h3; exact ⟨tp, p, by rw [var_same gSyn (hb _ (by decide))]; exact e⟩
 ·obtain ⟨tp, p, e⟩ := h4; exact ⟨tp, p, by rw [var_same gRan (hb _ (by decide))]; exact e⟩
 ·unfold World.cell? at h5 ⊢; rw [hb _ (by decide)]; exact h5
theorem Tab.ext {w w' : World} (h : Tab w) (hb : Below w.heap.size w w') : Tab w' := h.same hb.size fun g hg => hb.block g (Nat.lt_of_lt_of_le hg h.1)
theorem Tab.kn {X : List Nat} {w w' : World} {L : List (Nat × Obj)} (h : Tab w) (k : Kn X w w' L) (hx : ∀ x ∈ X, 9 ≤ x) : Tab w' :=
 h.same k.size fun g hg => k.block g (Nat.lt_of_lt_of_le hg h.1) fun hm => by have := hx g hm; omega
end Go.Proofs.YtgboffbbpmileaaGreatDoor
/- What is known of a world, with iterators over strings among the known blocks. -/
set_option linter.unusedVariables false
set_option linter.unusedSimpArgs false
namespace Go.Proofs.YtgboffbbpmileaaGreatDoor
open Go Go.RowKit Go.Lib
/-- One known block is replaced. -/
theorem kn_put {X : List Nat} {w0 w w' : World} {L : List (Nat × Obj)} {i b : Nat} {ob ob' : Obj} (h : Kn X w0 w L) (hi : L[i]? = some (b, ob)) (e1 : w'.os = w.os) (e2 : w'.tape = w.tape) (e3 : w'.output = w.output) (e4 : w'.heap.size = w.heap.size)
  (e5 : w'.heap[b]? = some ob') (e6 : ∀ c, c ≠ b → w'.heap[c]? = w.heap[c]?) : Kn X w0 w' (L.set i (b, ob')) := by
 have hm : (b, ob) ∈ L := List.mem_of_getElem? hi
 have hkeys : ((L.set i (b, ob')).map (·.1)) = L.map (·.1) := by
  rw [List.map_set]
  apply List.ext_getElem?
  intro j
  rw [List.getElem?_set]
  split
  ·rename_i e; subst e
   split
   ·simp [hi]
   ·rename_i hn; simp at hn; simp [List.getElem?_eq_none hn]
  ·rfl
 have hmem : ∀ p ∈ L.set i (b, ob'), p = (b, ob') ∨ (p ∈ L ∧ p.1 ≠ b) := by
  intro p hp
  obtain ⟨j, hj⟩ := List.mem_iff_getElem?.1 hp
  rw [List.getElem?_set] at hj
  split at hj
  ·split at hj
   ·left; exact (Option.some.inj hj).symm
   ·cases hj
  ·rename_i hij
   right
   refine ⟨List.mem_of_getElem? hj, fun e => hij ?_⟩
   obtain ⟨hjl, hje⟩ := List.getElem?_eq_some_iff.1 hj
   obtain ⟨hil, hie⟩ := List.getElem?_eq_some_iff.1 hi
   have h1 : (L.map (·.1))[i]'(by simpa using hil) = (L.map (·.1))[j]'(by simpa using hjl) := by simp [hje, hie, e]
   exact (List.getElem_inj h.nd).1 h1
 refine ⟨e1.trans h.os, e2.trans h.tape, e3.trans h.output, by rw [e4]; exact h.size, fun d hd hx => ?_, fun p hp => ?_, fun p hp => ?_, by rw [hkeys]; exact h.nd⟩
 ·have hdb : d ≠ b := by
   rintro rfl
   rcases h.own _ hm with e | e
   ·exact absurd hd (by simpa using e)
   ·exact hx e
  rw [e6 d hdb]; exact h.block d hd hx
 ·rcases hmem p hp with rfl | ⟨hp, _⟩
  ·exact h.own (b, ob) hm
  ·exact h.own p hp
 ·rcases hmem p hp with rfl | ⟨hp, hne⟩
  ·exact e5
  ·rw [e6 p.1 hne]; exact h.has p hp
instance (priority := 3000) kn_iter_new (X : List Nat) (w0 w : World) (L : List (Nat × Obj)) (s : ByteArray) (k n : Nat) [h : Kn X w0 w L] [z : SizeIs w n] : Kn X w0 (w.iter s k) ((n, .stringIter s k) :: L) := by
 unfold World.iter; exact kn_alloc X w0 w L _ n
class IterIn (b : Nat) (s : ByteArray) (p : Nat) (L : List (Nat × Obj)) (L' : outParam (List (Nat × Obj))) : Prop where
 ex : ∃ i s0 k, L[i]? = some (b, .stringIter s0 k) ∧ L' = L.set i (b, .stringIter s p)
instance (priority := 2000) iterIn_head (b p : Nat) (s s0 : ByteArray) (k : Nat) (L : List (Nat × Obj)) : IterIn b s p ((b, .stringIter s0 k) :: L) ((b, .stringIter s p) :: L) := ⟨0, s0, k, rfl, rfl⟩
instance (priority := 1000) iterIn_tail (b p : Nat) (s : ByteArray) (q : Nat × Obj) (L L' : List (Nat × Obj)) [h : IterIn b s p L L'] : IterIn b s p (q :: L) (q :: L') := by
 obtain ⟨i, s0, k, h1, h2⟩ := h.ex
 exact ⟨i + 1, s0, k, by simpa using h1, by rw [h2]; rfl⟩
instance kn_iterAt (X : List Nat) (w0 w : World) (L L' : List (Nat × Obj)) (b p : Nat) (s : ByteArray) [h : Kn X w0 w L] [z : IterIn b s p L L'] : Kn X w0 (w.iterAt b s p) L' := by
 obtain ⟨i, s0, k, hi, rfl⟩ := z.ex
 have hl := lt_of_has (h.has _ (List.mem_of_getElem? hi))
 exact kn_put h hi rfl rfl rfl (iterAt_size w b s p) (by simp only at hl; simp [World.iterAt, hl]) (fun c hc => iterAt_other w b c s p hc)
instance sizeIs_iterAt (w : World) (b p n : Nat) (s : ByteArray) [h : SizeIs w n] : SizeIs (w.iterAt b s p) n := ⟨by rw [iterAt_size, h.eq]⟩
section
variable {P : Program} {X : List Nat} {w0 w : World} {L : List (Nat × Obj)} {b : Nat} {s : ByteArray} {pos : Nat}
end
section
variable {P : Program} {ops : Array Oper} {fl br pu : Nat → Bool} {Q : Act → World → Prop} {Qp : List PanicEntry → World → Prop} {X : List Nat} {w0 : World} {L Lw : List (Nat × Obj)} {a : Act} {rest : List Nat} {i : Nat}
end
end Go.Proofs.YtgboffbbpmileaaGreatDoor
/- append onto a row of the call's own, beside a list of known blocks. -/
set_option linter.unusedVariables false
set_option linter.unusedSimpArgs false
namespace Go.Proofs.YtgboffbbpmileaaGreatDoor
open Go Go.RowKit
/-- The row of a slice is none of the known blocks. -/
def Fresh (v : Value) (L : List (Nat × Obj)) : Prop := ∀ g, v.ownBlock = some g → g ∉ L.map (·.1)
section
variable {P : Program} {w w' : World} {base n : Nat} {e : TypeId} {size : Nat} {v : Value} {xs : List Value} {X : List Nat} {w0 : World} {L : List (Nat × Obj)}
theorem owns_heap (h : w.ownsRow base e size v n xs) (k : ∀ g, v.ownBlock = some g → w'.heap[g]? = w.heap[g]?) : w'.ownsRow base e size v n xs := by
 obtain ⟨hl, h | ⟨g, cap, cur, rfl, e2, e3, e4⟩⟩ := h
 ·exact ⟨hl, .inl h⟩
 ·exact ⟨hl, .inr ⟨g, cap, cur, rfl, e2, (k g rfl).trans e3, e4⟩⟩
theorem owns_lt (h : w.ownsRow base e size v n xs) {g : Nat} (hg : v.ownBlock = some g) : g < w.heap.size ∧ base ≤ g := by
 obtain ⟨hl, ⟨rfl, _⟩ | ⟨g', cap, cur, rfl, e2, e3, e4⟩⟩ := h
 ·cases hg
 ·obtain rfl : g' = g := Option.some.inj hg
  exact ⟨lt_of_has e3, e2⟩
theorem owns_below (h : w.ownsRow base e size v n xs) (k : Below w.heap.size w w') : w'.ownsRow base e size v n xs := owns_heap h fun g hg => k.block g (owns_lt h hg).1
theorem kn_grown {row : Option Nat} (h : Kn X w0 w L) (hg : w.grownBy w' row) (hrow : ∀ g, row = some g → (w0.heap.size ≤ g ∨ g ∈ X) ∧ g ∉ L.map (·.1)) : Kn X w0 w' L :=
 ⟨hg.os.trans h.os, hg.tape.trans h.tape, hg.output.trans h.output, Nat.le_trans h.size hg.size,
  fun b hb hx => (hg.block b (Nat.lt_of_lt_of_le hb h.size) (fun e => by rcases (hrow b e.symm).1 with c | c; omega; exact hx c)).trans (h.block b hb hx), h.own,
  fun p hp => (hg.block p.1 (h.lt hp) (fun e => (hrow p.1 e.symm).2 (List.mem_map_of_mem hp))).trans (h.has p hp), h.nd⟩
theorem run_append_kn (base : Nat) (t ty e : TypeId) (i : TypeInfo) (z : Value) (ht : P.underlying t = some (.slice e)) (hi : P.info? e = some i) (hz : i.zero = some z)
  (hzs : z.cells.size = i.size) (hsz : 0 < i.size)
  (v : Value) (n : Nat) (xs : List Value) (hown : w.ownsRow base e i.size v n xs)
  (a : Addr) (m c : Nat) (news : List Value) (hl : news.length = m * i.size) (hnews : ∀ j u, news[j]? = some u → w.cell? (a.add j) = some u) (h1 : ∀ u ∈ news, u.oneCell' = true)
  (h63 : n + m ≤ maxLen) (hbytes : (n + m) * i.bytes ≤ 140737488355328) (hbase : base ≤ w.heap.size) :
  ∃ v' w', (Builtin.append_ #[t, t] ty #[v, .slice (some a) m c]).run P w = .ok v' w' ∧ w'.ownsRow base e i.size v' (n + m) (xs ++ news) ∧ w.grownBy w' v.ownBlock ∧ (v'.ownBlock = v.ownBlock ∨ v'.ownBlock = some w.heap.size) := by
 have hsmall : n + m ≤ 9223372036854775807 := by simp only [maxLen] at h63; omega
 obtain ⟨v', w', hr, h2, h3, h4⟩ := run_append_own (P := P) w base t ty e i z i.size i.bytes ht hi hz rfl rfl hzs hsz v n xs hown a m c news hl hnews h1 h63 hbytes hbase
 refine ⟨v', w', hr, h2, h3, ?_⟩
 rcases hown.2 with ⟨rfl, rfl⟩ | ⟨g, cap, cur, rfl, hbg, hg, hnc, hcm, hcs, htake⟩
 ·by_cases hm : m = 0
  ·left; rw [h4.2 ⟨rfl, hm⟩]
  ·have hr' := run_append_nil (P := P) w t ty e i z ht hi hz a m c news hl hnews (by omega) (by omega) (by have hb := hbytes; simp only [Nat.zero_add] at hb; omega)
   rw [hr] at hr'
   injection hr' with e1 e2
   right; rw [e1]; rfl
 ·by_cases hroom : n + m ≤ cap
  ·have hfit : n * i.size + news.length ≤ cur.size := by rw [hl, hcs, ← Nat.add_mul]; exact Nat.mul_le_mul_right _ hroom
   have hr' := run_append_room (P := P) w t ty e i ht hi g n cap cur hg a m c news hl hnews h1 hroom hfit
   rw [hr] at hr'
   injection hr' with e1 e2
   left; rw [e1]; rfl
  ·have holds : ∀ j u, xs[j]? = some u → w.cell? ((⟨g, 0, none⟩ : Addr).add j) = some u := hown.cells (g := g) rfl
   have hr' := run_append_grow (P := P) w t ty e i z ht hi hz ⟨g, 0, none⟩ n cap xs hown.1 holds a m c news hl hnews (by omega) (by omega) (growslice_fits (by omega) hbytes)
   rw [hr] at hr'
   injection hr' with e1 e2
   right; rw [e1]; rfl
theorem wp_append_kn {o : Oper} {a : Act} {K : Act → World → Prop} {Q : Exit → Act → World → Prop} (s x : Operand) (t : TypeId)
  (ho : o.op = .call { callee := .builtin .append, args := #[s, x], argTypes := #[t, t] })
  (e : TypeId) (i : TypeInfo) (z : Value) (ht : P.underlying t = some (.slice e)) (hi : P.info? e = some i) (hz : i.zero = some z) (hzs : z.cells.size = i.size) (hsz : 0 < i.size)
  (v : Value) (n : Nat) (xs : List Value) (hs : a.eval s = v) (hk : Kn X w0 w L) (hown : w.ownsRow w0.heap.size e i.size v n xs) (hf : Fresh v L)
  (ad : Addr) (m c : Nat) (news : List Value) (hx : a.eval x = .slice (some ad) m c) (hl : news.length = m * i.size) (hnews : ∀ j u, news[j]? = some u → w.cell? (ad.add j) = some u) (h1 : ∀ u ∈ news, u.oneCell' = true)
  (h63 : n + m ≤ maxLen) (hbytes : (n + m) * i.bytes ≤ 140737488355328)
  (h : ∀ v' w', Kn X w0 w' L → w'.ownsRow w0.heap.size e i.size v' (n + m) (xs ++ news) → Fresh v' L → K (a.put o.dst v') w') : o.wp P a w K Q := by
 obtain ⟨v', w', hr, h2, h3, h4⟩ := run_append_kn (P := P) w0.heap.size t o.type e i z ht hi hz hzs hsz v n xs hown ad m c news hl hnews h1 h63 hbytes hk.size
 unfold Oper.wp execOp
 simp only [ho, resolve, invoke, builtin, Sem.run_bind, Sem.run_pure, Result.andThen_ok, List.map_toArray, List.map_cons, List.map_nil, hs, hx, hr]
 refine h v' w' (kn_grown hk h3 fun g hg => ⟨.inl (owns_lt hown hg).2, hf g hg⟩) h2 fun g hg hm => ?_
 rcases h4 with e4 | e4
 ·exact hf g (e4 ▸ hg) hm
 ·have : g = w.heap.size := Option.some.inj (hg.symm.trans e4)
  obtain ⟨q, hq, rfl⟩ := List.mem_map.1 hm
  have := hk.lt hq
  omega
theorem wpList_append_kn {ops : Array Oper} {rest : List Oper} {o : Oper} {a : Act} {Q : Exit → Act → World → Prop} (hgd : o.guard = none) (s x : Operand) (t : TypeId)
  (ho : o.op = .call { callee := .builtin .append, args := #[s, x], argTypes := #[t, t] })
  (e : TypeId) (i : TypeInfo) (z : Value) (ht : P.underlying t = some (.slice e)) (hi : P.info? e = some i) (hz : i.zero = some z) (hzs : z.cells.size = i.size) (hsz : 0 < i.size)
  (v : Value) (n : Nat) (xs : List Value) (hs : a.eval s = v) (hk : Kn X w0 w L) (hown : w.ownsRow w0.heap.size e i.size v n xs) (hf : Fresh v L)
  (ad : Addr) (m c : Nat) (news : List Value) (hx : a.eval x = .slice (some ad) m c) (hl : news.length = m * i.size) (hnews : ∀ j u, news[j]? = some u → w.cell? (ad.add j) = some u) (h1 : ∀ u ∈ news, u.oneCell' = true)
  (h63 : n + m ≤ maxLen) (hbytes : (n + m) * i.bytes ≤ 140737488355328)
  (h : ∀ v' w', Kn X w0 w' L → w'.ownsRow w0.heap.size e i.size v' (n + m) (xs ++ news) → Fresh v' L → wpList P ops Q rest (a.put o.dst v') w') : wpList P ops Q (o :: rest) a w :=
 wpList_plain hgd fun _ hK => wp_append_kn s x t ho e i z ht hi hz hzs hsz v n xs hs hk hown hf ad m c news hx hl hnews h1 h63 hbytes fun v' w' h1 h2 h3 => hK _ _ (h v' w' h1 h2 h3)
end
end Go.Proofs.YtgboffbbpmileaaGreatDoor
/- A row of the call's own as a known block: what it holds; append onto it, also in a region whose order is drawn. -/
set_option linter.unusedVariables false
set_option linter.unusedSimpArgs false
namespace Go.Proofs.YtgboffbbpmileaaGreatDoor
open Go Go.RowKit
/-- The block of a slice from its head on: n elements of z cells each, room for cap. -/
structure RowB (z : Nat) (cur : Array Value) (cap n : Nat) (xs : List Value) : Prop where
 size : cur.size = cap * z
 le : n ≤ cap
 capm : cap ≤ maxLen
 take : cur.toList.take (n * z) = xs
 len : xs.length = n * z
theorem RowB.get {z : Nat} {cur : Array Value} {cap n : Nat} {xs : List Value} (h : RowB z cur cap n xs) {k : Nat} {x : Value} (hk : xs[k]? = some x) : cur[k]? = some x := by
 rw [← h.take, List.getElem?_take] at hk
 split at hk
 ·simpa using hk
 ·cases hk
theorem RowB.set {z : Nat} {cur : Array Value} {cap n : Nat} {xs : List Value} (h : RowB z cur cap n xs) (k : Nat) (x : Value) : RowB z (cur.setIfInBounds k x) cap n (xs.set k x) :=
 ⟨by simp [h.size], h.le, h.capm, by rw [← h.take, Array.toList_setIfInBounds, List.take_set], by simp [h.len]⟩
section
variable {P : Program} {w w' : World} {e : TypeId} {z n : Nat} {v : Value} {xs : List Value} {X : List Nat} {w0 : World} {L : List (Nat × Obj)}
theorem own_blk (h : Kn X w0 w L) (ho : w.ownsRow w0.heap.size e z v n xs) (hf : Fresh v L) : (v = .slice none 0 0 ∧ n = 0 ∧ xs = []) ∨
  ∃ g cap cur, v = .slice (some ⟨g, 0, none⟩) n cap ∧ w0.heap.size ≤ g ∧ Kn X w0 w ((g, .cells cur e (0, 0)) :: L) ∧ RowB z cur cap n xs := by
 obtain ⟨hl, ⟨rfl, rfl⟩ | ⟨g, cap, cur, rfl, hg, hc, h1, h2, h3, h4⟩⟩ := ho
 ·left; exact ⟨rfl, rfl, List.eq_nil_of_length_eq_zero (by omega)⟩
 ·right
  refine ⟨g, cap, cur, rfl, hg, ⟨h.os, h.tape, h.output, h.size, h.block, fun p hp => ?_, fun p hp => ?_, ?_⟩, ⟨h3, h1, h2, h4, hl⟩⟩
  ·rcases List.mem_cons.1 hp with rfl | hp
   ·exact .inl hg
   ·exact h.own p hp
  ·rcases List.mem_cons.1 hp with rfl | hp
   ·exact hc
   ·exact h.has p hp
  ·rw [List.map_cons, List.nodup_cons]
   exact ⟨hf g rfl, h.nd⟩
theorem mem_erase {L : List (Nat × Obj)} (nd : (L.map (·.1)).Nodup) {i : Nat} {g : Nat} {o : Obj} (hi : L[i]? = some (g, o)) : g ∉ (L.eraseIdx i).map (·.1) := by
 intro hm
 obtain ⟨hil, hie⟩ := List.getElem?_eq_some_iff.1 hi
 obtain ⟨p, hp, e⟩ := List.mem_map.1 hm
 obtain ⟨j, hj, hje⟩ := List.mem_iff_getElem.1 hp
 have hL : ∃ m, m ≠ i ∧ ∃ hm : m < L.length, L[m] = p := by
  rw [List.getElem_eraseIdx] at hje
  split at hje
  ·exact ⟨j, by omega, by omega, hje⟩
  ·exact ⟨j + 1, by omega, by simp [List.length_eraseIdx, hil] at hj; omega, hje⟩
 obtain ⟨m, hmi, hm, hme⟩ := hL
 have h1 : (L.map (·.1))[m]'(by simpa using hm) = (L.map (·.1))[i]'(by simpa using hil) := by simp [hme, hie, e]
 exact hmi ((List.getElem_inj nd).1 h1)
theorem Kn.erase (h : Kn X w0 w L) (i : Nat) : Kn X w0 w (L.eraseIdx i) := h.sub (List.eraseIdx_sublist L i)
/-- Append onto a row among the known blocks, of the call's own or one that may change. -/
theorem wp_append_blkX {o : Oper} {a : Act} {K : Act → World → Prop} {Q : Exit → Act → World → Prop} (s x : Operand) (t : TypeId)
  (ho : o.op = .call { callee := .builtin .append, args := #[s, x], argTypes := #[t, t] })
  (e : TypeId) (i : TypeInfo) (zv : Value) (ht : P.underlying t = some (.slice e)) (hi : P.info? e = some i) (hz : i.zero = some zv) (hzs : zv.cells.size = i.size) (hsz : 0 < i.size)
  (hk : Kn X w0 w L) (j g cap n : Nat) (cur : Array Value) (xs : List Value) (hj : L[j]? = some (g, .cells cur e (0, 0))) (hr : RowB i.size cur cap n xs) (hs : a.eval s = .slice (some ⟨g, 0, none⟩) n cap)
  (ad : Addr) (m c : Nat) (news : List Value) (hx : a.eval x = .slice (some ad) m c) (hl : news.length = m * i.size) (hnews : ∀ j u, news[j]? = some u → w.cell? (ad.add j) = some u) (h1 : ∀ u ∈ news, u.oneCell' = true)
  (h63 : n + m ≤ maxLen) (hbytes : (n + m) * i.bytes ≤ 140737488355328) (hpos : 0 < n + m)
  (h : ∀ g' cap' cur' w', Kn X w0 w' ((g', .cells cur' e (0, 0)) :: L.eraseIdx j) → RowB i.size cur' cap' (n + m) (xs ++ news) → K (a.put o.dst (.slice (some ⟨g', 0, none⟩) (n + m) cap')) w') : o.wp P a w K Q := by
 have hm := List.mem_of_getElem? hj
 have hgo := hk.own _ hm
 have hown : w.ownsRow 0 e i.size (.slice (some ⟨g, 0, none⟩) n cap) n xs := ⟨hr.len, .inr ⟨g, cap, cur, rfl, Nat.zero_le _, hk.has _ hm, hr.le, hr.capm, hr.size, hr.take⟩⟩
 obtain ⟨v', w', hrun, h2, h3, h4⟩ := run_append_kn (P := P) 0 t o.type e i zv ht hi hz hzs hsz _ n xs hown ad m c news hl hnews h1 h63 hbytes (Nat.zero_le _)
 have hK : Kn X w0 w' (L.eraseIdx j) := kn_grown (hk.erase j) h3 fun g' hg' => by
  obtain rfl : g = g' := Option.some.inj hg'
  exact ⟨hgo, mem_erase hk.nd hj⟩
 unfold Oper.wp execOp
 simp only [ho, resolve, invoke, builtin, Sem.run_bind, Sem.run_pure, Result.andThen_ok, List.map_toArray, List.map_cons, List.map_nil, hs, hx, hrun]
 obtain ⟨hl2, ⟨_, h0⟩ | ⟨g', cap', cur', rfl, _, hc, k1, k2, k3, k4⟩⟩ := h2
 ·omega
 ·refine h g' cap' cur' w' ⟨hK.os, hK.tape, hK.output, hK.size, hK.block, fun p hp => ?_, fun p hp => ?_, ?_⟩ ⟨k3, k1, k2, k4, hl2⟩
  ·rcases List.mem_cons.1 hp with rfl | hp
   ·rcases h4 with h4 | h4
    ·obtain rfl : g' = g := Option.some.inj h4
     exact hgo
    ·obtain rfl : g' = w.heap.size := Option.some.inj h4
     exact .inl hk.size
   ·exact hK.own p hp
  ·rcases List.mem_cons.1 hp with rfl | hp
   ·exact hc
   ·exact hK.has p hp
  ·rw [List.map_cons, List.nodup_cons]
   refine ⟨fun hm2 => ?_, hK.nd⟩
   rcases h4 with h4 | h4
   ·obtain rfl : g' = g := Option.some.inj h4
    exact mem_erase hk.nd hj hm2
   ·obtain rfl : g' = w.heap.size := Option.some.inj h4
    obtain ⟨q, hq, e2⟩ := List.mem_map.1 hm2
    have := (hk.erase j).lt hq
    simp only at e2; omega
theorem wpList_append_blkX {ops : Array Oper} {rest : List Oper} {o : Oper} {a : Act} {Q : Exit → Act → World → Prop} (hgd : o.guard = none) (s x : Operand) (t : TypeId)
  (ho : o.op = .call { callee := .builtin .append, args := #[s, x], argTypes := #[t, t] })
  (e : TypeId) (i : TypeInfo) (zv : Value) (ht : P.underlying t = some (.slice e)) (hi : P.info? e = some i) (hz : i.zero = some zv) (hzs : zv.cells.size = i.size) (hsz : 0 < i.size)
  (hk : Kn X w0 w L) (j g cap n : Nat) (cur : Array Value) (xs : List Value) (hj : L[j]? = some (g, .cells cur e (0, 0))) (hr : RowB i.size cur cap n xs) (hs : a.eval s = .slice (some ⟨g, 0, none⟩) n cap)
  (ad : Addr) (m c : Nat) (news : List Value) (hx : a.eval x = .slice (some ad) m c) (hl : news.length = m * i.size) (hnews : ∀ j u, news[j]? = some u → w.cell? (ad.add j) = some u) (h1 : ∀ u ∈ news, u.oneCell' = true)
  (h63 : n + m ≤ maxLen) (hbytes : (n + m) * i.bytes ≤ 140737488355328) (hpos : 0 < n + m)
  (h : ∀ g' cap' cur' w', Kn X w0 w' ((g', .cells cur' e (0, 0)) :: L.eraseIdx j) → RowB i.size cur' cap' (n + m) (xs ++ news) → wpList P ops Q rest (a.put o.dst (.slice (some ⟨g', 0, none⟩) (n + m) cap')) w') : wpList P ops Q (o :: rest) a w :=
 wpList_plain hgd fun _ hK => wp_append_blkX s x t ho e i zv ht hi hz hzs hsz hk j g cap n cur xs hj hr hs ad m c news hx hl hnews h1 h63 hbytes hpos fun g' cap' cur' w' h1 h2 => hK _ _ (h g' cap' cur' w' h1 h2)
/-- A row that is nil, or a known block. -/
def RowL (z : Nat) (e : TypeId) (LP : List (Nat × Obj)) (v : Value) (n : Nat) (xs : List Value) : Prop :=
 (LP = [] ∧ v = .slice none 0 0 ∧ n = 0 ∧ xs = []) ∨ ∃ g cap cur, LP = [(g, .cells cur e (0, 0))] ∧ v = .slice (some ⟨g, 0, none⟩) n cap ∧ RowB z cur cap n xs
/-- Append onto nil: the row is a new known block. -/
theorem wpList_append_nilX {ops : Array Oper} {rest : List Oper} {o : Oper} {a : Act} {Q : Exit → Act → World → Prop} (hgd : o.guard = none) (s x : Operand) (t : TypeId)
  (ho : o.op = .call { callee := .builtin .append, args := #[s, x], argTypes := #[t, t] })
  (e : TypeId) (i : TypeInfo) (zv : Value) (ht : P.underlying t = some (.slice e)) (hi : P.info? e = some i) (hz : i.zero = some zv) (hzs : zv.cells.size = i.size) (hsz : 0 < i.size)
  (hk : Kn X w0 w L) (hs : a.eval s = .slice none 0 0)
  (ad : Addr) (m c : Nat) (news : List Value) (hx : a.eval x = .slice (some ad) m c) (hl : news.length = m * i.size) (hnews : ∀ j u, news[j]? = some u → w.cell? (ad.add j) = some u) (h1 : ∀ u ∈ news, u.oneCell' = true)
  (h63 : m ≤ maxLen) (hbytes : m * i.bytes ≤ 140737488355328) (hpos : 0 < m)
  (h : ∀ g' cap' cur' w', Kn X w0 w' ((g', .cells cur' e (0, 0)) :: L) → w0.heap.size ≤ g' → RowB i.size cur' cap' m news → wpList P ops Q rest (a.put o.dst (.slice (some ⟨g', 0, none⟩) m cap')) w') : wpList P ops Q (o :: rest) a w := by
 refine wpList_append_kn hgd s x t ho e i zv ht hi hz hzs hsz _ 0 [] hs hk ⟨by simp, .inl ⟨rfl, rfl⟩⟩ (fun g hg => by cases hg) ad m c news hx hl hnews h1 (by omega) (by rw [Nat.zero_add]; exact hbytes) fun v' w' h7 h8 h9 => ?_
 rw [Nat.zero_add, List.nil_append] at h8
 rcases own_blk h7 h8 h9 with ⟨_, h10, _⟩ | ⟨g', cap', cur', rfl, h10, h11, h12⟩
 ·omega
 ·exact h g' cap' cur' w' h11 h10 h12
theorem RowL.nil : RowL z e [] (.slice none 0 0) 0 [] := .inl ⟨rfl, rfl, rfl, rfl⟩
end
end Go.Proofs.YtgboffbbpmileaaGreatDoor
set_option linter.unusedVariables false
set_option linter.unusedSimpArgs false
namespace Go.Proofs.YtgboffbbpmileaaGreatDoor
open Go Go.RowKit
abbrev keys (P : List (Nat × Obj)) : List Nat := P.map (·.1)
theorem Kn.self {X : List Nat} {w0 W : World} {P : List (Nat × Obj)} (A R : List (Nat × Obj)) (h : Kn X w0 W (A ++ (P ++ R))) : Kn (keys P) W W P :=
 ⟨rfl, rfl, rfl, Nat.le_refl _, fun _ _ _ => rfl, fun p hp => .inr (List.mem_map.2 ⟨p, hp, rfl⟩), fun p hp => h.has p (List.mem_append_right _ (List.mem_append_left _ hp)),
  h.nd.sublist (((List.sublist_append_left P R).trans (List.sublist_append_right A _)).map _)⟩
theorem Kn.joinA {X : List Nat} {w0 W W' : World} {P P' : List (Nat × Obj)} (A R : List (Nat × Obj)) (h : Kn X w0 W (A ++ (P ++ R))) (k : Kn (keys P) W W' P') : Kn X w0 W' (A ++ (P' ++ R)) := by
 have nd := h.nd
 simp only [List.map_append, List.nodup_append] at nd
 obtain ⟨ndA, ⟨ndP, ndR, dPR⟩, dA⟩ := nd
 have hPin : ∀ q ∈ P, q ∈ A ++ (P ++ R) := fun q hq => List.mem_append_right _ (List.mem_append_left _ hq)
 have keep : ∀ p ∈ A ++ (P ++ R), p.1 ∉ keys P → W'.heap[p.1]? = some p.2 := fun p hp hn => (k.block p.1 (h.lt hp) hn).trans (h.has p hp)
 have nA : ∀ p ∈ A, p.1 ∉ keys P := fun p hp hm => dA p.1 (List.mem_map.2 ⟨p, hp, rfl⟩) p.1 (List.mem_append_left _ hm) rfl
 have nR : ∀ p ∈ R, p.1 ∉ keys P := fun p hp hm => dPR p.1 hm p.1 (List.mem_map.2 ⟨p, hp, rfl⟩) rfl
 have own' : ∀ p ∈ P', w0.heap.size ≤ p.1 ∨ p.1 ∈ X := fun p hp => by
  rcases k.own p hp with e | e
  ·exact .inl (Nat.le_trans h.size e)
  ·obtain ⟨q, hq, e2⟩ := List.mem_map.1 e
   rw [← e2]; exact h.own q (hPin q hq)
 have far : ∀ q ∈ A ++ (P ++ R), q.1 ∉ keys P → ∀ p ∈ P', p.1 ≠ q.1 := fun q hq hn p hp e => by
  rcases k.own p hp with e1 | e1
  ·have := h.lt hq; omega
  ·exact hn (e ▸ e1)
 refine ⟨k.os.trans h.os, k.tape.trans h.tape, k.output.trans h.output, Nat.le_trans h.size k.size, fun b hb hx => ?_, fun p hp => ?_, fun p hp => ?_, ?_⟩
 ·rw [k.block b (Nat.lt_of_lt_of_le hb h.size) fun hm => ?_, h.block b hb hx]
  obtain ⟨q, hq, e⟩ := List.mem_map.1 hm
  rcases h.own q (hPin q hq) with e1 | e1
  ·omega
  ·exact hx (e ▸ e1)
 ·rcases List.mem_append.1 hp with hp | hp
  ·exact h.own p (List.mem_append_left _ hp)
  rcases List.mem_append.1 hp with hp | hp
  ·exact own' p hp
  ·exact h.own p (List.mem_append_right _ (List.mem_append_right _ hp))
 ·rcases List.mem_append.1 hp with hp | hp
  ·exact keep p (List.mem_append_left _ hp) (nA p hp)
  rcases List.mem_append.1 hp with hp | hp
  ·exact k.has p hp
  ·exact keep p (List.mem_append_right _ (List.mem_append_right _ hp)) (nR p hp)
 ·simp only [List.map_append, List.nodup_append]
  refine ⟨ndA, ⟨k.nd, ndR, fun a ha b hb e => ?_⟩, fun a ha b hb e => ?_⟩
  ·obtain ⟨p, hp, rfl⟩ := List.mem_map.1 ha
   obtain ⟨q, hq, rfl⟩ := List.mem_map.1 hb
   exact far q (List.mem_append_right _ (List.mem_append_right _ hq)) (nR q hq) p hp e
  ·obtain ⟨q, hq, rfl⟩ := List.mem_map.1 ha
   rcases List.mem_append.1 hb with hb | hb
   ·obtain ⟨p, hp, rfl⟩ := List.mem_map.1 hb
    exact far q (List.mem_append_left _ hq) (nA q hq) p hp e.symm
   ·exact dA q.1 (List.mem_map.2 ⟨q, hq, rfl⟩) b (List.mem_append_right _ hb) e
theorem Kn.pick {X : List Nat} {w0 w : World} {L L' : List (Nat × Obj)} (h : Kn X w0 w L) (hm : ∀ p ∈ L', p ∈ L) (nd : (keys L').Nodup) : Kn X w0 w L' :=
 ⟨h.os, h.tape, h.output, h.size, h.block, fun p hp => h.own p (hm p hp), fun p hp => h.has p (hm p hp), nd⟩
/-- Two calls one after the other. -/
theorem Kn.trans {X Y Z : List Nat} {w0 W W' : World} {L L' : List (Nat × Obj)} (h : Kn X w0 W L) (k : Kn Y W W' L') (hX : ∀ x ∈ X, x ∈ Z) (hY : ∀ y ∈ Y, y ∈ Z ∨ w0.heap.size ≤ y) : Kn Z w0 W' L' :=
 ⟨k.os.trans h.os, k.tape.trans h.tape, k.output.trans h.output, Nat.le_trans h.size k.size,
  fun b hb hx => (k.block b (Nat.lt_of_lt_of_le hb h.size) fun hm => by rcases hY b hm with e | e; exact hx e; omega).trans (h.block b hb fun hm => hx (hX b hm)),
  fun p hp => by
   rcases k.own p hp with e | e
   ·exact .inl (Nat.le_trans h.size e)
   ·exact (hY p.1 e).symm, k.has, k.nd⟩
end Go.Proofs.YtgboffbbpmileaaGreatDoor
