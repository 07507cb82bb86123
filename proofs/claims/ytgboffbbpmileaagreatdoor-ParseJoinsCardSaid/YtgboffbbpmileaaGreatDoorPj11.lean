/- Lemmas and walks for the law of this seat (part 11). -/
import Derived.Test.YtgboffbbpmileaaGreatDoorPj10
import Derived.Test.YtgboffbbpmileaaGreatDoorProg
import Derived.WalkKit
import Derived.Handy
import Derived.Deep.Light
import Derived.WalkSmall
import Derived.StillTailTactics
import Derived.Lib.Hide
import Derived.Defers
import Derived.Recover
import Derived.Laws.Pointers
import Derived.Deep.Slices
import Derived.Deep.Strs
import Derived.Deep.Fields
set_option maxRecDepth 20000
set_option maxHeartbeats 4000000
set_option linter.unusedVariables false
set_option linter.unusedSimpArgs false
namespace Go.Proofs.YtgboffbbpmileaaGreatDoor
open Go Go.RowKit
theorem assert_prob (x : Value) (W : World) : (Instr.typeAssert (.iface 107 x) 20 107 true).run Tryz.prog W = .ok (.tuple #[x, .bool true]) W := by kernel_rfl
theorem catch_panic (bo be bl : Nat) (v0 : Value) (hv : v0.oneCell' = true) (e0 l0 k m : Int) (older : List PanicEntry) (w : World) (hL : Kn [bo, be, bl] w w [(bo, .cells #[v0] 66 (0, 0)), (be, .cells #[.int .i64 e0] 26 (0, 0)), (bl, .cells #[.int .i64 l0] 3 (0, 0))]) :
  CallsD Tryz.prog 47 #[.pointer (some ⟨bo, 0, none⟩), .pointer (some ⟨be, 0, none⟩), .pointer (some ⟨bl, 0, none⟩)] (.panicking ({ v := .iface 107 (.agg #[.int .i64 k, .int .i64 m]), recovered := false } :: older)) w fun e u' w' =>
   e = .returned (.tuple #[]) ∧ u' = .panicking ({ v := .iface 107 (.agg #[.int .i64 k, .int .i64 m]), recovered := true } :: older) ∧ Kn [bo, be, bl] w w' [(bo, .cells #[.slice none 0 0] 66 (0, 0)), (be, .cells #[.int .i64 k] 26 (0, 0)), (bl, .cells #[.int .i64 m] 3 (0, 0))] := by
 refine callsD_of_wpS Tryz.func47 rfl fun c₀ cs hu => ?_
 apply wpS_seq
 apply wpS_region
 simp [wpOpsS, go_sem, recoverD, hu, Tryz.ntmps47, Exit.thenS]
 refine wpS_of_wp ?_
 have hF := hL.fx
 generalize hR : (fun (e : Exit) (a' : Act) (w' : World) => bodyPostS _ _ _ _ _ e a' _ w') = Q2
 have key : ∀ (a' : Act) (w' : World), a'.defers = [] → Kn [bo, be, bl] w w' [(bo, .cells #[.slice none 0 0] 66 (0, 0)), (be, .cells #[.int .i64 k] 26 (0, 0)), (bl, .cells #[.int .i64 m] 3 (0, 0))] → Q2 .normal a' w' := by
  intro a' w' h1 h2
  rw [← hR]
  refine ⟨h1, _, rfl, .tuple #[], ?_, rfl, rfl, h2⟩
  simp [results, Tryz.results47, go_sem]
 have HK := Lib.hid key
 clear hR key
 clear hu
 obtain ⟨pz, hpz⟩ : ∃ pz, Value.iface 107 (.agg #[.int .i64 k, .int .i64 m]) = pz := ⟨_, rfl⟩
 rw [hpz]
 show Code.wp _ _ _ { tmps := #[.pointer (some ⟨bo, 0, none⟩), .pointer (some ⟨be, 0, none⟩), .pointer (some ⟨bl, 0, none⟩), pz, undef, undef, pz, undef, undef, undef, undef, undef, undef, undef, undef, undef, undef, undef, undef, undef, undef], defers := [] } _
 subst hpz
 have hta := assert_prob (.agg #[.int .i64 k, .int .i64 m])
 go_wp2_with ((with_reducible refine at_region 5 ?_); refine kn_wp ?_; clear hF hL; intro W hL; have hF := hL.fx; refine kn_region [0, 1, 2, 3, 4, 5, 6] [0, 1, 2, 3] [6] [0, 2] (by kernel_rfl) (by kernel_rfl) (List.Sublist.cons_cons _ (List.Sublist.cons _ (List.Sublist.cons _ (List.Sublist.cons _ (List.Sublist.refl _))))) ?_; clear hF hL; intro ι F hne hC hFF; have hG := fun n => (hFF n).fx; clear hFF; (repeat (first | (refine cF hC ?_; intro K hK; go_big_quiet_op; go_big_quiet_on) | (refine cP ?_; intro K hK; go_big_quiet_op; go_big_quiet_on) | (refine cN ?_; intro W hL; (try simp only [kfb] at hL); have hF := hL.fx; go_wp2; refine anchQ_normal ?_; (first | (refine owedB _ (by rfl) ?_; clear hL hF hC hG; intro ι F hne hC hFF; have hG := fun n => (hFF n).fx; clear hFF) | (refine owed0 _ (by repeat' (first | (with_reducible exact List.Sublist.refl _) | (with_reducible apply List.Sublist.cons_cons) | (with_reducible apply List.Sublist.cons))) ?_; clear hL hF))))); refine cwk_nil ?_; clear hC hG; intro W hL; simp only [kfb] at hL; have hF := hL.fx)
 exact HK.out _ _ rfl hL.drop1
theorem catch_idle (bo be bl : Nat) (w : World) :
  CallsD Tryz.prog 47 #[.pointer (some ⟨bo, 0, none⟩), .pointer (some ⟨be, 0, none⟩), .pointer (some ⟨bl, 0, none⟩)] .returning w fun e u' w' => e = .returned (.tuple #[]) ∧ u' = .returning ∧ w' = w := by
 refine callsD_of_wpS Tryz.func47 rfl fun c₀ cs hu => ?_
 apply wpS_seq
 apply wpS_region
 simp [wpOpsS, go_sem, recoverD, hu, Tryz.ntmps47, Exit.thenS]
 refine wpS_of_wp ?_
 generalize hR : (fun (e : Exit) (a' : Act) (w' : World) => bodyPostS _ _ _ _ _ e a' _ w') = Q2
 have key : ∀ (a' : Act), a'.defers = [] → Q2 .normal a' w := by
  intro a' h1
  rw [← hR]
  refine ⟨h1, c₀.mode, ?_, .tuple #[], ?_, rfl, hu, rfl⟩
  ·cases c₀; rfl
  ·simp [results, Tryz.results47, go_sem]
 have HK := Lib.hid key
 clear hR key hu
 show Code.wp _ _ _ { tmps := #[.pointer (some ⟨bo, 0, none⟩), .pointer (some ⟨be, 0, none⟩), .pointer (some ⟨bl, 0, none⟩), .nilIface, undef, undef, .nilIface, undef, undef, undef, undef, undef, undef, undef, undef, undef, undef, undef, undef, undef, undef], defers := [] } _
 go_wp2
 exact HK.out _ rfl
end Go.Proofs.YtgboffbbpmileaaGreatDoor
/- The elements of a slice stand in a world (Row: one cell an element; RowK: k cells an element); an argument that is a slice is opened into its list. Of no program. -/
set_option linter.unusedVariables false
set_option linter.unusedSimpArgs false
namespace Go.Proofs.YtgboffbbpmileaaGreatDoor
open Go Go.ChangeShapes Go.WideShapes Go.RowKit
def Row (w : World) (v : Value) (xs : List Value) : Prop :=
 ∃ ao cap, v = .slice ao xs.length cap ∧ ∀ (j : Nat) x, xs[j]? = some x → ∃ g o, ao = some ⟨g, o, none⟩ ∧ w.cell? ⟨g, o + j, none⟩ = some x
def RowK (k : Nat) (w : World) (v : Value) (xs : List (List Value)) : Prop :=
 ∃ ao cap, v = .slice ao xs.length cap ∧ ∀ (j : Nat) cs, xs[j]? = some cs → ∃ g o, ao = some ⟨g, o, none⟩ ∧ ∀ (c : Nat) x, cs[c]? = some x → w.cell? ⟨g, o + j * k + c, none⟩ = some x
theorem cell_lt {w : World} {g j : Nat} {x : Value} (h : w.cell? ⟨g, j, none⟩ = some x) : g < w.heap.size := by
 rcases Nat.lt_or_ge g w.heap.size with h' | h'
 ·exact h'
 ·simp [World.cell?, Array.getElem?_eq_none h'] at h
theorem cell_same {w w' : World} {g j : Nat} (h : w'.heap[g]? = w.heap[g]?) : w'.cell? ⟨g, j, none⟩ = w.cell? ⟨g, j, none⟩ := by
 unfold World.cell?; simp only [h]
theorem cell_ext {w w' : World} {g j : Nat} {x : Value} (h : w.cell? ⟨g, j, none⟩ = some x) (k : Below w.heap.size w w') : w'.cell? ⟨g, j, none⟩ = some x :=
 (cell_same (k.block g (cell_lt h))).trans h
theorem Row.ext {w w' : World} {v : Value} {xs : List Value} (h : Row w v xs) (k : Below w.heap.size w w') : Row w' v xs := by
 obtain ⟨ao, cap, hv, hc⟩ := h
 refine ⟨ao, cap, hv, fun j x hx => ?_⟩
 obtain ⟨g, o, hg, hx⟩ := hc j x hx
 exact ⟨g, o, hg, cell_ext hx k⟩
theorem RowK.ext {k : Nat} {w w' : World} {v : Value} {xs : List (List Value)} (h : RowK k w v xs) (b : Below w.heap.size w w') : RowK k w' v xs := by
 obtain ⟨ao, cap, hv, hc⟩ := h
 refine ⟨ao, cap, hv, fun j x hx => ?_⟩
 obtain ⟨g, o, hg, hx⟩ := hc j x hx
 exact ⟨g, o, hg, fun c y hy => cell_ext (hx c y hy) b⟩
theorem Row.kn {X : List Nat} {w w' : World} {L : List (Nat × Obj)} {v : Value} {xs : List Value} (h : Row w v xs) (k : Kn X w w' L) (hx : ∀ x ∈ X, w.heap.size ≤ x) : Row w' v xs := by
 obtain ⟨ao, cap, hv, hc⟩ := h
 refine ⟨ao, cap, hv, fun j x hx' => ?_⟩
 obtain ⟨g, o, hg, hx'⟩ := hc j x hx'
 exact ⟨g, o, hg, (cell_same (k.block g (cell_lt hx') fun hm => by have := hx g hm; have := cell_lt hx'; omega)).trans hx'⟩
theorem RowK.kn {n : Nat} {X : List Nat} {w w' : World} {L : List (Nat × Obj)} {v : Value} {xs : List (List Value)} (h : RowK n w v xs) (k : Kn X w w' L) (hx : ∀ x ∈ X, w.heap.size ≤ x) : RowK n w' v xs := by
 obtain ⟨ao, cap, hv, hc⟩ := h
 refine ⟨ao, cap, hv, fun j x hx' => ?_⟩
 obtain ⟨g, o, hg, hx'⟩ := hc j x hx'
 exact ⟨g, o, hg, fun c y hy => (cell_same (k.block g (cell_lt (hx' c y hy)) fun hm => by have := hx g hm; have := cell_lt (hx' c y hy); omega)).trans (hx' c y hy)⟩
/-- What stood in w stands in w'. -/
def Old (w w' : World) : Prop := ∀ g, g < w.heap.size → w'.heap[g]? = w.heap[g]?
theorem Old.refl (w : World) : Old w w := fun _ _ => rfl
theorem Old.kn {X : List Nat} {w0 w w' : World} {L : List (Nat × Obj)} (h : Old w0 w) (k : Kn X w w' L) (hs : w0.heap.size ≤ w.heap.size) (hx : ∀ x ∈ X, w0.heap.size ≤ x) : Old w0 w' := fun g hg =>
 (k.block g (Nat.lt_of_lt_of_le hg hs) (fun hm => by have := hx g hm; omega)).trans (h g hg)
theorem Kn.old {X : List Nat} {w w' : World} {L : List (Nat × Obj)} (k : Kn X w w' L) (hx : ∀ x ∈ X, w.heap.size ≤ x) : Old w w' := fun g hg => k.block g hg (fun hm => by have := hx g hm; omega)
theorem Row.old {w w' : World} {v : Value} {xs : List Value} (h : Row w v xs) (k : Old w w') : Row w' v xs := by
 obtain ⟨ao, cap, hv, hc⟩ := h
 refine ⟨ao, cap, hv, fun j x hx' => ?_⟩
 obtain ⟨g, o, hg, hx'⟩ := hc j x hx'
 exact ⟨g, o, hg, (cell_same (k g (cell_lt hx'))).trans hx'⟩
theorem RowK.old {n : Nat} {w w' : World} {v : Value} {xs : List (List Value)} (h : RowK n w v xs) (k : Old w w') : RowK n w' v xs := by
 obtain ⟨ao, cap, hv, hc⟩ := h
 refine ⟨ao, cap, hv, fun j x hx' => ?_⟩
 obtain ⟨g, o, hg, hx'⟩ := hc j x hx'
 exact ⟨g, o, hg, fun c y hy => (cell_same (k g (cell_lt (hx' c y hy)))).trans (hx' c y hy)⟩
theorem Row.one {v : Value} {xs : List Value} {w : World} (h : Row w v xs) : v.oneCell' = true := by
 obtain ⟨ao, cap, rfl, _⟩ := h; rfl
theorem addr_plain {w : World} {a : Addr} {v : Value} (h : w.cell? a = some v) : a = ⟨a.block, a.off, none⟩ := by
 cases a with
 | mk b o s =>
  cases s with
  | none => rfl
  | some n => unfold World.cell? at h; split at h <;> simp at h
section
variable {H : Type} {enc : TypeId × Value → H} {P : Program} {w : World} {base : Nat} {sp : Nat → Bool} {held : Bool}
end
end Go.Proofs.YtgboffbbpmileaaGreatDoor
set_option maxRecDepth 20000
set_option maxHeartbeats 4000000
set_option linter.unusedVariables false
set_option linter.unusedSimpArgs false
namespace Go.Proofs.YtgboffbbpmileaaGreatDoor
open Go Go.RowKit
theorem kn_bodyD {P : Program} {fn : Func} {R : Ending → World → Prop} {x : Exit} {a : Act} {X : List Nat} {w0 Xw : World} {L : List (Nat × Obj)} [h : Kn X w0 Xw L]
  (k : ∀ W, Kn X w0 W L → bodyPostD P fn R x a W) : bodyPostD P fn R x a Xw := k Xw h
/-- The parts of a token stand in a block that is none of Y. -/
def PIn (w : World) (Y : List Nat) (x : Tok × Value) : Prop := (x.2 = .slice none 0 0 ∧ x.1.parts = []) ∨ ∃ g cap cur, x.2 = .slice (some ⟨g, 0, none⟩) x.1.parts.length cap ∧ w.heap[g]? = some (.cells cur 118 (0, 0)) ∧ RowB 3 cur cap x.1.parts.length (x.1.parts.flatMap ptc) ∧ g ∉ Y
theorem PIn.kn {w w' : World} {Y Y' : List Nat} {L : List (Nat × Obj)} {x : Tok × Value} (h : PIn w Y x) (k : Kn Y w w' L) (hy : ∀ y ∈ Y', y ∈ Y ∨ y ∈ keys L) : PIn w' Y' x := by
 rcases h with h | ⟨g, cap, cur, h1, h2, h3, h4⟩
 ·exact .inl h
 ·have hlt := lt_of_has h2
  refine .inr ⟨g, cap, cur, h1, ?_, h3, fun hm => ?_⟩
  ·rw [k.block g hlt h4]; exact h2
  ·rcases hy g hm with e | e
   ·exact h4 e
   ·obtain ⟨p, hp, rfl⟩ := List.mem_map.1 e
    rcases k.own p hp with e | e
    ·omega
    ·exact h4 e
theorem PIn.new {w0 w : World} {b : Nat} {o : Obj} {LO2 LP R : List (Nat × Obj)} {X : List Nat} {x : Tok × Value} (hP : PtL LP x.2 x.1.parts) (k : Kn X w0 w ((b, o) :: ((LO2 ++ LP) ++ R))) : PIn w (b :: keys (LO2 ++ R)) x := by
 rcases hP with ⟨rfl, h2, h3⟩ | ⟨g, cap, cur, rfl, h2, h3⟩
 ·exact .inl ⟨h2, h3⟩
 ·refine .inr ⟨g, cap, cur, h2, k.has (g, _) (by simp), h3, ?_⟩
  have nd := k.nd
  simp only [List.map_cons, List.map_append, List.nodup_cons, List.nodup_append, List.mem_append, List.mem_cons, not_or, List.map_nil, List.not_mem_nil, or_false] at nd
  simp only [List.map_append, List.mem_cons, List.mem_append, not_or]
  refine ⟨fun e => nd.1.1.2 e.symm, fun hm => ?_, fun hm => ?_⟩
  ·have h1 := nd.2.1.2.2
   exact h1 _ hm _ rfl rfl
  ·have h1 := nd.2.2.2
   exact h1 g (.inr rfl) g hm rfl
theorem Kn.selfbR {X : List Nat} {w0 W : World} {b : Nat} {o : Obj} {LO R : List (Nat × Obj)} (h : Kn X w0 W ((b, o) :: (LO ++ R))) : Kn (b :: keys LO) W W ((b, o) :: LO) := Kn.self (P := (b, o) :: LO) [] R h
theorem Kn.joinbR {X : List Nat} {w0 W W' : World} {b : Nat} {o : Obj} {LO R L' : List (Nat × Obj)} (h : Kn X w0 W ((b, o) :: (LO ++ R))) (k : Kn (b :: keys LO) W W' L') : Kn X w0 W' (L' ++ R) := Kn.joinA (P := (b, o) :: LO) [] R h k
theorem flat_get {α : Type} {f : α → List Value} {k : Nat} (hk : ∀ a, (f a).length = k) : ∀ (l : List α) (j c : Nat) (a : α) (x : Value), l[j]? = some a → (f a)[c]? = some x → (l.flatMap f)[j * k + c]? = some x
 | [], j, c, a, x, h, _ => by simp at h
 | y :: l, 0, c, a, x, h, hx => by
  simp at h
  subst h
  rw [List.flatMap_cons, Nat.zero_mul, Nat.zero_add, List.getElem?_append_left (List.getElem?_eq_some_iff.1 hx).1]
  exact hx
 | y :: l, j + 1, c, a, x, h, hx => by
  have := flat_get hk l j c a x (by simpa using h) hx
  rw [List.flatMap_cons, List.getElem?_append_right (by rw [hk, Nat.succ_mul]; omega), hk]
  rw [show (j + 1) * k + c - k = j * k + c by rw [Nat.succ_mul]; omega]
  exact this
theorem rowk_blk {α : Type} {f : α → List Value} {k : Nat} (hk : ∀ a, (f a).length = k) {w : World} {g cap : Nat} {cur : Array Value} {e : TypeId} {l : List α} (hg : w.heap[g]? = some (.cells cur e (0, 0))) (hr : RowB k cur cap l.length (l.flatMap f)) : RowK k w (.slice (some ⟨g, 0, none⟩) l.length cap) (l.map f) := by
 refine ⟨some ⟨g, 0, none⟩, cap, by simp, fun j cs hj => ⟨g, 0, rfl, fun c x hx => ?_⟩⟩
 rw [List.getElem?_map] at hj
 cases hl : l[j]? with
 | none => rw [hl] at hj; cases hj
 | some a =>
  rw [hl] at hj
  simp only [Option.map_some, Option.some.injEq] at hj
  subst hj
  rw [Nat.zero_add, World.cell?, hg]
  exact hr.get (flat_get hk l j c a x hl hx)
theorem tkc_len (x : Tok × Value) : (tkc x).length = 6 := rfl
theorem ptc_len3 (x : Prt) : (ptc x).length = 3 := rfl
def CapOK (v : Value) : Prop := ∃ ao n cap, v = .slice ao n cap ∧ n ≤ cap
theorem PIn.capok {w : World} {Y : List Nat} {x : Tok × Value} (h : PIn w Y x) : CapOK x.2 := by
 rcases h with ⟨h1, h2⟩ | ⟨g, cap, cur, h1, h2, h3, h4⟩
 ·exact ⟨_, _, _, h1, Nat.le_refl _⟩
 ·exact ⟨_, _, _, h1, h3.le⟩
/-- The block of a slice is of this type. -/
def TyV (w : World) (t : TypeId) (v : Value) : Prop := ∀ a n c, v = .slice (some a) n c → ∃ cells, w.heap[a.block]? = some (.cells cells t (0, 0))
theorem TyV.ext {w w' : World} {t : TypeId} {v : Value} (h : TyV w t v) (k : Below w.heap.size w w') : TyV w' t v := fun a n c e => by
 obtain ⟨cells, h1⟩ := h a n c e
 exact ⟨cells, by rw [k.block _ (lt_of_has h1)]; exact h1⟩
theorem tyv_of {w : World} {t : TypeId} {g o n c : Nat} {cells : Array Value} (h : w.heap[g]? = some (.cells cells t (0, 0))) : TyV w t (.slice (some ⟨g, o, none⟩) n c) := fun a n c e => by
 injection e with e1
 injection e1 with e1
 subst e1
 exact ⟨cells, h⟩
theorem PIn.tyv {w : World} {Y : List Nat} {x : Tok × Value} (h : PIn w Y x) : TyV w 118 x.2 := by
 rcases h with ⟨h1, h2⟩ | ⟨g, cap, cur, h1, h2, h3, h4⟩
 ·rw [h1]; intro a n c e; cases e
 ·rw [h1]; exact tyv_of h2
theorem PIn.row {w : World} {Y : List Nat} {x : Tok × Value} (h : PIn w Y x) : RowK 3 w x.2 (x.1.parts.map ptc) := by
 rcases h with ⟨h1, h2⟩ | ⟨g, cap, cur, h1, h2, h3, h4⟩
 ·rw [h1, h2]; exact ⟨none, 0, rfl, fun j cs h => by simp at h⟩
 ·rw [h1]; exact rowk_blk ptc_len3 h2 h3
def TokRow (w : World) (v : Value) (ts : List Tok) : Prop := CapOK v ∧ TyV w 76 v ∧ ∃ tvs : List (Tok × Value), tvs.map (·.1) = ts ∧ RowK 6 w v (tvs.map tkc) ∧ ∀ x ∈ tvs, RowK 3 w x.2 (x.1.parts.map ptc) ∧ CapOK x.2 ∧ TyV w 118 x.2
theorem TokRow.ext {w w' : World} {v : Value} {ts : List Tok} (h : TokRow w v ts) (k : Below w.heap.size w w') : TokRow w' v ts := by
 obtain ⟨hc, ht, tvs, h1, h2, h3⟩ := h
 exact ⟨hc, ht.ext k, tvs, h1, h2.ext k, fun x hx => ⟨(h3 x hx).1.ext k, (h3 x hx).2.1, (h3 x hx).2.2.ext k⟩⟩
def LRes (V : Res) (e : Ending) (w' : World) : Prop := match V with
 | .ok ts => ∃ v, e = .returned (.tuple #[v, .int .i64 0, .int .i64 0]) ∧ TokRow w' v ts
 | .err full m => e = .returned (.tuple #[.slice none 0 0, .int .i64 (if full then 6 else 27), .int .i64 m])
def LPost (src : ByteArray) (w : World) (e : Ending) (w' : World) : Prop := Below w.heap.size w w' ∧ LRes (lex src.data.toList) e w'
theorem Lex_is (src : ByteArray) (hs : src.size ≤ 8000) (w : World) : Calls Tryz.prog 24 #[.string src] w (LPost src w) := by
 obtain ⟨i0, hi, hz0, hz1, hz2⟩ := info_parts infoT
 have hs0 : src.size ≤ 10000 := by omega
 have hmf : ∀ (fn : Fn) (first cap : Array Value) (w : World), (Instr.makeFunc fn first cap).run Tryz.prog w = .ok (.func fn first cap) w := fun _ _ _ _ => rfl
 have hsl := szl src
 obtain ⟨V, hV⟩ : ∃ V, lex src.data.toList = V := ⟨_, rfl⟩
 have HLX := Lib.hid hV
 have hV2 : lim [] (rawl src.data.toList 1) = V := by rw [← hV, lex_lim _ (by rw [szl]; exact hs)]
 have HV := Lib.hid hV2
 clear hV hV2
 have q0 : ¬ (src.size : Int) > 8000 := by omega
 have hL : Kn [] w w [] := Kn.refl [] w
 have hF := hL.fx
 go_enter_defers Tryz.func24, Tryz.ntmps24
 go_wp2
 refine kn_wp ?_; clear hF hL; intro W hL; have hF := hL.fx
 clear hF
 generalize hb3 : w.heap.size + 1 + 1 + 1 = b at hL ⊢
 generalize hb2 : w.heap.size + 1 + 1 = bl at hL ⊢
 generalize hb1 : w.heap.size + 1 = be at hL ⊢
 generalize hb0 : w.heap.size = bo at hL ⊢
 clear hb0 hb1 hb2 hb3
 go_loopg [] (src.size) (fun k wr => ∃ (at_ ln : Nat) (v : Value) (LO : List (Nat × Obj)) (tvs : List (Tok × Value)), Hid (k = src.size - at_) ∧ at_ ≤ src.size ∧ Hid (ln ≤ at_ + 1) ∧ Hid (tvs.length ≤ 2000) ∧ OutL LO v tvs ∧ Hid (∀ x ∈ tvs, PIn wr (b :: keys (LO ++ [(bo, .cells #[.slice none 0 0] 66 (0, 0)), (be, .cells #[.int .i64 0] 26 (0, 0)), (bl, .cells #[.int .i64 0] 3 (0, 0))])) x) ∧ Kn [] w wr ((b, .cells #[.string src, .int .i64 (at_), .int .i64 (ln), v] 111 (0, 0)) :: (LO ++ [(bo, .cells #[.slice none 0 0] 66 (0, 0)), (be, .cells #[.int .i64 0] 26 (0, 0)), (bl, .cells #[.int .i64 0] 3 (0, 0))])) ∧ Hid (lim (tvs.map (·.1)) (rawl (src.data.toList.drop at_) ln) = V))
 case atStart =>
  change Kn [] w W [(b, .cells #[.string src, .int .i64 (((0 : Nat) : Int)), .int .i64 (((1 : Nat) : Int)), .slice none 0 0] 111 (0, 0)), _, _, _] at hL
  refine ⟨0, 1, .slice none 0 0, [], [], Lib.hid rfl, by omega, Lib.hid (by omega), Lib.hid (by simp), .inl ⟨rfl, rfl, rfl⟩, Lib.hid (by simp), hL.perm fun p => ?_, HV⟩
  simp only [List.countP_cons, List.countP_append, List.countP_nil]; omega
 case round =>
  clear hL HV
  obtain ⟨at_, ln, v, LO, tvs, HK, hle, HLN, HTV, hO, HPI, hL, HV⟩ := hrel
  have hln : ln ≤ 100000 := by have := HLN.out; omega
  have HL0 := Lib.hid hL
  replace hL := hL.self0
  have hF := hL.fx
  by_cases hlt : at_ < src.size
  ·obtain ⟨c0, hc0⟩ : ∃ c, src.data.toList[at_]? = some c := ⟨_, List.getElem?_eq_getElem (by rw [szl]; omega)⟩
   have eb0 := byte_at hc0 (by omega)
   have hd0 : src.data.toList.drop (at_) = c0 :: src.data.toList.drop (at_ + 1) := by
    obtain ⟨h1, h2⟩ := List.getElem?_eq_some_iff.1 hc0
    rw [List.drop_eq_getElem_cons h1, h2]
   obtain ⟨t, ht⟩ : ∃ t, src.data.toList.drop (at_ + 1) = t := ⟨_, rfl⟩
   rw [ht] at hd0
   have htl : t.length = src.size - (at_ + 1) := by rw [← ht, List.length_drop, hsl]
   rw [hd0] at HV
   obtain ⟨S, hS⟩ : ∃ S, step c0 t ln = S := ⟨_, rfl⟩
   have hsl1 := step_line c0 t ln
   have hsl2 := step_lt c0 t ln
   have HW : Hid (∀ W, Kn (b :: keys LO) W W ((b, .cells #[.string src, .int .i64 (at_), .int .i64 (ln), v] 111 (0, 0)) :: LO) → Calls Tryz.prog 48 #[.pointer (some ⟨b, 0, none⟩)] W (TPost src b (b :: keys LO) W v LO tvs S)) := Lib.hid fun W hK => by
    rw [← hS]
    exact token_is src hs0 v b at_ ln W LO tvs hK hO hln HLN.out c0 t hd0
   rw [hS] at hsl1 hsl2
   cases S with
   | skip r m =>
    have hVV := lim_skip (out := tvs.map (·.1)) hS
    rw [HV.out] at hVV
    have HVV := Lib.hid hVV.symm
    have HS1 := Lib.hid hsl1
    have HS2 := Lib.hid hsl2
    have HTL := Lib.hid htl
    clear hVV hsl1 hsl2 hS hd0 hc0 ht htl
    unfold TPost at HW
    go_wp2_with (first | ((with_reducible refine at_region 5 ?_); refine zW [0, 1, 2, 3, 4, 5, 6, 7, 8, 9] [0, 1, 2, 3, 4, 5, 6, 7, 8, 9] [] [0, 1, 2, 4, 5, 6, 8, 9] ?_; clear hF hL; intro ι F hne hC hG; (repeat (first | (refine cF hC ?_; intro K hK; go_big_quiet_op; go_big_quiet_on) | (refine cP ?_; intro K hK; go_big_quiet_op; go_big_quiet_on))); refine cwk_nil ?_; clear hC hG; intro W hL; have hF := hL.fx) | (go_at_call 48; refine zG ?_; clear hF hL; intro W hL hF; (with_reducible refine (HW.out _ hL.selfbR).mono ?_); rintro e W2 hb; obtain ⟨rfl, at2, ha2, hr2, hb⟩ := hb; replace hL := hL.joinbR hb; clear hb; have hr2 := Lib.hid hr2; clear hF; simp only [kfb] at hL; have hF := hL.fx))
    have hlen : r.length = src.size - at2 := by rw [← hr2.out, List.length_drop, hsl]
    have h1 := HS1.out
    have h2 := HS2.out
    have h3 := HTL.out
    have h4 := HLN.out
    simp only [StepL, Step.rest, List.length_cons] at h1 h2
    go_roundg (src.size - at2)
    case measure => have := HK.out; omega
    case rel => exact ⟨at2, m, v, LO, tvs, Lib.hid rfl, ha2, Lib.hid (by omega), HTV, hO, Lib.hid fun x hx => (HPI.out x hx).kn hL fun y hy => .inl hy, HL0.out.tail0 hL, Lib.hid (by rw [hr2.out]; exact HVV.out)⟩
   | bad m =>
    have hVV := lim_bad (out := tvs.map (·.1)) hS
    rw [HV.out] at hVV
    have HVV := Lib.hid hVV
    clear hVV hsl1 hsl2 hS hd0 hc0 ht htl
    unfold TPost at HW
    go_wp2_with (first | ((with_reducible refine at_region 5 ?_); refine zW [0, 1, 2, 3, 4, 5, 6, 7, 8, 9] [0, 1, 2, 3, 4, 5, 6, 7, 8, 9] [] [0, 1, 2, 4, 5, 6, 8, 9] ?_; clear hF hL; intro ι F hne hC hG; (repeat (first | (refine cF hC ?_; intro K hK; go_big_quiet_op; go_big_quiet_on) | (refine cP ?_; intro K hK; go_big_quiet_op; go_big_quiet_on))); refine cwk_nil ?_; clear hC hG; intro W hL; have hF := hL.fx) | (go_at_call 48; refine zG ?_; clear hF hL; intro W hL hF; (with_reducible refine (HW.out _ hL.selfbR).mono ?_); rintro e W2 hb; obtain ⟨rfl, hb⟩ := hb; replace hL := hL.joinbR hb; clear hb hF; simp only [kfb] at hL; have hF := hL.fx))
    have hL3 : Kn [] w _ [(bo, .cells #[.slice none 0 0] 66 (0, 0)), (be, .cells #[.int .i64 0] 26 (0, 0)), (bl, .cells #[.int .i64 0] 3 (0, 0))] := HL0.out.tail0 hL
    refine leaves_cons (f := 47) (args := #[.pointer (some ⟨bo, 0, none⟩), .pointer (some ⟨be, 0, none⟩), .pointer (some ⟨bl, 0, none⟩)]) (by simp) (by simp [go_sem]) ?_
    refine (catch_panic bo be bl _ rfl _ _ _ _ _ _ hL3.self0).mono ?_
    rintro e u' w'' ⟨rfl, rfl, hK⟩
    have hL4 := hL3.tail0 hK
    have hF4 := hL4.facts
    simp only [Facts, Dist, zD] at hF4
    simp [Leaves, settle, results, Tryz.results24, go_sem, hF4]
    exact ⟨hL4.below0, by rw [HLX.out, HVV.out]; rfl⟩
   | tok x r m =>
    unfold TPost at HW
    by_cases hf : tvs.length < 2000
    ·simp only [if_pos hf] at HW
     have hVV := lim_tok (out := tvs.map (·.1)) hS (by simpa using hf)
     rw [HV.out] at hVV
     have HVV := Lib.hid hVV.symm
     have HS1 := Lib.hid hsl1
     have HS2 := Lib.hid hsl2
     have HTL := Lib.hid htl
     clear hVV hsl1 hsl2 hS hd0 hc0 ht htl
     go_wp2_with (first | ((with_reducible refine at_region 5 ?_); refine zW [0, 1, 2, 3, 4, 5, 6, 7, 8, 9] [0, 1, 2, 3, 4, 5, 6, 7, 8, 9] [] [0, 1, 2, 4, 5, 6, 8, 9] ?_; clear hF hL; intro ι F hne hC hG; (repeat (first | (refine cF hC ?_; intro K hK; go_big_quiet_op; go_big_quiet_on) | (refine cP ?_; intro K hK; go_big_quiet_op; go_big_quiet_on))); refine cwk_nil ?_; clear hC hG; intro W hL; have hF := hL.fx) | (go_at_call 48; refine zG ?_; clear hF hL; intro W hL hF; (with_reducible refine (HW.out _ hL.selfbR).mono ?_); rintro e W2 hb; obtain ⟨rfl, at2, v2, LO2, pv, LP, ha2, hr2, hO2, hP, hb⟩ := hb; replace hL := hL.joinbR hb; clear hb; have hr2 := Lib.hid hr2; clear hF; simp only [kfb] at hL; have hF := hL.fx))
     have hlen : r.length = src.size - at2 := by rw [← hr2.out, List.length_drop, hsl]
     have h1 := HS1.out
     have h2 := HS2.out
     have h3 := HTL.out
     have h4 := HLN.out
     simp only [StepL, Step.rest, List.length_cons] at h1 h2
     go_roundg (src.size - at2)
     case measure => have := HK.out; omega
     case rel =>
      refine ⟨at2, m, v2, LO2, tvs ++ [(x, pv)], Lib.hid rfl, ha2, Lib.hid (by omega), Lib.hid (by simp; omega), hO2, Lib.hid fun y hy => ?_, ?_, Lib.hid (by rw [hr2.out, List.map_append]; exact HVV.out)⟩
      ·rcases List.mem_append.1 hy with hy | hy
       ·exact (HPI.out y hy).kn hL fun z hz => .inr (by
         simp only [List.map_cons, List.map_append, List.mem_cons, List.mem_append] at hz ⊢
         rcases hz with h | h | h
         ·exact .inl h
         ·exact .inr (.inl (.inl h))
         ·exact .inr (.inr h))
       ·obtain rfl := List.mem_singleton.1 hy
        exact PIn.new hP hL
      ·have hL4 := (HL0.out.tail0 hL).perm (L' := LP ++ ((b, .cells #[.string src, .int .i64 (at2), .int .i64 (m), v2] 111 (0, 0)) :: (LO2 ++ [(bo, .cells #[.slice none 0 0] 66 (0, 0)), (be, .cells #[.int .i64 0] 26 (0, 0)), (bl, .cells #[.int .i64 0] 3 (0, 0))]))) (fun p => by simp only [List.countP_cons, List.countP_append, List.countP_nil]; omega)
       exact hL4.sub (List.sublist_append_right _ _)
    ·simp only [if_neg hf] at HW
     have hVV := lim_full (out := tvs.map (·.1)) hS (by simp; omega)
     rw [HV.out] at hVV
     have HVV := Lib.hid hVV
     clear hVV hsl1 hsl2 hS hd0 hc0 ht htl
     go_wp2_with (first | ((with_reducible refine at_region 5 ?_); refine zW [0, 1, 2, 3, 4, 5, 6, 7, 8, 9] [0, 1, 2, 3, 4, 5, 6, 7, 8, 9] [] [0, 1, 2, 4, 5, 6, 8, 9] ?_; clear hF hL; intro ι F hne hC hG; (repeat (first | (refine cF hC ?_; intro K hK; go_big_quiet_op; go_big_quiet_on) | (refine cP ?_; intro K hK; go_big_quiet_op; go_big_quiet_on))); refine cwk_nil ?_; clear hC hG; intro W hL; have hF := hL.fx) | (go_at_call 48; refine zG ?_; clear hF hL; intro W hL hF; (with_reducible refine (HW.out _ hL.selfbR).mono ?_); rintro e W2 hb; obtain ⟨rfl, hb⟩ := hb; replace hL := hL.joinbR hb; clear hb hF; simp only [kfb] at hL; have hF := hL.fx))
     have hL3 : Kn [] w _ [(bo, .cells #[.slice none 0 0] 66 (0, 0)), (be, .cells #[.int .i64 0] 26 (0, 0)), (bl, .cells #[.int .i64 0] 3 (0, 0))] := HL0.out.tail0 hL
     refine leaves_cons (f := 47) (args := #[.pointer (some ⟨bo, 0, none⟩), .pointer (some ⟨be, 0, none⟩), .pointer (some ⟨bl, 0, none⟩)]) (by simp) (by simp [go_sem]) ?_
     refine (catch_panic bo be bl _ rfl _ _ _ _ _ _ hL3.self0).mono ?_
     rintro e u' w'' ⟨rfl, rfl, hK⟩
     have hL4 := hL3.tail0 hK
     have hF4 := hL4.facts
     simp only [Facts, Dist, zD] at hF4
     simp [Leaves, settle, results, Tryz.results24, go_sem, hF4]
     exact ⟨hL4.below0, by rw [HLX.out, HVV.out]; rfl⟩
  ·have hae : ¬ (at_ : Int) < src.size := by omega
   have hde : src.data.toList.drop at_ = [] := List.drop_eq_nil_of_le (by omega)
   have hVV : V = .ok (tvs.map (·.1) ++ [endT ln]) := by rw [← HV.out, hde, lim_end]
   have HVV := Lib.hid hVV
   have hTV := HTV.out
   clear hVV hde HV
   rcases hO with ⟨rfl, rfl, rfl⟩ | ⟨g, cap, cur, rfl, rfl, hr⟩
   ·clear hTV
    simp only [List.nil_append] at hL
    have hF := hL.fx
    go_wp2_with (first | ((with_reducible refine at_region 5 ?_); refine zW [0, 1, 2, 3, 4, 5, 6, 7, 8, 9] [0, 1, 2, 3, 4, 5, 6, 7, 8, 9] [] [0, 1, 2, 4, 5, 6, 8, 9] ?_; clear hF hL; intro ι F hne hC hG; (repeat (first | (refine cF hC ?_; intro K hK; go_big_quiet_op; go_big_quiet_on) | (refine cP ?_; intro K hK; go_big_quiet_op; go_big_quiet_on))); refine cwk_nil ?_; clear hC hG; intro W hL; have hF := hL.fx) | ((with_reducible refine at_region 7 ?_); refine kn_wp ?_; clear hF hL; intro W hL; have hF := hL.fx; refine kn_region [0, 1, 2, 3, 4, 5, 6, 7, 8, 9, 10, 11, 12, 13] [0, 1, 2, 3, 4, 5, 6, 7, 8] [10, 11, 12, 13] [0, 1, 2, 4, 5, 6, 8] (by kernel_rfl) (by kernel_rfl) (List.Sublist.cons_cons _ (List.Sublist.cons _ (List.Sublist.cons _ (List.Sublist.cons _ (List.Sublist.refl _))))) ?_; clear hF hL; intro ι F hne hC hFF; have hG := fun n => (hFF n).fx; clear hFF; (repeat (first | (refine cF hC ?_; intro K hK; go_big_quiet_op; go_big_quiet_on) | (refine cP ?_; intro K hK; go_big_quiet_op; go_big_quiet_on) | (refine cN ?_; intro W hL; (try simp only [kfb] at hL); have hF := hL.fx; at_builtin; refine wpList_append_nilX rfl _ _ 66 rfl 76 i0 _ Tryz.underlying66 hi hz0 (by rw [hz1]; rfl) (by rw [hz1]; decide) hL  rfl _ _ _ (tkc (endT ln, .slice none 0 0)) rfl (by rw [hz1]; rfl) (fun j u hu => by rw [Go.WideShapes.add_plain, Nat.zero_add, World.cell?, hL.has _ List.mem_cons_self]; simpa [tkc, bs, endT] using hu) (tkc_one _ rfl) (by unfold maxLen; omega) (by rw [hz2]; omega) (by omega) ?_; intro g2 cap2 cur2 W2 hL2 hg2 hr2; clear hL hF; have hL := hL2; clear hL2; have hF := hL.fx; go_wp2; refine zB2 ?_; clear hL hF hC hG; intro ι F hne hC hG) | (refine cN ?_; intro W hL; (try simp only [kfb] at hL); have hF := hL.fx; go_wp2; refine anchQ_normal ?_; (first | (refine owedB _ (by rfl) ?_; clear hL hF hC hG; intro ι F hne hC hFF; have hG := fun n => (hFF n).fx; clear hFF) | (refine owed0 _ (by repeat' (first | (with_reducible exact List.Sublist.refl _) | (with_reducible apply List.Sublist.cons_cons) | (with_reducible apply List.Sublist.cons))) ?_; clear hL hF))))); refine cwk_nil ?_; clear hC hG; intro W hL; simp only [kfb] at hL; have hF := hL.fx))
    rw [hz1] at hr2
    refine leaves_cons (f := 47) (args := #[.pointer (some ⟨bo, 0, none⟩), .pointer (some ⟨be, 0, none⟩), .pointer (some ⟨bl, 0, none⟩)]) (by simp) (by simp [go_sem]) ?_
    refine (catch_idle bo be bl _).mono ?_
    rintro e u' w'' ⟨rfl, rfl, rfl⟩
    simp [Leaves, settle, results, Tryz.results24, go_sem, hF]
    refine ⟨(HL0.out.tail0 hL).below0, ?_⟩
    rw [HLX.out, HVV.out]
    have hr3 : RowB 6 cur2 cap2 ([(endT ln, Value.slice none 0 0)]).length (([(endT ln, Value.slice none 0 0)]).flatMap tkc) := by simpa using hr2
    have hrow := rowk_blk (l := [(endT ln, Value.slice none 0 0)]) tkc_len (hL.has (g2, .cells cur2 76 (0, 0)) (by simp)) hr3
    refine ⟨_, rfl, ⟨_, _, _, rfl, by simpa using hr3.le⟩, tyv_of (hL.has (g2, .cells cur2 76 (0, 0)) (by simp)), [(endT ln, Value.slice none 0 0)], by simp, by simpa using hrow, ?_⟩
    intro x hx; obtain rfl := List.mem_singleton.1 hx; exact ⟨⟨none, 0, rfl, fun j cs h => by simp [endT] at h⟩, ⟨_, _, _, rfl, Nat.le_refl _⟩, fun a n c e => by cases e⟩
   ·simp only [List.nil_append, List.cons_append] at hL
    have hF := hL.fx
    go_wp2_with (first | ((with_reducible refine at_region 5 ?_); refine zW [0, 1, 2, 3, 4, 5, 6, 7, 8, 9] [0, 1, 2, 3, 4, 5, 6, 7, 8, 9] [] [0, 1, 2, 4, 5, 6, 8, 9] ?_; clear hF hL; intro ι F hne hC hG; (repeat (first | (refine cF hC ?_; intro K hK; go_big_quiet_op; go_big_quiet_on) | (refine cP ?_; intro K hK; go_big_quiet_op; go_big_quiet_on))); refine cwk_nil ?_; clear hC hG; intro W hL; have hF := hL.fx) | ((with_reducible refine at_region 7 ?_); refine kn_wp ?_; clear hF hL; intro W hL; have hF := hL.fx; refine kn_region [0, 1, 2, 3, 4, 5, 6, 7, 8, 9, 10, 11, 12, 13] [0, 1, 2, 3, 4, 5, 6, 7, 8] [10, 11, 12, 13] [0, 1, 2, 4, 5, 6, 8] (by kernel_rfl) (by kernel_rfl) (List.Sublist.cons_cons _ (List.Sublist.cons _ (List.Sublist.cons _ (List.Sublist.cons _ (List.Sublist.cons _ (List.Sublist.refl _)))))) ?_; clear hF hL; intro ι F hne hC hFF; have hG := fun n => (hFF n).fx; clear hFF; (repeat (first | (refine cF hC ?_; intro K hK; go_big_quiet_op; go_big_quiet_on) | (refine cP ?_; intro K hK; go_big_quiet_op; go_big_quiet_on) | (refine cN ?_; intro W hL; (try simp only [kfb] at hL); have hF := hL.fx; at_builtin; refine wpList_append_blkX rfl _ _ 66 rfl 76 i0 _ Tryz.underlying66 hi hz0 (by rw [hz1]; rfl) (by rw [hz1]; decide) hL 2 _ _ _ _ _ rfl (by rw [hz1]; exact hr) rfl _ _ _ (tkc (endT ln, .slice none 0 0)) rfl (by rw [hz1]; rfl) (fun j u hu => by rw [Go.WideShapes.add_plain, Nat.zero_add, World.cell?, hL.has _ List.mem_cons_self]; simpa [tkc, bs, endT] using hu) (tkc_one _ rfl) (by unfold maxLen; omega) (by rw [hz2]; omega) (by omega) ?_; intro g2 cap2 cur2 W2 hL2 hr2; clear hL hF; have hL := hL2; clear hL2; simp only [List.eraseIdx_cons_zero, List.eraseIdx_cons_succ] at hL; have hF := hL.fx; go_wp2; refine zB2 ?_; clear hL hF hC hG; intro ι F hne hC hG) | (refine cN ?_; intro W hL; (try simp only [kfb] at hL); have hF := hL.fx; go_wp2; refine anchQ_normal ?_; (first | (refine owedB _ (by rfl) ?_; clear hL hF hC hG; intro ι F hne hC hFF; have hG := fun n => (hFF n).fx; clear hFF) | (refine owed0 _ (by repeat' (first | (with_reducible exact List.Sublist.refl _) | (with_reducible apply List.Sublist.cons_cons) | (with_reducible apply List.Sublist.cons))) ?_; clear hL hF))))); refine cwk_nil ?_; clear hC hG; intro W hL; simp only [kfb] at hL; have hF := hL.fx))
    rw [hz1] at hr2
    refine leaves_cons (f := 47) (args := #[.pointer (some ⟨bo, 0, none⟩), .pointer (some ⟨be, 0, none⟩), .pointer (some ⟨bl, 0, none⟩)]) (by simp) (by simp [go_sem]) ?_
    refine (catch_idle bo be bl _).mono ?_
    rintro e u' w'' ⟨rfl, rfl, rfl⟩
    simp [Leaves, settle, results, Tryz.results24, go_sem, hF]
    refine ⟨(HL0.out.tail0 hL).below0, ?_⟩
    rw [HLX.out, HVV.out]
    have hr3 : RowB 6 cur2 cap2 (tvs ++ [(endT ln, Value.slice none 0 0)]).length ((tvs ++ [(endT ln, Value.slice none 0 0)]).flatMap tkc) := by simpa using hr2
    have hrow := rowk_blk (l := tvs ++ [(endT ln, Value.slice none 0 0)]) tkc_len (hL.has (g2, .cells cur2 76 (0, 0)) (by simp)) hr3
    refine ⟨_, rfl, ⟨_, _, _, rfl, by simpa using hr3.le⟩, tyv_of (hL.has (g2, .cells cur2 76 (0, 0)) (by simp)), tvs ++ [(endT ln, Value.slice none 0 0)], by simp, by simpa using hrow, ?_⟩
    intro x hx
    rcases List.mem_append.1 hx with hx | hx
    ·exact ⟨((HPI.out x hx).kn hL (Y' := []) (by simp)).row, ((HPI.out x hx).kn hL (Y' := []) (by simp)).capok, ((HPI.out x hx).kn hL (Y' := []) (by simp)).tyv⟩
    ·obtain rfl := List.mem_singleton.1 hx; exact ⟨⟨none, 0, rfl, fun j cs h => by simp [endT] at h⟩, ⟨_, _, _, rfl, Nat.le_refl _⟩, fun a n c e => by cases e⟩
end Go.Proofs.YtgboffbbpmileaaGreatDoor
