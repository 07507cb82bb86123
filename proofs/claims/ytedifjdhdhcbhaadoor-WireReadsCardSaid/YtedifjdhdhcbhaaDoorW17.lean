import Derived.Test.YtedifjdhdhcbhaaDoorProg
import Derived.WalkKit
import Derived.Handy
import Derived.Deep.Light
import Derived.WalkSmall
import Derived.StillTailTactics
import Derived.Lib.Hide
import Derived.Test.YtedifjdhdhcbhaaDoorW0
import Derived.Test.YtedifjdhdhcbhaaDoorIt
import Derived.Test.YtedifjdhdhcbhaaDoorW16
namespace Go.Proofs.YtedifjdhdhcbhaaDoor
open Go Go.RowKit
set_option linter.unusedSimpArgs false
set_option linter.unusedVariables false

structure Val where
  k : Int
  n : Int
  s : ByteArray
  l : List Int
  t : List ByteArray
  lv : Value
  tv : Value
def Val.cells (v : Val) : List Value := [.int .i64 v.k, .int .i64 v.n, .string v.s, v.lv, v.tv]
/-- What a value's lists hold in a world. -/
structure ValIn (w : World) (v : Val) : Prop where
  l : Row w v.lv (v.l.map fun x => .int .i64 x)
  t : Row w v.tv (v.t.map fun x => .string x)
  llen : v.l.length ≤ maxLen
  tlen : v.t.length ≤ maxLen
  slen : v.s.size ≤ maxLen
  k : -9223372036854775808 ≤ v.k ∧ v.k ≤ 9223372036854775807
  n : -9223372036854775808 ≤ v.n ∧ v.n ≤ 9223372036854775807
  ls : ∀ x ∈ v.l, -9223372036854775808 ≤ x ∧ x ≤ 9223372036854775807
  ts : ∀ x ∈ v.t, x.size ≤ maxLen
theorem ValIn.kn {X : List Nat} {w w' : World} {L : List (Nat × Obj)} {v : Val} (h : ValIn w v) (k : Kn X w w' L) (hx : ∀ x ∈ X, w.heap.size ≤ x) : ValIn w' v :=
  ⟨h.l.kn k hx, h.t.kn k hx, h.llen, h.tlen, h.slen, h.k, h.n, h.ls, h.ts⟩
theorem ValIn.old {w w' : World} {v : Val} (h : ValIn w v) (k : Old w w') : ValIn w' v := ⟨h.l.old k, h.t.old k, h.llen, h.tlen, h.slen, h.k, h.n, h.ls, h.ts⟩
structure VRow (w : World) (v : Value) (vs : List Val) : Prop where
  row : RowK 5 w v (vs.map Val.cells)
  all : ∀ x ∈ vs, ValIn w x
theorem VRow.kn {X : List Nat} {w w' : World} {L : List (Nat × Obj)} {v : Value} {vs : List Val} (h : VRow w v vs) (k : Kn X w w' L) (hx : ∀ x ∈ X, w.heap.size ≤ x) : VRow w' v vs :=
  ⟨h.row.kn k hx, fun x hm => (h.all x hm).kn k hx⟩
theorem VRow.old {w w' : World} {v : Value} {vs : List Val} (h : VRow w v vs) (k : Old w w') : VRow w' v vs := ⟨h.row.old k, fun x hm => (h.all x hm).old k⟩
def FewOne (x : Val) : Prop := x.l.length ≤ 400 ∧ x.t.length ≤ 400 ∧ x.s.size ≤ 400 ∧ ∀ y ∈ x.t, y.size ≤ 400
def Few (vs : List Val) : Prop := vs.length ≤ 20 ∧ ∀ x ∈ vs, FewOne x
theorem vrow_at {w : World} {ao : Option Addr} {n cap : Nat} {vs : List Val} (h : VRow w (.slice ao n cap) vs) {k : Nat} {x : Val} (hx : vs[k]? = some x) :
    ∃ g o, ao = some ⟨g, o, none⟩ ∧ g < w.heap.size ∧ w.cell? ⟨g, o + k * 5, none⟩ = some (.int .i64 x.k) ∧ w.cell? ⟨g, o + k * 5 + 1, none⟩ = some (.int .i64 x.n) ∧ w.cell? ⟨g, o + k * 5 + 2, none⟩ = some (.string x.s) ∧ w.cell? ⟨g, o + k * 5 + 3, none⟩ = some x.lv ∧ w.cell? ⟨g, o + k * 5 + 4, none⟩ = some x.tv := by
  obtain ⟨ao', cap', hv, hc⟩ := h.row
  injection hv with h1 h2 h3
  subst h1
  obtain ⟨g, o, hg, h4⟩ := hc k x.cells (by simp [hx])
  have h0 := h4 0 _ rfl
  exact ⟨g, o, hg, cell_lt h0, h0, h4 1 _ rfl, h4 2 _ rfl, h4 3 _ rfl, h4 4 _ rfl⟩
theorem row_at {w : World} {ao : Option Addr} {n cap : Nat} {xs : List Value} (h : Row w (.slice ao n cap) xs) {k : Nat} {x : Value} (hx : xs[k]? = some x) : ∃ g o, ao = some ⟨g, o, none⟩ ∧ g < w.heap.size ∧ w.cell? ⟨g, o + k, none⟩ = some x := by
  obtain ⟨ao', cap', hv, hc⟩ := h
  injection hv with h1 h2 h3
  subst h1
  obtain ⟨g, o, hg, h4⟩ := hc k x hx
  exact ⟨g, o, hg, cell_lt h4, h4⟩

end Go.Proofs.YtedifjdhdhcbhaaDoor
