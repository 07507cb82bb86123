/- append onto a row of the call's own, beside a list of known blocks. -/
import Derived.Test.YtflfaobbfhjmmaaDoorIt
import Derived.Laws.AppendOwn
namespace Go.Proofs.YtflfaobbfhjmmaaDoor
open Go Go.RowKit
set_option linter.unusedVariables false
set_option linter.unusedSimpArgs false
/-- The row of a slice is none of the known blocks. -/
def Fresh (v : Value) (L : List (Nat × Obj)) : Prop := ∀ g, v.ownBlock = some g → g ∉ L.map (·.1)
section
variable {P : Program} {w w' : World} {base n : Nat} {e : TypeId} {size : Nat} {v : Value} {xs : List Value} {X : List Nat} {w0 : World} {L : List (Nat × Obj)}
theorem owns_heap (h : w.ownsRow base e size v n xs) (k : ∀ g, v.ownBlock = some g → w'.heap[g]? = w.heap[g]?) : w'.ownsRow base e size v n xs := by
  obtain ⟨hl, h | ⟨g, cap, cur, rfl, e2, e3, e4⟩⟩ := h
  · exact ⟨hl, .inl h⟩
  · exact ⟨hl, .inr ⟨g, cap, cur, rfl, e2, (k g rfl).trans e3, e4⟩⟩
theorem owns_lt (h : w.ownsRow base e size v n xs) {g : Nat} (hg : v.ownBlock = some g) : g < w.heap.size ∧ base ≤ g := by
  obtain ⟨hl, ⟨rfl, _⟩ | ⟨g', cap, cur, rfl, e2, e3, e4⟩⟩ := h
  · cases hg
  · obtain rfl : g' = g := Option.some.inj hg
    exact ⟨lt_of_has e3, e2⟩
theorem owns_below (h : w.ownsRow base e size v n xs) (k : Below w.heap.size w w') : w'.ownsRow base e size v n xs := owns_heap h fun g hg => k.block g (owns_lt h hg).1
/-- A callee that turns the one block b. -/
theorem owns_one {b : Nat} {L' : List (Nat × Obj)} (h : w.ownsRow base e size v n xs) (k : Kn [b] w w' L') (hb : v.ownBlock ≠ some b) : w'.ownsRow base e size v n xs :=
  owns_heap h fun g hg => k.block g (owns_lt h hg).1 (by simp; rintro rfl; exact hb hg)
theorem kn_grown {row : Option Nat} (h : Kn X w0 w L) (hg : w.grownBy w' row) (hrow : ∀ g, row = some g → (w0.heap.size ≤ g ∨ g ∈ X) ∧ g ∉ L.map (·.1)) : Kn X w0 w' L :=
  ⟨hg.os.trans h.os, hg.tape.trans h.tape, hg.output.trans h.output, Nat.le_trans h.size hg.size,
    fun b hb hx => (hg.block b (Nat.lt_of_lt_of_le hb h.size) (fun e => by rcases (hrow b e.symm).1 with c | c; omega; exact hx c)).trans (h.block b hb hx), h.own,
    fun p hp => (hg.block p.1 (h.lt hp) (fun e => (hrow p.1 e.symm).2 (List.mem_map_of_mem hp))).trans (h.has p hp), h.nd⟩
theorem run_append_kn (base : Nat) (t ty e : TypeId) (i : TypeInfo) (z : Value) (ht : P.underlying t = some (.slice e)) (hi : P.info? e = some i) (hz : i.zero = some z)
    (hzs : z.cells.size = i.size) (hsz : 0 < i.size)
    (v : Value) (n : Nat) (xs : List Value) (hown : w.ownsRow base e i.size v n xs)
    (a : Addr) (m c : Nat) (news : List Value) (hl : news.length = m * i.size) (hnews : ∀ j u, news[j]? = some u → w.cell? (a.add j) = some u) (h1 : ∀ u ∈ news, u.oneCell' = true)
    (h63 : n + m ≤ maxLen) (hbytes : (n + m) * i.bytes ≤ 140737488355328) (hbase : base ≤ w.heap.size) :
    ∃ v' w', (Builtin.append_ #[t, t] ty #[v, .slice (some a) m c]).run P w = .ok v' w' ∧ w'.ownsRow base e i.size v' (n + m) (xs ++ news) ∧ w.grownBy w' v.ownBlock ∧ (v'.ownBlock = v.ownBlock ∨ v'.ownBlock = some w.heap.size) := by
  have hsmall : n + m ≤ 9223372036854775807 := by simp only [maxLen] at h63; omega
  obtain ⟨v', w', hr, h2, h3, h4⟩ := run_append_own (P := P) w base t ty e i z i.size i.bytes ht hi hz rfl rfl hzs hsz v n xs hown a m c news hl hnews h1 h63 hbytes hbase
  refine ⟨v', w', hr, h2, h3, ?_⟩
  rcases hown.2 with ⟨rfl, rfl⟩ | ⟨g, cap, cur, rfl, hbg, hg, hnc, hcm, hcs, htake⟩
  · by_cases hm : m = 0
    · left; rw [h4.2 ⟨rfl, hm⟩]
    · have hr' := run_append_nil (P := P) w t ty e i z ht hi hz a m c news hl hnews (by omega) (by omega) (by have hb := hbytes; simp only [Nat.zero_add] at hb; omega)
      rw [hr] at hr'
      injection hr' with e1 e2
      right; rw [e1]; rfl
  · by_cases hroom : n + m ≤ cap
    · have hfit : n * i.size + news.length ≤ cur.size := by rw [hl, hcs, ← Nat.add_mul]; exact Nat.mul_le_mul_right _ hroom
      have hr' := run_append_room (P := P) w t ty e i ht hi g n cap cur hg a m c news hl hnews h1 hroom hfit
      rw [hr] at hr'
      injection hr' with e1 e2
      left; rw [e1]; rfl
    · have holds : ∀ j u, xs[j]? = some u → w.cell? ((⟨g, 0, none⟩ : Addr).add j) = some u := hown.cells (g := g) rfl
      have hr' := run_append_grow (P := P) w t ty e i z ht hi hz ⟨g, 0, none⟩ n cap xs hown.1 holds a m c news hl hnews (by omega) (by omega) (growslice_fits (by omega) hbytes)
      rw [hr] at hr'
      injection hr' with e1 e2
      right; rw [e1]; rfl
theorem wp_append_kn {o : Oper} {a : Act} {K : Act → World → Prop} {Q : Exit → Act → World → Prop} (s x : Operand) (t : TypeId)
    (ho : o.op = .call { callee := .builtin .append, args := #[s, x], argTypes := #[t, t] })
    (e : TypeId) (i : TypeInfo) (z : Value) (ht : P.underlying t = some (.slice e)) (hi : P.info? e = some i) (hz : i.zero = some z) (hzs : z.cells.size = i.size) (hsz : 0 < i.size)
    (v : Value) (n : Nat) (xs : List Value) (hs : a.eval s = v) (hk : Kn X w0 w L) (hown : w.ownsRow w0.heap.size e i.size v n xs) (hf : Fresh v L)
    (ad : Addr) (m c : Nat) (news : List Value) (hx : a.eval x = .slice (some ad) m c) (hl : news.length = m * i.size) (hnews : ∀ j u, news[j]? = some u → w.cell? (ad.add j) = some u) (h1 : ∀ u ∈ news, u.oneCell' = true)
    (h63 : n + m ≤ maxLen) (hbytes : (n + m) * i.bytes ≤ 140737488355328)
    (h : ∀ v' w', Kn X w0 w' L → w'.ownsRow w0.heap.size e i.size v' (n + m) (xs ++ news) → Fresh v' L → K (a.put o.dst v') w') : o.wp P a w K Q := by
  obtain ⟨v', w', hr, h2, h3, h4⟩ := run_append_kn (P := P) w0.heap.size t o.type e i z ht hi hz hzs hsz v n xs hown ad m c news hl hnews h1 h63 hbytes hk.size
  unfold Oper.wp execOp
  simp only [ho, resolve, invoke, builtin, Sem.run_bind, Sem.run_pure, Result.andThen_ok, List.map_toArray, List.map_cons, List.map_nil, hs, hx, hr]
  refine h v' w' (kn_grown hk h3 fun g hg => ⟨.inl (owns_lt hown hg).2, hf g hg⟩) h2 fun g hg hm => ?_
  rcases h4 with e4 | e4
  · exact hf g (e4 ▸ hg) hm
  · have : g = w.heap.size := Option.some.inj (hg.symm.trans e4)
    obtain ⟨q, hq, rfl⟩ := List.mem_map.1 hm
    have := hk.lt hq
    omega
theorem wpList_append_kn {ops : Array Oper} {rest : List Oper} {o : Oper} {a : Act} {Q : Exit → Act → World → Prop} (hgd : o.guard = none) (s x : Operand) (t : TypeId)
    (ho : o.op = .call { callee := .builtin .append, args := #[s, x], argTypes := #[t, t] })
    (e : TypeId) (i : TypeInfo) (z : Value) (ht : P.underlying t = some (.slice e)) (hi : P.info? e = some i) (hz : i.zero = some z) (hzs : z.cells.size = i.size) (hsz : 0 < i.size)
    (v : Value) (n : Nat) (xs : List Value) (hs : a.eval s = v) (hk : Kn X w0 w L) (hown : w.ownsRow w0.heap.size e i.size v n xs) (hf : Fresh v L)
    (ad : Addr) (m c : Nat) (news : List Value) (hx : a.eval x = .slice (some ad) m c) (hl : news.length = m * i.size) (hnews : ∀ j u, news[j]? = some u → w.cell? (ad.add j) = some u) (h1 : ∀ u ∈ news, u.oneCell' = true)
    (h63 : n + m ≤ maxLen) (hbytes : (n + m) * i.bytes ≤ 140737488355328)
    (h : ∀ v' w', Kn X w0 w' L → w'.ownsRow w0.heap.size e i.size v' (n + m) (xs ++ news) → Fresh v' L → wpList P ops Q rest (a.put o.dst v') w') : wpList P ops Q (o :: rest) a w :=
  wpList_plain hgd fun _ hK => wp_append_kn s x t ho e i z ht hi hz hzs hsz v n xs hs hk hown hf ad m c news hx hl hnews h1 h63 hbytes fun v' w' h1 h2 h3 => hK _ _ (h v' w' h1 h2 h3)
end
end Go.Proofs.YtflfaobbfhjmmaaDoor
