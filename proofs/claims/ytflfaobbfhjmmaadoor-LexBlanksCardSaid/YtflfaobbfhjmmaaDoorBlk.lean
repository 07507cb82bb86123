/- A row of the call's own as a known block: what it holds; append onto it, also in a region whose order is drawn. -/
import Derived.Test.YtflfaobbfhjmmaaDoorApp
namespace Go.Proofs.YtflfaobbfhjmmaaDoor
open Go Go.RowKit
set_option linter.unusedVariables false
set_option linter.unusedSimpArgs false
/-- The block of a slice from its head on: n elements of z cells each, room for cap. -/
structure RowB (z : Nat) (cur : Array Value) (cap n : Nat) (xs : List Value) : Prop where
  size : cur.size = cap * z
  le : n ≤ cap
  capm : cap ≤ maxLen
  take : cur.toList.take (n * z) = xs
  len : xs.length = n * z
theorem RowB.get {z : Nat} {cur : Array Value} {cap n : Nat} {xs : List Value} (h : RowB z cur cap n xs) {k : Nat} {x : Value} (hk : xs[k]? = some x) : cur[k]? = some x := by
  rw [← h.take, List.getElem?_take] at hk
  split at hk
  · simpa using hk
  · cases hk
theorem RowB.set {z : Nat} {cur : Array Value} {cap n : Nat} {xs : List Value} (h : RowB z cur cap n xs) (k : Nat) (x : Value) : RowB z (cur.setIfInBounds k x) cap n (xs.set k x) :=
  ⟨by simp [h.size], h.le, h.capm, by rw [← h.take, Array.toList_setIfInBounds, List.take_set], by simp [h.len]⟩
section
variable {P : Program} {w w' : World} {e : TypeId} {z n : Nat} {v : Value} {xs : List Value} {X : List Nat} {w0 : World} {L : List (Nat × Obj)}
theorem own_blk (h : Kn X w0 w L) (ho : w.ownsRow w0.heap.size e z v n xs) (hf : Fresh v L) : (v = .slice none 0 0 ∧ n = 0 ∧ xs = []) ∨
    ∃ g cap cur, v = .slice (some ⟨g, 0, none⟩) n cap ∧ w0.heap.size ≤ g ∧ Kn X w0 w ((g, .cells cur e (0, 0)) :: L) ∧ RowB z cur cap n xs := by
  obtain ⟨hl, ⟨rfl, rfl⟩ | ⟨g, cap, cur, rfl, hg, hc, h1, h2, h3, h4⟩⟩ := ho
  · left; exact ⟨rfl, rfl, List.eq_nil_of_length_eq_zero (by omega)⟩
  · right
    refine ⟨g, cap, cur, rfl, hg, ⟨h.os, h.tape, h.output, h.size, h.block, fun p hp => ?_, fun p hp => ?_, ?_⟩, ⟨h3, h1, h2, h4, hl⟩⟩
    · rcases List.mem_cons.1 hp with rfl | hp
      · exact .inl hg
      · exact h.own p hp
    · rcases List.mem_cons.1 hp with rfl | hp
      · exact hc
      · exact h.has p hp
    · rw [List.map_cons, List.nodup_cons]
      exact ⟨hf g rfl, h.nd⟩
theorem mem_erase {L : List (Nat × Obj)} (nd : (L.map (·.1)).Nodup) {i : Nat} {g : Nat} {o : Obj} (hi : L[i]? = some (g, o)) : g ∉ (L.eraseIdx i).map (·.1) := by
  intro hm
  obtain ⟨hil, hie⟩ := List.getElem?_eq_some_iff.1 hi
  obtain ⟨p, hp, e⟩ := List.mem_map.1 hm
  obtain ⟨j, hj, hje⟩ := List.mem_iff_getElem.1 hp
  have hL : ∃ m, m ≠ i ∧ ∃ hm : m < L.length, L[m] = p := by
    rw [List.getElem_eraseIdx] at hje
    split at hje
    · exact ⟨j, by omega, by omega, hje⟩
    · exact ⟨j + 1, by omega, by simp [List.length_eraseIdx, hil] at hj; omega, hje⟩
  obtain ⟨m, hmi, hm, hme⟩ := hL
  have h1 : (L.map (·.1))[m]'(by simpa using hm) = (L.map (·.1))[i]'(by simpa using hil) := by simp [hme, hie, e]
  exact hmi ((List.getElem_inj nd).1 h1)
theorem Kn.erase (h : Kn X w0 w L) (i : Nat) : Kn X w0 w (L.eraseIdx i) := h.sub (List.eraseIdx_sublist L i)
theorem blk_own (h : Kn X w0 w L) {i g cap : Nat} {cur : Array Value} (hi : L[i]? = some (g, .cells cur e (0, 0))) (hg : w0.heap.size ≤ g) (hr : RowB z cur cap n xs) :
    w.ownsRow w0.heap.size e z (.slice (some ⟨g, 0, none⟩) n cap) n xs ∧ Fresh (.slice (some ⟨g, 0, none⟩) n cap) (L.eraseIdx i) := by
  refine ⟨⟨hr.len, .inr ⟨g, cap, cur, rfl, hg, h.has _ (List.mem_of_getElem? hi), hr.le, hr.capm, hr.size, hr.take⟩⟩, fun g' hg' hm => ?_⟩
  obtain rfl : g = g' := Option.some.inj hg'
  exact mem_erase h.nd hi hm
theorem wp_append_blk {o : Oper} {a : Act} {K : Act → World → Prop} {Q : Exit → Act → World → Prop} (s x : Operand) (t : TypeId)
    (ho : o.op = .call { callee := .builtin .append, args := #[s, x], argTypes := #[t, t] })
    (e : TypeId) (i : TypeInfo) (zv : Value) (ht : P.underlying t = some (.slice e)) (hi : P.info? e = some i) (hz : i.zero = some zv) (hzs : zv.cells.size = i.size) (hsz : 0 < i.size)
    (hk : Kn X w0 w L) (j g cap n : Nat) (cur : Array Value) (xs : List Value) (hj : L[j]? = some (g, .cells cur e (0, 0))) (hg : w0.heap.size ≤ g) (hr : RowB i.size cur cap n xs) (hs : a.eval s = .slice (some ⟨g, 0, none⟩) n cap)
    (ad : Addr) (m c : Nat) (news : List Value) (hx : a.eval x = .slice (some ad) m c) (hl : news.length = m * i.size) (hnews : ∀ j u, news[j]? = some u → w.cell? (ad.add j) = some u) (h1 : ∀ u ∈ news, u.oneCell' = true)
    (h63 : n + m ≤ maxLen) (hbytes : (n + m) * i.bytes ≤ 140737488355328) (hpos : 0 < n + m)
    (h : ∀ g' cap' cur' w', Kn X w0 w' ((g', .cells cur' e (0, 0)) :: L.eraseIdx j) → w0.heap.size ≤ g' → RowB i.size cur' cap' (n + m) (xs ++ news) → K (a.put o.dst (.slice (some ⟨g', 0, none⟩) (n + m) cap')) w') : o.wp P a w K Q := by
  obtain ⟨h5, h6⟩ := blk_own hk hj hg hr
  refine wp_append_kn s x t ho e i zv ht hi hz hzs hsz _ n xs hs (hk.erase j) h5 h6 ad m c news hx hl hnews h1 h63 hbytes fun v' w' h7 h8 h9 => ?_
  rcases own_blk h7 h8 h9 with ⟨_, h10, _⟩ | ⟨g', cap', cur', rfl, h10, h11, h12⟩
  · omega
  · exact h g' cap' cur' w' h11 h10 h12
theorem wpList_append_blk {ops : Array Oper} {rest : List Oper} {o : Oper} {a : Act} {Q : Exit → Act → World → Prop} (hgd : o.guard = none) (s x : Operand) (t : TypeId)
    (ho : o.op = .call { callee := .builtin .append, args := #[s, x], argTypes := #[t, t] })
    (e : TypeId) (i : TypeInfo) (zv : Value) (ht : P.underlying t = some (.slice e)) (hi : P.info? e = some i) (hz : i.zero = some zv) (hzs : zv.cells.size = i.size) (hsz : 0 < i.size)
    (hk : Kn X w0 w L) (j g cap n : Nat) (cur : Array Value) (xs : List Value) (hj : L[j]? = some (g, .cells cur e (0, 0))) (hg : w0.heap.size ≤ g) (hr : RowB i.size cur cap n xs) (hs : a.eval s = .slice (some ⟨g, 0, none⟩) n cap)
    (ad : Addr) (m c : Nat) (news : List Value) (hx : a.eval x = .slice (some ad) m c) (hl : news.length = m * i.size) (hnews : ∀ j u, news[j]? = some u → w.cell? (ad.add j) = some u) (h1 : ∀ u ∈ news, u.oneCell' = true)
    (h63 : n + m ≤ maxLen) (hbytes : (n + m) * i.bytes ≤ 140737488355328) (hpos : 0 < n + m)
    (h : ∀ g' cap' cur' w', Kn X w0 w' ((g', .cells cur' e (0, 0)) :: L.eraseIdx j) → w0.heap.size ≤ g' → RowB i.size cur' cap' (n + m) (xs ++ news) → wpList P ops Q rest (a.put o.dst (.slice (some ⟨g', 0, none⟩) (n + m) cap')) w') : wpList P ops Q (o :: rest) a w :=
  wpList_plain hgd fun _ hK => wp_append_blk s x t ho e i zv ht hi hz hzs hsz hk j g cap n cur xs hj hg hr hs ad m c news hx hl hnews h1 h63 hbytes hpos fun g' cap' cur' w' h1 h2 h3 => hK _ _ (h g' cap' cur' w' h1 h2 h3)
/-- Append onto a row among the known blocks, of the call's own or one that may change. -/
theorem wp_append_blkX {o : Oper} {a : Act} {K : Act → World → Prop} {Q : Exit → Act → World → Prop} (s x : Operand) (t : TypeId)
    (ho : o.op = .call { callee := .builtin .append, args := #[s, x], argTypes := #[t, t] })
    (e : TypeId) (i : TypeInfo) (zv : Value) (ht : P.underlying t = some (.slice e)) (hi : P.info? e = some i) (hz : i.zero = some zv) (hzs : zv.cells.size = i.size) (hsz : 0 < i.size)
    (hk : Kn X w0 w L) (j g cap n : Nat) (cur : Array Value) (xs : List Value) (hj : L[j]? = some (g, .cells cur e (0, 0))) (hr : RowB i.size cur cap n xs) (hs : a.eval s = .slice (some ⟨g, 0, none⟩) n cap)
    (ad : Addr) (m c : Nat) (news : List Value) (hx : a.eval x = .slice (some ad) m c) (hl : news.length = m * i.size) (hnews : ∀ j u, news[j]? = some u → w.cell? (ad.add j) = some u) (h1 : ∀ u ∈ news, u.oneCell' = true)
    (h63 : n + m ≤ maxLen) (hbytes : (n + m) * i.bytes ≤ 140737488355328) (hpos : 0 < n + m)
    (h : ∀ g' cap' cur' w', Kn X w0 w' ((g', .cells cur' e (0, 0)) :: L.eraseIdx j) → RowB i.size cur' cap' (n + m) (xs ++ news) → K (a.put o.dst (.slice (some ⟨g', 0, none⟩) (n + m) cap')) w') : o.wp P a w K Q := by
  have hm := List.mem_of_getElem? hj
  have hgo := hk.own _ hm
  have hown : w.ownsRow 0 e i.size (.slice (some ⟨g, 0, none⟩) n cap) n xs := ⟨hr.len, .inr ⟨g, cap, cur, rfl, Nat.zero_le _, hk.has _ hm, hr.le, hr.capm, hr.size, hr.take⟩⟩
  obtain ⟨v', w', hrun, h2, h3, h4⟩ := run_append_kn (P := P) 0 t o.type e i zv ht hi hz hzs hsz _ n xs hown ad m c news hl hnews h1 h63 hbytes (Nat.zero_le _)
  have hK : Kn X w0 w' (L.eraseIdx j) := kn_grown (hk.erase j) h3 fun g' hg' => by
    obtain rfl : g = g' := Option.some.inj hg'
    exact ⟨hgo, mem_erase hk.nd hj⟩
  unfold Oper.wp execOp
  simp only [ho, resolve, invoke, builtin, Sem.run_bind, Sem.run_pure, Result.andThen_ok, List.map_toArray, List.map_cons, List.map_nil, hs, hx, hrun]
  obtain ⟨hl2, ⟨_, h0⟩ | ⟨g', cap', cur', rfl, _, hc, k1, k2, k3, k4⟩⟩ := h2
  · omega
  · refine h g' cap' cur' w' ⟨hK.os, hK.tape, hK.output, hK.size, hK.block, fun p hp => ?_, fun p hp => ?_, ?_⟩ ⟨k3, k1, k2, k4, hl2⟩
    · rcases List.mem_cons.1 hp with rfl | hp
      · rcases h4 with h4 | h4
        · obtain rfl : g' = g := Option.some.inj h4
          exact hgo
        · obtain rfl : g' = w.heap.size := Option.some.inj h4
          exact .inl hk.size
      · exact hK.own p hp
    · rcases List.mem_cons.1 hp with rfl | hp
      · exact hc
      · exact hK.has p hp
    · rw [List.map_cons, List.nodup_cons]
      refine ⟨fun hm2 => ?_, hK.nd⟩
      rcases h4 with h4 | h4
      · obtain rfl : g' = g := Option.some.inj h4
        exact mem_erase hk.nd hj hm2
      · obtain rfl : g' = w.heap.size := Option.some.inj h4
        obtain ⟨q, hq, e2⟩ := List.mem_map.1 hm2
        have := (hk.erase j).lt hq
        simp only at e2; omega
theorem wpList_append_blkX {ops : Array Oper} {rest : List Oper} {o : Oper} {a : Act} {Q : Exit → Act → World → Prop} (hgd : o.guard = none) (s x : Operand) (t : TypeId)
    (ho : o.op = .call { callee := .builtin .append, args := #[s, x], argTypes := #[t, t] })
    (e : TypeId) (i : TypeInfo) (zv : Value) (ht : P.underlying t = some (.slice e)) (hi : P.info? e = some i) (hz : i.zero = some zv) (hzs : zv.cells.size = i.size) (hsz : 0 < i.size)
    (hk : Kn X w0 w L) (j g cap n : Nat) (cur : Array Value) (xs : List Value) (hj : L[j]? = some (g, .cells cur e (0, 0))) (hr : RowB i.size cur cap n xs) (hs : a.eval s = .slice (some ⟨g, 0, none⟩) n cap)
    (ad : Addr) (m c : Nat) (news : List Value) (hx : a.eval x = .slice (some ad) m c) (hl : news.length = m * i.size) (hnews : ∀ j u, news[j]? = some u → w.cell? (ad.add j) = some u) (h1 : ∀ u ∈ news, u.oneCell' = true)
    (h63 : n + m ≤ maxLen) (hbytes : (n + m) * i.bytes ≤ 140737488355328) (hpos : 0 < n + m)
    (h : ∀ g' cap' cur' w', Kn X w0 w' ((g', .cells cur' e (0, 0)) :: L.eraseIdx j) → RowB i.size cur' cap' (n + m) (xs ++ news) → wpList P ops Q rest (a.put o.dst (.slice (some ⟨g', 0, none⟩) (n + m) cap')) w') : wpList P ops Q (o :: rest) a w :=
  wpList_plain hgd fun _ hK => wp_append_blkX s x t ho e i zv ht hi hz hzs hsz hk j g cap n cur xs hj hr hs ad m c news hx hl hnews h1 h63 hbytes hpos fun g' cap' cur' w' h1 h2 => hK _ _ (h g' cap' cur' w' h1 h2)
/-- A row that is nil, or a known block. -/
def RowL (z : Nat) (e : TypeId) (LP : List (Nat × Obj)) (v : Value) (n : Nat) (xs : List Value) : Prop :=
  (LP = [] ∧ v = .slice none 0 0 ∧ n = 0 ∧ xs = []) ∨ ∃ g cap cur, LP = [(g, .cells cur e (0, 0))] ∧ v = .slice (some ⟨g, 0, none⟩) n cap ∧ RowB z cur cap n xs
/-- Append onto nil: the row is a new known block. -/
theorem wpList_append_nilX {ops : Array Oper} {rest : List Oper} {o : Oper} {a : Act} {Q : Exit → Act → World → Prop} (hgd : o.guard = none) (s x : Operand) (t : TypeId)
    (ho : o.op = .call { callee := .builtin .append, args := #[s, x], argTypes := #[t, t] })
    (e : TypeId) (i : TypeInfo) (zv : Value) (ht : P.underlying t = some (.slice e)) (hi : P.info? e = some i) (hz : i.zero = some zv) (hzs : zv.cells.size = i.size) (hsz : 0 < i.size)
    (hk : Kn X w0 w L) (hs : a.eval s = .slice none 0 0)
    (ad : Addr) (m c : Nat) (news : List Value) (hx : a.eval x = .slice (some ad) m c) (hl : news.length = m * i.size) (hnews : ∀ j u, news[j]? = some u → w.cell? (ad.add j) = some u) (h1 : ∀ u ∈ news, u.oneCell' = true)
    (h63 : m ≤ maxLen) (hbytes : m * i.bytes ≤ 140737488355328) (hpos : 0 < m)
    (h : ∀ g' cap' cur' w', Kn X w0 w' ((g', .cells cur' e (0, 0)) :: L) → w0.heap.size ≤ g' → RowB i.size cur' cap' m news → wpList P ops Q rest (a.put o.dst (.slice (some ⟨g', 0, none⟩) m cap')) w') : wpList P ops Q (o :: rest) a w := by
  refine wpList_append_kn hgd s x t ho e i zv ht hi hz hzs hsz _ 0 [] hs hk ⟨by simp, .inl ⟨rfl, rfl⟩⟩ (fun g hg => by cases hg) ad m c news hx hl hnews h1 (by omega) (by rw [Nat.zero_add]; exact hbytes) fun v' w' h7 h8 h9 => ?_
  rw [Nat.zero_add, List.nil_append] at h8
  rcases own_blk h7 h8 h9 with ⟨_, h10, _⟩ | ⟨g', cap', cur', rfl, h10, h11, h12⟩
  · omega
  · exact h g' cap' cur' w' h11 h10 h12
/-- Append onto such a row; the elements stand in the block N that has just been made. -/
theorem wpList_append_rowL {ops : Array Oper} {rest : List Oper} {o : Oper} {a : Act} {Q : Exit → Act → World → Prop} (hgd : o.guard = none) (s x : Operand) (t : TypeId)
    (ho : o.op = .call { callee := .builtin .append, args := #[s, x], argTypes := #[t, t] })
    (e : TypeId) (i : TypeInfo) (zv : Value) (ht : P.underlying t = some (.slice e)) (hi : P.info? e = some i) (hz : i.zero = some zv) (hzs : zv.cells.size = i.size) (hsz : 0 < i.size)
    (N : Nat × Obj) (LP R : List (Nat × Obj)) (hk : Kn X w0 w (N :: (LP ++ R))) (n : Nat) (xs : List Value) (v : Value) (hr : RowL i.size e LP v n xs) (hs : a.eval s = v)
    (ad : Addr) (m c : Nat) (news : List Value) (hx : a.eval x = .slice (some ad) m c) (hl : news.length = m * i.size) (hnews : ∀ j u, news[j]? = some u → w.cell? (ad.add j) = some u) (h1 : ∀ u ∈ news, u.oneCell' = true)
    (h63 : n + m ≤ maxLen) (hbytes : (n + m) * i.bytes ≤ 140737488355328) (hpos : 0 < m)
    (h : ∀ g' cap' cur' w', Kn X w0 w' ((g', .cells cur' e (0, 0)) :: N :: R) → RowB i.size cur' cap' (n + m) (xs ++ news) → wpList P ops Q rest (a.put o.dst (.slice (some ⟨g', 0, none⟩) (n + m) cap')) w') : wpList P ops Q (o :: rest) a w := by
  rcases hr with ⟨rfl, rfl, rfl, rfl⟩ | ⟨g, cap, cur, rfl, rfl, hb⟩
  · refine wpList_append_nilX hgd s x t ho e i zv ht hi hz hzs hsz hk hs ad m c news hx hl hnews h1 (by omega) (by simpa using hbytes) hpos fun g' cap' cur' w' h2 _ h3 => ?_
    have := h g' cap' cur' w' h2 (by simpa using h3)
    simpa using this
  · exact wpList_append_blkX hgd s x t ho e i zv ht hi hz hzs hsz hk 1 g cap n cur xs rfl hb hs ad m c news hx hl hnews h1 h63 hbytes (by omega) fun g' cap' cur' w' h2 h3 => h g' cap' cur' w' h2 h3
theorem RowL.of_blk {g cap n : Nat} {cur : Array Value} {xs : List Value} (h : RowB z cur cap n xs) : RowL z e [(g, .cells cur e (0, 0))] (.slice (some ⟨g, 0, none⟩) n cap) n xs := .inr ⟨g, cap, cur, rfl, rfl, h⟩
theorem RowL.nil : RowL z e [] (.slice none 0 0) 0 [] := .inl ⟨rfl, rfl, rfl, rfl⟩
end
end Go.Proofs.YtflfaobbfhjmmaaDoor
