/- Lemmas and walks for the law LawBack (part 6). -/
import Derived.Test.YtfdlifhkeicnnaaGreatDoorPb5
import Derived.Maps.OwnSet
import Derived.Maps.OwnOps
import Derived.Test.YtfdlifhkeicnnaaGreatDoorProg
import Derived.WalkKit
import Derived.Handy
import Derived.Deep.Light
import Derived.WalkSmall
import Derived.StillTailTactics
import Derived.Lib.Hide
import Derived.StillTail
import Derived.Deep.Quiet
import Derived.Deep.QuietTactic
import Derived.Below
import Derived.BigQuiet
import Derived.Lib.LaidTab
import Derived.Laws.BytesArg
import Derived.Deep.Cut
/- A map that is a known block: its entries as a list of keys and elements; look-up, store at a new key. -/
namespace Go.Proofs.YtfdlifhkeicnnaaGreatDoor
open Go Go.RowKit
set_option linter.unusedVariables false
set_option linter.unusedSimpArgs false
structure MapV (P : Program) (k : TypeId) (es : Array MapEntry) (M : List (Value × Value)) : Prop where
  ents : es.toList.map (fun e => (e.key, e.val)) = M
  keys : ∀ p ∈ M, ∃ l, keyOf P k p.1 = some l
  nd : (M.map (·.1)).Nodup
theorem MapV.nil {P : Program} {k : TypeId} : MapV P k #[] [] := ⟨rfl, fun _ h => (by cases h), List.nodup_nil⟩
section
variable {P : Program} {k : TypeId} {es : Array MapEntry} {M : List (Value × Value)} {w : World} {t e : TypeId} {b : Nat} {clock : Nat}
theorem MapV.key_of (h : MapV P k es M) : ∀ x ∈ es.toList, ∃ l, keyOf P k x.key = some l := fun x hx =>
  h.keys (x.key, x.val) (by rw [← h.ents]; exact List.mem_map.2 ⟨x, hx, rfl⟩)
theorem MapV.size (h : MapV P k es M) : es.size = M.length := by rw [← h.ents]; simp
theorem pair_inj {M : List (Value × Value)} (nd : (M.map (·.1)).Nodup) {a u v : Value} (h1 : (a, u) ∈ M) (h2 : (a, v) ∈ M) : u = v := by
  obtain ⟨i, hi, e1⟩ := List.mem_iff_getElem.1 h1
  obtain ⟨j, hj, e2⟩ := List.mem_iff_getElem.1 h2
  have e3 : (M.map (·.1))[i]'(by simpa using hi) = (M.map (·.1))[j]'(by simpa using hj) := by simp [e1, e2]
  have := (List.getElem_inj nd).1 e3
  subst this
  rw [e1] at e2
  exact congrArg Prod.snd e2
theorem MapV.run_hit (c : Bool) (h : MapV P k es M) (K : Maps.Keyed P k) (ht : P.underlying t = some (.map k e)) (hb : w.heap[b]? = some (.map es clock)) {key v : Value} (hm : (key, v) ∈ M) :
    (Instr.lookup t (.map (some b)) key c).run P w = .ok (if c then .tuple #[v, .bool true] else v) w := by
  obtain ⟨kl, hkey⟩ := h.keys _ hm
  replace hkey : keyOf P k key = some kl := hkey
  rcases K.find w hkey es.toList h.key_of with ⟨h1, h2⟩ | ⟨j, e0, h1, h2, h3⟩
  · exfalso
    rw [← h.ents] at hm
    obtain ⟨x, hx, ex⟩ := List.mem_map.1 hm
    exact h2 x hx (congrArg Prod.fst ex)
  · have e4 : e0.val = v := by
      refine pair_inj h.nd (a := key) ?_ hm
      rw [← h.ents, ← h3]; exact List.mem_map.2 ⟨e0, List.mem_of_getElem? h2, rfl⟩
    subst e4
    cases c <;> simp [Instr.lookup, run_underlying ht, MapKept.run_getObj_map hb, K.check w _ hkey, h1, Result.andThen]
theorem MapV.run_miss (c : Bool) (h : MapV P k es M) (K : Maps.Keyed P k) (ht : P.underlying t = some (.map k e)) {z : Value} (hz : (zeroValue e).run P w = .ok z w) (hb : w.heap[b]? = some (.map es clock)) {key : Value} {kl : Lit} (hkey : keyOf P k key = some kl) (hm : ∀ p ∈ M, p.1 ≠ key) :
    (Instr.lookup t (.map (some b)) key c).run P w = .ok (if c then .tuple #[z, .bool false] else z) w := by
  rcases K.find w hkey es.toList h.key_of with ⟨h1, h2⟩ | ⟨j, e0, h1, h2, h3⟩
  · cases c <;> simp [Instr.lookup, run_underlying ht, MapKept.run_getObj_map hb, K.check w _ hkey, h1, hz, Result.andThen]
  · exfalso
    refine hm (e0.key, e0.val) ?_ h3
    rw [← h.ents]; exact List.mem_map.2 ⟨e0, List.mem_of_getElem? h2, rfl⟩
theorem MapV.run_new (h : MapV P k es M) (K : Maps.Keyed P k) (ht : P.underlying t = some (.map k e)) (hb : w.heap[b]? = some (.map es clock)) (hroom : M.length < maxLen) {key : Value} (val : Value) {kl : Lit} (hkey : keyOf P k key = some kl) (hm : ∀ p ∈ M, p.1 ≠ key) :
    ∃ es' clock', (Instr.mapUpdate t (.map (some b)) key val).run P w = .ok () { w with heap := w.heap.setIfInBounds b (.map es' clock') } ∧ MapV P k es' (M ++ [(key, val)]) := by
  rcases K.find w hkey es.toList h.key_of with ⟨h1, h2⟩ | ⟨j, e0, h1, h2, h3⟩
  · have := h.size
    refine ⟨es.push ⟨key, val, clock⟩, clock + 1, ?_, ?_, ?_, ?_⟩
    · simp [Instr.mapUpdate, run_underlying ht, MapKept.run_getObj_map hb, K.check w false hkey, h1, MapKept.run_setObj_map _ hb, Result.andThen]
    · simp [h.ents]
    · intro p hp
      rcases List.mem_append.1 hp with hp | hp
      · exact h.keys p hp
      · simp at hp; subst hp; exact ⟨kl, hkey⟩
    · rw [List.map_append, List.nodup_append]
      refine ⟨h.nd, by simp, fun a ha b hb => ?_⟩
      simp at hb; subst hb
      obtain ⟨q, hq, rfl⟩ := List.mem_map.1 ha
      exact hm q hq
  · exfalso
    refine hm (e0.key, e0.val) ?_ h3
    rw [← h.ents]; exact List.mem_map.2 ⟨e0, List.mem_of_getElem? h2, rfl⟩
end
theorem Kn.setBlk {X : List Nat} {w0 w : World} {L : List (Nat × Obj)} (h : Kn X w0 w L) {j b : Nat} {o : Obj} (hj : L[j]? = some (b, o)) (o' : Obj) : Kn X w0 { w with heap := w.heap.setIfInBounds b o' } (L.set j (b, o')) := by
  have hm : (b, o) ∈ L := List.mem_of_getElem? hj
  have hlt := h.lt hm
  have hkeys : (L.set j (b, o')).map (·.1) = L.map (·.1) := by
    rw [List.map_set]
    apply List.ext_getElem?
    intro i
    rw [List.getElem?_set]
    split
    · rename_i e; subst e
      split
      · simp [hj]
      · rename_i hn; simp at hn; simp [List.getElem?_eq_none hn]
    · rfl
  have hmem : ∀ p ∈ L.set j (b, o'), p = (b, o') ∨ (p ∈ L ∧ p.1 ≠ b) := by
    intro p hp
    obtain ⟨i, hi⟩ := List.mem_iff_getElem?.1 hp
    rw [List.getElem?_set] at hi
    split at hi
    · split at hi
      · left; exact (Option.some.inj hi).symm
      · cases hi
    · rename_i hij
      right
      refine ⟨List.mem_of_getElem? hi, fun e => hij ?_⟩
      obtain ⟨hil, hie⟩ := List.getElem?_eq_some_iff.1 hi
      obtain ⟨hjl, hje⟩ := List.getElem?_eq_some_iff.1 hj
      have h1 : (L.map (·.1))[j]'(by simpa using hjl) = (L.map (·.1))[i]'(by simpa using hil) := by simp [hie, hje, e]
      exact (List.getElem_inj h.nd).1 h1
  refine ⟨h.os, h.tape, h.output, by simpa using h.size, fun d hd hx => ?_, fun p hp => ?_, fun p hp => ?_, by rw [hkeys]; exact h.nd⟩
  · have hdb : b ≠ d := by
      rintro rfl
      rcases h.own _ hm with e | e
      · exact absurd hd (by simpa using e)
      · exact hx e
    show (w.heap.setIfInBounds b o')[d]? = _
    rw [Array.getElem?_setIfInBounds, if_neg hdb]; exact h.block d hd hx
  · rcases hmem p hp with rfl | ⟨hp, _⟩
    · exact h.own (b, o) hm
    · exact h.own p hp
  · rcases hmem p hp with rfl | ⟨hp, hne⟩
    · show (w.heap.setIfInBounds b o')[b]? = some o'
      rw [Array.getElem?_setIfInBounds, if_pos rfl, if_pos hlt]
    · show (w.heap.setIfInBounds b o')[p.1]? = _
      rw [Array.getElem?_setIfInBounds, if_neg (fun e => hne e.symm)]; exact h.has p hp
section
variable {P : Program} {k : TypeId} {es : Array MapEntry} {M : List (Value × Value)} {w : World} {t e : TypeId} {b clock : Nat} {X : List Nat} {w0 : World} {L : List (Nat × Obj)} {ops : Array Oper} {rest : List Oper} {o : Oper} {a : Act} {Q : Exit → Act → World → Prop}
theorem wpList_hit (hg : o.guard = none) (m x : Operand) (c : Bool) (hop : o.op = Op.lookup t m x c) (K : Maps.Keyed P k) (ht : P.underlying t = some (.map k e)) (hb : w.heap[b]? = some (.map es clock)) (hM : MapV P k es M)
    (hm : a.eval m = .map (some b)) (key v : Value) (hx : a.eval x = key) (hv : (key, v) ∈ M) (h : wpList P ops Q rest (a.put o.dst (if c then .tuple #[v, .bool true] else v)) w) : wpList P ops Q (o :: rest) a w := by
  refine wpList_plain hg fun K' hK' => ?_
  have hrun := hM.run_hit c K ht hb hv
  unfold Oper.wp
  simp only [execOp, hop, hm, hx, hrun, Sem.run_bind, Sem.run_pure, Result.andThen_ok]
  exact hK' _ _ h
theorem wpList_miss (hg : o.guard = none) (m x : Operand) (c : Bool) (hop : o.op = Op.lookup t m x c) (K : Maps.Keyed P k) (ht : P.underlying t = some (.map k e)) (z : Value) (hz : ∀ w, (zeroValue e).run P w = .ok z w) (hb : w.heap[b]? = some (.map es clock)) (hM : MapV P k es M)
    (hm : a.eval m = .map (some b)) (key : Value) (kl : Lit) (hx : a.eval x = key) (hkey : keyOf P k key = some kl) (hn : ∀ p ∈ M, p.1 ≠ key) (h : wpList P ops Q rest (a.put o.dst (if c then .tuple #[z, .bool false] else z)) w) : wpList P ops Q (o :: rest) a w := by
  refine wpList_plain hg fun K' hK' => ?_
  have hrun := hM.run_miss c K ht (hz w) hb hkey hn
  unfold Oper.wp
  simp only [execOp, hop, hm, hx, hrun, Sem.run_bind, Sem.run_pure, Result.andThen_ok]
  exact hK' _ _ h
theorem wpList_new (hg : o.guard = none) (m x u : Operand) (hop : o.op = Op.mapUpdate t m x u) (K : Maps.Keyed P k) (ht : P.underlying t = some (.map k e)) (hk : Kn X w0 w L) (j : Nat) (hj : L[j]? = some (b, .map es clock)) (hM : MapV P k es M) (hroom : M.length < maxLen)
    (hm : a.eval m = .map (some b)) (key val : Value) (kl : Lit) (hx : a.eval x = key) (hu : a.eval u = val) (hkey : keyOf P k key = some kl) (hn : ∀ p ∈ M, p.1 ≠ key)
    (h : ∀ W es' clock', Kn X w0 W (L.set j (b, .map es' clock')) → MapV P k es' (M ++ [(key, val)]) → wpList P ops Q rest (a.put o.dst undef) W) : wpList P ops Q (o :: rest) a w := by
  refine wpList_plain hg fun K' hK' => ?_
  obtain ⟨es', clock', hrun, h2⟩ := hM.run_new K ht (hk.has _ (List.mem_of_getElem? hj)) hroom val hkey hn
  unfold Oper.wp
  simp only [execOp, hop, hm, hx, hu, hrun, Sem.run_bind, Sem.run_pure, Result.andThen_ok]
  exact hK' _ _ (h _ es' clock' (hk.setBlk hj _) h2)
theorem at_ins {dst : Option Tmp} {ty : TypeId} {pos : String} {after : Array Edge} {g : Option (Nat × Bool)} {m x u : Operand} (h : wpList P ops Q (⟨dst, .insert t m x u, ty, pos, after, g⟩ :: rest) a w) : wpList P ops Q (⟨dst, .insert t m x u, ty, pos, after, g⟩ :: rest) a w := h
/-- As in a literal. -/
theorem wpList_ins {dst : Option Tmp} {ty : TypeId} {pos : String} {after : Array Edge} {m x u : Operand} (K : Maps.Keyed P k) (ht : P.underlying t = some (.map k e)) (hk : Kn X w0 w L) (j : Nat) (hj : L[j]? = some (b, .map es clock)) (hM : MapV P k es M) (hroom : M.length < maxLen)
    (hm : a.eval m = .map (some b)) (key val : Value) (kl : Lit) (hx : a.eval x = key) (hu : a.eval u = val) (hkey : keyOf P k key = some kl) (hn : ∀ p ∈ M, p.1 ≠ key)
    (h : ∀ W es' clock', Kn X w0 W (L.set j (b, .map es' clock')) → MapV P k es' (M ++ [(key, val)]) → wpList P ops Q rest (a.put dst undef) W) : wpList P ops Q (⟨dst, .insert t m x u, ty, pos, after, none⟩ :: rest) a w := by
  refine wpList_plain rfl fun K' hK' => ?_
  obtain ⟨es', clock', hrun, h2⟩ := hM.run_new K ht (hk.has _ (List.mem_of_getElem? hj)) hroom val hkey hn
  unfold Oper.wp
  simp only [execOp, hm, hx, hu, hrun, Sem.run_bind, Sem.run_pure, Result.andThen_ok]
  exact hK' _ _ (h _ es' clock' (hk.setBlk hj _) h2)
end
end Go.Proofs.YtfdlifhkeicnnaaGreatDoor
/- A region whose order is drawn, in which a call may panic: what the panic must answer is what the region owes at a panic. -/
namespace Go.Proofs.YtfdlifhkeicnnaaGreatDoor
open Go Go.RowKit
set_option linter.unusedVariables false
set_option linter.unusedSimpArgs false
section
variable {P : Program} {ops : Array Oper} {fl br pu : Nat → Bool} {X : List Nat} {w0 : World} {L Lw : List (Nat × Obj)} {a : Act} {rest : List Nat} {i : Nat} {o : Oper}
theorem kn_regionP {id : Nat} {Q : Exit → Act → World → Prop} {w : World} {l : List Oper} [h : Kn X w0 w L] (order fls brs pus : List Nat) (hm : P.follows .mixedOrders = true)
    (hB : (Region.noSelect l.toArray && permB l.length order && okAll .any l.toArray (fun i => fls.contains i) (fun i => brs.contains i) (fun i => pus.contains i) order) = true) (hs : Lw.Sublist L)
    (k : ∀ (Qp : List PanicEntry → World → Prop), (∀ ch W, (∀ a' : Act, a'.defers = a.defers → Q (.panic ch) a' W) → Qp ch W) → ∀ (ι : Type) (F : ι → World) [Nonempty ι], (∀ w, Kn X w0 w Lw → ∃ n, w = F n) → (∀ n, Kn X w0 (F n) Lw) → cwk P l.toArray (fun i => fls.contains i) (fun i => brs.contains i) (fun i => pus.contains i) (Q .normal) Qp X w0 order a L Lw) : (Code.region id l.toArray true).wp P Q a w := by
  obtain ⟨ι, F, hne, h1, h2⟩ := kn_fam X w0 Lw ⟨w, h.sub hs⟩
  exact wp_region_cw order fls brs pus (fun ch W => ∀ a' : Act, a'.defers = a.defers → Q (.panic ch) a' W) hm hB (fun ch a' w' hd h => h a' hd) _ _ (kn_drew X w0 w L) (fun u hu => hu.sub hs) (k _ (fun _ _ h => h) ι F h1 h2)
theorem cwk_callP {f : FuncId} {args : Array Value} {l : List Oper} {Q : Act → World → Prop} {Qp : List PanicEntry → World → Prop} (ho : nth l i = some o) (hw : Region.wanted o (yielded l.toArray a.tmps) = true) (hf : fl i = false) (hx : ∀ w, (execOp a.eval o).run P w = .ok (.enter f args) w)
    (h : ∀ W, Kn X w0 W L → Calls P f args W fun e w' => ∃ ch, e = .panicked ch ∧ Qp ch w') : cwk P l.toArray fl br pu Q Qp X w0 (i :: rest) a L Lw := by
  refine ⟨o, nth_get ho, .inr (.inl ⟨hw, hf, fun w hk => ?_⟩)⟩
  unfold anchAt
  rw [hx w]
  refine (h w hk).mono fun e w' hh => ?_
  obtain ⟨ch, rfl, hq⟩ := hh
  exact hq
end
end Go.Proofs.YtfdlifhkeicnnaaGreatDoor
namespace Go.Proofs.YtfdlifhkeicnnaaGreatDoor
open Go Go.RowKit
set_option linter.unusedSimpArgs false
set_option linter.unusedVariables false

theorem strlaw : Maps.Keyed Tryz.prog 9 := Maps.string_keyed Tryz.underlying9
theorem strkey (s : ByteArray) (hs : s.size ≤ 1000000) : keyOf Tryz.prog 9 (.string s) = some (.string s.data.toList) := WideMaps.keyOf_string_mk Tryz.underlying9 (by unfold maxLen; omega)
theorem zeroI (w : World) : (zeroValue 3).run Tryz.prog w = .ok (.int .i64 0) w := by kernel_rfl
theorem under_labs : Tryz.prog.underlying 59 = some (.map 9 3) := Tryz.underlying59
def lv (L : Labs) : List (Value × Value) := L.map fun p => (.string ⟨p.1.toArray⟩, .int .i64 p.2)
theorem toList_mk (s : ByteArray) : (⟨s.data.toList.toArray⟩ : ByteArray) = s := by cases s; simp
theorem str_mk {s : ByteArray} {p : Bytes} (h : s.data.toList = p) : (⟨p.toArray⟩ : ByteArray) = s := by subst h; exact toList_mk s
theorem look_hit {L : Labs} {s : ByteArray} {n : Nat} (h : look L s.data.toList = some n) : (Value.string s, Value.int .i64 n) ∈ lv L := by
  unfold look at h
  obtain ⟨p, hp, rfl⟩ := Option.map_eq_some_iff.1 h
  have h1 := List.find?_some hp
  simp only [beq_iff_eq] at h1
  refine List.mem_map.2 ⟨p, List.mem_of_find?_eq_some hp, ?_⟩
  rw [str_mk h1.symm]
theorem look_miss {L : Labs} {s : ByteArray} (h : look L s.data.toList = none) : ∀ p ∈ lv L, p.1 ≠ Value.string s := by
  unfold look at h
  rw [Option.map_eq_none_iff, List.find?_eq_none] at h
  intro p hp e
  obtain ⟨q, hq, rfl⟩ := List.mem_map.1 hp
  simp only [Value.string.injEq] at e
  refine h q hq ?_
  rw [← e]; simp
theorem named_eq (s : ByteArray) (hs : s.size ≤ 1000000) (b : Bool) (h : Hid (named s.data.toList = b)) (w : World) : Calls Tryz.prog 64 #[.string s] w fun e w' => e = .returned (.bool b) ∧ Below w.heap.size w w' := by
  have := named_is s hs w
  rwa [h.out] at this
def RegN (r : Rs Nat) (e : Ending) : Prop := match r with
  | .ok a => e = .returned (.int .i64 a)
  | .bad m => e = .panicked [{ v := .iface 56 (.int .i64 m), recovered := false }]

end Go.Proofs.YtfdlifhkeicnnaaGreatDoor
namespace Go.Proofs.YtfdlifhkeicnnaaGreatDoor
open Go Go.RowKit
set_option linter.unusedSimpArgs false
set_option linter.unusedVariables false
set_option maxRecDepth 20000 in
set_option maxHeartbeats 4000000 in
theorem address_is (ab mb : Nat) (es : Array MapEntry) (clock : Nat) (L : Labs) (s : ByteArray) (hs : s.size ≤ 1000000) (last : Bool) (w : World) (hA : w.cell? ⟨ab, 0, none⟩ = some (.map (some mb))) (hmb : w.heap[mb]? = some (.map es clock)) (hM : MapV Tryz.prog 9 es (lv L)) : Calls Tryz.prog 128 #[.pointer (some ⟨ab, 0, none⟩), .string s, .bool last] w fun e w' => RegN (address L s.data.toList last) e ∧ Below w.heap.size w w' := by
  have l1 := cell_lt hA
  have l2 := lt_of_has hmb
  cases hN : named s.data.toList with
  | false =>
    have HN := Lib.hid hN
    clear hN
    have hr : address L s.data.toList last = .bad 2 := by unfold address; rw [HN.out]; rfl
    rw [hr]
    clear hr
    have hL : Kn [] w w [] := Kn.refl [] w; (try simp only [kfb] at hL); have hF := hL.facts; (try simp only [Facts, Dist, kfa, implies_true, forall_const] at hF); go_enter Tryz.func128, Tryz.ntmps128
    go_wp2_with (first | ((with_reducible refine kn_list_set ?_); (try clear hF); clear hL; intro W hL; (try simp only [kfb] at hL); have hF := hL.facts; (try simp only [Facts, Dist, kfa, implies_true, forall_const] at hF)) | (go_at_call 64; refine kn_calls ?_; (try clear hF); clear hL; intro W hL; (try simp only [kfb] at hL); have hF := hL.facts; (try simp only [Facts, Dist, kfa, implies_true, forall_const] at hF); (((with_reducible refine (named_eq s (by omega) _ HN _).mono ?_))); rintro e W ⟨rfl, hb⟩; replace hL := hL.below hb; clear hb; (try clear hF); (try simp only [kfb] at hL); have hF := hL.facts; (try simp only [Facts, Dist, kfa, implies_true, forall_const] at hF)) | (go_at_call 100; (((first | (with_reducible refine (need_ok _ _).mono ?_) | (with_reducible refine (need_bad _ _).mono ?_)))); rintro e w' ⟨rfl, rfl⟩))
    exact ⟨rfl, rfl, hL.below0⟩
  | true =>
    have HN := Lib.hid hN
    clear hN
    cases hl : look L s.data.toList with
    | some n =>
      have HH := Lib.hid (look_hit hl)
      have HL := Lib.hid hl
      clear hl
      have hr : address L s.data.toList last = .ok n := by unfold address; rw [HN.out]; rw [HL.out]; rfl
      rw [hr]
      clear hr
      have hL : Kn [] w w [] := Kn.refl [] w; (try simp only [kfb] at hL); have hF := hL.facts; (try simp only [Facts, Dist, kfa, implies_true, forall_const] at hF); go_enter Tryz.func128, Tryz.ntmps128
      go_wp2_with (first | ((with_reducible refine kn_list_set ?_); (try clear hF); clear hL; intro W hL; (try simp only [kfb] at hL); have hF := hL.facts; (try simp only [Facts, Dist, kfa, implies_true, forall_const] at hF)) | (go_at_call 64; refine kn_calls ?_; (try clear hF); clear hL; intro W hL; (try simp only [kfb] at hL); have hF := hL.facts; (try simp only [Facts, Dist, kfa, implies_true, forall_const] at hF); (((with_reducible refine (named_eq s (by omega) _ HN _).mono ?_))); rintro e W ⟨rfl, hb⟩; replace hL := hL.below hb; clear hb; (try clear hF); (try simp only [kfb] at hL); have hF := hL.facts; (try simp only [Facts, Dist, kfa, implies_true, forall_const] at hF)) | (go_at_call 100; (((first | (with_reducible refine (need_ok _ _).mono ?_) | (with_reducible refine (need_bad _ _).mono ?_)))); rintro e w' ⟨rfl, rfl⟩) | (at_lookup; go_loud (refine wpList_hit rfl _ _ _ rfl strlaw under_labs ((hL.block mb (by omega) (by simp)).trans hmb) hM rfl _ (.int .i64 n) rfl HH.out ?_); (try simp only [if_true])))
      (try simp only [Exit.inBlock, Exit.then]); refine bodyPost_ret (by simp [results, Tryz.results128, go_sem, *]; try rfl) rfl ?_
      exact ⟨rfl, hL.below0⟩
    | none =>
      have HH := Lib.hid (look_miss hl)
      have HL := Lib.hid hl
      clear hl
      cases last with
      | true =>
        have hr : address L s.data.toList true = .bad 4 := by unfold address; rw [HN.out]; rw [HL.out]; rfl
        rw [hr]
        clear hr
        have hL : Kn [] w w [] := Kn.refl [] w; (try simp only [kfb] at hL); have hF := hL.facts; (try simp only [Facts, Dist, kfa, implies_true, forall_const] at hF); go_enter Tryz.func128, Tryz.ntmps128
        go_wp2_with (first | ((with_reducible refine kn_list_set ?_); (try clear hF); clear hL; intro W hL; (try simp only [kfb] at hL); have hF := hL.facts; (try simp only [Facts, Dist, kfa, implies_true, forall_const] at hF)) | (go_at_call 64; refine kn_calls ?_; (try clear hF); clear hL; intro W hL; (try simp only [kfb] at hL); have hF := hL.facts; (try simp only [Facts, Dist, kfa, implies_true, forall_const] at hF); (((with_reducible refine (named_eq s (by omega) _ HN _).mono ?_))); rintro e W ⟨rfl, hb⟩; replace hL := hL.below hb; clear hb; (try clear hF); (try simp only [kfb] at hL); have hF := hL.facts; (try simp only [Facts, Dist, kfa, implies_true, forall_const] at hF)) | (go_at_call 100; (((first | (with_reducible refine (need_ok _ _).mono ?_) | (with_reducible refine (need_bad _ _).mono ?_)))); rintro e w' ⟨rfl, rfl⟩) | (at_lookup; go_loud (refine wpList_miss rfl _ _ _ rfl strlaw under_labs _ zeroI ((hL.block mb (by omega) (by simp)).trans hmb) hM rfl _ _ rfl (strkey s hs) HH.out ?_); (try simp only [if_true])))
        exact ⟨rfl, rfl, hL.below0⟩
      | false =>
        have hr : address L s.data.toList false = .ok 0 := by unfold address; rw [HN.out]; rw [HL.out]; rfl
        rw [hr]
        clear hr
        have hL : Kn [] w w [] := Kn.refl [] w; (try simp only [kfb] at hL); have hF := hL.facts; (try simp only [Facts, Dist, kfa, implies_true, forall_const] at hF); go_enter Tryz.func128, Tryz.ntmps128
        go_wp2_with (first | ((with_reducible refine kn_list_set ?_); (try clear hF); clear hL; intro W hL; (try simp only [kfb] at hL); have hF := hL.facts; (try simp only [Facts, Dist, kfa, implies_true, forall_const] at hF)) | (go_at_call 64; refine kn_calls ?_; (try clear hF); clear hL; intro W hL; (try simp only [kfb] at hL); have hF := hL.facts; (try simp only [Facts, Dist, kfa, implies_true, forall_const] at hF); (((with_reducible refine (named_eq s (by omega) _ HN _).mono ?_))); rintro e W ⟨rfl, hb⟩; replace hL := hL.below hb; clear hb; (try clear hF); (try simp only [kfb] at hL); have hF := hL.facts; (try simp only [Facts, Dist, kfa, implies_true, forall_const] at hF)) | (go_at_call 100; (((first | (with_reducible refine (need_ok _ _).mono ?_) | (with_reducible refine (need_bad _ _).mono ?_)))); rintro e w' ⟨rfl, rfl⟩) | (at_lookup; go_loud (refine wpList_miss rfl _ _ _ rfl strlaw under_labs _ zeroI ((hL.block mb (by omega) (by simp)).trans hmb) hM rfl _ _ rfl (strkey s hs) HH.out ?_); (try simp only [if_true])))
        (try simp only [Exit.inBlock, Exit.then]); refine bodyPost_ret (by simp [results, Tryz.results128, go_sem, *]; try rfl) rfl ?_
        exact ⟨rfl, hL.below0⟩

end Go.Proofs.YtfdlifhkeicnnaaGreatDoor
/- A region whose order is drawn, walked once in the order of the text: its head is quiet in a class of worlds, its tail is forced. -/
namespace Go.Proofs.YtfdlifhkeicnnaaGreatDoor
open Go Go.RowKit

section
variable {P : Program} {ops : Array Oper} {md : Region.Mode} {C : World → Prop}

end

section
variable {P : Program}
def Fam (w : World) (ι : Type) (F : ι → World) : Prop :=
  (∀ n, Below w.heap.size w (F n)) ∧ (∀ n w', Below (F n).heap.size (F n) w' → ∃ m, w' = F m)
theorem Fam.ext {w : World} {ι : Type} {F : ι → World} (h : Fam w ι F) (n : ι) : Below w.heap.size w (F n) := h.1 n
theorem Fam.call {w : World} {ι : Type} {F : ι → World} (h : Fam w ι F) {n : ι} {f : FuncId} {args : Array Value} {v : Value}
    (c : Calls P f args (F n) fun e w' => e = .returned v ∧ Below (F n).heap.size (F n) w') : Calls P f args (F n) fun e w' => e = .returned v ∧ ∃ m, w' = F m :=
  c.mono fun _ w' hw => ⟨hw.1, h.2 n w' hw.2⟩
theorem Fam.same {ι : Type} {F : ι → World} {n : ι} {f : FuncId} {args : Array Value} {v : Value}
    (c : Calls P f args (F n) fun e w' => e = .returned v ∧ F n = w') : Calls P f args (F n) fun e w' => e = .returned v ∧ ∃ m, w' = F m :=
  c.mono fun _ _ hw => ⟨hw.1, n, hw.2.symm⟩
theorem next_is (s : ByteArray) (pos c : Nat) (w : World) (n : Nat) (ty : TypeId) (hc : s.data[pos]? = some (UInt8.ofNat c)) (hlt : c < 128) (hn : n = w.heap.size) :
    (Instr.next (.pointer (some ⟨n, 0, none⟩)) true ty).run P (w.iter s pos) = .ok (.tuple #[.bool true, .int .i64 pos, .int .i32 c]) (w.iter s (pos + 1)) := by
  subst hn
  obtain ⟨h, he⟩ := Array.getElem?_eq_some_iff.1 hc
  have e : (s[pos]'h).toNat = c := by
    show (s.data[pos]'h).toNat = c
    rw [he]; simp; omega
  rw [run_next_ascii w s pos ty h (by omega), e]
theorem next_end (s : ByteArray) (pos : Nat) (w : World) (n : Nat) (ty : TypeId) (hs : ¬ pos < s.size) (hn : n = w.heap.size) :
    (Instr.next (.pointer (some ⟨n, 0, none⟩)) true ty).run P (w.iter s pos) = .ok (.tuple #[.bool false]) (w.iter s pos) := by
  subst hn; exact run_next_end w s pos ty hs
theorem iter_cell (w : World) (s : ByteArray) (p b o : Nat) (h : b < w.heap.size) : (w.iter s p).cell? ⟨b, o, none⟩ = w.cell? ⟨b, o, none⟩ := World.cell?_alloc_lt w _ ⟨b, o, none⟩ h
end
end Go.Proofs.YtfdlifhkeicnnaaGreatDoor
/- Plain facts of the instruction set. -/
namespace Go.Proofs.YtfdlifhkeicnnaaGreatDoor
open Go Go.RowKit
set_option linter.unusedSimpArgs false
set_option linter.unusedVariables false
def formsL : List Int := [0, 2, 5, 5, 0, 0, 0, 0, 0, 0, 0, 0, 0, 0, 0, 0, 0, 0, 5, 4, 4, 4, 4, 1, 1, 6, 5, 5, 5, 1, 5, 6]

def kindsL : List ByteArray := [⟨#[]⟩, ⟨#[114]⟩, ⟨#[114, 114]⟩, ⟨#[114, 114, 114]⟩, ⟨#[114, 114, 111]⟩, ⟨#[114, 110]⟩, ⟨#[110]⟩]

def form (op : Int) : Int := if op < 0 ∨ 32 ≤ op then -1 else if 4 ≤ op ∧ op ≤ 17 then 3 else formsL.getD op.toNat 0

def inR (n a b : Int) : Bool := decide (a ≤ n ∧ n ≤ b)

def validF (f a b c : Int) : Bool :=
  if f = 0 then decide (a = 0 ∧ b = 0 ∧ c = 0)
  else if f = 1 then inR a 0 7 && decide (b = 0 ∧ c = 0)
  else if f = 2 then inR a 0 7 && inR b 0 7 && decide (c = 0)
  else if f = 3 then inR a 0 7 && inR b 0 7 && inR c 0 7
  else if f = 4 then inR a 0 7 && inR b 0 7 && inR c (-128) 127
  else if f = 5 then inR a 0 7 && inR b (-32768) 32767 && decide (c = 0)
  else if f = 6 then inR b (-32768) 32767 && decide (a = 0 ∧ c = 0)
  else false

def valid (op a b c : Int) : Bool := validF (form op) a b c

def namesB : List ByteArray := [⟨#[110, 111, 112]⟩, ⟨#[109, 111, 118]⟩, ⟨#[115, 101, 116]⟩, ⟨#[104, 105, 103, 104]⟩, ⟨#[97, 100, 100]⟩, ⟨#[115, 117, 98]⟩, ⟨#[109, 117, 108]⟩, ⟨#[100, 105, 118]⟩, ⟨#[109, 111, 100]⟩, ⟨#[97, 110, 100]⟩, ⟨#[111, 114]⟩, ⟨#[120, 111, 114]⟩, ⟨#[115, 104, 108]⟩, ⟨#[115, 104, 114]⟩, ⟨#[101, 113]⟩, ⟨#[110, 101]⟩, ⟨#[108, 116]⟩, ⟨#[108, 101]⟩, ⟨#[97, 100, 100, 105]⟩, ⟨#[108, 100, 98]⟩, ⟨#[108, 100, 119]⟩, ⟨#[115, 116, 98]⟩, ⟨#[115, 116, 119]⟩, ⟨#[112, 117, 115, 104]⟩, ⟨#[112, 111, 112]⟩, ⟨#[106, 109, 112]⟩, ⟨#[106, 122]⟩, ⟨#[106, 110, 122]⟩, ⟨#[108, 105, 110, 107]⟩, ⟨#[106, 114]⟩, ⟨#[97, 100, 100, 114]⟩, ⟨#[99, 97, 108, 108]⟩]
/-- The tables of the instruction set, and the powers of ten of strconv. -/
def TabI (w : World) : Prop := 7 ≤ w.heap.size ∧ (∀ k : Nat, k < 32 → w.cell? ⟨2, k, none⟩ = some (.int .i64 (formsL.getD k 0))) ∧ (∀ k : Nat, k < 7 → w.cell? ⟨0, k, none⟩ = some (.string (kindsL.getD k ByteArray.empty)))
  ∧ (∀ k : Nat, k < 32 → w.cell? ⟨1, k, none⟩ = some (.string (namesB.getD k ByteArray.empty))) ∧ Lib.TabIs Tryz.prog w "internal/strconv.uint64pow10" .u64 Lib.pow10Tab
theorem tabIs_belowI {w w' : World} {B : Nat} {n : String} {k : IntKind} {zs : List Int} {g : Nat} (hg : Tryz.prog.globalNamed n = some g) (h : Lib.TabIs Tryz.prog w n k zs) (hb : Below B w w') (hB : g < B) : Lib.TabIs Tryz.prog w' n k zs := by
  unfold Lib.TabIs at h ⊢
  rw [← h]
  unfold World.var?
  rw [hg]
  simp only [Option.bind_some, hb.block g hB]
theorem gPowI : Tryz.prog.globalNamed "internal/strconv.uint64pow10" = some 5 := by kernel_rfl
theorem TabI.below {w w' : World} {B : Nat} (h : TabI w) (hb : Below B w w') (hB : 7 ≤ B) : TabI w' := by
  refine ⟨Nat.le_trans h.1 hb.size, fun k hk => ?_, fun k hk => ?_, fun k hk => ?_, tabIs_belowI gPowI h.2.2.2.2 hb (Nat.lt_of_lt_of_le (by decide) hB)⟩
  · rw [hb.cell (show (⟨2, k, none⟩ : Addr).block < B from Nat.lt_of_lt_of_le (show 2 < 7 by decide) hB)]; exact h.2.1 k hk
  · rw [hb.cell (show (⟨0, k, none⟩ : Addr).block < B from Nat.lt_of_lt_of_le (show 0 < 7 by decide) hB)]; exact h.2.2.1 k hk
  · rw [hb.cell (show (⟨1, k, none⟩ : Addr).block < B from Nat.lt_of_lt_of_le (show 1 < 7 by decide) hB)]; exact h.2.2.2.1 k hk
theorem TabI.ext {w w' : World} (h : TabI w) (hb : Below w.heap.size w w') : TabI w' := h.below hb h.1
theorem TabI.alloc {w : World} (h : TabI w) (o : Obj) : TabI (w.alloc o) := h.ext ((Below.refl _ _).alloc (Nat.le_refl _) _)
theorem TabI.drew {w : World} (h : TabI w) : TabI w.drew := h.ext (Below.refl _ _).drew
end Go.Proofs.YtfdlifhkeicnnaaGreatDoor
namespace Go.Proofs.YtfdlifhkeicnnaaGreatDoor
open Go Go.RowKit
set_option linter.unusedSimpArgs false
set_option linter.unusedVariables false
theorem Form_any (op : Int) (w : World) (h : TabI w) :
    Calls Tryz.prog 39 #[.int .i64 op] w fun e w' => e = .returned (.int .i64 (form op)) ∧ w = w' := by
  have hk : 0 ≤ op → op < 32 → w.cell? ⟨2, op.toNat, none⟩ = some (.int .i64 (formsL.getD op.toNat 0)) := fun _ _ => h.2.1 _ (by omega)
  clear h
  go_enter Tryz.func39, Tryz.ntmps39
  go_wp2
  all_goals go_ret
  all_goals exact ⟨by unfold form; congr 2; (repeat' split) <;> first | rfl | omega | simp, rfl⟩

end Go.Proofs.YtfdlifhkeicnnaaGreatDoor
namespace Go.Proofs.YtfdlifhkeicnnaaGreatDoor
open Go Go.RowKit
set_option linter.unusedSimpArgs false
set_option linter.unusedVariables false
theorem Valid_no (op a b c : Int) (w : World) (h : TabI w) (hf : form op = -1)  :
    Calls Tryz.prog 18 #[.agg #[.int .i64 op, .int .i64 a, .int .i64 b, .int .i64 c]] w fun e w' => e = .returned (.bool (validF (-1) a b c)) ∧ Below w.heap.size w w' := by
  have hs := h.1
  have hs0 : 0 < w.heap.size := by omega
  have hs1 : 1 < w.heap.size := by omega
  go_enter Tryz.func18, Tryz.ntmps18
  go_wp2_with (first | (go_at_call 39; refine (Form_any _ _ (by repeat (first | exact h | refine TabI.alloc ?_ _ | refine TabI.drew ?_))).mono ?_; rintro e w' ⟨rfl, rfl⟩) | (go_at_call 40; go_enter Tryz.func40, Tryz.ntmps40))
  repeat any_goals (first | (rw [rounds_succ]; go_wp2_with (first | (go_at_call 39; refine (Form_any _ _ (by repeat (first | exact h | refine TabI.alloc ?_ _ | refine TabI.drew ?_))).mono ?_; rintro e w' ⟨rfl, rfl⟩) | (go_at_call 40; go_enter Tryz.func40, Tryz.ntmps40))) | (refine wp_loop_rounds 5 ?_) | (go_region; go_wp2_with (first | (go_at_call 39; refine (Form_any _ _ (by repeat (first | exact h | refine TabI.alloc ?_ _ | refine TabI.drew ?_))).mono ?_; rintro e w' ⟨rfl, rfl⟩) | (go_at_call 40; go_enter Tryz.func40, Tryz.ntmps40))))
  all_goals go_returns
  all_goals refine ⟨congrArg (fun z => Ending.returned (.bool z)) ?_, by (try unfold World.iter); go_grown⟩
  all_goals try simp only [Bool.not_eq_true', Bool.not_eq_false', bne_iff_ne, ne_eq, bne_eq_false_iff_eq, beq_iff_eq, beq_eq_false_iff_ne, Int.not_lt, Int.not_le] at *
  all_goals first | (subst_vars; rfl) | (simp [validF, inR]; omega)

theorem Valid_0 (op a b c : Int) (w : World) (h : TabI w) (hf : form op = 0)  :
    Calls Tryz.prog 18 #[.agg #[.int .i64 op, .int .i64 a, .int .i64 b, .int .i64 c]] w fun e w' => e = .returned (.bool (validF (0) a b c)) ∧ Below w.heap.size w w' := by
  have hs := h.1
  have hs0 : 0 < w.heap.size := by omega
  have hs1 : 1 < w.heap.size := by omega
  have hop : w.cell? ⟨0, 0, none⟩ = some (.string ⟨#[]⟩) := h.2.2.1 0 (by decide)
  have hic := iter_cell
  have hnE := fun w n ty => next_end (P := Tryz.prog) ⟨#[]⟩ 0 w n ty (by decide)
  go_enter Tryz.func18, Tryz.ntmps18
  go_wp2_with (first | (go_at_call 39; refine (Form_any _ _ (by repeat (first | exact h | refine TabI.alloc ?_ _ | refine TabI.drew ?_))).mono ?_; rintro e w' ⟨rfl, rfl⟩) | (go_at_call 40; go_enter Tryz.func40, Tryz.ntmps40))
  repeat any_goals (first | (rw [rounds_succ]; go_wp2_with (first | (go_at_call 39; refine (Form_any _ _ (by repeat (first | exact h | refine TabI.alloc ?_ _ | refine TabI.drew ?_))).mono ?_; rintro e w' ⟨rfl, rfl⟩) | (go_at_call 40; go_enter Tryz.func40, Tryz.ntmps40))) | (refine wp_loop_rounds 5 ?_) | (go_region; go_wp2_with (first | (go_at_call 39; refine (Form_any _ _ (by repeat (first | exact h | refine TabI.alloc ?_ _ | refine TabI.drew ?_))).mono ?_; rintro e w' ⟨rfl, rfl⟩) | (go_at_call 40; go_enter Tryz.func40, Tryz.ntmps40))))
  all_goals go_returns
  all_goals refine ⟨congrArg (fun z => Ending.returned (.bool z)) ?_, by (try unfold World.iter); go_grown⟩
  all_goals try simp only [Bool.not_eq_true', Bool.not_eq_false', bne_iff_ne, ne_eq, bne_eq_false_iff_eq, beq_iff_eq, beq_eq_false_iff_ne, Int.not_lt, Int.not_le] at *
  all_goals first | (subst_vars; rfl) | (simp [validF, inR]; omega)

theorem Valid_1 (op a b c : Int) (w : World) (h : TabI w) (hf : form op = 1)  :
    Calls Tryz.prog 18 #[.agg #[.int .i64 op, .int .i64 a, .int .i64 b, .int .i64 c]] w fun e w' => e = .returned (.bool (validF (1) a b c)) ∧ Below w.heap.size w w' := by
  have hs := h.1
  have hs0 : 0 < w.heap.size := by omega
  have hs1 : 1 < w.heap.size := by omega
  have hop : w.cell? ⟨0, 1, none⟩ = some (.string ⟨#[114]⟩) := h.2.2.1 1 (by decide)
  have hic := iter_cell
  have hn0 := fun w n ty => next_is (P := Tryz.prog) ⟨#[114]⟩ 0 114 w n ty rfl (by decide)
  have hnE := fun w n ty => next_end (P := Tryz.prog) ⟨#[114]⟩ 1 w n ty (by decide)
  go_enter Tryz.func18, Tryz.ntmps18
  go_wp2_with (first | (go_at_call 39; refine (Form_any _ _ (by repeat (first | exact h | refine TabI.alloc ?_ _ | refine TabI.drew ?_))).mono ?_; rintro e w' ⟨rfl, rfl⟩) | (go_at_call 40; go_enter Tryz.func40, Tryz.ntmps40))
  repeat any_goals (first | (rw [rounds_succ]; go_wp2_with (first | (go_at_call 39; refine (Form_any _ _ (by repeat (first | exact h | refine TabI.alloc ?_ _ | refine TabI.drew ?_))).mono ?_; rintro e w' ⟨rfl, rfl⟩) | (go_at_call 40; go_enter Tryz.func40, Tryz.ntmps40))) | (refine wp_loop_rounds 5 ?_) | (go_region; go_wp2_with (first | (go_at_call 39; refine (Form_any _ _ (by repeat (first | exact h | refine TabI.alloc ?_ _ | refine TabI.drew ?_))).mono ?_; rintro e w' ⟨rfl, rfl⟩) | (go_at_call 40; go_enter Tryz.func40, Tryz.ntmps40))))
  all_goals go_returns
  all_goals refine ⟨congrArg (fun z => Ending.returned (.bool z)) ?_, by (try unfold World.iter); go_grown⟩
  all_goals try simp only [Bool.not_eq_true', Bool.not_eq_false', bne_iff_ne, ne_eq, bne_eq_false_iff_eq, beq_iff_eq, beq_eq_false_iff_ne, Int.not_lt, Int.not_le] at *
  all_goals first | (subst_vars; rfl) | (simp [validF, inR]; omega)

theorem Valid_2 (op a b c : Int) (w : World) (h : TabI w) (hf : form op = 2)  :
    Calls Tryz.prog 18 #[.agg #[.int .i64 op, .int .i64 a, .int .i64 b, .int .i64 c]] w fun e w' => e = .returned (.bool (validF (2) a b c)) ∧ Below w.heap.size w w' := by
  have hs := h.1
  have hs0 : 0 < w.heap.size := by omega
  have hs1 : 1 < w.heap.size := by omega
  have hop : w.cell? ⟨0, 2, none⟩ = some (.string ⟨#[114, 114]⟩) := h.2.2.1 2 (by decide)
  have hic := iter_cell
  have hn0 := fun w n ty => next_is (P := Tryz.prog) ⟨#[114, 114]⟩ 0 114 w n ty rfl (by decide)
  have hn1 := fun w n ty => next_is (P := Tryz.prog) ⟨#[114, 114]⟩ 1 114 w n ty rfl (by decide)
  have hnE := fun w n ty => next_end (P := Tryz.prog) ⟨#[114, 114]⟩ 2 w n ty (by decide)
  go_enter Tryz.func18, Tryz.ntmps18
  go_wp2_with (first | (go_at_call 39; refine (Form_any _ _ (by repeat (first | exact h | refine TabI.alloc ?_ _ | refine TabI.drew ?_))).mono ?_; rintro e w' ⟨rfl, rfl⟩) | (go_at_call 40; go_enter Tryz.func40, Tryz.ntmps40))
  repeat any_goals (first | (rw [rounds_succ]; go_wp2_with (first | (go_at_call 39; refine (Form_any _ _ (by repeat (first | exact h | refine TabI.alloc ?_ _ | refine TabI.drew ?_))).mono ?_; rintro e w' ⟨rfl, rfl⟩) | (go_at_call 40; go_enter Tryz.func40, Tryz.ntmps40))) | (refine wp_loop_rounds 5 ?_) | (go_region; go_wp2_with (first | (go_at_call 39; refine (Form_any _ _ (by repeat (first | exact h | refine TabI.alloc ?_ _ | refine TabI.drew ?_))).mono ?_; rintro e w' ⟨rfl, rfl⟩) | (go_at_call 40; go_enter Tryz.func40, Tryz.ntmps40))))
  all_goals go_returns
  all_goals refine ⟨congrArg (fun z => Ending.returned (.bool z)) ?_, by (try unfold World.iter); go_grown⟩
  all_goals try simp only [Bool.not_eq_true', Bool.not_eq_false', bne_iff_ne, ne_eq, bne_eq_false_iff_eq, beq_iff_eq, beq_eq_false_iff_ne, Int.not_lt, Int.not_le] at *
  all_goals first | (subst_vars; rfl) | (simp [validF, inR]; omega)

theorem Valid_3 (op a b c : Int) (w : World) (h : TabI w) (hf : form op = 3)  :
    Calls Tryz.prog 18 #[.agg #[.int .i64 op, .int .i64 a, .int .i64 b, .int .i64 c]] w fun e w' => e = .returned (.bool (validF (3) a b c)) ∧ Below w.heap.size w w' := by
  have hs := h.1
  have hs0 : 0 < w.heap.size := by omega
  have hs1 : 1 < w.heap.size := by omega
  have hop : w.cell? ⟨0, 3, none⟩ = some (.string ⟨#[114, 114, 114]⟩) := h.2.2.1 3 (by decide)
  have hic := iter_cell
  have hn0 := fun w n ty => next_is (P := Tryz.prog) ⟨#[114, 114, 114]⟩ 0 114 w n ty rfl (by decide)
  have hn1 := fun w n ty => next_is (P := Tryz.prog) ⟨#[114, 114, 114]⟩ 1 114 w n ty rfl (by decide)
  have hn2 := fun w n ty => next_is (P := Tryz.prog) ⟨#[114, 114, 114]⟩ 2 114 w n ty rfl (by decide)
  have hnE := fun w n ty => next_end (P := Tryz.prog) ⟨#[114, 114, 114]⟩ 3 w n ty (by decide)
  go_enter Tryz.func18, Tryz.ntmps18
  go_wp2_with (first | (go_at_call 39; refine (Form_any _ _ (by repeat (first | exact h | refine TabI.alloc ?_ _ | refine TabI.drew ?_))).mono ?_; rintro e w' ⟨rfl, rfl⟩) | (go_at_call 40; go_enter Tryz.func40, Tryz.ntmps40))
  repeat any_goals (first | (rw [rounds_succ]; go_wp2_with (first | (go_at_call 39; refine (Form_any _ _ (by repeat (first | exact h | refine TabI.alloc ?_ _ | refine TabI.drew ?_))).mono ?_; rintro e w' ⟨rfl, rfl⟩) | (go_at_call 40; go_enter Tryz.func40, Tryz.ntmps40))) | (refine wp_loop_rounds 5 ?_) | (go_region; go_wp2_with (first | (go_at_call 39; refine (Form_any _ _ (by repeat (first | exact h | refine TabI.alloc ?_ _ | refine TabI.drew ?_))).mono ?_; rintro e w' ⟨rfl, rfl⟩) | (go_at_call 40; go_enter Tryz.func40, Tryz.ntmps40))))
  all_goals go_returns
  all_goals refine ⟨congrArg (fun z => Ending.returned (.bool z)) ?_, by (try unfold World.iter); go_grown⟩
  all_goals try simp only [Bool.not_eq_true', Bool.not_eq_false', bne_iff_ne, ne_eq, bne_eq_false_iff_eq, beq_iff_eq, beq_eq_false_iff_ne, Int.not_lt, Int.not_le] at *
  all_goals first | (subst_vars; rfl) | (simp [validF, inR]; omega)

theorem Valid_4 (op a b c : Int) (w : World) (h : TabI w) (hf : form op = 4)  :
    Calls Tryz.prog 18 #[.agg #[.int .i64 op, .int .i64 a, .int .i64 b, .int .i64 c]] w fun e w' => e = .returned (.bool (validF (4) a b c)) ∧ Below w.heap.size w w' := by
  have hs := h.1
  have hs0 : 0 < w.heap.size := by omega
  have hs1 : 1 < w.heap.size := by omega
  have hop : w.cell? ⟨0, 4, none⟩ = some (.string ⟨#[114, 114, 111]⟩) := h.2.2.1 4 (by decide)
  have hic := iter_cell
  have hn0 := fun w n ty => next_is (P := Tryz.prog) ⟨#[114, 114, 111]⟩ 0 114 w n ty rfl (by decide)
  have hn1 := fun w n ty => next_is (P := Tryz.prog) ⟨#[114, 114, 111]⟩ 1 114 w n ty rfl (by decide)
  have hn2 := fun w n ty => next_is (P := Tryz.prog) ⟨#[114, 114, 111]⟩ 2 111 w n ty rfl (by decide)
  have hnE := fun w n ty => next_end (P := Tryz.prog) ⟨#[114, 114, 111]⟩ 3 w n ty (by decide)
  go_enter Tryz.func18, Tryz.ntmps18
  go_wp2_with (first | (go_at_call 39; refine (Form_any _ _ (by repeat (first | exact h | refine TabI.alloc ?_ _ | refine TabI.drew ?_))).mono ?_; rintro e w' ⟨rfl, rfl⟩) | (go_at_call 40; go_enter Tryz.func40, Tryz.ntmps40))
  repeat any_goals (first | (rw [rounds_succ]; go_wp2_with (first | (go_at_call 39; refine (Form_any _ _ (by repeat (first | exact h | refine TabI.alloc ?_ _ | refine TabI.drew ?_))).mono ?_; rintro e w' ⟨rfl, rfl⟩) | (go_at_call 40; go_enter Tryz.func40, Tryz.ntmps40))) | (refine wp_loop_rounds 5 ?_) | (go_region; go_wp2_with (first | (go_at_call 39; refine (Form_any _ _ (by repeat (first | exact h | refine TabI.alloc ?_ _ | refine TabI.drew ?_))).mono ?_; rintro e w' ⟨rfl, rfl⟩) | (go_at_call 40; go_enter Tryz.func40, Tryz.ntmps40))))
  all_goals go_returns
  all_goals refine ⟨congrArg (fun z => Ending.returned (.bool z)) ?_, by (try unfold World.iter); go_grown⟩
  all_goals try simp only [Bool.not_eq_true', Bool.not_eq_false', bne_iff_ne, ne_eq, bne_eq_false_iff_eq, beq_iff_eq, beq_eq_false_iff_ne, Int.not_lt, Int.not_le] at *
  all_goals first | (subst_vars; rfl) | (simp [validF, inR]; omega)

theorem Valid_5 (op a b c : Int) (w : World) (h : TabI w) (hf : form op = 5)  :
    Calls Tryz.prog 18 #[.agg #[.int .i64 op, .int .i64 a, .int .i64 b, .int .i64 c]] w fun e w' => e = .returned (.bool (validF (5) a b c)) ∧ Below w.heap.size w w' := by
  have hs := h.1
  have hs0 : 0 < w.heap.size := by omega
  have hs1 : 1 < w.heap.size := by omega
  have hop : w.cell? ⟨0, 5, none⟩ = some (.string ⟨#[114, 110]⟩) := h.2.2.1 5 (by decide)
  have hic := iter_cell
  have hn0 := fun w n ty => next_is (P := Tryz.prog) ⟨#[114, 110]⟩ 0 114 w n ty rfl (by decide)
  have hn1 := fun w n ty => next_is (P := Tryz.prog) ⟨#[114, 110]⟩ 1 110 w n ty rfl (by decide)
  have hnE := fun w n ty => next_end (P := Tryz.prog) ⟨#[114, 110]⟩ 2 w n ty (by decide)
  go_enter Tryz.func18, Tryz.ntmps18
  go_wp2_with (first | (go_at_call 39; refine (Form_any _ _ (by repeat (first | exact h | refine TabI.alloc ?_ _ | refine TabI.drew ?_))).mono ?_; rintro e w' ⟨rfl, rfl⟩) | (go_at_call 40; go_enter Tryz.func40, Tryz.ntmps40))
  repeat any_goals (first | (rw [rounds_succ]; go_wp2_with (first | (go_at_call 39; refine (Form_any _ _ (by repeat (first | exact h | refine TabI.alloc ?_ _ | refine TabI.drew ?_))).mono ?_; rintro e w' ⟨rfl, rfl⟩) | (go_at_call 40; go_enter Tryz.func40, Tryz.ntmps40))) | (refine wp_loop_rounds 5 ?_) | (go_region; go_wp2_with (first | (go_at_call 39; refine (Form_any _ _ (by repeat (first | exact h | refine TabI.alloc ?_ _ | refine TabI.drew ?_))).mono ?_; rintro e w' ⟨rfl, rfl⟩) | (go_at_call 40; go_enter Tryz.func40, Tryz.ntmps40))))
  all_goals go_returns
  all_goals refine ⟨congrArg (fun z => Ending.returned (.bool z)) ?_, by (try unfold World.iter); go_grown⟩
  all_goals try simp only [Bool.not_eq_true', Bool.not_eq_false', bne_iff_ne, ne_eq, bne_eq_false_iff_eq, beq_iff_eq, beq_eq_false_iff_ne, Int.not_lt, Int.not_le] at *
  all_goals first | (subst_vars; rfl) | (simp [validF, inR]; omega)

theorem Valid_6z (op a b c : Int) (w : World) (h : TabI w) (hf : form op = 6) (ha : (a == 0) = true) :
    Calls Tryz.prog 18 #[.agg #[.int .i64 op, .int .i64 a, .int .i64 b, .int .i64 c]] w fun e w' => e = .returned (.bool (validF (6) a b c)) ∧ Below w.heap.size w w' := by
  have hs := h.1
  have hs0 : 0 < w.heap.size := by omega
  have hs1 : 1 < w.heap.size := by omega
  have hop : w.cell? ⟨0, 6, none⟩ = some (.string ⟨#[110]⟩) := h.2.2.1 6 (by decide)
  have hic := iter_cell
  have hn0 := fun w n ty => next_is (P := Tryz.prog) ⟨#[110]⟩ 0 110 w n ty rfl (by decide)
  have hnE := fun w n ty => next_end (P := Tryz.prog) ⟨#[110]⟩ 1 w n ty (by decide)
  go_enter Tryz.func18, Tryz.ntmps18
  go_wp2_with (first | (go_at_call 39; refine (Form_any _ _ (by repeat (first | exact h | refine TabI.alloc ?_ _ | refine TabI.drew ?_))).mono ?_; rintro e w' ⟨rfl, rfl⟩) | (go_at_call 40; go_enter Tryz.func40, Tryz.ntmps40))
  repeat any_goals (first | (rw [rounds_succ]; go_wp2_with (first | (go_at_call 39; refine (Form_any _ _ (by repeat (first | exact h | refine TabI.alloc ?_ _ | refine TabI.drew ?_))).mono ?_; rintro e w' ⟨rfl, rfl⟩) | (go_at_call 40; go_enter Tryz.func40, Tryz.ntmps40))) | (refine wp_loop_rounds 5 ?_) | (go_region; go_wp2_with (first | (go_at_call 39; refine (Form_any _ _ (by repeat (first | exact h | refine TabI.alloc ?_ _ | refine TabI.drew ?_))).mono ?_; rintro e w' ⟨rfl, rfl⟩) | (go_at_call 40; go_enter Tryz.func40, Tryz.ntmps40))))
  all_goals go_returns
  all_goals refine ⟨congrArg (fun z => Ending.returned (.bool z)) ?_, by (try unfold World.iter); go_grown⟩
  all_goals try simp only [Bool.not_eq_true', Bool.not_eq_false', bne_iff_ne, ne_eq, bne_eq_false_iff_eq, beq_iff_eq, beq_eq_false_iff_ne, Int.not_lt, Int.not_le] at *
  all_goals first | (subst_vars; rfl) | (simp [validF, inR]; omega)

theorem Valid_6 (op a b c : Int) (w : World) (h : TabI w) (hf : form op = 6) (ha : (a == 0) = false) :
    Calls Tryz.prog 18 #[.agg #[.int .i64 op, .int .i64 a, .int .i64 b, .int .i64 c]] w fun e w' => e = .returned (.bool (validF (6) a b c)) ∧ Below w.heap.size w w' := by
  have hs := h.1
  have hs0 : 0 < w.heap.size := by omega
  have hs1 : 1 < w.heap.size := by omega
  have hop : w.cell? ⟨0, 6, none⟩ = some (.string ⟨#[110]⟩) := h.2.2.1 6 (by decide)
  have hic := iter_cell
  have hn0 := fun w n ty => next_is (P := Tryz.prog) ⟨#[110]⟩ 0 110 w n ty rfl (by decide)
  have hnE := fun w n ty => next_end (P := Tryz.prog) ⟨#[110]⟩ 1 w n ty (by decide)
  go_enter Tryz.func18, Tryz.ntmps18
  go_wp2_with (first | (go_at_call 39; refine (Form_any _ _ (by repeat (first | exact h | refine TabI.alloc ?_ _ | refine TabI.drew ?_))).mono ?_; rintro e w' ⟨rfl, rfl⟩) | (go_at_call 40; go_enter Tryz.func40, Tryz.ntmps40))
  repeat any_goals (first | (rw [rounds_succ]; go_wp2_with (first | (go_at_call 39; refine (Form_any _ _ (by repeat (first | exact h | refine TabI.alloc ?_ _ | refine TabI.drew ?_))).mono ?_; rintro e w' ⟨rfl, rfl⟩) | (go_at_call 40; go_enter Tryz.func40, Tryz.ntmps40))) | (refine wp_loop_rounds 5 ?_) | (go_region; go_wp2_with (first | (go_at_call 39; refine (Form_any _ _ (by repeat (first | exact h | refine TabI.alloc ?_ _ | refine TabI.drew ?_))).mono ?_; rintro e w' ⟨rfl, rfl⟩) | (go_at_call 40; go_enter Tryz.func40, Tryz.ntmps40))))
  all_goals go_returns
  all_goals refine ⟨congrArg (fun z => Ending.returned (.bool z)) ?_, by (try unfold World.iter); go_grown⟩
  all_goals try simp only [Bool.not_eq_true', Bool.not_eq_false', bne_iff_ne, ne_eq, bne_eq_false_iff_eq, beq_iff_eq, beq_eq_false_iff_ne, Int.not_lt, Int.not_le] at *
  all_goals first | (subst_vars; rfl) | (simp [validF, inR]; omega)

theorem form_vals (op : Int) : form op = -1 ∨ form op = 0 ∨ form op = 1 ∨ form op = 2 ∨ form op = 3 ∨ form op = 4 ∨ form op = 5 ∨ form op = 6 := by
  by_cases h : op < 0 ∨ 32 ≤ op
  · left; unfold form; rw [if_pos h]
  · obtain ⟨k, rfl⟩ := Int.eq_ofNat_of_zero_le (show 0 ≤ op by omega)
    have hk : k < 32 := by omega
    have : ∀ k : Fin 32, form (k.val : Int) = -1 ∨ form (k.val : Int) = 0 ∨ form (k.val : Int) = 1 ∨ form (k.val : Int) = 2 ∨ form (k.val : Int) = 3 ∨ form (k.val : Int) = 4 ∨ form (k.val : Int) = 5 ∨ form (k.val : Int) = 6 := by decide
    exact this ⟨k, hk⟩

theorem Valid_any (op a b c : Int) (w : World) (h : TabI w) :
    Calls Tryz.prog 18 #[.agg #[.int .i64 op, .int .i64 a, .int .i64 b, .int .i64 c]] w fun e w' => e = .returned (.bool (valid op a b c)) ∧ Below w.heap.size w w' := by
  unfold valid
  rcases form_vals op with hf | hf | hf | hf | hf | hf | hf | hf <;> rw [hf]
  · exact Valid_no op a b c w h hf
  · exact Valid_0 op a b c w h hf
  · exact Valid_1 op a b c w h hf
  · exact Valid_2 op a b c w h hf
  · exact Valid_3 op a b c w h hf
  · exact Valid_4 op a b c w h hf
  · exact Valid_5 op a b c w h hf
  · cases ha : (a == 0)
    · exact Valid_6 op a b c w h hf ha
    · exact Valid_6z op a b c w h hf ha

end Go.Proofs.YtfdlifhkeicnnaaGreatDoor
namespace Go.Proofs.YtfdlifhkeicnnaaGreatDoor
open Go Go.RowKit
set_option linter.unusedSimpArgs false
set_option linter.unusedVariables false

def numB (op : Int) : Bool := form op == 5 || form op == 6
theorem numbered_any (op : Int) (w : World) (hT : TabI w) :
    Calls Tryz.prog 42 #[.int .i64 op] w fun e w' => e = .returned (.bool (numB op)) ∧ w = w' := by
  unfold numB
  go_enter Tryz.func42, Tryz.ntmps42
  cases h5 : (form op == 5) <;> cases h6 : (form op == 6)
  all_goals
    go_wp2_with (go_at_call 39; (with_reducible refine (Form_any _ _ hT).mono ?_); rintro e w' ⟨rfl, rfl⟩)
    go_ret
    exact ⟨rfl, rfl⟩
/-- The bytes of an instruction. -/
def encB (op a b c : Int) : ByteArray := ⟨#[UInt8.ofNat (op % 256).toNat, UInt8.ofNat (a % 256).toNat, UInt8.ofNat (b % 256).toNat, UInt8.ofNat ((if numB op then b / 256 else c) % 256).toNat]⟩
def encS (op a b c : Int) : ByteArray := if valid op a b c then encB op a b c else ⟨#[]⟩
/-- Four bytes of the call's own, read as a string. -/
theorem conv4 (w : World) (x y z t : Int) : (convert 47 9 (.slice (some ⟨w.heap.size, 0, none⟩) 4 4)).run Tryz.prog (w.alloc (.cells #[.int .u8 x, .int .u8 y, .int .u8 z, .int .u8 t] 5)) =
    .ok (.string ⟨#[UInt8.ofNat x.toNat, UInt8.ofNat y.toNat, UInt8.ofNat z.toNat, UInt8.ofNat t.toNat]⟩) (w.alloc (.cells #[.int .u8 x, .int .u8 y, .int .u8 z, .int .u8 t] 5)) :=
  run_convert_bytes_arg (P := Tryz.prog) _ 47 5 Tryz.underlying47 Tryz.underlying5 w.heap.size 0 4 4 [x, y, z, t] rfl (fun i hi => by
    have : i = 0 ∨ i = 1 ∨ i = 2 ∨ i = 3 := by omega
    rcases this with h | h | h | h <;> subst h <;> (rw [World.cell?_alloc_new]; rfl)) 9 Tryz.underlying9
set_option maxRecDepth 20000 in
set_option maxHeartbeats 2000000 in
theorem Encode_any (op a b c : Int) (w : World) (hT : TabI w) :
    Calls Tryz.prog 20 #[.agg #[.int .i64 op, .int .i64 a, .int .i64 b, .int .i64 c]] w fun e w' => e = .returned (.string (encS op a b c)) ∧ Below w.heap.size w w' := by
  have hcv := @conv4
  cases hv : valid op a b c
  · have hL : Kn [] w w [] := Kn.refl [] w; (try simp only [kfb] at hL); have hF := hL.facts; (try simp only [Facts, Dist, kfa, implies_true, forall_const] at hF); go_enter Tryz.func20, Tryz.ntmps20
    go_wp2_with (first | ((with_reducible refine kn_list_set ?_); (try clear hF); clear hL; intro W hL; (try simp only [kfb] at hL); have hF := hL.facts; (try simp only [Facts, Dist, kfa, implies_true, forall_const] at hF)) | (go_at_call 18; refine kn_calls ?_; (try clear hF); clear hL; intro W hL; (try simp only [kfb] at hL); have hF := hL.facts; (try simp only [Facts, Dist, kfa, implies_true, forall_const] at hF); (((with_reducible refine (Valid_any _ _ _ _ _ (hT.ext hL.below0)).mono ?_))); rintro e W ⟨rfl, hb⟩; replace hL := hL.below hb; clear hb; (try clear hF); (try simp only [kfb] at hL); have hF := hL.facts; (try simp only [Facts, Dist, kfa, implies_true, forall_const] at hF)) | (go_at_call 42; refine kn_calls ?_; (try clear hF); clear hL; intro W hL; (try simp only [kfb] at hL); have hF := hL.facts; (try simp only [Facts, Dist, kfa, implies_true, forall_const] at hF); (with_reducible refine (numbered_any _ _ (hT.ext hL.below0)).mono ?_); rintro e w' ⟨rfl, rfl⟩))
    (try simp only [Exit.inBlock, Exit.then]); refine bodyPost_ret (by simp [results, Tryz.results20, go_sem, *]; try rfl) rfl ?_
    exact ⟨by rw [encS, if_neg (by rw [hv]; simp)], kn_here.below0⟩
  · cases hn : numB op
    · have hL : Kn [] w w [] := Kn.refl [] w; (try simp only [kfb] at hL); have hF := hL.facts; (try simp only [Facts, Dist, kfa, implies_true, forall_const] at hF); go_enter Tryz.func20, Tryz.ntmps20
      go_wp2_with (first | ((with_reducible refine kn_list_set ?_); (try clear hF); clear hL; intro W hL; (try simp only [kfb] at hL); have hF := hL.facts; (try simp only [Facts, Dist, kfa, implies_true, forall_const] at hF)) | (go_at_call 18; refine kn_calls ?_; (try clear hF); clear hL; intro W hL; (try simp only [kfb] at hL); have hF := hL.facts; (try simp only [Facts, Dist, kfa, implies_true, forall_const] at hF); (((with_reducible refine (Valid_any _ _ _ _ _ (hT.ext hL.below0)).mono ?_))); rintro e W ⟨rfl, hb⟩; replace hL := hL.below hb; clear hb; (try clear hF); (try simp only [kfb] at hL); have hF := hL.facts; (try simp only [Facts, Dist, kfa, implies_true, forall_const] at hF)) | (go_at_call 42; refine kn_calls ?_; (try clear hF); clear hL; intro W hL; (try simp only [kfb] at hL); have hF := hL.facts; (try simp only [Facts, Dist, kfa, implies_true, forall_const] at hF); (with_reducible refine (numbered_any _ _ (hT.ext hL.below0)).mono ?_); rintro e w' ⟨rfl, rfl⟩))
      (try simp only [Exit.inBlock, Exit.then]); refine bodyPost_ret (by simp [results, Tryz.results20, go_sem, *]; try rfl) rfl ?_
      exact ⟨by rw [encS, if_pos hv, encB, hn]; rfl, kn_here.below0⟩
    · have hL : Kn [] w w [] := Kn.refl [] w; (try simp only [kfb] at hL); have hF := hL.facts; (try simp only [Facts, Dist, kfa, implies_true, forall_const] at hF); go_enter Tryz.func20, Tryz.ntmps20
      go_wp2_with (first | ((with_reducible refine kn_list_set ?_); (try clear hF); clear hL; intro W hL; (try simp only [kfb] at hL); have hF := hL.facts; (try simp only [Facts, Dist, kfa, implies_true, forall_const] at hF)) | (go_at_call 18; refine kn_calls ?_; (try clear hF); clear hL; intro W hL; (try simp only [kfb] at hL); have hF := hL.facts; (try simp only [Facts, Dist, kfa, implies_true, forall_const] at hF); (((with_reducible refine (Valid_any _ _ _ _ _ (hT.ext hL.below0)).mono ?_))); rintro e W ⟨rfl, hb⟩; replace hL := hL.below hb; clear hb; (try clear hF); (try simp only [kfb] at hL); have hF := hL.facts; (try simp only [Facts, Dist, kfa, implies_true, forall_const] at hF)) | (go_at_call 42; refine kn_calls ?_; (try clear hF); clear hL; intro W hL; (try simp only [kfb] at hL); have hF := hL.facts; (try simp only [Facts, Dist, kfa, implies_true, forall_const] at hF); (with_reducible refine (numbered_any _ _ (hT.ext hL.below0)).mono ?_); rintro e w' ⟨rfl, rfl⟩))
      (try simp only [Exit.inBlock, Exit.then]); refine bodyPost_ret (by simp [results, Tryz.results20, go_sem, *]; try rfl) rfl ?_
      exact ⟨by rw [encS, if_pos hv, encB, hn]; rfl, kn_here.below0⟩

end Go.Proofs.YtfdlifhkeicnnaaGreatDoor
namespace Go.Proofs.YtfdlifhkeicnnaaGreatDoor
open Go Go.RowKit
set_option linter.unusedSimpArgs false
set_option linter.unusedVariables false

theorem namesB_len : namesB.length = 32 := rfl
def findI (s : ByteArray) : Int := Lib.idxOfS namesB s
theorem findI_lt (s : ByteArray) : -1 ≤ findI s ∧ findI s < 32 := by
  unfold findI Lib.idxOfS
  have key : ∀ (zs : List ByteArray) (i : Nat), -1 ≤ Lib.idxFromS zs s i ∧ (Lib.idxFromS zs s i < i + zs.length) := by
    intro zs
    induction zs with
    | nil => intro i; simp [Lib.idxFromS]; omega
    | cons z zs ih =>
      intro i
      unfold Lib.idxFromS
      split
      · simp; omega
      · have := ih (i + 1); simp at this ⊢; omega
  have := key namesB 0
  rw [namesB_len] at this
  simpa using this
theorem Index_names (s : ByteArray) (w : World) (hT : TabI w) : Calls Tryz.prog 51 #[.slice (some ⟨1, 0, none⟩) 32 32, .string s] w fun e w' => e = .returned (.int .i64 (findI s)) ∧ w = w' :=
  (Tryz.slices_Index_string 1 0 32 32 namesB s w (by decide) (by decide) (fun j hj => by rw [Nat.zero_add]; exact hT.2.2.2.1 j hj)).mono fun e w' ⟨h1, h2⟩ => ⟨h1, h2.symm⟩
theorem Find_any (s : ByteArray) (w : World) (hT : TabI w) : Calls Tryz.prog 61 #[.string s] w fun e w' => e = .returned (.tuple #[.int .i64 (max (findI s) 0), .bool (decide (0 ≤ findI s))]) ∧ Below w.heap.size w w' := by
  have hL : Kn [] w w [] := Kn.refl [] w; (try simp only [kfb] at hL); have hF := hL.facts; (try simp only [Facts, Dist, kfa, implies_true, forall_const] at hF); go_enter Tryz.func61, Tryz.ntmps61
  go_wp2_with (first | ((with_reducible refine kn_list_set ?_); (try clear hF); clear hL; intro W hL; (try simp only [kfb] at hL); have hF := hL.facts; (try simp only [Facts, Dist, kfa, implies_true, forall_const] at hF)) | (go_at_call 51; refine kn_calls ?_; (try clear hF); clear hL; intro W hL; (try simp only [kfb] at hL); have hF := hL.facts; (try simp only [Facts, Dist, kfa, implies_true, forall_const] at hF); (with_reducible refine (Index_names s _ (hT.ext hL.below0)).mono ?_); rintro e w' ⟨rfl, rfl⟩))
  all_goals (try simp only [Exit.inBlock, Exit.then]); refine bodyPost_ret (by simp [results, Tryz.results61, go_sem, *]; try rfl) rfl ?_
  all_goals exact ⟨by first | rfl | (congr 4; simp; omega), kn_here.below0⟩
end Go.Proofs.YtfdlifhkeicnnaaGreatDoor
namespace Go.Proofs.YtfdlifhkeicnnaaGreatDoor
open Go Go.RowKit
set_option linter.unusedSimpArgs false
set_option linter.unusedVariables false
theorem Index_any (s : ByteArray) (c : UInt8) (r : Int) (hr : Lib.indexByte s.data.toList c = r) (n : Int) (hn : (c.toNat : Int) = n) (w : World) :
    Calls Tryz.prog 122 #[.string s, .int .u8 n] w fun x w' => x = .returned (.int .i64 r) ∧ w' = w :=
  (Tryz.strings_IndexByte s n w).mono fun x w' ⟨h1, h2⟩ => ⟨by rw [h1, ← hr, ← hn]; congr 3; simp, h2⟩

end Go.Proofs.YtfdlifhkeicnnaaGreatDoor
