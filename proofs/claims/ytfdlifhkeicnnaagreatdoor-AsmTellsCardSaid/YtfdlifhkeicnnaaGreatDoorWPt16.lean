/- Lemmas and walks for the law LawTells (part 16). -/
import Derived.Test.YtfdlifhkeicnnaaGreatDoorWPt15
import Derived.Test.YtfdlifhkeicnnaaGreatDoorProg
import Derived.WalkKit
import Derived.Handy
import Derived.Deep.Light
import Derived.WalkSmall
import Derived.StillTailTactics
import Derived.Lib.Hide
import Derived.Lib.AppendStr
import Derived.Deep.LoopGhost
set_option maxRecDepth 20000
set_option maxHeartbeats 4000000
set_option linter.unusedVariables false
set_option linter.unusedSimpArgs false
namespace Go.Proofs.YtfdlifhkeicnnaaGreatDoor
open Go Go.RowKit
/-- A slice's elements, in a block that is none of Y. -/
def RowO (Y : List Nat) (w : World) (v : Value) (xs : List Value) : Prop := ∃ ao cap, v = .slice ao xs.length cap ∧ ∀ (j : Nat) x, xs[j]? = some x → ∃ g o, ao = some ⟨g, o, none⟩ ∧ g ∉ Y ∧ w.cell? ⟨g, o + j, none⟩ = some x
theorem RowO.row {Y : List Nat} {w : World} {v : Value} {xs : List Value} (h : RowO Y w v xs) : Row w v xs := by
 obtain ⟨ao, cap, h1, h2⟩ := h
 exact ⟨ao, cap, h1, fun j x hx => by obtain ⟨g, o, h3, _, h4⟩ := h2 j x hx; exact ⟨g, o, h3, h4⟩⟩
theorem RowO.kn {Y Y' : List Nat} {w w' : World} {L : List (Nat × Obj)} {v : Value} {xs : List Value} (h : RowO Y w v xs) (k : Kn Y w w' L) (hy : ∀ y ∈ Y', y ∈ Y ∨ w.heap.size ≤ y) : RowO Y' w' v xs := by
 obtain ⟨ao, cap, h1, h2⟩ := h
 refine ⟨ao, cap, h1, fun j x hx => ?_⟩
 obtain ⟨g, o, h3, h4, h5⟩ := h2 j x hx
 have hlt := cell_lt h5
 refine ⟨g, o, h3, fun hm => ?_, (cell_same (k.block g hlt h4)).trans h5⟩
 rcases hy g hm with e | e
 ·exact h4 e
 ·omega
theorem rowO_open {Y : List Nat} {w : World} {vo : Value} {ops : List Bytes} (h : RowO Y w vo (sv ops)) : ∃ ao cap, vo = .slice ao ops.length cap ∧ ∀ (j : Nat) p, ops[j]? = some p → ∃ g o, ao = some ⟨g, o, none⟩ ∧ g ∉ Y ∧ g < w.heap.size ∧ w.cell? ⟨g, o + j, none⟩ = some (.string ⟨p.toArray⟩) := by
 obtain ⟨ao, cap, h1, h2⟩ := h
 refine ⟨ao, cap, by rw [h1]; simp [sv], fun j p hp => ?_⟩
 obtain ⟨g, o, h3, h4, h5⟩ := h2 j (.string ⟨p.toArray⟩) (by simp [sv, hp])
 exact ⟨g, o, h3, h4, cell_lt h5, h5⟩
theorem kn_cell {X : List Nat} {w0 W : World} {L : List (Nat × Obj)} {g : Nat} {c : Array Value} {t : TypeId} (hL : Kn X w0 W L) (hm : (g, Obj.cells c t (0, 0)) ∈ L) (o : Nat) : W.cell? ⟨g, o, none⟩ = c[o]? := by
 rw [World.cell?, hL.has _ hm]
 simp
theorem kn_old {X : List Nat} {w W : World} {L : List (Nat × Obj)} {b o : Nat} {v : Value} (hL : Kn X w W L) (h : w.cell? ⟨b, o, none⟩ = some v) (hb : b ∉ X) : W.cell? ⟨b, o, none⟩ = some v := (cell_same (hL.block b (cell_lt h) hb)).trans h
theorem addL_snoc : ∀ {l : List Bytes} {s : Bytes} {L L' : Labs} {a : Nat}, addL L a l = .ok L' → addL L a (l ++ [s]) = (if (look L' s).isSome then .bad 5 else .ok (L' ++ [(s, a)]))
 | [], s, L, L', a, h => by cases h; rfl
 | x :: l, s, L, L', a, h => by
  unfold addL at h
  rw [List.cons_append]
  unfold addL
  split at h
  ·cases h
  ·rename_i hx
   rw [if_neg hx]
   exact addL_snoc h
theorem addL_stop : ∀ {l m : List Bytes} {L : Labs} {a e : Nat}, addL L a l = .bad e → addL L a (l ++ m) = .bad e
 | [], _, _, _, _, h => by cases h
 | x :: l, m, L, a, e, h => by
  unfold addL at h
  rw [List.cons_append]
  unfold addL
  split at h
  ·rename_i hx; rw [if_pos hx]; exact h
  ·rename_i hx; rw [if_neg hx]; exact addL_stop h
theorem addL_next {l : List Bytes} {k : Nat} {s : Bytes} {L L' : Labs} {a : Nat} (h : addL L a (l.take k) = .ok L') (hs : l[k]? = some s) (hn : look L' s = none) : addL L a (l.take (k + 1)) = .ok (L' ++ [(s, a)]) := by
 rw [List.take_add_one, hs, Option.toList_some, addL_snoc h, hn]; rfl
theorem addL_fail {l : List Bytes} {k : Nat} {s : Bytes} {L L' : Labs} {a n : Nat} (h : addL L a (l.take k) = .ok L') (hs : l[k]? = some s) (hn : look L' s = some n) : addL L a l = .bad 5 := by
 have h1 : addL L a (l.take (k + 1)) = .bad 5 := by rw [List.take_add_one, hs, Option.toList_some, addL_snoc h, hn]; rfl
 rw [← List.take_append_drop (k + 1) l]
 exact addL_stop h1
theorem lv_snoc (L : Labs) (s : ByteArray) (n : Nat) : lv (L ++ [(s.data.toList, n)]) = lv L ++ [(.string s, .int .i64 n)] := by simp [lv, toList_mk]
theorem lv_len (L : Labs) : (lv L).length = L.length := by simp [lv]
theorem addL_len : ∀ {l : List Bytes} {L L' : Labs} {a : Nat}, addL L a l = .ok L' → L'.length = L.length + l.length
 | [], L, L', a, h => by cases h; rfl
 | x :: l, L, L', a, h => by
  unfold addL at h
  split at h
  ·cases h
  ·rw [addL_len h, List.length_append, List.length_cons, List.length_cons, List.length_nil]; omega
theorem addL_le : ∀ {l : List Bytes} {L L' : Labs} {a b : Nat}, addL L a l = .ok L' → (∀ p ∈ L, p.2 ≤ b) → a ≤ b → ∀ p ∈ L', p.2 ≤ b
 | [], L, L', a, b, h, hL, _ => by cases h; exact hL
 | x :: l, L, L', a, b, h, hL, ha => by
  unfold addL at h
  split at h
  ·cases h
  ·exact addL_le h (fun p hp => by rcases List.mem_append.1 hp with hp | hp; exact hL p hp; simp at hp; subst hp; exact ha) ha
theorem dir_names : ∀ k : Fin 32, isDir (namesB.getD k.val ByteArray.empty).data.toList = false ∧ (namesB.getD k.val ByteArray.empty).data.toList ≠ [] := by decide +kernel
theorem findI_name {s : ByteArray} {n : Nat} (h : findI s = (n : Int)) : s = namesB.getD n ByteArray.empty := by
 have h32 : n < 32 := by have := (findI_lt s).2; omega
 have gen : ∀ (zs : List ByteArray) (i k : Nat), Lib.idxFromS zs s i = ((i + k : Nat) : Int) → zs.getD k ByteArray.empty = s ∧ k < zs.length := by
  intro zs
  induction zs with
  | nil => intro i k h; unfold Lib.idxFromS at h; omega
  | cons z zs ih =>
   intro i k h
   unfold Lib.idxFromS at h
   split at h
   ·rename_i hz
    obtain rfl : k = 0 := by omega
    exact ⟨hz, by simp⟩
   ·cases k with
    | zero => exfalso; rcases idxFromS_bd s zs (i + 1) with h1 | h1 <;> omega
    | succ k =>
     have := ih (i + 1) k (by rw [h]; omega)
     exact ⟨this.1, by simp; exact this.2⟩
 exact (gen namesB 0 n (by rw [Nat.zero_add]; exact h)).1.symm
theorem findI_dir {s : ByteArray} {n : Nat} (h : findI s = (n : Int)) : isDir s.data.toList = false ∧ s.data.toList ≠ [] := by
 have h32 : n < 32 := by have := (findI_lt s).2; omega
 rw [findI_name h]
 exact dir_names ⟨n, h32⟩
theorem find_some {s : ByteArray} {n : Nat} (h : findI s = (n : Int)) : OO.find s.data.toList = some n := by
 show findN _ = _
 unfold findN
 rw [toList_mk, if_pos (by omega), h]; rfl
theorem find_none {s : ByteArray} (h : findI s = -1) : OO.find s.data.toList = none := by
 show findN _ = _
 unfold findN
 rw [toList_mk, if_neg (by omega)]
theorem Find_no (s : ByteArray) (h : findI s = -1) (w : World) (hT : TabI w) : Calls Tryz.prog 61 #[.string s] w fun e w' => e = .returned (.tuple #[.int .i64 0, .bool false]) ∧ Below w.heap.size w w' := by
 have := Find_any s w hT
 rw [h] at this
 exact this
def MeasP (r : Rs (Nat × Nat × Labs)) (mb g xo : Nat) (cur : Array Value) (w : World) (e : Ending) (w' : World) : Prop := match r with
 | .ok (s, a, L') => e = .returned (.int .i64 s) ∧ ∃ es' ck', MapV Tryz.prog 9 es' (lv L') ∧ Kn [mb, g] w w' [(mb, .map es' ck'), (g, .cells (cur.setIfInBounds (xo + 3) (.int .i64 a)) 64 (0, 0))]
 | .bad m => e = .panicked [{ v := .iface 56 (.int .i64 m), recovered := false }] ∧ Kn [mb, g] w w' []
/-- A statement in memory. -/
structure StIn (w : World) (mb g xo : Nat) (cur : Array Value) (x : Stm) (sop : ByteArray) (vl vo : Value) : Prop where
 c0 : cur[xo]? = some vl
 c1 : cur[xo + 1]? = some (.string sop)
 c2 : cur[xo + 2]? = some vo
 c3 : ∃ a : Int, cur[xo + 3]? = some (.int .i64 a)
 op : x.op = sop.data.toList
 vl : RowO [mb, g] w vl (sv x.labels)
 vo : RowO [mb, g] w vo (sv x.ops)
 sl : ∀ p ∈ x.labels, p.length ≤ 900000
 so : ∀ p ∈ x.ops, p.length ≤ 900000
 sp : sop.size ≤ 900000
 nl : x.labels.length ≤ 100000
 no : x.ops.length ≤ 100000
theorem measure_bad {x : Stm} {n : Nat} {Lb : Labs} {k : Nat} {s : Bytes} (hs : x.labels[k]? = some s) (hn : named s = false) : measure OO x n Lb = .bad 2 := by
 unfold measure
 simp only
 rw [if_pos (List.any_eq_true.2 ⟨s, List.mem_of_getElem? hs, by rw [hn]; rfl⟩)]
theorem all_named {x : Stm} (h : ∀ j < x.labels.length, ∀ p, x.labels[j]? = some p → named p = true) : ¬ (x.labels.any (fun s => !named s)) = true := by
 intro h1
 obtain ⟨p, hp, hq⟩ := List.any_eq_true.1 h1
 obtain ⟨j, hj⟩ := List.mem_iff_getElem?.1 hp
 rw [h j (List.getElem?_eq_some_iff.1 hj).1 p hj] at hq
 cases hq
theorem measure_N {x : Stm} {n : Nat} {Lb : Labs} (h : ∀ j < x.labels.length, ∀ p, x.labels[j]? = some p → named p = true) (h1 : x.op ≠ []) (h2 : OO.find x.op = none) (h3 : isDir x.op = false) : measure OO x n Lb = .bad 2 := by
 unfold measure
 simp only
 rw [if_neg (all_named h), if_pos ⟨h1, h2, h3⟩]
theorem measure_I {x : Stm} {n op : Nat} {Lb : Labs} (h : ∀ j < x.labels.length, ∀ p, x.labels[j]? = some p → named p = true) (hf : OO.find x.op = some op) (hne : x.op ≠ []) : measure OO x n Lb = (addL Lb (64 + aligned n) x.labels).bind fun L => (instrR L x.ops (aligned n) op false).bind fun _ => if 4096 < aligned n + 4 then .bad 6 else .ok (aligned n + 4, aligned n, L) := by
 unfold measure
 simp only [hf]
 rw [if_neg (all_named h), if_neg (fun h => by cases h.2.1), if_pos (.inl rfl)]
 congr 1
 funext L
 rw [if_neg (fun h => hne h.1), instr_eq]
 cases instrR L x.ops (aligned n) op false <;> rfl
theorem measure_D {x : Stm} {n a : Nat} {Lb : Labs} (h : ∀ j < x.labels.length, ∀ p, x.labels[j]? = some p → named p = true) (hf : OO.find x.op = none) (hd : isDir x.op = true) (hne : x.op ≠ []) (ha : a = if x.op = dWord then aligned n else n) : measure OO x n Lb = (addL Lb (64 + a) x.labels).bind fun L => (direct OO L x false).bind fun b => if 4096 < a + b.length then .bad 6 else .ok (a + b.length, a, L) := by
 unfold measure
 simp only [hf]
 have e : (if (none : Option Nat).isSome = true ∨ x.op = dWord then aligned n else n) = a := by rw [ha]; simp
 rw [if_neg (all_named h), if_neg (fun h => by rw [hd] at h; cases h.2.2), e]
 congr 1
 funext L
 rw [if_neg (fun h => hne h.1), if_neg hne]
 cases direct OO L x false <;> rfl
theorem measure_E {x : Stm} {n : Nat} {Lb : Labs} (h : ∀ j < x.labels.length, ∀ p, x.labels[j]? = some p → named p = true) (hf : OO.find [] = none) (he : x.op = []) : measure OO x n Lb = (addL Lb (64 + n) x.labels).bind fun L => if x.ops ≠ [] then .bad 2 else if 4096 < n then .bad 6 else .ok (n, n, L) := by
 have e1 : (if (none : Option Nat).isSome = true ∨ ([] : Bytes) = dWord then aligned n else n) = n := if_neg (by decide)
 unfold measure
 dsimp only
 rw [he, hf, if_neg (all_named h), if_neg (fun h => h.1 rfl), e1]
 congr 1
 funext L
 by_cases ho : x.ops = []
 ·simp [Rs.bind, ho]
 ·rw [if_pos ⟨rfl, ho⟩, if_pos ho]
theorem StIn.set {w : World} {mb g xo : Nat} {cur : Array Value} {x : Stm} {sop : ByteArray} {vl vo : Value} (h : StIn w mb g xo cur x sop vl vo) (a : Int) :
  (cur.setIfInBounds (xo + 3) (.int .i64 a))[xo]? = some vl ∧ (cur.setIfInBounds (xo + 3) (.int .i64 a))[xo + 1]? = some (.string sop) ∧ (cur.setIfInBounds (xo + 3) (.int .i64 a))[xo + 2]? = some vo ∧ (cur.setIfInBounds (xo + 3) (.int .i64 a))[xo + 3]? = some (.int .i64 a) := by
 obtain ⟨a0, h3⟩ := h.c3
 have hlt := (Array.getElem?_eq_some_iff.1 h3).1
 refine ⟨?_, ?_, ?_, ?_⟩
 ·rw [Array.getElem?_setIfInBounds_ne (by omega)]; exact h.c0
 ·rw [Array.getElem?_setIfInBounds_ne (by omega)]; exact h.c1
 ·rw [Array.getElem?_setIfInBounds_ne (by omega)]; exact h.c2
 ·rw [Array.getElem?_setIfInBounds_self_of_lt hlt]
theorem unq_len {s u : Bytes} (h : unqB s = some u) : u.length ≤ s.length := by
 unfold unqB at h
 split at h
 ·rename_i hx
  have h1 := hx.choose_spec
  cases h
  have h2 : ∀ l : Bytes, l.length ≤ (l.flatMap qb).length := by
   intro l
   induction l with
   | nil => simp
   | cons a l ih =>
    rw [List.flatMap_cons, List.length_append, List.length_cons]
    have : 1 ≤ (qb a).length := by unfold qb; split; simp; split; simp; split <;> simp
    omega
  obtain ⟨o, ho⟩ : ∃ o, hx.choose = o := ⟨_, rfl⟩
  rw [ho] at h1 ⊢
  have h3 := h2 o
  have h4 : (quoteB o).length = s.length := by rw [h1]
  unfold quoteB at h4
  simp only [List.length_cons, List.length_append, List.length_nil] at h4
  omega
 ·cases h
theorem bytesR_len {ops : List Bytes} {u : Bytes} (h : bytesR ops = .ok u) : u.length = ops.length := by
 unfold bytesR at h
 split at h
 ·cases h
 ·split at h
  ·cases h
  ·rename_i l hl
   cases h
   rw [List.length_map, mapR_len _ _ _ hl]
theorem wordsR_len {L : Labs} {b : Bool} {ops : List Bytes} {u : Bytes} (h : wordsR L b ops = .ok u) : u.length = 4 * ops.length := by
 unfold wordsR at h
 split at h
 ·cases h
 ·split at h
  ·cases h
  ·rename_i l hl
   cases h
   rw [w4_len, mapR_len _ _ _ hl]
theorem textR_len {ops : List Bytes} {u : Bytes} (h : textR ops = .ok u) (hs : ∀ p ∈ ops, p.length ≤ 900000) : u.length ≤ 900000 := by
 unfold textR at h
 split at h
 ·split at h
  ·rename_i hu
   cases h
   have := unq_len hu
   have := hs _ (List.mem_singleton.2 rfl)
   omega
  ·cases h
 ·cases h
theorem spaceR_len {ops : List Bytes} {u : Bytes} (h : spaceR ops = .ok u) : u.length ≤ 4096 := by
 unfold spaceR at h
 split at h
 ·split at h
  ·rename_i hu
   cases h
   have := number_range hu
   rw [List.length_replicate]; omega
  ·cases h
 ·cases h
theorem direct_b {L : Labs} {x : Stm} {b : Bool} (h : x.op = dByte) : direct OO L x b = bytesR x.ops := by
 unfold direct bytesR
 rw [if_pos h]
 rfl
theorem direct_w {L : Labs} {x : Stm} {b : Bool} (h : x.op = dWord) : direct OO L x b = wordsR L b x.ops := by
 unfold direct wordsR
 rw [if_neg (by rw [h]; decide), if_pos h]
 rfl
theorem direct_t {L : Labs} {x : Stm} {b : Bool} (h : x.op = dText) : direct OO L x b = textR x.ops := by
 unfold direct textR
 rw [if_neg (by rw [h]; decide), if_neg (by rw [h]; decide), if_pos h]
 rfl
theorem direct_s {L : Labs} {x : Stm} {b : Bool} (h : x.op = dSpace) : direct OO L x b = spaceR x.ops := by
 unfold direct spaceR
 rw [if_neg (by rw [h]; decide), if_neg (by rw [h]; decide), if_neg (by rw [h]; decide)]
 rfl
theorem find_dirs : findI ⟨#[46, 98, 121, 116, 101]⟩ = -1 ∧ findI ⟨#[46, 119, 111, 114, 100]⟩ = -1 ∧ findI ⟨#[46, 116, 101, 120, 116]⟩ = -1 ∧ findI ⟨#[46, 115, 112, 97, 99, 101]⟩ = -1 ∧ findI ⟨#[]⟩ = -1 := by decide +kernel
theorem func_eq (c : Array Value) (W : World) : (binOp .eql 104 (.func (.func 99) #[] c) .nilFunc).run Tryz.prog W = .ok (.bool false) W := by kernel_rfl
theorem nil_eq (W : World) : (binOp .eql 104 .nilFunc .nilFunc).run Tryz.prog W = .ok (.bool true) W := by kernel_rfl
theorem nil_ne (W : World) : (binOp .neq 104 .nilFunc .nilFunc).run Tryz.prog W = .ok (.bool false) W := by kernel_rfl
theorem func_ne (c : Array Value) (W : World) : (binOp .neq 104 (.func (.func 99) #[] c) .nilFunc).run Tryz.prog W = .ok (.bool true) W := by kernel_rfl
theorem find_nil : OO.find [] = none := find_none (s := ⟨#[]⟩) find_dirs.2.2.2.2
section
variable {P : Program} {w : World} {e : TypeId} {z n : Nat} {v : Value} {xs : List Value} {X : List Nat} {w0 : World} {A LP : List (Nat × Obj)}
theorem rowL_owns (hk : Kn X w0 w (A ++ LP)) (hr : RowL z e LP v n xs) : w.ownsRow 0 e z v n xs := by
 rcases hr with ⟨rfl, rfl, rfl, rfl⟩ | ⟨g, cap, cur, rfl, rfl, hb⟩
 ·exact ⟨by simp, .inl ⟨rfl, rfl⟩⟩
 ·exact ⟨hb.len, .inr ⟨g, cap, cur, rfl, Nat.zero_le _, hk.has (g, .cells cur e (0, 0)) (by simp), hb.le, hb.capm, hb.size, hb.take⟩⟩
theorem wpList_append_end {ops : Array Oper} {rest : List Oper} {o : Oper} {a : Act} {Q : Exit → Act → World → Prop} (hgd : o.guard = none) (s x : Operand) (t u : TypeId)
  (ho : o.op = .call { callee := .builtin .append, args := #[s, x], argTypes := #[t, u] })
  (A LP : List (Nat × Obj)) (hk : Kn X w0 w (A ++ LP)) (n m : Nat) (xs news : List Value) (v xv : Value) (hr : RowL z e LP v n xs) (hs : a.eval s = v) (hx : a.eval x = xv)
  (hrun : w.ownsRow 0 e z v n xs → ∃ v' w', (Builtin.append_ #[t, u] o.type #[v, xv]).run P w = .ok v' w' ∧ w'.ownsRow 0 e z v' (n + m) (xs ++ news) ∧ w.grownBy w' v.ownBlock ∧ (v'.ownBlock = v.ownBlock ∨ v'.ownBlock = some w.heap.size))
  (h : ∀ LP' ao' c' w', Kn X w0 w' (A ++ LP') → RowL z e LP' (.slice ao' (n + m) c') (n + m) (xs ++ news) → wpList P ops Q rest (a.put o.dst (.slice ao' (n + m) c')) w') : wpList P ops Q (o :: rest) a w := by
 refine wpList_plain hgd fun K hK => ?_
 obtain ⟨v', w', hrun, h2, h3, h4⟩ := hrun (rowL_owns hk hr)
 have nd := hk.nd
 rw [List.map_append, List.nodup_append] at nd
 obtain ⟨ndA, _, hd⟩ := nd
 have hvb : ∀ g, v.ownBlock = some g → ∃ o, LP = [(g, o)] := fun g hg => by
  rcases hr with ⟨_, rfl, _⟩ | ⟨g', cap, cur, rfl, rfl, _⟩
  ·cases hg
  ·obtain rfl : g' = g := Option.some.inj hg
   exact ⟨_, rfl⟩
 have hKA : Kn X w0 w' A := kn_grown (hk.sub (List.sublist_append_left A LP)) h3 fun g hg => by
  obtain ⟨ob, rfl⟩ := hvb g hg
  exact ⟨hk.own (g, ob) (by simp), fun hm => hd g hm g (by simp) rfl⟩
 unfold Oper.wp execOp
 simp only [ho, resolve, invoke, builtin, Sem.run_bind, Sem.run_pure, Result.andThen_ok, List.map_toArray, List.map_cons, List.map_nil, hs, hx, hrun]
 refine hK _ _ ?_
 obtain ⟨hl2, ⟨rfl, h0⟩ | ⟨g', cap', cur', rfl, _, hc, k1, k2, k3, k4⟩⟩ := h2
 ·have := h [] none 0 w' (by simpa using hKA) (.inl ⟨rfl, by rw [h0], h0, List.eq_nil_of_length_eq_zero (by rw [hl2, h0]; simp)⟩)
  rw [h0] at this; exact this
 ·have hgX : (w0.heap.size ≤ g' ∨ g' ∈ X) ∧ g' ∉ A.map (·.1) := by
   rcases h4 with h4 | h4
   ·obtain ⟨ob, rfl⟩ := hvb g' h4.symm
    exact ⟨hk.own (g', ob) (by simp), fun hm => hd g' hm g' (by simp) rfl⟩
   ·obtain rfl : g' = w.heap.size := Option.some.inj h4
    refine ⟨.inl hk.size, fun hm => ?_⟩
    obtain ⟨q, hq, e2⟩ := List.mem_map.1 hm
    have h5 := hk.lt (List.mem_append_left _ hq)
    have e3 : q.1 = w.heap.size := e2
    omega
  refine h [(g', .cells cur' e (0, 0))] _ _ w' ⟨hKA.os, hKA.tape, hKA.output, hKA.size, hKA.block, fun p hp => ?_, fun p hp => ?_, ?_⟩ (.inr ⟨g', cap', cur', rfl, rfl, k3, k1, k2, k4, hl2⟩)
  ·rcases List.mem_append.1 hp with hp | hp
   ·exact hKA.own p hp
   ·simp at hp; subst hp; exact hgX.1
  ·rcases List.mem_append.1 hp with hp | hp
   ·exact hKA.has p hp
   ·simp at hp; subst hp; exact hc
  ·rw [List.map_append, List.nodup_append]
   refine ⟨ndA, by simp, fun a ha b hb => ?_⟩
   simp at hb; subst hb
   rintro rfl; exact hgX.2 ha
theorem run_append_str (t u ty : TypeId) (i : TypeInfo) (ht : P.underlying t = some (.slice e)) (hu : P.underlying u = some .string) (hi : P.info? e = some i) (hz : i.zero = some (.int .u8 0)) (hsize : i.size = 1) (hby : i.bytes = 1)
  (v : Value) (n : Nat) (xs : List Value) (s : ByteArray) (h63 : n + s.size ≤ 100000000) (hown : w.ownsRow 0 e 1 v n xs) :
  ∃ v' w', (Builtin.append_ #[t, u] ty #[v, .string s]).run P w = .ok v' w' ∧ w'.ownsRow 0 e 1 v' (n + s.size) (xs ++ bc s.data.toList) ∧ w.grownBy w' v.ownBlock ∧ (v'.ownBlock = v.ownBlock ∨ v'.ownBlock = some w.heap.size) := by
 obtain ⟨v', w', hr, h2, h3, h4⟩ := Lib.run_append_own_string (P := P) w 0 t u ty e i ht hu hi hz hsize hby v n xs hown s (by unfold maxLen; omega) (by omega) (Nat.zero_le _)
 refine ⟨v', w', hr, h2, h3, ?_⟩
 rcases hown.2 with ⟨rfl, rfl⟩ | ⟨g, cap, cur, rfl, hbg, hg, hnc, hcm, hcs, htake⟩
 ·by_cases hm : s.size = 0
  ·left; rw [h4.2 ⟨rfl, hm⟩]
  ·have hr' := run_append_nil_string (P := P) w t u ty e i (.int .u8 0) ht hu hi hz s (by omega) (by omega) (by rw [hby]; omega)
   rw [hr] at hr'
   injection hr' with e1 e2
   right; rw [e1]; rfl
 ·by_cases hroom : n + s.size ≤ cap
  ·have hr' := Lib.run_append_room_string (P := P) w t u ty e i ht hu hi hsize g n cap cur hg s hroom (by rw [hcs]; omega)
   rw [hr] at hr'
   injection hr' with e1 e2
   left; rw [e1]; rfl
  ·have holds : ∀ j u, xs[j]? = some u → w.cell? ((⟨g, 0, none⟩ : Addr).add j) = some u := hown.cells (g := g) rfl
   have hr' := Lib.run_append_grow_string (P := P) w t u ty e i (.int .u8 0) ht hu hi hz ⟨g, 0, none⟩ n cap xs (by rw [hsize]; simpa using hown.1) holds s (by omega) (by omega) (by rw [hby]; exact growslice_fits (by omega) (by omega))
   rw [hr] at hr'
   injection hr' with e1 e2
   right; rw [e1]; rfl
end
end Go.Proofs.YtfdlifhkeicnnaaGreatDoor
namespace Go.Proofs.YtfdlifhkeicnnaaGreatDoor
open Go Go.RowKit
structure StEm (w : World) (Y : List Nat) (xo at_ : Nat) (cur : Array Value) (x : Stm) (sop : ByteArray) (vo : Value) : Prop where
 c1 : cur[xo + 1]? = some (.string sop)
 c2 : cur[xo + 2]? = some vo
 c3 : cur[xo + 3]? = some (.int .i64 at_)
 op : x.op = sop.data.toList
 vo : RowO Y w vo (sv x.ops)
 so : ∀ p ∈ x.ops, p.length ≤ 900000
 sp : sop.size ≤ 900000
 no : x.ops.length ≤ 100000
def EmitP (r : Rs Bytes) (ab mb : Nat) (Y : List Nat) (w : World) (e : Ending) (w' : World) : Prop := match r with
 | .ok code => e = .returned (.tuple #[]) ∧ ∃ LP vc, RowL 1 5 LP vc code.length (bc code) ∧ Kn Y w w' ((ab, .cells #[.map (some mb), vc] 61 (0, 0)) :: LP)
 | .bad m => e = .panicked [{ v := .iface 56 (.int .i64 m), recovered := false }] ∧ Kn Y w w' []
theorem run_append_b {W : World} {t : TypeId} {v : Value} {n m c : Nat} {xs news : List Value} {ad : Addr} (hl : news.length = m) (hnews : ∀ j u, news[j]? = some u → W.cell? (ad.add j) = some u) (h1 : ∀ u ∈ news, u.oneCell' = true) (hs : n + m ≤ 100000000) (ho : W.ownsRow 0 5 1 v n xs) :
  ∃ v' w', (Builtin.append_ #[47, 47] t #[v, .slice (some ad) m c]).run Tryz.prog W = .ok v' w' ∧ w'.ownsRow 0 5 1 v' (n + m) (xs ++ news) ∧ W.grownBy w' v.ownBlock ∧ (v'.ownBlock = v.ownBlock ∨ v'.ownBlock = some W.heap.size) := by
 obtain ⟨i0, hi, hz0, hz1, hz2⟩ := info_parts infoB8
 have := run_append_kn (P := Tryz.prog) (w := W) 0 47 t 5 i0 _ Tryz.underlying47 hi hz0 (by rw [hz1]; rfl) (by rw [hz1]; decide) v n xs (by rw [hz1]; exact ho) ad m c news (by rw [hz1, hl, Nat.mul_one]) hnews h1 (by unfold maxLen; omega) (by rw [hz2]; omega) (Nat.zero_le _)
 rw [hz1] at this
 exact this
theorem run_append_s {W : World} {t : TypeId} {v : Value} {n : Nat} {xs : List Value} {s : ByteArray} (hs : n + s.size ≤ 100000000) (ho : W.ownsRow 0 5 1 v n xs) :
  ∃ v' w', (Builtin.append_ #[47, 9] t #[v, .string s]).run Tryz.prog W = .ok v' w' ∧ w'.ownsRow 0 5 1 v' (n + s.size) (xs ++ bc s.data.toList) ∧ W.grownBy w' v.ownBlock ∧ (v'.ownBlock = v.ownBlock ∨ v'.ownBlock = some W.heap.size) := by
 obtain ⟨i0, hi, hz0, hz1, hz2⟩ := info_parts infoB8
 exact run_append_str 47 9 t i0 Tryz.underlying47 Tryz.underlying9 hi hz0 hz1 hz2 v n xs s hs ho
theorem bc_one (l : Bytes) : ∀ u ∈ bc l, u.oneCell' = true := by
 intro u hu
 obtain ⟨c, _, rfl⟩ := List.mem_map.1 hu
 rfl
theorem cells_at {w : World} {g : Nat} {c : Array Value} {t : TypeId} {f : Nat × Nat} (h : w.heap[g]? = some (.cells c t f)) (o : Nat) : w.cell? ⟨g, o, none⟩ = c[o]? := by
 rw [World.cell?, h]
 simp
theorem crow_at {X : List Nat} {w0 W : World} {L : List (Nat × Obj)} {g : Nat} {cu : Array Value} {t : TypeId} {f : Nat × Nat} {u : Bytes} (hL : Kn X w0 W L) (hm : (g, Obj.cells cu t f) ∈ L) (h : CRow cu u) : ∀ j x, (bc u)[j]? = some x → W.cell? ((⟨g, 0, none⟩ : Addr).add j) = some x := fun j x hx => by
 rw [Go.WideShapes.add_plain, Nat.zero_add, cells_at (hL.has _ hm)]
 exact h j x hx
/-- The code filled up to an address. -/
def padTo (code : Bytes) (at_ : Nat) : Bytes := code ++ List.replicate (at_ - code.length) 0
theorem emit_E {L : Labs} {x : Stm} {at_ : Nat} {code : Bytes} (h : x.op = []) : emit OO L x at_ code = .ok code := by
 unfold emit; rw [if_pos h]
theorem emit_D {L : Labs} {x : Stm} {at_ : Nat} {code : Bytes} (h : x.op ≠ []) (hd : isDir x.op = true) : emit OO L x at_ code = (direct OO L x true).bind fun b => .ok (padTo code at_ ++ b) := by
 unfold emit; rw [if_neg h]; simp only [hd, if_true]; rfl
theorem emit_I {L : Labs} {x : Stm} {at_ op : Nat} {code : Bytes} (h : x.op ≠ []) (hd : isDir x.op = false) (hf : OO.find x.op = some op) : emit OO L x at_ code = (instrR L x.ops at_ op true).bind fun i => if valid op i.1 i.2.1 i.2.2 then .ok (padTo code at_ ++ (encS op i.1 i.2.1 i.2.2).data.toList) else .bad 3 := by
 unfold emit; rw [if_neg h]; simp only [hd, hf, Bool.false_eq_true, if_false, instr_eq]; rfl
theorem emitW_E (ab mb g xo at_ : Nat) (es : Array MapEntry) (clock : Nat) (L : Labs) (cur : Array Value) (x : Stm) (sop : ByteArray) (vo vc : Value) (code : Bytes) (LP : List (Nat × Obj)) (Y : List Nat) (w : World) (hL0 : Kn Y w w ((ab, .cells #[.map (some mb), vc] 61 (0, 0)) :: LP)) (hrow : RowL 1 5 LP vc code.length (bc code)) (hmb : w.heap[mb]? = some (.map es clock)) (hmY : mb ∉ Y) (hM : MapV Tryz.prog 9 es (lv L)) (hLn : ∀ p ∈ L, p.2 ≤ 100000) (hg : w.heap[g]? = some (.cells cur 64 (0, 0))) (hgY : g ∉ Y) (hS : StEm w Y xo at_ cur x sop vo) (hat : at_ ≤ 5000) (hcl : code.length ≤ 1000000) (hT : TabA w) (h14 : ∀ y ∈ Y, 14 ≤ y) (hso : sop = ⟨#[]⟩) : Calls Tryz.prog 35 #[.pointer (some ⟨ab, 0, none⟩), .pointer (some ⟨g, xo, none⟩)] w (EmitP (emit OO L x at_ code) ab mb Y w) := by
 subst hso
 rw [emit_E (show x.op = [] from hS.op)]
 have lg := lt_of_has hg
 have x1 := (cells_at hg (xo + 1)).trans hS.c1
 have hL := hL0
 have hF := hL.fx
 go_enter Tryz.func35, Tryz.ntmps35
 go_wp2
 ((go_end0))
 exact ⟨rfl, LP, vc, hrow, hL⟩
theorem divide_is (s : ByteArray) (hs : s.size ≤ 100000) (c : UInt8) (h34c : c ≠ 34) (h92c : c ≠ 92) (most : Nat) (hmo : most ≤ 100000) (w : World) : Calls Tryz.prog 59 #[.string s, .int .u8 c.toNat, .int .i64 most] w fun e w' => ∃ v L, e = .returned v ∧ RowL 1 9 L v (dv c most false s.data.toList).length (sv (dv c most false s.data.toList)) ∧ Kn [] w w' L := by
 obtain ⟨i0, hi, hz0, hz1, hz2⟩ := info_parts infoS
 obtain ⟨V, hV⟩ : ∃ V, dv c most false s.data.toList = V := ⟨_, rfl⟩
 have hsl := szl s
 rw [hV]
 have hL : Kn [] w w [] := Kn.refl [] w; have hF := hL.fx; go_enter Tryz.func59, Tryz.ntmps59
 go_wp2
 go_loopg [7, 8, 9, 10, 17, 24, 34] (s.size + 1) (fun n o7 o8 o9 o10 o17 o24 o34 wr => ∃ (k j : Nat) (q : Bool) (LD : List (Nat × Obj)) (vd : Value) (nd : Nat) (ps : List Bytes), Hid (n = s.size + 1 - k) ∧ k ≤ s.size + 1 ∧ j ≤ k ∧ j ≤ s.size ∧ o7 = vd ∧ o8 = .int .i64 j ∧ o9 = .bool q ∧ o10 = .int .i64 k ∧ Hid (nd = ps.length) ∧ nd ≤ k ∧ RowL 1 9 LD vd nd (sv ps) ∧ Hid (DvI c most s.data.toList V ps j k q) ∧ Kn [] w wr (LD ++ []))
 case atStart => exact ⟨0, 0, false, [], .slice none 0 0, 0, [], Lib.hid rfl, by omega, by omega, by omega, rfl, rfl, rfl, rfl, Lib.hid rfl, by omega, RowL.nil, Lib.hid (by rw [← hV]; exact dvi_start), hL⟩
 case round =>
  clear hL
  obtain ⟨k, j, q, LD, vd, nd, ps, HK, hk, hjk, hjs, rfl, rfl, rfl, rfl, HND, hnk, hd, HI, hL⟩ := hrel
  have hF := hL.fx
  by_cases hlt : k < s.size
  ·obtain ⟨c0, hc0⟩ : ∃ c, s.data.toList[k]? = some c := ⟨_, List.getElem?_eq_getElem (by rw [szl]; omega)⟩
   have eb0 := byte_at hc0 (by omega)
   by_cases h34 : c0 = 34
   ·subst h34
    cases q with
    | true =>
     go_wp2
     go_roundg (s.size + 1 - (k + 1))
     case measure => have := HK.out; omega
     case rel => exact ⟨k + 1, j, _, LD, _, nd, ps, Lib.hid rfl, by omega, by omega, by omega, rfl, rfl, rfl, by go_num, HND, by omega, hd, Lib.hid (dvi_quote HI.out hc0 hjk), hL⟩
    | false =>
     go_wp2
     go_roundg (s.size + 1 - (k + 1))
     case measure => have := HK.out; omega
     case rel => exact ⟨k + 1, j, _, LD, _, nd, ps, Lib.hid rfl, by omega, by omega, by omega, rfl, rfl, rfl, by go_num, HND, by omega, hd, Lib.hid (dvi_quote HI.out hc0 hjk), hL⟩
   ·have f34 : ((c0.toNat : Int) == 34) = false := beq_false_of_ne (fun h => h34 (UInt8.toNat_inj.1 (show c0.toNat = 34 by omega)))
    by_cases h92 : c0 = 92
    ·subst h92
     cases q with
     | true =>
      go_wp2
      go_roundg (s.size + 1 - (k + 2))
      case measure => have := HK.out; omega
      case rel => exact ⟨k + 2, j, _, LD, _, nd, ps, Lib.hid rfl, by omega, by omega, by omega, rfl, rfl, rfl, by go_num, HND, by omega, hd, Lib.hid (dvi_esc HI.out hc0 hjk), hL⟩
     | false =>
      have fc : ((92 : Int) == (c.toNat : Int)) = false := beq_false_of_ne (fun h => h92c (UInt8.toNat_inj.1 (show c.toNat = 92 by omega)))
      go_wp2
      go_roundg (s.size + 1 - (k + 1))
      case measure => have := HK.out; omega
      case rel => exact ⟨k + 1, j, _, LD, _, nd, ps, Lib.hid rfl, by omega, by omega, by omega, rfl, rfl, rfl, by go_num, HND, by omega, hd, Lib.hid (dvi_one HI.out hc0 hjk (by decide) (by simp) (fun h => h92c h.1.symm)), hL⟩
    ·have f92 : ((c0.toNat : Int) == 92) = false := beq_false_of_ne (fun h => h92 (UInt8.toNat_inj.1 (show c0.toNat = 92 by omega)))
     by_cases hcc : c0 = c
     ·subst hcc
      cases q with
      | true =>
       go_wp2
       go_roundg (s.size + 1 - (k + 1))
       case measure => have := HK.out; omega
       case rel => exact ⟨k + 1, j, _, LD, _, nd, ps, Lib.hid rfl, by omega, by omega, by omega, rfl, rfl, rfl, by go_num, HND, by omega, hd, Lib.hid (dvi_one HI.out hc0 hjk h34 (fun h => h92 h.1) (by simp)), hL⟩
      | false =>
       by_cases hroom : nd < most
       ·have t1 : decide ((nd : Int) < (most : Int)) = true := decide_eq_true (by omega)
        have t2 : decide (nd < most) = true := decide_eq_true hroom
        obtain ⟨u, hu⟩ : ∃ u, s.extract j k = u := ⟨_, rfl⟩
        have HU := Lib.hid (show u.data.toList = (s.data.toList.take k).drop j by rw [← hu, ext_list, List.drop_take])
        rcases hd with ⟨rfl, rfl, rfl, hsv⟩ | ⟨g, cap, cur, rfl, rfl, hb⟩
        ·go_wp2_with ((at_builtin; refine kn_list ?_; clear hF hL; intro W hL; simp only [kfb] at hL; have hF := hL.fx; refine wpList_append_rowL rfl _ _ 35 rfl 9 i0 _ Tryz.underlying35 hi hz0 (by rw [hz1]; rfl) (by rw [hz1]; decide) _ ([]) [] hL _ _ _ (by rw [hz1]; exact (.inl ⟨rfl, rfl, rfl, hsv⟩)) rfl _ _ _ [.string u] rfl (by rw [hz1]; rfl) (fun j u hu => by rw [Go.WideShapes.add_plain, Nat.zero_add, World.cell?, hL.has _ List.mem_cons_self]; simpa using hu) (by intro u hu; simp only [List.mem_singleton] at hu; subst hu; rfl) (by unfold maxLen; omega) (by rw [hz2]; omega) (by decide) ?_; intro g14 cap14 cur14 W2 hL2 hr14; clear hL hF; rw [hz1] at hr14; have hL := hL2.sub (List.Sublist.cons_cons (g14, Obj.cells cur14 9 (0, 0)) (List.sublist_cons_self _ _)); clear hL2; have hF := hL.fx))
         go_roundg (s.size + 1 - (k + 1))
         case measure => have := HK.out; omega
         case rel =>
          refine ⟨k + 1, k + 1, false, [(g14, .cells cur14 9 (0, 0))], _, 0 + 1, ps ++ [(s.data.toList.take k).drop j], Lib.hid rfl, by omega, by omega, by omega, rfl, by go_num, rfl, by go_num, Lib.hid (by rw [List.length_append, HND.out]; rfl), by omega, RowL.of_blk ?_, Lib.hid (dvi_cut HI.out hc0 hjk h34c h92c (by have := HND.out; omega)), hL⟩
          rw [sv_app, ← HU.out, sv_one]
          exact hr14
        ·go_wp2_with ((at_builtin; refine kn_list ?_; clear hF hL; intro W hL; simp only [kfb] at hL; have hF := hL.fx; refine wpList_append_rowL rfl _ _ 35 rfl 9 i0 _ Tryz.underlying35 hi hz0 (by rw [hz1]; rfl) (by rw [hz1]; decide) _ ([(g, .cells cur 9 (0, 0))]) [] hL _ _ _ (by rw [hz1]; exact (RowL.of_blk hb)) rfl _ _ _ [.string u] rfl (by rw [hz1]; rfl) (fun j u hu => by rw [Go.WideShapes.add_plain, Nat.zero_add, World.cell?, hL.has _ List.mem_cons_self]; simpa using hu) (by intro u hu; simp only [List.mem_singleton] at hu; subst hu; rfl) (by unfold maxLen; omega) (by rw [hz2]; omega) (by decide) ?_; intro g14 cap14 cur14 W2 hL2 hr14; clear hL hF; rw [hz1] at hr14; have hL := hL2.sub (List.Sublist.cons_cons (g14, Obj.cells cur14 9 (0, 0)) (List.sublist_cons_self _ _)); clear hL2; have hF := hL.fx))
         go_roundg (s.size + 1 - (k + 1))
         case measure => have := HK.out; omega
         case rel =>
          refine ⟨k + 1, k + 1, false, [(g14, .cells cur14 9 (0, 0))], _, nd + 1, ps ++ [(s.data.toList.take k).drop j], Lib.hid rfl, by omega, by omega, by omega, rfl, by go_num, rfl, by go_num, Lib.hid (by rw [List.length_append, HND.out]; rfl), by omega, RowL.of_blk ?_, Lib.hid (dvi_cut HI.out hc0 hjk h34c h92c (by have := HND.out; omega)), hL⟩
          rw [sv_app, ← HU.out, sv_one]
          exact hr14
       ·have t1 : decide ((nd : Int) < (most : Int)) = false := decide_eq_false (by omega)
        have t2 : decide (nd < most) = false := decide_eq_false hroom
        rcases hd with ⟨rfl, rfl, rfl, hsv⟩ | ⟨g, cap, cur, rfl, rfl, hb⟩
        ·go_wp2
         go_roundg (s.size + 1 - (k + 1))
         case measure => have := HK.out; omega
         case rel => exact ⟨k + 1, j, _, [], _, 0, ps, Lib.hid rfl, by omega, by omega, by omega, rfl, rfl, rfl, by go_num, HND, by omega, .inl ⟨rfl, rfl, rfl, hsv⟩, Lib.hid (dvi_one HI.out hc0 hjk h34 (fun h => h92 h.1) (fun h => hroom (by have := h.2.2; have := HND.out; omega))), hL⟩
        ·go_wp2
         go_roundg (s.size + 1 - (k + 1))
         case measure => have := HK.out; omega
         case rel => exact ⟨k + 1, j, _, [(g, .cells cur 9 (0, 0))], _, nd, ps, Lib.hid rfl, by omega, by omega, by omega, rfl, rfl, rfl, by go_num, HND, by omega, RowL.of_blk hb, Lib.hid (dvi_one HI.out hc0 hjk h34 (fun h => h92 h.1) (fun h => hroom (by have := h.2.2; have := HND.out; omega))), hL⟩
     ·have fc : ((c0.toNat : Int) == (c.toNat : Int)) = false := beq_false_of_ne (fun h => hcc (UInt8.toNat_inj.1 (by omega)))
      cases q with
      | true =>
       go_wp2
       go_roundg (s.size + 1 - (k + 1))
       case measure => have := HK.out; omega
       case rel => exact ⟨k + 1, j, _, LD, _, nd, ps, Lib.hid rfl, by omega, by omega, by omega, rfl, rfl, rfl, by go_num, HND, by omega, hd, Lib.hid (dvi_one HI.out hc0 hjk h34 (fun h => h92 h.1) (fun h => hcc h.1)), hL⟩
      | false =>
       go_wp2
       go_roundg (s.size + 1 - (k + 1))
       case measure => have := HK.out; omega
       case rel => exact ⟨k + 1, j, _, LD, _, nd, ps, Lib.hid rfl, by omega, by omega, by omega, rfl, rfl, rfl, by go_num, HND, by omega, hd, Lib.hid (dvi_one HI.out hc0 hjk h34 (fun h => h92 h.1) (fun h => hcc h.1)), hL⟩
  ·obtain ⟨u, hu⟩ : ∃ u, s.extract j s.size = u := ⟨_, rfl⟩
   have hul : u.data.toList = s.data.toList.drop j := by rw [← hu, ext_list, List.take_of_length_le (by omega)]
   have hVV := dvi_end HI.out (by rw [hsl]; omega)
   have HU := Lib.hid hul
   have HVV := Lib.hid hVV
   clear hul hVV HI
   go_wp2_with ((at_builtin; refine kL ?_; clear hF hL; intro W hL hF; refine wpList_append_rowL rfl _ _ 35 rfl 9 i0 _ Tryz.underlying35 hi hz0 (by rw [hz1]; rfl) (by rw [hz1]; decide) _ (LD) [] hL _ _ _ (by rw [hz1]; exact hd) rfl _ _ _ [.string u] rfl (by rw [hz1]; rfl) (fun j u hu => by rw [Go.WideShapes.add_plain, Nat.zero_add, World.cell?, hL.has _ List.mem_cons_self]; simpa using hu) (by intro u hu; simp only [List.mem_singleton] at hu; subst hu; rfl) (by unfold maxLen; omega) (by rw [hz2]; omega) (by decide) ?_; intro g14 cap14 cur14 W2 hL2 hr14; clear hL hF; rw [hz1] at hr14; have hL := hL2.sub (List.Sublist.cons_cons (g14, Obj.cells cur14 9 (0, 0)) (List.sublist_cons_self _ _)); clear hL2; have hF := hL.fx))
   refine bodyPost_ret (by simp [results, Tryz.results59, go_sem, *]; try rfl) rfl ?_
   have e : V.length = nd + 1 := by rw [HVV.out, List.length_append, HND.out]; rfl
   rw [e]
   refine ⟨_, _, rfl, RowL.of_blk ?_, hL⟩
   rw [HVV.out, sv_app, ← HU.out, sv_one]
   exact hr14
/-- IndexAny of blanks, whatever the string. -/
def IAny : Prop := ∀ (s : ByteArray), s.size ≤ 1000000 → ∀ w : World, Calls Tryz.prog 60 #[.string s, .string ⟨#[32, 9]⟩] w fun e w' => e = .returned (.int .i64 (Lib.indexAny s.data.toList [32, 9])) ∧ Below w.heap.size w w'
theorem dv_sum (c : UInt8) : ∀ (m : Nat) (q : Bool) (s : Bytes), ((dv c m q s).map List.length).sum + (dv c m q s).length = s.length + 1 := by
 have hd_sum : ∀ (x : UInt8) (D : List Bytes), D ≠ [] → ((hd x D).map List.length).sum = (D.map List.length).sum + 1 ∧ (hd x D).length = D.length := by
  intro x D hD
  cases D with
  | nil => exact absurd rfl hD
  | cons p ps => simp [hd]; omega
 suffices H : ∀ (n : Nat) (m : Nat) (q : Bool) (s : Bytes), s.length ≤ n → ((dv c m q s).map List.length).sum + (dv c m q s).length = s.length + 1 from fun m q s => H s.length m q s (Nat.le_refl _)
 intro n
 induction n with
 | zero =>
  intro m q s h
  obtain rfl := List.eq_nil_of_length_eq_zero (Nat.le_zero.1 h)
  rw [dv_nil]; rfl
 | succ n ih =>
  intro m q s h
  cases s with
  | nil => rw [dv_nil]; rfl
  | cons x t =>
   simp only [List.length_cons] at h
   rw [dv_cons]
   split
   ·have h1 := hd_sum x _ (dv_ne c m (!q) t)
    have h2 := ih m (!q) t (by omega)
    rw [h1.1, h1.2, List.length_cons]; omega
   ·split
    ·cases t with
     | nil => rfl
     | cons y r =>
      simp only [List.length_cons] at h
      have h0 := hd_sum y _ (dv_ne c m q r)
      have h1 := hd_sum x _ (hd_ne y (dv c m q r))
      have h2 := ih m q r (by omega)
      rw [h1.1, h1.2, h0.1, h0.2, List.length_cons, List.length_cons]; omega
    ·split
     ·have h2 := ih (m - 1) q t (by omega)
      simp only [List.map_cons, List.sum_cons, List.length_nil, List.length_cons]; omega
     ·have h1 := hd_sum x _ (dv_ne c m q t)
      have h2 := ih m q t (by omega)
      rw [h1.1, h1.2, List.length_cons]; omega
theorem dv_mem_len {c : UInt8} {m : Nat} {s : Bytes} {p : Bytes} (h : p ∈ dv c m false s) : p.length ≤ s.length := by
 have h1 := dv_sum c m false s
 have h2 : p.length ≤ ((dv c m false s).map List.length).sum := by
  have : ∀ (l : List Bytes), p ∈ l → p.length ≤ (l.map List.length).sum := by
   intro l
   induction l with
   | nil => intro h; cases h
   | cons x l ih =>
    intro h
    rw [List.map_cons, List.sum_cons]
    rcases List.mem_cons.1 h with rfl | h
    ·omega
    ·have := ih h; omega
  exact this _ h
 have h3 : 0 < (dv c m false s).length := List.length_pos_iff.2 (dv_ne c m false s)
 omega
theorem dv_second {c : UInt8} {m : Nat} {s a b : Bytes} {t : List Bytes} (h : dv c m false s = a :: b :: t) : b.length < s.length := by
 have h1 := dv_sum c m false s
 rw [h] at h1
 simp only [List.map_cons, List.sum_cons, List.length_cons] at h1
 omega
theorem dv_count {c : UInt8} {m : Nat} {s : Bytes} : (dv c m false s).length ≤ s.length + 1 := by
 have := dv_sum c m false s; omega
theorem dropWhile_len (p : UInt8 → Bool) (s : Bytes) : (s.dropWhile p).length ≤ s.length := (List.dropWhile_sublist p).length_le
theorem trim_len (s : Bytes) : (trim s).length ≤ s.length := by
 unfold trim
 have h1 := dropWhile_len blank s.reverse
 have h2 := dropWhile_len blank (s.reverse.dropWhile blank).reverse
 simp only [List.length_reverse] at h1 h2
 omega
/-- What reading the labels has done: labs are the labels so far, r what is left. -/
def RdI (V : List Bytes × Bytes) (labs : List Bytes) (r : Bytes) : Prop := ∃ f, r.length < f ∧ V = (labs ++ (readL f r).1, (readL f r).2)
theorem rdi_start (r : Bytes) : RdI (readL (r.length + 1) r) [] r := ⟨r.length + 1, by omega, by simp⟩
theorem rdi_next {V : List Bytes × Bytes} {labs : List Bytes} {r a b : Bytes} {t : List Bytes} (h : RdI V labs r) (hd : dv 58 1 false r = a :: b :: t) : RdI V (labs ++ [trim a]) (trim b) := by
 obtain ⟨f, hf, rfl⟩ := h
 obtain ⟨f, rfl⟩ : ∃ k, f = k + 1 := ⟨f - 1, by omega⟩
 have h1 := dv_second hd
 have h2 := trim_len b
 refine ⟨f, by omega, ?_⟩
 rw [readL, hd]
 simp
theorem rdi_end {V : List Bytes × Bytes} {labs : List Bytes} {r : Bytes} (h : RdI V labs r) (hd : (dv 58 1 false r).length < 2) : V = (labs, r) := by
 obtain ⟨f, hf, rfl⟩ := h
 obtain ⟨f, rfl⟩ : ∃ k, f = k + 1 := ⟨f - 1, by omega⟩
 rw [readL]
 have h0 := dv_ne 58 1 false r
 cases hD : dv 58 1 false r with
 | nil => exact absurd hD h0
 | cons a l =>
  cases l with
  | nil => simp
  | cons b t => rw [hD] at hd; simp only [List.length_cons] at hd; omega
theorem idx_blank (r : Bytes) : (r.all (fun c => !blank c) = true ∧ Lib.indexAny r [32, 9] = -1 ∧ r.takeWhile (fun c => !blank c) = r) ∨ ∃ i : Nat, i < r.length ∧ Lib.indexAny r [32, 9] = i ∧ r.takeWhile (fun c => !blank c) = r.take i := by
 induction r with
 | nil => left; exact ⟨rfl, rfl, rfl⟩
 | cons c t ih =>
  rw [Lib.indexAny, blank_contains]
  cases hb : blank c with
  | true =>
   right
   exact ⟨0, by simp, by rw [if_pos rfl]; rfl, by rw [List.takeWhile_cons, hb]; rfl⟩
  | false =>
   rcases ih with ⟨h1, h2, h3⟩ | ⟨i, h1, h2, h3⟩
   ·left
    refine ⟨by rw [List.all_cons, hb, h1]; rfl, by rw [h2]; rfl, by rw [List.takeWhile_cons, hb, h3]; rfl⟩
   ·right
    refine ⟨i + 1, by simp; exact h1, ?_, by rw [List.takeWhile_cons, hb, h3]; rfl⟩
    rw [h2, if_neg (by decide), if_neg (by rw [beq_iff_eq]; omega)]; rfl
theorem read_eq (line : Bytes) {labs : List Bytes} {r : Bytes} (h : readL ((rest line).length + 1) (rest line) = (labs, r)) :
  read line = ⟨labs, r.takeWhile (fun c => !blank c), if r.drop (r.takeWhile (fun c => !blank c)).length = [] then [] else (dv 44 r.length false (r.drop (r.takeWhile (fun c => !blank c)).length)).map trim⟩ := by
 unfold read
 rw [h]
theorem Trim_eq (s t : ByteArray) (hs : s.size ≤ 1000000) (ht : Hid (t.data.toList = trim s.data.toList)) (w : World) : Calls Tryz.prog 58 #[.string s, .string ⟨#[32, 9]⟩] w fun e w' => e = .returned (.string t) ∧ Below w.heap.size w w' := by
 have := Trim_any s hs w
 rwa [← ht.out, toList_mk] at this
theorem ba_of (p : Bytes) : ∃ s : ByteArray, s.data.toList = p := ⟨⟨p.toArray⟩, by simp⟩
def DivP (D : List Bytes) (n : Nat) (w : World) (e : Ending) (w' : World) : Prop := ∃ g cap cur, e = .returned (.slice (some ⟨g, 0, none⟩) n cap) ∧ RowB 1 cur cap n (sv D) ∧ Kn [] w w' [(g, .cells cur 9 (0, 0))]
theorem div_any (s : ByteArray) (hs : s.size ≤ 100000) (c : UInt8) (h34c : c ≠ 34) (h92c : c ≠ 92) (most : Nat) (hmo : most ≤ 100000) (w : World) : Calls Tryz.prog 59 #[.string s, .int .u8 c.toNat, .int .i64 most] w (DivP (dv c most false s.data.toList) (dv c most false s.data.toList).length w) := by
 refine (divide_is s hs c h34c h92c most hmo w).mono fun e w' ⟨v, L, h1, h2, h3⟩ => ?_
 rcases h2 with ⟨_, _, h0, _⟩ | ⟨g, cap, cur, rfl, rfl, hb⟩
 ·exact absurd (List.eq_nil_of_length_eq_zero h0) (dv_ne _ _ _ _)
 ·exact ⟨g, cap, cur, h1, hb, h3⟩
theorem div59 (s : ByteArray) (hs : s.size ≤ 100000) (D : List Bytes) (hD : Hid (dv 59 1 false s.data.toList = D)) (k : Nat) (hk : Hid (D.length = k)) (w : World) : Calls Tryz.prog 59 #[.string s, .int .u8 59, .int .i64 1] w (DivP D k w) := by
 have := div_any s hs 59 (by decide) (by decide) 1 (by decide) w
 rw [hD.out, hk.out] at this; exact this
theorem div58 (s : ByteArray) (hs : s.size ≤ 100000) (D : List Bytes) (hD : Hid (dv 58 1 false s.data.toList = D)) (k : Nat) (hk : Hid (D.length = k)) (w : World) : Calls Tryz.prog 59 #[.string s, .int .u8 58, .int .i64 1] w (DivP D k w) := by
 have := div_any s hs 58 (by decide) (by decide) 1 (by decide) w
 rw [hD.out, hk.out] at this; exact this
theorem div44 (s : ByteArray) (hs : s.size ≤ 100000) (n : Nat) (hn : n ≤ 100000) (D : List Bytes) (hD : Hid (dv 44 n false s.data.toList = D)) (k : Nat) (hk : Hid (D.length = k)) (w : World) : Calls Tryz.prog 59 #[.string s, .int .u8 44, .int .i64 n] w (DivP D k w) := by
 have := div_any s hs 44 (by decide) (by decide) n hn w
 rw [hD.out, hk.out] at this; exact this
theorem run_append_v {W : World} {t : TypeId} {v : Value} {n m c : Nat} {xs news : List Value} {ad : Addr} (hl : news.length = m) (hnews : ∀ j u, news[j]? = some u → W.cell? (ad.add j) = some u) (h1 : ∀ u ∈ news, u.oneCell' = true) (hs : n + m ≤ 1000000) (ho : W.ownsRow 0 9 1 v n xs) :
  ∃ v' w', (Builtin.append_ #[35, 35] t #[v, .slice (some ad) m c]).run Tryz.prog W = .ok v' w' ∧ w'.ownsRow 0 9 1 v' (n + m) (xs ++ news) ∧ W.grownBy w' v.ownBlock ∧ (v'.ownBlock = v.ownBlock ∨ v'.ownBlock = some W.heap.size) := by
 obtain ⟨i0, hi, hz0, hz1, hz2⟩ := info_parts infoS
 have := run_append_kn (P := Tryz.prog) (w := W) 0 35 t 9 i0 _ Tryz.underlying35 hi hz0 (by rw [hz1]; rfl) (by rw [hz1]; decide) v n xs (by rw [hz1]; exact ho) ad m c news (by rw [hz1, hl, Nat.mul_one]) hnews h1 (by unfold maxLen; omega) (by rw [hz2]; omega) (Nat.zero_le _)
 rw [hz1] at this
 exact this
theorem sv_get {D : List Bytes} {j : Nat} {s : ByteArray} (h : D[j]? = some s.data.toList) : (sv D)[j]? = some (.string s) := by
 simp [sv, h, toList_mk]
theorem sv_snoc (D : List Bytes) (s : ByteArray) : sv (D ++ [s.data.toList]) = sv D ++ [.string s] := by rw [sv_app, sv_one]
/-- What read leaves. -/
def ReadP (x : Stm) (w : World) (e : Ending) (w' : World) : Prop := ∃ (vl vo : Value) (LL LO : List (Nat × Obj)) (sop : ByteArray), e = .returned (.agg #[vl, .string sop, vo, .int .i64 0]) ∧ RowL 1 9 LL vl x.labels.length (sv x.labels) ∧ RowL 1 9 LO vo x.ops.length (sv x.ops) ∧ sop.data.toList = x.op ∧ Kn [] w w' (LO ++ LL)
end Go.Proofs.YtfdlifhkeicnnaaGreatDoor
