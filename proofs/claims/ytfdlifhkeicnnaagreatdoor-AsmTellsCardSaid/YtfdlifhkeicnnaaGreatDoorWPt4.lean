/- Lemmas and walks for the law LawTells (part 4). -/
import Derived.Test.YtfdlifhkeicnnaaGreatDoorWPt3
import Derived.Test.YtfdlifhkeicnnaaGreatDoorProg
import Derived.WalkKit
import Derived.Handy
import Derived.Deep.Light
import Derived.WalkSmall
import Derived.StillTailTactics
import Derived.Lib.Hide
import Derived.IntWalk
import Derived.Laws.IdiomStrings
import Derived.Laws.BytesArg
import Derived.Lib.OthersKept
import Derived.Lib.FrozenHead2
import Derived.Lib.FrozenHead
import Derived.Shelf.Strings.BuilderK
import Derived.Lib.SlicesS
import Derived.Lib.ParseIntBTie
import Derived.Lib.Split
import Derived.Lib.SplitLaws
import Derived.Lib.CountLaws
import Derived.Lib.IndexLaws
set_option maxRecDepth 20000
set_option maxHeartbeats 4000000
set_option linter.unusedVariables false
set_option linter.unusedSimpArgs false
namespace Go.Proofs.YtfdlifhkeicnnaaGreatDoor
open Go Go.RowKit
abbrev keys (P : List (Nat × Obj)) : List Nat := P.map (·.1)
theorem Kn.joinA {X : List Nat} {w0 W W' : World} {P P' : List (Nat × Obj)} (A R : List (Nat × Obj)) (h : Kn X w0 W (A ++ (P ++ R))) (k : Kn (keys P) W W' P') : Kn X w0 W' (A ++ (P' ++ R)) := by
 have nd := h.nd
 simp only [List.map_append, List.nodup_append] at nd
 obtain ⟨ndA, ⟨ndP, ndR, dPR⟩, dA⟩ := nd
 have hPin : ∀ q ∈ P, q ∈ A ++ (P ++ R) := fun q hq => List.mem_append_right _ (List.mem_append_left _ hq)
 have keep : ∀ p ∈ A ++ (P ++ R), p.1 ∉ keys P → W'.heap[p.1]? = some p.2 := fun p hp hn => (k.block p.1 (h.lt hp) hn).trans (h.has p hp)
 have nA : ∀ p ∈ A, p.1 ∉ keys P := fun p hp hm => dA p.1 (List.mem_map.2 ⟨p, hp, rfl⟩) p.1 (List.mem_append_left _ hm) rfl
 have nR : ∀ p ∈ R, p.1 ∉ keys P := fun p hp hm => dPR p.1 hm p.1 (List.mem_map.2 ⟨p, hp, rfl⟩) rfl
 have own' : ∀ p ∈ P', w0.heap.size ≤ p.1 ∨ p.1 ∈ X := fun p hp => by
  rcases k.own p hp with e | e
  ·exact .inl (Nat.le_trans h.size e)
  ·obtain ⟨q, hq, e2⟩ := List.mem_map.1 e
   rw [← e2]; exact h.own q (hPin q hq)
 have far : ∀ q ∈ A ++ (P ++ R), q.1 ∉ keys P → ∀ p ∈ P', p.1 ≠ q.1 := fun q hq hn p hp e => by
  rcases k.own p hp with e1 | e1
  ·have := h.lt hq; omega
  ·exact hn (e ▸ e1)
 refine ⟨k.os.trans h.os, k.tape.trans h.tape, k.output.trans h.output, Nat.le_trans h.size k.size, fun b hb hx => ?_, fun p hp => ?_, fun p hp => ?_, ?_⟩
 ·rw [k.block b (Nat.lt_of_lt_of_le hb h.size) fun hm => ?_, h.block b hb hx]
  obtain ⟨q, hq, e⟩ := List.mem_map.1 hm
  rcases h.own q (hPin q hq) with e1 | e1
  ·omega
  ·exact hx (e ▸ e1)
 ·rcases List.mem_append.1 hp with hp | hp
  ·exact h.own p (List.mem_append_left _ hp)
  rcases List.mem_append.1 hp with hp | hp
  ·exact own' p hp
  ·exact h.own p (List.mem_append_right _ (List.mem_append_right _ hp))
 ·rcases List.mem_append.1 hp with hp | hp
  ·exact keep p (List.mem_append_left _ hp) (nA p hp)
  rcases List.mem_append.1 hp with hp | hp
  ·exact k.has p hp
  ·exact keep p (List.mem_append_right _ (List.mem_append_right _ hp)) (nR p hp)
 ·simp only [List.map_append, List.nodup_append]
  refine ⟨ndA, ⟨k.nd, ndR, fun a ha b hb e => ?_⟩, fun a ha b hb e => ?_⟩
  ·obtain ⟨p, hp, rfl⟩ := List.mem_map.1 ha
   obtain ⟨q, hq, rfl⟩ := List.mem_map.1 hb
   exact far q (List.mem_append_right _ (List.mem_append_right _ hq)) (nR q hq) p hp e
  ·obtain ⟨q, hq, rfl⟩ := List.mem_map.1 ha
   rcases List.mem_append.1 hb with hb | hb
   ·obtain ⟨p, hp, rfl⟩ := List.mem_map.1 hb
    exact far q (List.mem_append_left _ hq) (nA q hq) p hp e.symm
   ·exact dA q.1 (List.mem_map.2 ⟨q, hq, rfl⟩) b (List.mem_append_right _ hb) e
theorem Kn.pick {X : List Nat} {w0 w : World} {L L' : List (Nat × Obj)} (h : Kn X w0 w L) (hm : ∀ p ∈ L', p ∈ L) (nd : (keys L').Nodup) : Kn X w0 w L' :=
 ⟨h.os, h.tape, h.output, h.size, h.block, fun p hp => h.own p (hm p hp), fun p hp => h.has p (hm p hp), nd⟩
/-- Two calls one after the other. -/
theorem Kn.trans {X Y Z : List Nat} {w0 W W' : World} {L L' : List (Nat × Obj)} (h : Kn X w0 W L) (k : Kn Y W W' L') (hX : ∀ x ∈ X, x ∈ Z) (hY : ∀ y ∈ Y, y ∈ Z ∨ w0.heap.size ≤ y) : Kn Z w0 W' L' :=
 ⟨k.os.trans h.os, k.tape.trans h.tape, k.output.trans h.output, Nat.le_trans h.size k.size,
  fun b hb hx => (k.block b (Nat.lt_of_lt_of_le hb h.size) fun hm => by rcases hY b hm with e | e; exact hx e; omega).trans (h.block b hb fun hm => hx (hX b hm)),
  fun p hp => by
   rcases k.own p hp with e | e
   ·exact .inl (Nat.le_trans h.size e)
   ·exact (hY p.1 e).symm, k.has, k.nd⟩
def bc (l : List UInt8) : List Value := l.map fun c => Value.int .u8 (c.toNat : Int)
theorem bc_len (l : List UInt8) : (bc l).length = l.length := by simp [bc]
/-- v is a row of the bytes l in a world that is w0 but for new memory. -/
def BOwn (w0 w : World) (v : Value) (l : List UInt8) : Prop := Kn [] w0 w [] ∧ w.ownsRow w0.heap.size 5 1 v l.length (bc l)
theorem BOwn.kn {w0 w : World} {v : Value} {l : List UInt8} (h : BOwn w0 w v l) : Kn [] w0 w [] := h.1
theorem BOwn.below {w0 w w' : World} {v : Value} {l : List UInt8} (h : BOwn w0 w v l) (k : Below w.heap.size w w') : BOwn w0 w' v l := ⟨h.1.below k, owns_below h.2 k⟩
theorem BOwn.nil (w : World) : BOwn w w (.slice none 0 0) [] := ⟨Kn.refl [] w, ⟨rfl, .inl ⟨rfl, rfl⟩⟩⟩
theorem BOwn.new {w0 w : World} (h : Kn [] w0 w []) (l : List UInt8) (cs : Array Value) (hcs : cs = (bc l).toArray) (n : Nat) (hn : n = l.length) (hl : l.length ≤ 100000000) : BOwn w0 (w.alloc (.cells cs 5)) (.slice (some ⟨w.heap.size, 0, none⟩) n n) l := by
 subst hcs; subst hn
 refine ⟨h.below ((Below.refl _ _).alloc (Nat.le_refl _) _), ⟨by rw [bc_len, Nat.mul_one], .inr ⟨_, _, (bc l).toArray, rfl, h.size, ?_, Nat.le_refl _, by unfold maxLen; omega, by simp [bc_len], ?_⟩⟩⟩
 ·show (w.heap.push _)[w.heap.size]? = _
  simp
 ·rw [Nat.mul_one, List.take_of_length_le (by simp [bc_len])]
theorem infoB8 : (Tryz.prog.info? 5).map (fun i => (i.zero, i.size, i.bytes)) = some (some (.int .u8 0), 1, 1) := by kernel_rfl
theorem wpList_appb {w0 W : World} {v : Value} {ops : Array Oper} {rest : List Oper} {o : Oper} {a : Act} {Q : Exit → Act → World → Prop} (hgd : o.guard = none) (s x : Operand)
  (ho : o.op = .call { callee := .builtin .append, args := #[s, x], argTypes := #[47, 47] }) (l news : List UInt8) (hb : BOwn w0 W v l) (hs : a.eval s = v)
  (m : Nat) (hx : a.eval x = .slice (some ⟨W.heap.size, 0, none⟩) m m) (cs : Array Value) (hcs : cs = (bc news).toArray) (hm : m = news.length) (hlen : l.length + news.length ≤ 100000000)
  (h : ∀ v' W', BOwn w0 W' v' (l ++ news) → wpList Tryz.prog ops Q rest (a.put o.dst v') W') : wpList Tryz.prog ops Q (o :: rest) a (W.alloc (.cells cs 5)) := by
 subst hcs; subst hm
 obtain ⟨i0, hi, hz0, hz1, hz2⟩ := info_parts infoB8
 have hal : Below W.heap.size W (W.alloc (.cells (bc news).toArray 5)) := (Below.refl _ _).alloc (Nat.le_refl _) _
 refine wpList_append_kn hgd s x _ ho 5 i0 _ Tryz.underlying47 hi hz0 (by rw [hz1]; rfl) (by rw [hz1]; decide) v l.length (bc l) hs (hb.1.below hal) (by rw [hz1]; exact owns_below hb.2 hal) (fun g _ hm => by simp at hm) ⟨W.heap.size, 0, none⟩ news.length news.length (bc news) hx (by rw [hz1, bc_len, Nat.mul_one]) ?_ ?_ ?_ ?_ ?_
 ·intro j u hu
  rw [Go.WideShapes.add_plain, Nat.zero_add]
  have : (W.alloc (.cells (bc news).toArray 5)).cell? ⟨W.heap.size, j, none⟩ = (bc news).toArray[j]? := World.cell?_alloc_mark W _ _ (0, 0) j
  rw [this]; simpa using hu
 ·intro u hu
  obtain ⟨c, _, rfl⟩ := List.mem_map.1 hu
  rfl
 ·unfold maxLen; omega
 ·rw [hz2]; omega
 ·intro v' W' h1 h2 h3
  rw [hz1] at h2
  refine h v' W' ⟨h1, ?_⟩
  unfold bc at h2 ⊢
  rw [List.length_append, List.map_append]; exact h2
theorem conv_own {w0 w : World} {v : Value} {l : List UInt8} (h : BOwn w0 w v l) (t : ByteArray) (ht : t.data.toList = l) : (convert 47 9 v).run Tryz.prog w = .ok (.string t) w := by
 have e : (⟨l.toArray⟩ : ByteArray) = t := by cases t; subst ht; simp
 rw [← e]
 obtain ⟨h1, ⟨h2, ⟨rfl, h3⟩ | ⟨g, cap, cur, rfl, _, hg, _, _, _, h4⟩⟩⟩ := h
 ·have : l = [] := List.eq_nil_of_length_eq_zero h3
  subst this
  exact run_convert_bytes_nil (P := Tryz.prog) w 47 5 Tryz.underlying47 Tryz.underlying5 0 0 9 Tryz.underlying9
 ·refine run_convert_bytes_back (P := Tryz.prog) w 47 9 5 ⟨g, 0, none⟩ cap l Tryz.underlying47 Tryz.underlying5 Tryz.underlying9 fun j hj => ?_
  rw [Go.WideShapes.add_plain, Nat.zero_add]
  have h5 : (bc l)[j]? = some (.int .u8 (l[j].toNat : Int)) := by simp [bc, hj]
  rw [← h4, List.getElem?_take] at h5
  split at h5
  ·simp only [World.cell?, hg]; simpa using h5
  ·cases h5
theorem conv_rowL {X : List Nat} {w0 w : World} {LP R : List (Nat × Obj)} {v : Value} {l : List UInt8} (hk : Kn X w0 w (LP ++ R)) (h : RowL 1 5 LP v l.length (bc l)) (t : ByteArray) (ht : t.data.toList = l) : (convert 47 9 v).run Tryz.prog w = .ok (.string t) w := by
 have e : (⟨l.toArray⟩ : ByteArray) = t := by cases t; subst ht; simp
 rw [← e]
 rcases h with ⟨_, rfl, h3, _⟩ | ⟨g, cap, cur, rfl, rfl, hr⟩
 ·have : l = [] := List.eq_nil_of_length_eq_zero h3
  subst this
  exact run_convert_bytes_nil (P := Tryz.prog) w 47 5 Tryz.underlying47 Tryz.underlying5 0 0 9 Tryz.underlying9
 ·refine run_convert_bytes_back (P := Tryz.prog) w 47 9 5 ⟨g, 0, none⟩ cap l Tryz.underlying47 Tryz.underlying5 Tryz.underlying9 fun j hj => ?_
  rw [Go.WideShapes.add_plain, Nat.zero_add]
  have h5 : (bc l)[j]? = some (.int .u8 (l[j].toNat : Int)) := by simp [bc, hj]
  have h6 := hr.get h5
  simp only [World.cell?, hk.has (g, .cells cur 5 (0, 0)) (by simp)]
  simpa using h6
theorem info_parts {t : TypeId} {z : Option Value} {s b : Nat} (h : (Tryz.prog.info? t).map (fun i => (i.zero, i.size, i.bytes)) = some (z, s, b)) : ∃ i, Tryz.prog.info? t = some i ∧ i.zero = z ∧ i.size = s ∧ i.bytes = b := by
 cases hi : Tryz.prog.info? t with
 | none => rw [hi] at h; simp at h
 | some i => rw [hi] at h; simp at h; exact ⟨i, rfl, h.1, h.2.1, h.2.2⟩
theorem infoS : (Tryz.prog.info? 9).map (fun i => (i.zero, i.size, i.bytes)) = some (some (.string ⟨#[]⟩), 1, 16) := by kernel_rfl
def sv (l : List Bytes) : List Value := l.map fun p => .string ⟨p.toArray⟩
theorem sv_app (l m : List Bytes) : sv (l ++ m) = sv l ++ sv m := by simp [sv]
theorem sv_one (u : ByteArray) : sv [u.data.toList] = [.string u] := by simp [sv]
theorem aligned_is (n : Nat) (hn : n ≤ 1000000) (w : World) : Calls Tryz.prog 62 #[.int .i64 n] w fun e w' => e = .returned (.int .i64 (aligned n)) ∧ w = w' := by
 have s1 : IntKind.i64.wrap ((n : Int) + 4) = (n : Int) + 4 := by rw [IntWalk.i64_in _ (by omega)]
 have s2 : IntKind.i64.wrap ((n : Int) + 4 - 1) = (n : Int) + 3 := by rw [IntWalk.i64_in _ (by omega)]; omega
 have s3 : ((n : Int) + 3).tdiv 4 = (((n + 3) / 4 : Nat) : Int) := by rw [Int.tdiv_eq_ediv_of_nonneg (by omega)]; omega
 have s4 : IntKind.i64.wrap (((n + 3) / 4 : Nat) : Int) = (((n + 3) / 4 : Nat) : Int) := by rw [IntWalk.i64_in _ (by omega)]
 have s5 : IntKind.i64.wrap ((((n + 3) / 4 : Nat) : Int) * 4) = ((aligned n : Nat) : Int) := by unfold aligned; rw [IntWalk.i64_in _ (by omega)]; omega
 go_enter Tryz.func62, Tryz.ntmps62
 go_wp2
 refine bodyPost_ret (by simp [results, Tryz.results62, go_sem, *]; try rfl) rfl ?_
 exact ⟨by rw [show ((n : Int) + 3) / 4 * 4 = ((aligned n : Nat) : Int) by unfold aligned; omega], rfl⟩
theorem need_ok (e : Int) (w : World) : Calls Tryz.prog 100 #[.bool true, .int .i64 e] w fun e w' => e = .returned (.tuple #[]) ∧ w = w' := by
 go_enter Tryz.func100, Tryz.ntmps100
 go_wp2
 go_end0
 exact ⟨rfl, rfl⟩
theorem need_bad (er : Int) (w : World) : Calls Tryz.prog 100 #[.bool false, .int .i64 er] w fun e w' => e = .panicked [{ v := .iface 56 (.int .i64 er), recovered := false }] ∧ w = w' := by
 go_enter Tryz.func100, Tryz.ntmps100
 go_wp2
 exact ⟨rfl, rfl, rfl⟩
def RegP (r : Rs Int) (e : Ending) : Prop := match r with
 | .ok a => e = .returned (.int .i64 a)
 | .bad m => e = .panicked [{ v := .iface 56 (.int .i64 m), recovered := false }]
theorem register_is (s : ByteArray) (hs : s.size ≤ 1000000) (w : World) : Calls Tryz.prog 101 #[.string s] w fun e w' => RegP (register s.data.toList) e ∧ w = w' := by
 by_cases h2 : s.size = 2
 ·obtain ⟨c0, c1, hl⟩ : ∃ c0 c1, s.data.toList = [c0, c1] := by
   have := szl s
   rw [h2] at this
   match hm : s.data.toList, this with
   | [a, b], _ => exact ⟨a, b, rfl⟩
  have H0 := Lib.hid (show 0 < s.size by omega)
  have H1 := Lib.hid (show 1 < s.size by omega)
  have eb0 := byte_at (i := 0) (show s.data.toList[0]? = some c0 by rw [hl]; rfl) H0.out
  have eb1 := byte_at (i := 1) (show s.data.toList[1]? = some c1 by rw [hl]; rfl) H1.out
  have e2 : ((s.size : Int) == 2) = true := by rw [h2]; rfl
  have l0 : (0 : Int) < s.size := by omega
  have l1 : (1 : Int) < s.size := by omega
  rw [hl]
  by_cases h114 : c0 = 114
  ·subst h114
   by_cases hlo : 48 ≤ c1.toNat
   ·by_cases hhi : c1.toNat ≤ 55
    ·have q1 : decide ((48 : Int) ≤ (c1.toNat : Int)) = true := decide_eq_true (by omega)
     have q2 : decide ((c1.toNat : Int) ≤ 55) = true := decide_eq_true (by omega)
     have p1 : decide (48 ≤ c1.toNat) = true := decide_eq_true (by omega)
     have p2 : decide (c1.toNat ≤ 55) = true := decide_eq_true (by omega)
     clear h2 hl
     go_enter Tryz.func101, Tryz.ntmps101
     go_wp2_with (first | ((with_reducible refine ks ?_); clear hL; intro W hL hF) | (go_at_call 100; (with_reducible refine (need_ok 2 _).mono ?_); rintro e w' ⟨rfl, rfl⟩))
     refine bodyPost_ret (by simp [results, Tryz.results101, go_sem, *]; try rfl) rfl ?_
     have hr : register [114, c1] = .ok ((c1.toNat : Int) - 48) := if_pos ⟨hlo, hhi⟩
     rw [hr]
     exact ⟨rfl, rfl⟩
    ·have q1 : decide ((48 : Int) ≤ (c1.toNat : Int)) = true := decide_eq_true (by omega)
     have q2 : decide ((c1.toNat : Int) ≤ 55) = false := decide_eq_false (by omega)
     have p1 : decide (48 ≤ c1.toNat) = true := decide_eq_true (by omega)
     have p2 : decide (c1.toNat ≤ 55) = false := decide_eq_false (by omega)
     have hr : register [114, c1] = .bad 2 := if_neg (by omega)
     rw [hr]
     clear hr
     clear h2
     clear hl
     show Calls Tryz.prog 101 #[.string s] w fun e w' => e = .panicked [{ v := .iface 56 (.int .i64 ((2 : Nat) : Int)), recovered := false }] ∧ w = w'
     go_enter Tryz.func101, Tryz.ntmps101
     go_wp2_with (first | ((with_reducible refine ks ?_); clear hL; intro W hL hF) | (go_at_call 100; (with_reducible refine (need_bad 2 _).mono ?_); rintro e w' ⟨rfl, rfl⟩))
     exact ⟨rfl, rfl, rfl⟩
   ·obtain ⟨q1, p1⟩ := dF 48 48 c1.toNat
    have hr : register [114, c1] = .bad 2 := if_neg (by omega)
    rw [hr]
    clear hr
    clear h2
    clear hl
    show Calls Tryz.prog 101 #[.string s] w fun e w' => e = .panicked [{ v := .iface 56 (.int .i64 ((2 : Nat) : Int)), recovered := false }] ∧ w = w'
    go_enter Tryz.func101, Tryz.ntmps101
    go_wp2_with (first | ((with_reducible refine ks ?_); clear hL; intro W hL hF) | (go_at_call 100; (with_reducible refine (need_bad 2 _).mono ?_); rintro e w' ⟨rfl, rfl⟩))
    exact ⟨rfl, rfl, rfl⟩
  ·have f114 : ((c0.toNat : Int) == 114) = false := beq_false_of_ne (fun h => h114 (UInt8.toNat_inj.1 (show c0.toNat = 114 by omega)))
   have hr : register [c0, c1] = .bad 2 := by unfold register; split <;> first | rfl | (rename_i h; injection h with h _; exact absurd h h114)
   rw [hr]
   clear hr
   clear h2
   clear hl
   show Calls Tryz.prog 101 #[.string s] w fun e w' => e = .panicked [{ v := .iface 56 (.int .i64 ((2 : Nat) : Int)), recovered := false }] ∧ w = w'
   go_enter Tryz.func101, Tryz.ntmps101
   go_wp2_with (first | ((with_reducible refine ks ?_); clear hL; intro W hL hF) | (go_at_call 100; (with_reducible refine (need_bad 2 _).mono ?_); rintro e w' ⟨rfl, rfl⟩))
   exact ⟨rfl, rfl, rfl⟩
 ·have e2 : ((s.size : Int) == 2) = false := by rw [beq_eq_false_iff_ne]; omega
  have hl := szl s
  have hr : register s.data.toList = .bad 2 := by unfold register; split <;> first | rfl | (rename_i h; rw [h] at hl; simp at hl; omega)
  rw [hr]
  clear hr
  clear h2
  clear hl
  show Calls Tryz.prog 101 #[.string s] w fun e w' => e = .panicked [{ v := .iface 56 (.int .i64 ((2 : Nat) : Int)), recovered := false }] ∧ w = w'
  go_enter Tryz.func101, Tryz.ntmps101
  go_wp2_with (first | ((with_reducible refine ks ?_); clear hL; intro W hL hF) | (go_at_call 100; (with_reducible refine (need_bad 2 _).mono ?_); rintro e w' ⟨rfl, rfl⟩))
  exact ⟨rfl, rfl, rfl⟩
theorem infoB : (Tryz.prog.info? 49).map (·.size) = some 2 := by kernel_rfl
theorem liesB : liesAt Tryz.prog Tryz.prog.depth 49 (2 / Tryz.prog.cellsOf 49) 0 49 1 = true := by kernel_rfl
theorem infoByte : (Tryz.prog.info? 5).map (fun i => (i.zero, i.size, i.bytes)) = some (some (.int .u8 0), 1, 1) := by kernel_rfl
set_option maxRecDepth 100000 in
theorem check_used (b : Nat) (w : World) (h0 : w.cell? ⟨b, 0, none⟩ = some (.pointer (some ⟨b, 0, none⟩))) :
  Calls Tryz.prog 56 #[.pointer (some ⟨b, 0, none⟩)] w fun e w' => e = .returned (.tuple #[]) ∧ w' = w := by
 obtain ⟨j, hj, _⟩ := Option.map_eq_some_iff.1 infoB
 go_enter Tryz.func56, Tryz.ntmps56
 go_wp2
 rw [Lib.run_neq_ptr_same w _ Tryz.underlying46 hj]
 go_wp2
 go_end0
 exact ⟨rfl, rfl⟩
set_option maxRecDepth 100000 in
theorem check_fresh (b : Nat) (w : World) (h0 : w.cell? ⟨b, 0, none⟩ = some (.pointer none)) (hsh : w.shape? b = some (49, 2)) (hfz : w.frozen? ⟨b, 0, none⟩ = false) :
  Calls Tryz.prog 56 #[.pointer (some ⟨b, 0, none⟩)] w fun e w' => e = .returned (.tuple #[]) ∧ w' = w.setCell ⟨b, 0, none⟩ (.pointer (some ⟨b, 0, none⟩)) := by
 obtain ⟨j, hj, hjs⟩ := Option.map_eq_some_iff.1 infoB
 go_enter Tryz.func56, Tryz.ntmps56
 go_wp2
 rw [Lib.run_to_unsafe w ⟨b, 0, none⟩ Tryz.underlying46 Tryz.underlying119 hj (by rw [hjs]; decide) hsh (Nat.zero_lt_succ 1)]
 simp only [Result.andThen]
 rw [Oper.upon_value]
 go_wp2
 rw [run_callFunc_extern Tryz.func83 (by kernel_rfl) (by kernel_rfl) (by kernel_rfl) (e := Extern.AbiNoEscape.same) (by kernel_rfl)]
 rw [Lib.run_noEscape]
 simp only [Result.andThen]
 rw [Oper.upon_value]
 go_wp2
 rw [Lib.run_from_unsafe w ⟨b, 0, none⟩ Tryz.underlying119 Tryz.underlying46 hj hsh liesB]
 simp only [Result.andThen]
 rw [Oper.upon_value]
 go_wp2
 go_end0
 exact ⟨rfl, rfl⟩
theorem check_k (B b : Nat) (bs : List Value) (w : World) (h : Lib.IsBuilderF 49 5 B b bs w) :
  Calls Tryz.prog 56 #[.pointer (some ⟨b, 0, none⟩)] w fun e w' => e = .returned (.tuple #[]) ∧ (Lib.BuilderAtF 49 5 B b (.pointer (some ⟨b, 0, none⟩)) bs w' ∧ Below B w w') := by
 rcases h with h | h
 ·refine (check_fresh b w h.cell0 h.shape h.frozen0).mono ?_
  rintro e w' ⟨rfl, rfl⟩
  exact ⟨rfl, h.used _, (Below.refl B w).setCell (p := ⟨b, 0, none⟩) h.1 _⟩
 ·refine (check_used b w h.cell0).mono ?_
  rintro e w' ⟨rfl, rfl⟩
  exact ⟨rfl, h, Below.refl B _⟩
set_option maxRecDepth 100000 in
theorem WriteString_k (B b : Nat) (bs : List Value) (s : ByteArray) (w : World) (h : Lib.IsBuilderF 49 5 B b bs w) (hlen : bs.length + s.size ≤ 140737488355328) (hBw : B ≤ w.heap.size) :
  Calls Tryz.prog 28 #[.pointer (some ⟨b, 0, none⟩), .string s] w fun e w' => e = .returned (.tuple #[.int .i64 s.size, .nilIface]) ∧ (Lib.BuilderAtF 49 5 B b (.pointer (some ⟨b, 0, none⟩)) (bs ++ Lib.strCells s) w' ∧ Below B w w') := by
 obtain ⟨i0, hi, hz0, hz1, hz2⟩ := info_parts infoByte
 go_enter Tryz.func28, Tryz.ntmps28
 go_wp2_with (go_at_call 56; refine (check_k B b bs _ h).mono ?_)
 rintro e w1 ⟨rfl, h1, hb1⟩
 obtain ⟨hB, v, hbk, hown, hne⟩ := h1
 have c0 : w1.cell? ⟨b, 0, none⟩ = some (.pointer (some ⟨b, 0, none⟩)) := by rw [Lib.cell_of_heap hbk]; rfl
 have c1 : w1.cell? ⟨b, 1, none⟩ = some v := by rw [Lib.cell_of_heap hbk]; rfl
 go_wp2_with (at_builtin; refine Lib.wpList_append_own_stringF _ rfl _ _ 47 9 rfl B 5 i0 Tryz.underlying47 Tryz.underlying9 hi hz0 hz1 hz2 _ _ _ rfl hown s rfl ?c3 ?c4 ?c5 ?_)
 case c3 => unfold maxLen; omega
 case c4 => omega
 case c5 => have := hb1.size; omega
 intro v' w2 hown' hgrow _
 have hlt : b < w1.heap.size := by
  rcases Nat.lt_or_ge b w1.heap.size with h' | h'
  ·exact h'
  ·simp [Array.getElem?_eq_none h'] at hbk
 have hb2 : w2.heap[b]? = some (.cells #[.pointer (some ⟨b, 0, none⟩), v] 49 (0, 0)) := by
  rw [hgrow.block b hlt (fun e => hne e.symm)]
  exact hbk
 have d0 : w2.cell? ⟨b, 0, none⟩ = some (.pointer (some ⟨b, 0, none⟩)) := by rw [Lib.cell_of_heap hb2]; rfl
 have d1 : w2.cell? ⟨b, 1, none⟩ = some v := by rw [Lib.cell_of_heap hb2]; rfl
 have f1 : w2.frozen? ⟨b, 1, none⟩ = false := Lib.frozen_of_heap hb2 1
 obtain ⟨ao, n', cap, rfl⟩ : ∃ ao n' cap, v' = .slice ao n' cap := by
  rcases hown'.2 with ⟨hv, _⟩ | ⟨g, cap, cur, fz, hv, _⟩
  ·exact ⟨_, _, _, hv⟩
  ·exact ⟨_, _, _, hv⟩
 go_wp2
 go_ret2
 refine ⟨rfl, ?_, ?_⟩
 ·exact Lib.BuilderAtF.put (T := 49) (e := 5) hB hb2 (bs' := bs ++ Lib.strCells s) (by simpa [Lib.strCells_length] using hown') (by decide)
 ·exact (hb1.grown hgrow (by have := hb1.size; omega) (fun k hk => (hown.lt k hk).1)).setCell (p := ⟨b, 1, none⟩) hB _
theorem row_extF {B : Nat} {e : TypeId} {z : Nat} {v : Value} {n : Nat} {xs : List Value} {w w' : World} (h : w.ownsRowF B e z v n xs) (k : Below w.heap.size w w') : w'.ownsRowF B e z v n xs := by
 obtain ⟨hl, h | ⟨g, cap, cur, fz, e1, e2, e3, e4⟩⟩ := h
 ·exact ⟨hl, .inl h⟩
 ·exact ⟨hl, .inr ⟨g, cap, cur, fz, e1, e2, (k.block g (lt_of_has e3)).trans e3, e4⟩⟩
theorem at_ext {T e : TypeId} {B b : Nat} {p : Value} {bs : List Value} {w w' : World} (h : Lib.BuilderAtF T e B b p bs w) (k : Below w.heap.size w w') : Lib.BuilderAtF T e B b p bs w' := by
 have hlt := h.lt
 obtain ⟨hB, v, hb, hown, hne⟩ := h
 exact ⟨hB, v, (k.block b hlt).trans hb, row_extF hown k, hne⟩
theorem is_ext {T e : TypeId} {B b : Nat} {bs : List Value} {w w' : World} (h : Lib.IsBuilderF T e B b bs w) (k : Below w.heap.size w w') : Lib.IsBuilderF T e B b bs w' :=
 h.elim (fun x => .inl (at_ext x k)) fun x => .inr (at_ext x k)
theorem is_fresh {T e : TypeId} {b : Nat} {w : World} (h : w.heap[b]? = some (.cells #[.pointer none, .slice none 0 0] T (0, 0))) : Lib.IsBuilderF T e b b [] w :=
 .inl ⟨Nat.le_refl _, _, h, World.ownsRowF_nil _ _ _ _, by simp [Value.ownBlock]⟩
set_option maxRecDepth 100000 in
theorem WriteByte_k (B b : Nat) (bs : List Value) (c : Int) (w : World) (h : Lib.IsBuilderF 49 5 B b bs w) (hlen : bs.length + 1 ≤ 140737488355328) (hBw : B ≤ w.heap.size) :
  Calls Tryz.prog 27 #[.pointer (some ⟨b, 0, none⟩), .int .u8 c] w fun e w' => e = .returned .nilIface ∧ (Lib.BuilderAtF 49 5 B b (.pointer (some ⟨b, 0, none⟩)) (bs ++ [.int .u8 c]) w' ∧ Below B w w') := by
 obtain ⟨i0, hi, hz0, hz1, hz2⟩ := info_parts infoByte
 go_enter Tryz.func27, Tryz.ntmps27
 go_wp2_with (go_at_call 56; refine (check_k B b bs _ h).mono ?_)
 rintro e w1 ⟨rfl, h1, hb1⟩
 obtain ⟨hB, v, hbk, hown, hne⟩ := h1
 have c0 : w1.cell? ⟨b, 0, none⟩ = some (.pointer (some ⟨b, 0, none⟩)) := by rw [Lib.cell_of_heap hbk]; rfl
 have c1 : w1.cell? ⟨b, 1, none⟩ = some v := by rw [Lib.cell_of_heap hbk]; rfl
 go_wp2_with (at_builtin; refine wpList_append_ownF _ rfl _ _ 47 rfl B 5 i0 (.int .u8 0) 1 1 Tryz.underlying47 hi hz0 hz1 hz2 rfl (by decide) _ _ _ rfl (hown.alloc _) ⟨w1.heap.size, 0, none⟩ 1 1 [.int .u8 c] rfl rfl ?c1 ?c2 ?c3 ?c4 ?c5 ?_)
 case c1 =>
  intro j u hj
  match j, hj with
  | 0, hj => simp at hj; subst hj; simp [Addr.add]
 case c2 => intro u hu; simp at hu; subst hu; rfl
 case c3 => unfold maxLen; omega
 case c4 => omega
 case c5 => have := hb1.size; simp; omega
 intro v' w2 hown' hgrow _
 have hlt : b < w1.heap.size := by
  rcases Nat.lt_or_ge b w1.heap.size with h' | h'
  ·exact h'
  ·simp [Array.getElem?_eq_none h'] at hbk
 have hb2 : w2.heap[b]? = some (.cells #[.pointer (some ⟨b, 0, none⟩), v] 49 (0, 0)) := by
  rw [hgrow.block b (by simp; omega) (fun e => hne e.symm), Lib.alloc_old w1 _ b hlt]
  exact hbk
 have d0 : w2.cell? ⟨b, 0, none⟩ = some (.pointer (some ⟨b, 0, none⟩)) := by rw [Lib.cell_of_heap hb2]; rfl
 have d1 : w2.cell? ⟨b, 1, none⟩ = some v := by rw [Lib.cell_of_heap hb2]; rfl
 have f1 : w2.frozen? ⟨b, 1, none⟩ = false := Lib.frozen_of_heap hb2 1
 obtain ⟨g, cap, rfl⟩ : ∃ g cap, v' = .slice (some ⟨g, 0, none⟩) (bs.length + 1) cap := by
  rcases hown'.2 with ⟨_, h0⟩ | ⟨g, cap, cur, fz, hv, _⟩
  ·omega
  ·exact ⟨g, cap, hv⟩
 go_wp2
 go_ret
 refine ⟨rfl, ?_, ?_⟩
 ·exact Lib.BuilderAtF.put (T := 49) (e := 5) hB hb2 (bs' := bs ++ [.int .u8 c]) (by simpa using hown') (by decide)
 ·exact ((hb1.alloc (by have := hb1.size; omega) _).grown hgrow (by have := hb1.size; simp; omega) (fun k hk => (hown.lt k hk).1)).setCell (p := ⟨b, 1, none⟩) hB _
/-- The Builder at b holds these bytes; what was there below B is as it was. -/
def BIs (B b : Nat) (l : List UInt8) (w : World) : Prop := Lib.IsBuilderF 49 5 B b (Lib.byteCells l) w
theorem cells_snoc (l : List UInt8) (c : UInt8) : Lib.byteCells l ++ [.int .u8 c.toNat] = Lib.byteCells (l ++ [c]) := by simp [Lib.byteCells]
theorem cells_app (l : List UInt8) (s : ByteArray) : Lib.byteCells l ++ Lib.strCells s = Lib.byteCells (l ++ s.data.toList) := by simp [Lib.byteCells, Lib.strCells]
theorem WB (B b : Nat) (l : List UInt8) (c : UInt8) (n : Int) (hn : (c.toNat : Int) = n) (w : World) (h : BIs B b l w) (hl : l.length ≤ 100000000) (hBw : B ≤ w.heap.size) :
  Calls Tryz.prog 27 #[.pointer (some ⟨b, 0, none⟩), .int .u8 n] w fun e w' => e = .returned .nilIface ∧ (BIs B b (l ++ [c]) w' ∧ Below B w w') := by
 subst hn
 refine (WriteByte_k B b _ _ w h (by rw [Lib.byteCells_length]; omega) hBw).mono ?_
 rintro e w' ⟨rfl, h1, h2⟩
 rw [cells_snoc] at h1
 exact ⟨rfl, .inr h1, h2⟩
theorem WS (B b : Nat) (l : List UInt8) (s : ByteArray) (w : World) (h : BIs B b l w) (hl : l.length + s.size ≤ 100000000) (hBw : B ≤ w.heap.size) :
  Calls Tryz.prog 28 #[.pointer (some ⟨b, 0, none⟩), .string s] w fun e w' => e = .returned (.tuple #[.int .i64 s.size, .nilIface]) ∧ (BIs B b (l ++ s.data.toList) w' ∧ Below B w w') := by
 refine (WriteString_k B b _ s w h (by rw [Lib.byteCells_length]; omega) hBw).mono ?_
 rintro e w' ⟨rfl, h1, h2⟩
 rw [cells_app] at h1
 exact ⟨rfl, .inr h1, h2⟩
theorem BS (B b : Nat) (l : List UInt8) (w : World) (h : BIs B b l w) (hBw : B ≤ w.heap.size) (t : ByteArray) (ht : t.data.toList = l) :
  Calls Tryz.prog 29 #[.pointer (some ⟨b, 0, none⟩)] w fun e w' => e = .returned (.string t) ∧ (BIs B b l w' ∧ Below B w w') := by
 obtain rfl : t = ⟨l.toArray⟩ := by cases t; subst ht; simp
 exact (Tryz.Builder_String_any_k B b l w h hBw).mono fun e w' ⟨h1, h2, h3, _⟩ => ⟨h1, h2, h3⟩
theorem BIs.ext {B b : Nat} {l : List UInt8} {w w' : World} (h : BIs B b l w) (k : Below w.heap.size w w') : BIs B b l w' := is_ext h k
theorem BIs.fresh {b : Nat} {w : World} (h : w.heap[b]? = some (.cells #[.pointer none, .slice none 0 0] 49 (0, 0))) : BIs b b [] w := is_fresh h
theorem Quote_any (s : ByteArray) (hs : s.size ≤ 1000000) (w : World) : Calls Tryz.prog 9 #[.string s] w fun e w' => e = .returned (.string ⟨(quoteB s.data.toList).toArray⟩) ∧ Below w.heap.size w w' := by
 have hI : BIs w.heap.size w.heap.size [] (w.alloc (.cells #[.pointer none, .slice none 0 0] 49)) := BIs.fresh (heap_alloc_new w _)
 have hW : Below w.heap.size w (w.alloc (.cells #[.pointer none, .slice none 0 0] 49)) := (Below.refl _ _).alloc (Nat.le_refl _) _
 go_enter Tryz.func9, Tryz.ntmps9
 go_wp2_with (first | ((with_reducible refine ks ?_); clear hL; intro W hL hF) | (go_at_call 27; (((first | (with_reducible refine (WB _ _ _ 34 34 nb34 _ hI (by simp only [List.length_append, List.length_cons, List.length_nil]; omega) hW.size).mono ?_)))); rintro e W1 ⟨rfl, hI1, hb1⟩; replace hW := hW.trans hb1; clear hb1 hI; have hI := hI1; clear hI1))
 go_loopw [9] (fun i wr => ∃ k : Nat, k ≤ s.size ∧ i = .int .i64 k ∧ BIs w.heap.size w.heap.size (34 :: (s.data.toList.take k).flatMap qb) wr ∧ Below w.heap.size w wr) (fun i _ => s.size - (intOf i).toNat)
 case atStart => exact ⟨0, by omega, rfl, hI, hW⟩
 case round =>
  obtain ⟨k, hk, rfl, hI1, hW1⟩ := hrel
  clear hI hW
  have hI := hI1
  have hW := hW1
  clear hI1 hW1
  have hlen : ((s.data.toList.take k).flatMap qb).length ≤ 4000000 := by
   have h1 := flat_le qb 4 (s.data.toList.take k) (fun c _ => qb_len c)
   have h2 : (s.data.toList.take k).length * 4 ≤ 1000000 * 4 := Nat.mul_le_mul_right _ (by rw [List.length_take, szl]; omega)
   omega
  by_cases hlt : k < s.size
  ·obtain ⟨c, hck⟩ : ∃ c, s.data.toList[k]? = some c := ⟨_, List.getElem?_eq_getElem (by rw [szl]; omega)⟩
   have eb := byte_at hck hlt
   have hft := flat_take qb hck
   have hc256 := c.toNat_lt
   by_cases hA : c = 34
   ·subst hA
    go_wp2_with (first | ((with_reducible refine ks ?_); clear hL; intro W hL hF) | (go_at_call 27; (((first | (with_reducible refine (WB _ _ _ 92 92 nb92 _ hI (by simp only [List.length_append, List.length_cons, List.length_nil]; omega) hW.size).mono ?_) | (with_reducible refine (WB _ _ _ 34 34 nb34 _ hI (by simp only [List.length_append, List.length_cons, List.length_nil]; omega) hW.size).mono ?_)))); rintro e W1 ⟨rfl, hI1, hb1⟩; replace hW := hW.trans hb1; clear hb1 hI; have hI := hI1; clear hI1))
    go_roundw
    case rel => exact ⟨k + 1, by omega, by go_num, by rw [hft, show qb 34 = [92, 34] from rfl]; simpa using hI, hW⟩
    case measure => simp [intOf]; omega
   by_cases hB : c = 92
   ·subst hB
    go_wp2_with (first | ((with_reducible refine ks ?_); clear hL; intro W hL hF) | (go_at_call 27; (((first | (with_reducible refine (WB _ _ _ 92 92 nb92 _ hI (by simp only [List.length_append, List.length_cons, List.length_nil]; omega) hW.size).mono ?_)))); rintro e W1 ⟨rfl, hI1, hb1⟩; replace hW := hW.trans hb1; clear hb1 hI; have hI := hI1; clear hI1))
    go_roundw
    case rel => exact ⟨k + 1, by omega, by go_num, by rw [hft, show qb 92 = [92, 92] from rfl]; simpa using hI, hW⟩
    case measure => simp [intOf]; omega
   by_cases hC : c = 10
   ·subst hC
    go_wp2_with (first | ((with_reducible refine ks ?_); clear hL; intro W hL hF) | (go_at_call 28; (((first | (with_reducible refine (WS _ _ _ ⟨#[92, 110]⟩ _ hI (by simp only [ByteArray.size, List.size_toArray, Array.size, List.length_append, List.length_cons, List.length_nil]; omega) hW.size).mono ?_)))); rintro e W1 ⟨rfl, hI1, hb1⟩; replace hW := hW.trans hb1; clear hb1 hI; have hI := hI1; clear hI1))
    go_roundw
    case rel => exact ⟨k + 1, by omega, by go_num, by rw [hft, show qb 10 = [92, 110] from rfl]; simpa using hI, hW⟩
    case measure => simp [intOf]; omega
   have f1 : ((c.toNat : Int) == 34) = false := beq_false_of_ne fun h => hA (UInt8.toNat_inj.1 (show c.toNat = 34 by omega))
   have f2 : ((c.toNat : Int) == 92) = false := beq_false_of_ne fun h => hB (UInt8.toNat_inj.1 (show c.toNat = 92 by omega))
   have f3 : ((c.toNat : Int) == 10) = false := beq_false_of_ne fun h => hC (UInt8.toNat_inj.1 (show c.toNat = 10 by omega))
   by_cases hD : 32 ≤ (c.toNat : Int) ∧ (c.toNat : Int) ≤ 126
   ·have hq : qb c = [c] := by unfold qb; rw [if_neg (by simp [hA, hB]), if_neg hC, if_pos (by omega)]
    obtain ⟨hD1, hD2⟩ := hD
    go_wp2_with (first | ((with_reducible refine ks ?_); clear hL; intro W hL hF) | (go_at_call 27; (((first | (with_reducible refine (WB _ _ _ c _ rfl _ hI (by simp only [List.length_append, List.length_cons, List.length_nil]; omega) hW.size).mono ?_)))); rintro e W1 ⟨rfl, hI1, hb1⟩; replace hW := hW.trans hb1; clear hb1 hI; have hI := hI1; clear hI1))
    go_roundw
    case rel => exact ⟨k + 1, by omega, by go_num, by rw [hft, hq]; simpa using hI, hW⟩
    case measure => simp [intOf]; omega
   ·have hq : qb c = [92, 120, hexB (c.toNat / 16), hexB (c.toNat % 16)] := by unfold qb; rw [if_neg (by simp [hA, hB]), if_neg hC, if_neg (by omega)]
    by_cases hD1 : 32 ≤ (c.toNat : Int)
    ·have hD2 : ¬ (c.toNat : Int) ≤ 126 := by omega
     go_wp2_with (first | ((with_reducible refine ks ?_); clear hL; intro W hL hF) | (go_at_call 28; (((first | (with_reducible refine (WS _ _ _ ⟨#[92, 120]⟩ _ hI (by simp only [ByteArray.size, List.size_toArray, Array.size, List.length_append, List.length_cons, List.length_nil]; omega) hW.size).mono ?_)))); rintro e W1 ⟨rfl, hI1, hb1⟩; replace hW := hW.trans hb1; clear hb1 hI; have hI := hI1; clear hI1) | (go_at_call 27; (((first | (with_reducible refine (WB _ _ _ _ _ rfl _ hI (by simp only [List.length_append, List.length_cons, List.length_nil]; omega) hW.size).mono ?_)))); rintro e W1 ⟨rfl, hI1, hb1⟩; replace hW := hW.trans hb1; clear hb1 hI; have hI := hI1; clear hI1))
     go_roundw
     case rel => exact ⟨k + 1, by omega, by go_num, by rw [hft, hq]; simpa [hex_at] using hI, hW⟩
     case measure => simp [intOf]; omega
    ·go_wp2_with (first | ((with_reducible refine ks ?_); clear hL; intro W hL hF) | (go_at_call 28; (((first | (with_reducible refine (WS _ _ _ ⟨#[92, 120]⟩ _ hI (by simp only [ByteArray.size, List.size_toArray, Array.size, List.length_append, List.length_cons, List.length_nil]; omega) hW.size).mono ?_)))); rintro e W1 ⟨rfl, hI1, hb1⟩; replace hW := hW.trans hb1; clear hb1 hI; have hI := hI1; clear hI1) | (go_at_call 27; (((first | (with_reducible refine (WB _ _ _ _ _ rfl _ hI (by simp only [List.length_append, List.length_cons, List.length_nil]; omega) hW.size).mono ?_)))); rintro e W1 ⟨rfl, hI1, hb1⟩; replace hW := hW.trans hb1; clear hb1 hI; have hI := hI1; clear hI1))
     go_roundw
     case rel => exact ⟨k + 1, by omega, by go_num, by rw [hft, hq]; simpa [hex_at] using hI, hW⟩
     case measure => simp [intOf]; omega
  ·obtain rfl : k = s.size := by omega
   rw [List.take_of_length_le (by rw [szl]; omega)] at hI hlen
   obtain ⟨t, ht⟩ : ∃ t : ByteArray, t.data.toList = 34 :: s.data.toList.flatMap qb ++ [34] := ⟨⟨(34 :: s.data.toList.flatMap qb ++ [34]).toArray⟩, by simp⟩
   go_wp2_with (first | ((with_reducible refine ks ?_); clear hL; intro W hL hF) | (go_at_call 27; (((first | (with_reducible refine (WB _ _ _ 34 34 nb34 _ hI (by simp only [List.length_append, List.length_cons, List.length_nil]; omega) hW.size).mono ?_)))); rintro e W1 ⟨rfl, hI1, hb1⟩; replace hW := hW.trans hb1; clear hb1 hI; have hI := hI1; clear hI1) | (go_at_call 29; (with_reducible refine (BS _ _ _ _ hI hW.size t ht).mono ?_); rintro e W1 ⟨rfl, hI1, hb1⟩; replace hW := hW.trans hb1; clear hb1 hI; have hI := hI1; clear hI1))
   refine bodyPost_ret (by simp [results, Tryz.results9, go_sem, *]; try rfl) rfl ?_
   refine ⟨?_, hW⟩
   congr 2
   apply ba_ext
   rw [ht]; simp [quoteB]
theorem below_bytes (w : World) (e : TypeId) (t : ByteArray) : Below w.heap.size w (Lib.bytesWorld w e t) := by
 refine ⟨rfl, rfl, rfl, ?_, fun b hb => ?_⟩
 ·unfold Lib.bytesWorld World.freeze; split <;> simp
 ·unfold Lib.bytesWorld World.freeze
  split
  ·exact heap_alloc_old w.drew _ hb
  ·simp only [Array.getElem?_modify]
   rw [if_neg (by omega)]
   exact heap_alloc_old w.drew _ hb
theorem Parse_ok (s : ByteArray) (hm : s.size ≤ 100000000) (v : Int) (h : Lib.atoiAll s.data.toList = .ok v) (w : World) :
  Calls Tryz.prog 144 #[.string s, .int .i64 10, .int .i64 64] w fun e w' => e = .returned (.tuple #[.int .i64 v, .nilIface]) ∧ Below w.heap.size w w' :=
 (Tryz.strconv_ParseInt_10_at64_ok s (by omega) v (by rw [Lib.parseIntB_64]; exact h) w).mono fun e w' ⟨he, hw⟩ => ⟨he, by
  rcases hw with rfl | ⟨t, rfl⟩
  ·exact Below.refl _ _
  ·exact below_bytes w _ t⟩
theorem Parse_bad (s : ByteArray) (hm : s.size ≤ 100000000) (h : ∀ v, Lib.atoiAll s.data.toList ≠ .ok v) (w : World) (hT : Tab w) :
  Calls Tryz.prog 144 #[.string s, .int .i64 10, .int .i64 64] w fun e w' => ∃ v N, e = .returned (.tuple #[.int .i64 v, .iface 189 (.pointer (some ⟨N, 0, none⟩))]) ∧ Below w.heap.size w w' := by
 obtain ⟨h1, h2, ⟨tp, p, h3⟩, ⟨tq, q, h4⟩, _⟩ := hT
 cases ha : Lib.atoiAll s.data.toList with
 | ok v => exact absurd ha (h v)
 | «syntax» => exact (Tryz.strconv_ParseInt_10_at64_syntax_var s (by omega) (by rw [Lib.parseIntB_64]; exact ha) tp p w h3).mono fun e w' ⟨N, he, _, _, hb⟩ => ⟨0, N, he, hb⟩
 | range => exact (Tryz.strconv_ParseInt_10_at64_range_var s (by omega) (by rw [Lib.parseIntB_64]; exact ha) tq q w h4).mono fun e w' ⟨N, he, _, _, hb⟩ => ⟨_, N, he, hb⟩
theorem Decimal_any (n : Int) (h0 : -9223372036854775808 ≤ n) (h1 : n ≤ 9223372036854775807) (w : World) (hT : Tab w) :
  Calls Tryz.prog 10 #[.int .i64 n] w fun e w' => e = .returned (.string (numS n)) ∧ Below w.heap.size w w' := by
 have hL : Kn [] w w [] := Kn.refl [] w; have hF := hL.fx; go_enter Tryz.func10, Tryz.ntmps10
 go_wp2_with ((go_at_call 30; refine kc (fun W hL => Itoa_any _ h0 h1 _ (hT.kn hL (by simp))) ?_; clear hF hL; intro W hL hF))
 refine bodyPost_ret (by simp [results, Tryz.results10, go_sem, *]; try rfl) rfl ?_
 exact ⟨rfl, hL.below0⟩
theorem Int_some (s : ByteArray) (hm : s.size ≤ 100000000) (n : Int) (hc : canon s.data.toList = some n) (w : World) (hT : Tab w) :
  Calls Tryz.prog 126 #[.string s] w fun e w' => e = .returned (.tuple #[.int .i64 n, .bool true]) ∧ Below w.heap.size w w' := by
 obtain ⟨c1, c2, c3⟩ := canon_some hc
 have ha : Lib.atoiAll s.data.toList = .ok n := by rw [← c1]; exact atoi_itoa c2 c3
 have hns : numS n = s := ba_ext c1
 have hL : Kn [] w w [] := Kn.refl [] w; have hF := hL.fx; go_enter Tryz.func126, Tryz.ntmps126
 go_wp2_with (first | (go_at_call 144; refine kc (fun W hL => Parse_ok s hm n ha _) ?_; clear hF hL; intro W hL hF) | (go_at_call 145; refine kc (fun W hL => Format_any _ c2 c3 _ (hT.kn hL (by simp))) ?_; clear hF hL; intro W hL hF))
 refine bodyPost_ret (by simp [results, Tryz.results126, go_sem, *]; try rfl) rfl ?_
 exact ⟨rfl, hL.below0⟩
theorem Int_none (s : ByteArray) (hm : s.size ≤ 100000000) (hc : canon s.data.toList = none) (w : World) (hT : Tab w) :
  Calls Tryz.prog 126 #[.string s] w fun e w' => e = .returned (.tuple #[.int .i64 0, .bool false]) ∧ Below w.heap.size w w' := by
 by_cases hok : ∃ v, Lib.atoiAll s.data.toList = .ok v
 ·obtain ⟨v, ha⟩ := hok
  have hr := atoi_range ha
  obtain ⟨c2, c3⟩ := hr
  have hne : ((numS v).toList == s.toList) = false := (Lib.bytes_beq_false_iff _ _).2 fun e => by
   have e2 : Lib.itoa v = s.data.toList := by rw [← e]; rfl
   unfold canon at hc
   rw [ha] at hc
   simp only at hc
   rw [if_pos e2] at hc; cases hc
  have hne2 : ((numS v).toList != s.toList) = true := by unfold bne; rw [hne]; rfl
  have hL : Kn [] w w [] := Kn.refl [] w; have hF := hL.fx; go_enter Tryz.func126, Tryz.ntmps126
  go_wp2_with (first | (go_at_call 144; refine kc (fun W hL => Parse_ok s hm v ha _) ?_; clear hF hL; intro W hL hF) | (go_at_call 145; refine kc (fun W hL => Format_any _ c2 c3 _ (hT.kn hL (by simp))) ?_; clear hF hL; intro W hL hF))
  refine bodyPost_ret (by simp [results, Tryz.results126, go_sem, *]; try rfl) rfl ?_
  exact ⟨rfl, hL.below0⟩
 ·have hb := fun v hv => hok ⟨v, hv⟩
  have hL : Kn [] w w [] := Kn.refl [] w; have hF := hL.fx; go_enter Tryz.func126, Tryz.ntmps126
  go_wp2_with ((go_at_call 144; refine kG ?_; clear hF hL; intro W hL hF; (with_reducible refine (Parse_bad s hm hb _ (hT.kn hL (by simp))).mono ?_); rintro e W ⟨v, N, rfl, hb2⟩; replace hL := hL.below hb2; clear hb2 hF; have hF := hL.fx))
  refine bodyPost_ret (by simp [results, Tryz.results126, go_sem, *]; try rfl) rfl ?_
  exact ⟨rfl, hL.below0⟩
/-- A string divided at its line feeds: one piece more than there are. -/
def split10 : Bytes → List Bytes
 | [] => [[]]
 | c :: t => if c = 10 then [] :: split10 t else match split10 t with
  | h :: r => (c :: h) :: r
  | [] => [[c]]
theorem pre10 (b : UInt8) (l : Bytes) : List.isPrefixOf [10] (b :: l) = (b == 10) := by
 simp only [List.isPrefixOf, Bool.and_true]
 by_cases h : b = 10
 ·subst h; rfl
 ·rw [beq_false_of_ne h, beq_false_of_ne (Ne.symm h)]
theorem split_miss : ∀ s : Bytes, Lib.index s [10] = -1 → split10 s = [s]
 | [], _ => rfl
 | c :: t, h => by
  rw [Lib.index, pre10] at h
  by_cases hc : c = 10
  ·subst hc; simp at h
  ·rw [beq_false_of_ne hc] at h
   simp only [Bool.false_eq_true, if_false] at h
   have h1 : Lib.index t [10] = -1 := by
    split at h
    ·rename_i h2; simpa using h2
    ·have := Lib.index_ge t [10]; omega
   rw [split10, if_neg hc, split_miss t h1]
theorem split_hit : ∀ (s : Bytes) (i : Nat), Lib.index s [10] = i → split10 s = s.take i :: split10 (s.drop (i + 1)) ∧ i < s.length
 | [], i, h => by simp [Lib.index] at h
 | c :: t, i, h => by
  rw [Lib.index, pre10] at h
  by_cases hc : c = 10
  ·subst hc
   simp at h
   obtain rfl : i = 0 := by omega
   simp [split10]
  ·rw [beq_false_of_ne hc] at h
   simp only [Bool.false_eq_true, if_false] at h
   split at h
   ·omega
   ·obtain ⟨j, rfl⟩ : ∃ j, i = j + 1 := ⟨i - 1, by rename_i h2; have := Lib.index_ge t [10]; simp at h2; omega⟩
    obtain ⟨h3, h4⟩ := split_hit t j (by omega)
    rw [split10, if_neg hc, h3]
    simp; exact h4
theorem splitK_is : ∀ (n : Nat) (s : Bytes), s.length ≤ n → Lib.splitK [10] 0 (Lib.count s [10]) s = split10 s
 | n, s, hn => by
  by_cases hm : Lib.index s [10] = -1
  ·rw [Lib.count_miss hm, split_miss s hm]; rfl
  ·obtain ⟨i, hi⟩ := Int.eq_ofNat_of_zero_le (show 0 ≤ Lib.index s [10] by have := Lib.index_ge s [10]; omega)
   obtain ⟨h3, h4⟩ := split_hit s i hi
   rw [Lib.count_hit (by simp) hi, Nat.add_comm 1, Lib.splitK, if_neg (by simp; exact hm), h3, hi]
   simp only [Int.toNat_natCast, Nat.add_zero, List.length_singleton]
   match n with
   | 0 => omega
   | n + 1 => rw [splitK_is n (s.drop (i + 1)) (by rw [List.length_drop]; omega)]
theorem split_bytes (s : ByteArray) : ((Lib.splitB ⟨#[10]⟩ 0 (Lib.countB s ⟨#[10]⟩) s).map Value.string) = (split10 s.data.toList).map fun x => Value.string ⟨x.toArray⟩ := by
 have h := Lib.splitB_data ⟨#[10]⟩ 0 (Lib.countB s ⟨#[10]⟩) s
 rw [show (⟨#[10]⟩ : ByteArray).data.toList = [10] from rfl, show Lib.countB s ⟨#[10]⟩ = Lib.count s.data.toList [10] from rfl, splitK_is _ _ (Nat.le_refl _)] at h
 rw [← h, List.map_map]
 exact List.map_congr_left fun x _ => by simp
theorem split_count (s : ByteArray) : Lib.countB s ⟨#[10]⟩ + 1 = (split10 s.data.toList).length := by
 have h1 := Lib.splitB_all ⟨#[10]⟩ (by decide) 0 _ s rfl
 have h2 := congrArg List.length (split_bytes s)
 simp only [List.length_map] at h2
 omega
def linesB (s : Bytes) : List Bytes := if s = [] then [] else split10 (Lib.trimSuffix s [10])
def strs (l : List Bytes) : List Value := l.map fun x => .string ⟨x.toArray⟩
theorem Lines_none (s : ByteArray) (h : s.size = 0) (w : World) : Calls Tryz.prog 16 #[.string s] w fun e w' => e = .returned (.slice none 0 0) ∧ Below w.heap.size w w' := by
 obtain rfl : s = ⟨#[]⟩ := ba_ext (List.eq_nil_of_length_eq_zero (by rw [szl]; exact h))
 have hL : Kn [] w w [] := Kn.refl [] w; have hF := hL.fx; go_enter Tryz.func16, Tryz.ntmps16
 go_wp2
 refine bodyPost_ret (by simp [results, Tryz.results16, go_sem, *]; try rfl) rfl ?_
 exact ⟨rfl, hL.below0⟩
theorem Lines_some (s : ByteArray) (hs : s.size ≤ 100000000) (h : s.size ≠ 0) (w : World) (hT : Tab w) : Calls Tryz.prog 16 #[.string s] w fun e w' =>
  ∃ g, e = .returned (.slice (some ⟨g, 0, none⟩) (linesB s.data.toList).length (linesB s.data.toList).length) ∧ Kn [] w w' [(g, .cells (strs (linesB s.data.toList)).toArray 9 (0, 0))] := by
 have hne : (s.toList == (⟨#[]⟩ : ByteArray).toList) = false := (Lib.bytes_beq_false_iff _ _).2 fun e => h (by rw [e]; rfl)
 have hsn : s.data.toList ≠ [] := fun e => h (by rw [← szl, e]; rfl)
 have hl : linesB s.data.toList = split10 (Lib.trimSuffix s.data.toList [10]) := by unfold linesB; rw [if_neg hsn]
 obtain ⟨t, ht⟩ : ∃ t : ByteArray, t.data.toList = Lib.trimSuffix s.data.toList [10] := ⟨⟨(Lib.trimSuffix s.data.toList [10]).toArray⟩, by simp⟩
 have hts : t.size ≤ 100000000 := by
  rw [← szl, ht]
  unfold Lib.trimSuffix
  split
  ·rw [List.length_take, szl]; omega
  ·rw [szl]; exact hs
 have htrim : ∀ W, Calls Tryz.prog 38 #[.string s, .string ⟨#[10]⟩] W fun e w' => e = .returned (.string t) ∧ w' = W := fun W =>
  (Tryz.strings_TrimSuffix s ⟨#[10]⟩ W (by omega)).mono fun e w' ⟨h1, h2⟩ => ⟨by rw [h1]; congr 2; exact ba_ext (by rw [ht]), h2⟩
 obtain ⟨m, hm⟩ := hT.2.2.2.2
 have hsp : ∀ W, W = w → Calls Tryz.prog 37 #[.string t, .string ⟨#[10]⟩] W fun e w' => e = .returned (.slice (some ⟨W.heap.size, 0, none⟩) (linesB s.data.toList).length (linesB s.data.toList).length) ∧ Kn [] W w' [(W.heap.size, .cells (strs (linesB s.data.toList)).toArray 9 (0, 0))] := fun W hW =>
  (Tryz.strings_Split t ⟨#[10]⟩ m W (by omega) (by rw [hW]; exact hm) (by decide)).mono fun e w' ⟨h1, h2⟩ => by
   rw [split_bytes, ht, ← hl] at h2
   rw [split_count, ht, ← hl] at h1
   refine ⟨h1, ?_⟩
   rw [h2]
   have hK := Kn.refl [] W
   exact kn_here
 clear hne hsn hl ht
 have hie : s.toList.isEmpty = false := by
  rw [ByteArray.toList_eq]
  cases hd : s.data.toList with
  | nil => exact absurd (by rw [← szl, hd]; rfl) h
  | cons => rfl
 have hne : (s.toList == (⟨#[]⟩ : ByteArray).toList) = false := (Lib.bytes_beq_false_iff _ _).2 fun e => h (by rw [e]; rfl)
 go_enter Tryz.func16, Tryz.ntmps16
 go_wp2_with (first | (go_at_call 38; refine (htrim _).mono ?_; rintro e w' ⟨rfl, rfl⟩) | (go_at_call 37; refine (hsp _ rfl).mono ?_; rintro e w' ⟨rfl, hb⟩))
 refine bodyPost_ret (by simp [results, Tryz.results16, go_sem, *]; try rfl) rfl ?_
 exact ⟨_, rfl, hb⟩
theorem integer_some (s : ByteArray) (hs : s.size ≤ 1000000) (n : Int) (hc : canon s.data.toList = some n) (w : World) (hT : Tab w) : Calls Tryz.prog 102 #[.string s] w fun e w' => e = .returned (.int .i64 n) ∧ Below w.heap.size w w' := by
 have hL : Kn [] w w [] := Kn.refl [] w; have hF := hL.fx; go_enter Tryz.func102, Tryz.ntmps102
 go_wp2_with (first | ((with_reducible refine ks ?_); clear hL; intro W hL hF) | (go_at_call 126; refine kc (fun W hL => Int_some s (by omega) n hc _ (hT.kn hL (by simp))) ?_; clear hF hL; intro W hL hF) | (go_at_call 100; (with_reducible refine (need_ok _ _).mono ?_); rintro e w' ⟨rfl, rfl⟩))
 refine bodyPost_ret (by simp [results, Tryz.results102, go_sem, *]; try rfl) rfl ?_
 exact ⟨rfl, hL.below0⟩
theorem integer_none (s : ByteArray) (hs : s.size ≤ 1000000) (hc : canon s.data.toList = none) (w : World) (hT : Tab w) : Calls Tryz.prog 102 #[.string s] w fun e w' => e = .panicked [{ v := .iface 56 (.int .i64 2), recovered := false }] ∧ Below w.heap.size w w' := by
 have hL : Kn [] w w [] := Kn.refl [] w; have hF := hL.fx; go_enter Tryz.func102, Tryz.ntmps102
 go_wp2_with (first | ((with_reducible refine ks ?_); clear hL; intro W hL hF) | (go_at_call 126; refine kc (fun W hL => Int_none s (by omega) hc _ (hT.kn hL (by simp))) ?_; clear hF hL; intro W hL hF) | (go_at_call 100; (with_reducible refine (need_bad _ _).mono ?_); rintro e w' ⟨rfl, rfl⟩))
 exact ⟨rfl, rfl, hL.below0⟩
end Go.Proofs.YtfdlifhkeicnnaaGreatDoor
