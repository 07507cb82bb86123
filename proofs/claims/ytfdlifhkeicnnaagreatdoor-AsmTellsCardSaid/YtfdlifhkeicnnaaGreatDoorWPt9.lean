/- Lemmas and walks for the law LawTells (part 9). -/
import Derived.Test.YtfdlifhkeicnnaaGreatDoorWPt8
import Derived.Test.YtfdlifhkeicnnaaGreatDoorProg
import Derived.WalkKit
import Derived.Handy
import Derived.Deep.Light
import Derived.WalkSmall
import Derived.StillTailTactics
import Derived.Lib.Hide
import Derived.Laws.MakeOwn
import Derived.Lib.ConvBytes
import Derived.Lib.AtoiErrMem
set_option maxRecDepth 20000
set_option maxHeartbeats 4000000
set_option linter.unusedVariables false
set_option linter.unusedSimpArgs false
namespace Go.Proofs.YtfdlifhkeicnnaaGreatDoor
open Go Go.RowKit
theorem Kn.new {X : List Nat} {w0 W W' : World} {L : List (Nat × Obj)} {g : Nat} {o : Obj} (h : Kn X w0 W L) (hb : Below W.heap.size W W') (hg : W.heap.size ≤ g) (ho : W'.heap[g]? = some o) : Kn X w0 W' ((g, o) :: L) := by
 have k := h.below hb
 refine ⟨k.os, k.tape, k.output, k.size, k.block, fun p hp => ?_, fun p hp => ?_, ?_⟩
 ·rcases List.mem_cons.1 hp with rfl | hp
  ·left; have := h.size; simp; omega
  ·exact h.own p hp
 ·rcases List.mem_cons.1 hp with rfl | hp
  ·exact ho
  ·exact k.has p hp
 ·rw [List.map_cons, List.nodup_cons]
  refine ⟨fun hm => ?_, h.nd⟩
  obtain ⟨q, hq, e⟩ := List.mem_map.1 hm
  have := h.lt hq
  simp only at e; omega
theorem row_open {w : World} {vo : Value} {ops : List Bytes} (h : Row w vo (sv ops)) : ∃ ao cap, vo = .slice ao ops.length cap ∧ ∀ (j : Nat) p, ops[j]? = some p → ∃ g o, ao = some ⟨g, o, none⟩ ∧ g < w.heap.size ∧ w.cell? ⟨g, o + j, none⟩ = some (.string ⟨p.toArray⟩) := by
 obtain ⟨ao, cap, h1, h2⟩ := h
 refine ⟨ao, cap, by rw [h1]; simp [sv], fun j p hp => ?_⟩
 obtain ⟨g, o, h3, h4⟩ := h2 j (.string ⟨p.toArray⟩) (by simp [sv, hp])
 exact ⟨g, o, h3, cell_lt h4, h4⟩
/-- A list of bytes as a row that is new. -/
def BRow (w : World) (g : Nat) (u : Bytes) : Prop := ∀ (j : Nat) x, (bc u)[j]? = some x → w.cell? ⟨g, j, none⟩ = some x
def CRow (cu : Array Value) (u : Bytes) : Prop := ∀ (j : Nat) x, (bc u)[j]? = some x → cu[j]? = some x
theorem BRow.crow {w : World} {g : Nat} {u : Bytes} {cu : Array Value} {t : TypeId} {f : Nat × Nat} (h : BRow w g u) (ho : w.heap[g]? = some (.cells cu t f)) : CRow cu u := fun j x hx => by
 have := h j x hx
 rw [World.cell?, ho] at this
 simpa using this
def DirP (r : Rs Bytes) (w : World) (e : Ending) (w' : World) : Prop := match r with
 | .ok u => ∃ g cap cu f, e = .returned (.slice (some ⟨g, 0, none⟩) u.length cap) ∧ CRow cu u ∧ Kn [] w w' [(g, .cells cu 5 f)]
 | .bad m => e = .panicked [{ v := .iface 56 (.int .i64 m), recovered := false }] ∧ Below w.heap.size w w'
noncomputable def textR (ops : List Bytes) : Rs Bytes := match ops with
 | [s] => (match unqB s with
  | some u => .ok u
  | none => .bad 2)
 | _ => .bad 2
noncomputable def spaceR (ops : List Bytes) : Rs Bytes := match ops with
 | [s] => (match number OO s 0 4096 with
  | .ok n => .ok (List.replicate n.toNat 0)
  | .bad e => .bad e)
 | _ => .bad 2
theorem textR_many {ops : List Bytes} (h : ops.length ≠ 1) : textR ops = .bad 2 := by
 unfold textR
 split
 ·simp at h
 ·rfl
theorem spaceR_many {ops : List Bytes} (h : ops.length ≠ 1) : spaceR ops = .bad 2 := by
 unfold spaceR
 split
 ·simp at h
 ·rfl
theorem Unquote_some (s : ByteArray) (hs : s.size ≤ 900000) (u : Bytes) (h : Hid (unqB s.data.toList = some u)) (w : World) : Calls Tryz.prog 129 #[.string s] w fun e w' => e = .returned (.tuple #[.string ⟨u.toArray⟩, .bool true]) ∧ Below w.heap.size w w' := by
 refine (Unquote_is s hs w).mono fun e w' hp => ?_
 obtain ⟨⟨o, h1, h2, rfl⟩ | ⟨h1, _⟩, hb⟩ := hp
 ·have := unq_some h1 h2
  rw [h.out] at this
  cases this
  exact ⟨rfl, hb⟩
 ·have := unq_none h1
  rw [h.out] at this
  cases this
theorem Unquote_none (s : ByteArray) (hs : s.size ≤ 900000) (h : Hid (unqB s.data.toList = none)) (w : World) : Calls Tryz.prog 129 #[.string s] w fun e w' => e = .returned (.tuple #[.string ⟨#[]⟩, .bool false]) ∧ Below w.heap.size w w' := by
 refine (Unquote_is s hs w).mono fun e w' hp => ?_
 obtain ⟨⟨o, h1, h2, rfl⟩ | ⟨h1, rfl⟩, hb⟩ := hp
 ·have := unq_some h1 h2
  rw [h.out] at this
  cases this
 ·exact ⟨rfl, hb⟩
theorem conv_sb (u : ByteArray) (W : World) : (convert 9 47 (.string u)).run Tryz.prog W = .ok (.slice (some ⟨W.heap.size, 0, none⟩) u.size (grownCap W u.size 0 5)) (Lib.bytesWorld W 5 u) :=
 Lib.run_convert_string_bytes W _ _ _ u Tryz.underlying9 Tryz.underlying47 Tryz.underlying5
theorem brow_conv (W : World) (u : ByteArray) : BRow (Lib.bytesWorld W 5 u) W.heap.size u.data.toList := by
 intro j x hx
 unfold bc at hx
 rw [List.getElem?_map] at hx
 obtain ⟨c, hc, rfl⟩ := Option.map_eq_some_iff.1 hx
 have hj : j < u.size := by have := (List.getElem?_eq_some_iff.1 hc).1; rwa [szl] at this
 rw [Lib.bytesWorld_cell W _ u j hj, List.getD_eq_getElem?_getD, hc]; rfl
theorem make_bytes (n : Nat) (hn : n ≤ 1000000) (W : World) : (Instr.makeSlice 47 (.int .i64 (n : Int)) (.int .i64 (n : Int))).run Tryz.prog W = .ok (.slice (some ⟨W.heap.size, 0, none⟩) n n) (W.alloc (.cells (bc (List.replicate n 0)).toArray 5)) := by
 obtain ⟨i0, hi, hz0, hz1, hz2⟩ := info_parts infoB8
 have e : madeCells #[Value.int .u8 0] n = (bc (List.replicate n 0)).toArray := by
  unfold madeCells bc
  apply Array.ext_getElem?
  intro j
  rcases Nat.lt_or_ge j n with h | h
  ·simp [h, Nat.mod_one]
  ·simp [h]
 have h := run_make (P := Tryz.prog) W 47 5 i0 _ Tryz.underlying47 hi hz0 .i64 .i64 n n (by omega) (by omega) (by rw [hz2]; omega) (by omega)
 rw [hz1, Int.toNat_natCast, Nat.mul_one] at h
 rw [show (Value.int IntKind.u8 0).cells = #[Value.int IntKind.u8 0] from rfl, e] at h
 exact h
theorem text_many (ab xg xo : Nat) (vo : Value) (ops : List Bytes) (last : Bool) (w : World) (hx2 : w.cell? ⟨xg, xo + 2, none⟩ = some vo) (hvo : Row w vo (sv ops)) (hsz : ∀ p ∈ ops, p.length ≤ 900000) (hn : ops.length ≤ 100000) (hT : TabA w) (h1 : ops.length ≠ 1) : Calls Tryz.prog 97 #[.pointer (some ⟨ab, 0, none⟩), .pointer (some ⟨xg, xo, none⟩), .bool last] w (DirP (textR ops) w) := by
 rw [textR_many h1]
 obtain ⟨ao, cap, rfl, hc⟩ := row_open hvo
 have l2 := cell_lt hx2
 have q1 : ((ops.length : Int) == 1) = false := beq_false_of_ne (by omega)
 clear h1 hc hvo
 have hL : Kn [] w w [] := Kn.refl [] w; have hF := hL.fx; go_enter Tryz.func97, Tryz.ntmps97
 go_wp2_with (first | ((with_reducible refine ks ?_); clear hL; intro W hL hF) | (go_at_call 100; (with_reducible refine (need_bad _ _).mono ?_); rintro e w' ⟨rfl, rfl⟩))
 exact ⟨rfl, rfl, hL.below0⟩
theorem text_some (ab xg xo : Nat) (cap g o : Nat) (s : ByteArray) (last : Bool) (w : World) (hx2 : w.cell? ⟨xg, xo + 2, none⟩ = some (.slice (some ⟨g, o, none⟩) 1 cap)) (hg : w.cell? ⟨g, o, none⟩ = some (.string s)) (hsz : s.size ≤ 900000) (u : ByteArray) (hu : Hid (unqB s.data.toList = some u.data.toList)) : Calls Tryz.prog 97 #[.pointer (some ⟨ab, 0, none⟩), .pointer (some ⟨xg, xo, none⟩), .bool last] w fun e w' => ∃ g cap cu f, e = .returned (.slice (some ⟨g, 0, none⟩) u.size cap) ∧ CRow cu u.data.toList ∧ Kn [] w w' [(g, .cells cu 5 f)] := by
 have l2 := cell_lt hx2
 have lg := cell_lt hg
 have hcv := conv_sb u
 have hU := Lib.hid (fun W => Unquote_some s hsz _ hu W)
 rw [toList_mk] at hU
 have hL : Kn [] w w [] := Kn.refl [] w; have hF := hL.fx; go_enter Tryz.func97, Tryz.ntmps97
 go_wp2_with (first | ((with_reducible refine ks ?_); clear hL; intro W hL hF) | (go_at_call 100; (with_reducible refine (need_ok _ _).mono ?_); rintro e w' ⟨rfl, rfl⟩) | (go_at_call 129; refine kc (fun W hL => hU.out _) ?_; clear hF hL; intro W hL hF))
 refine bodyPost_ret (by simp [results, Tryz.results97, go_sem, *]; try rfl) rfl ?_
 exact ⟨_, _, _, _, rfl, (brow_conv _ _).crow (Lib.bytesWorld_at_new _ _ _), hL.new (Lib.bytesWorld_below _ _ _) (Nat.le_refl _) (Lib.bytesWorld_at_new _ _ _)⟩
theorem text_none (ab xg xo : Nat) (cap g o : Nat) (s : ByteArray) (last : Bool) (w : World) (hx2 : w.cell? ⟨xg, xo + 2, none⟩ = some (.slice (some ⟨g, o, none⟩) 1 cap)) (hg : w.cell? ⟨g, o, none⟩ = some (.string s)) (hsz : s.size ≤ 900000) (hu : Hid (unqB s.data.toList = none)) : Calls Tryz.prog 97 #[.pointer (some ⟨ab, 0, none⟩), .pointer (some ⟨xg, xo, none⟩), .bool last] w fun e w' => e = .panicked [{ v := .iface 56 (.int .i64 2), recovered := false }] ∧ Below w.heap.size w w' := by
 have l2 := cell_lt hx2
 have lg := cell_lt hg
 have hL : Kn [] w w [] := Kn.refl [] w; have hF := hL.fx; go_enter Tryz.func97, Tryz.ntmps97
 go_wp2_with (first | ((with_reducible refine ks ?_); clear hL; intro W hL hF) | (go_at_call 100; (((first | (with_reducible refine (need_ok _ _).mono ?_) | (with_reducible refine (need_bad _ _).mono ?_)))); rintro e w' ⟨rfl, rfl⟩) | (go_at_call 129; refine kc (fun W hL => Unquote_none s hsz hu _) ?_; clear hF hL; intro W hL hF))
 exact ⟨rfl, rfl, hL.below0⟩
theorem text_is (ab xg xo : Nat) (vo : Value) (ops : List Bytes) (last : Bool) (w : World) (hx2 : w.cell? ⟨xg, xo + 2, none⟩ = some vo) (hvo : Row w vo (sv ops)) (hsz : ∀ p ∈ ops, p.length ≤ 900000) (hn : ops.length ≤ 100000) (hT : TabA w) : Calls Tryz.prog 97 #[.pointer (some ⟨ab, 0, none⟩), .pointer (some ⟨xg, xo, none⟩), .bool last] w (DirP (textR ops) w) := by
 by_cases h1 : ops.length = 1
 ·obtain ⟨p, rfl⟩ : ∃ p, ops = [p] := List.length_eq_one_iff.1 h1
  obtain ⟨s, rfl⟩ : ∃ s : ByteArray, p = s.data.toList := ⟨⟨p.toArray⟩, by simp⟩
  obtain ⟨ao, cap, rfl, hc⟩ := row_open hvo
  obtain ⟨g, o, rfl, hg1, hg2⟩ := hc 0 _ rfl
  rw [toList_mk] at hg2
  have hs := hsz _ (List.mem_singleton.2 rfl)
  rw [szl] at hs
  cases hu : unqB s.data.toList with
  | some u =>
   obtain ⟨u, rfl⟩ : ∃ b : ByteArray, u = b.data.toList := ⟨⟨u.toArray⟩, by simp⟩
   rw [show textR [s.data.toList] = .ok u.data.toList by unfold textR; simp only [hu]]
   refine (text_some ab xg xo cap g o s last w hx2 hg2 hs u (Lib.hid hu)).mono fun e w' h => ?_
   unfold DirP
   simp only
   rw [szl]; exact h
  | none =>
   rw [show textR [s.data.toList] = .bad 2 by unfold textR; simp only [hu]]
   exact text_none ab xg xo cap g o s last w hx2 hg2 hs (Lib.hid hu)
 ·exact text_many ab xg xo vo ops last w hx2 hvo hsz hn hT h1
theorem space_many (ab xg xo : Nat) (vo : Value) (ops : List Bytes) (last : Bool) (w : World) (hx2 : w.cell? ⟨xg, xo + 2, none⟩ = some vo) (hvo : Row w vo (sv ops)) (hsz : ∀ p ∈ ops, p.length ≤ 900000) (hn : ops.length ≤ 100000) (hT : TabA w) (h1 : ops.length ≠ 1) : Calls Tryz.prog 98 #[.pointer (some ⟨ab, 0, none⟩), .pointer (some ⟨xg, xo, none⟩), .bool last] w (DirP (spaceR ops) w) := by
 rw [spaceR_many h1]
 obtain ⟨ao, cap, rfl, hc⟩ := row_open hvo
 have l2 := cell_lt hx2
 have q1 : ((ops.length : Int) == 1) = false := beq_false_of_ne (by omega)
 clear h1 hc hvo
 have hL : Kn [] w w [] := Kn.refl [] w; have hF := hL.fx; go_enter Tryz.func98, Tryz.ntmps98
 go_wp2_with (first | ((with_reducible refine ks ?_); clear hL; intro W hL hF) | (go_at_call 100; (with_reducible refine (need_bad _ _).mono ?_); rintro e w' ⟨rfl, rfl⟩))
 exact ⟨rfl, rfl, hL.below0⟩
def NumP (r : Rs Int) (w : World) (e : Ending) (w' : World) : Prop := RegP r e ∧ Below w.heap.size w w'
theorem number_is (s : ByteArray) (hs : s.size ≤ 1000000) (lo hi : Int) (w : World) (hT : Tab w) : Calls Tryz.prog 127 #[.string s, .int .i64 lo, .int .i64 hi] w (NumP (number OO s.data.toList lo hi) w) := by
 unfold number NumP
 show Calls _ _ _ _ fun e w' => RegP (match canon s.data.toList with
  | none => .bad 2
  | some n => if lo ≤ n ∧ n ≤ hi then .ok n else .bad 3) e ∧ _
 cases hc : canon s.data.toList with
 | none => exact number_none s hs lo hi hc w hT
 | some n =>
  simp only
  by_cases h1 : lo ≤ n
  ·by_cases h2 : n ≤ hi
   ·rw [if_pos ⟨h1, h2⟩]; exact number_some s hs lo hi n hc ⟨h1, h2⟩ w hT
   ·rw [if_neg (fun h => h2 h.2)]; exact number_high s hs lo hi n hc h1 h2 w hT
  ·rw [if_neg (fun h => h1 h.1)]; exact number_low s hs lo hi n hc h1 w hT
theorem number_ok (s : ByteArray) (hs : s.size ≤ 1000000) (lo hi n : Int) (h : Hid (number OO s.data.toList lo hi = .ok n)) (w : World) (hT : Tab w) : Calls Tryz.prog 127 #[.string s, .int .i64 lo, .int .i64 hi] w fun e w' => e = .returned (.int .i64 n) ∧ Below w.heap.size w w' := by
 have := number_is s hs lo hi w hT
 rw [h.out] at this
 exact this
theorem number_bad (s : ByteArray) (hs : s.size ≤ 1000000) (lo hi : Int) (m : Nat) (h : Hid (number OO s.data.toList lo hi = .bad m)) (w : World) (hT : Tab w) : Calls Tryz.prog 127 #[.string s, .int .i64 lo, .int .i64 hi] w fun e w' => e = .panicked [{ v := .iface 56 (.int .i64 m), recovered := false }] ∧ Below w.heap.size w w' := by
 have := number_is s hs lo hi w hT
 rw [h.out] at this
 exact this
theorem number_range {s : Bytes} {lo hi n : Int} (h : number OO s lo hi = .ok n) : lo ≤ n ∧ n ≤ hi := by
 unfold number at h
 split at h
 ·cases h
 ·split at h
  ·cases h; assumption
  ·cases h
theorem space_ok (ab xg xo : Nat) (cap g o : Nat) (s : ByteArray) (last : Bool) (w : World) (hx2 : w.cell? ⟨xg, xo + 2, none⟩ = some (.slice (some ⟨g, o, none⟩) 1 cap)) (hg : w.cell? ⟨g, o, none⟩ = some (.string s)) (hsz : s.size ≤ 900000) (n : Nat) (hn : n ≤ 4096) (hu : Hid (number OO s.data.toList 0 4096 = .ok (n : Int))) (hT : TabA w) : Calls Tryz.prog 98 #[.pointer (some ⟨ab, 0, none⟩), .pointer (some ⟨xg, xo, none⟩), .bool last] w fun e w' => ∃ g cap cu f, e = .returned (.slice (some ⟨g, 0, none⟩) n cap) ∧ CRow cu (List.replicate n 0) ∧ Kn [] w w' [(g, .cells cu 5 f)] := by
 have l2 := cell_lt hx2
 have lg := cell_lt hg
 have hmk := make_bytes n (by omega)
 have hL : Kn [] w w [] := Kn.refl [] w; have hF := hL.fx; go_enter Tryz.func98, Tryz.ntmps98
 go_wp2_with (first | ((with_reducible refine ks ?_); clear hL; intro W hL hF) | (go_at_call 100; (with_reducible refine (need_ok _ _).mono ?_); rintro e w' ⟨rfl, rfl⟩) | (go_at_call 127; refine kc (fun W hL => number_ok s (by omega) _ _ _ hu _ ((hT.kn hL (by simp)).t)) ?_; clear hF hL; intro W hL hF))
 refine bodyPost_ret (by simp [results, Tryz.results98, go_sem, *]; try rfl) rfl ?_
 exact ⟨_, _, _, _, rfl, (fun j x hx => by simpa using hx), kn_here (X := []) (w0 := w)⟩
theorem space_bad (ab xg xo : Nat) (cap g o : Nat) (s : ByteArray) (last : Bool) (w : World) (hx2 : w.cell? ⟨xg, xo + 2, none⟩ = some (.slice (some ⟨g, o, none⟩) 1 cap)) (hg : w.cell? ⟨g, o, none⟩ = some (.string s)) (hsz : s.size ≤ 900000) (m : Nat) (hu : Hid (number OO s.data.toList 0 4096 = .bad m)) (hT : TabA w) : Calls Tryz.prog 98 #[.pointer (some ⟨ab, 0, none⟩), .pointer (some ⟨xg, xo, none⟩), .bool last] w fun e w' => e = .panicked [{ v := .iface 56 (.int .i64 m), recovered := false }] ∧ Below w.heap.size w w' := by
 have l2 := cell_lt hx2
 have lg := cell_lt hg
 have hL : Kn [] w w [] := Kn.refl [] w; have hF := hL.fx; go_enter Tryz.func98, Tryz.ntmps98
 go_wp2_with (first | ((with_reducible refine ks ?_); clear hL; intro W hL hF) | (go_at_call 100; (with_reducible refine (need_ok _ _).mono ?_); rintro e w' ⟨rfl, rfl⟩) | (go_at_call 127; refine kc (fun W hL => number_bad s (by omega) _ _ _ hu _ ((hT.kn hL (by simp)).t)) ?_; clear hF hL; intro W hL hF))
 exact ⟨rfl, rfl, hL.below0⟩
theorem space_is (ab xg xo : Nat) (vo : Value) (ops : List Bytes) (last : Bool) (w : World) (hx2 : w.cell? ⟨xg, xo + 2, none⟩ = some vo) (hvo : Row w vo (sv ops)) (hsz : ∀ p ∈ ops, p.length ≤ 900000) (hn : ops.length ≤ 100000) (hT : TabA w) : Calls Tryz.prog 98 #[.pointer (some ⟨ab, 0, none⟩), .pointer (some ⟨xg, xo, none⟩), .bool last] w (DirP (spaceR ops) w) := by
 by_cases h1 : ops.length = 1
 ·obtain ⟨p, rfl⟩ : ∃ p, ops = [p] := List.length_eq_one_iff.1 h1
  obtain ⟨s, rfl⟩ : ∃ s : ByteArray, p = s.data.toList := ⟨⟨p.toArray⟩, by simp⟩
  obtain ⟨ao, cap, rfl, hc⟩ := row_open hvo
  obtain ⟨g, o, rfl, hg1, hg2⟩ := hc 0 _ rfl
  rw [toList_mk] at hg2
  have hs := hsz _ (List.mem_singleton.2 rfl)
  rw [szl] at hs
  cases hu : number OO s.data.toList 0 4096 with
  | ok n =>
   have hr := number_range hu
   obtain ⟨k, rfl⟩ : ∃ k : Nat, n = k := ⟨n.toNat, by omega⟩
   rw [show spaceR [s.data.toList] = .ok (List.replicate k 0) by unfold spaceR; simp only [hu, Int.toNat_natCast]]
   refine (space_ok ab xg xo cap g o s last w hx2 hg2 hs k (by omega) (Lib.hid hu) hT).mono fun e w' h => ?_
   unfold DirP
   simp only
   rw [List.length_replicate]; exact h
  | bad m =>
   rw [show spaceR [s.data.toList] = .bad m by unfold spaceR; simp only [hu]]
   exact space_bad ab xg xo cap g o s last w hx2 hg2 hs m (Lib.hid hu) hT
 ·exact space_many ab xg xo vo ops last w hx2 hvo hsz hn hT h1
noncomputable def bytesR (ops : List Bytes) : Rs Bytes := if ops = [] ∨ ops.any (fun s => (OO.int s).isNone) then .bad 2 else match mapR (fun s => number OO s (-128) 255) ops with
  | .bad e => .bad e
  | .ok l => .ok (l.map byteOf)
theorem bytesR_none {ops : List Bytes} {k : Nat} {p : Bytes} (h : ops[k]? = some p) (hc : canon p = none) : bytesR ops = .bad 2 := by
 unfold bytesR
 rw [if_pos (.inr (List.any_eq_true.2 ⟨p, List.mem_of_getElem? h, by show (canon p).isNone = true; rw [hc]; rfl⟩))]
theorem bytesR_all {ops : List Bytes} (hne : ops ≠ []) (h : ∀ j < ops.length, ∀ p, ops[j]? = some p → canon p ≠ none) : bytesR ops = (match mapR (fun s => number OO s (-128) 255) ops with
 | .bad e => .bad e
 | .ok l => .ok (l.map byteOf)) := by
 unfold bytesR
 rw [if_neg]
 rintro (h1 | h1)
 ·exact hne h1
 ·obtain ⟨p, hp, hn⟩ := List.any_eq_true.1 h1
  obtain ⟨j, hj⟩ := List.mem_iff_getElem?.1 hp
  exact h j (List.getElem?_eq_some_iff.1 hj).1 p hj (by show canon p = none; exact Option.isNone_iff_eq_none.1 hn)
section
variable {α β : Type} {f : α → Rs β}
theorem mapR_snoc : ∀ {l : List α} {a : α} {r : List β}, mapR f l = .ok r → mapR f (l ++ [a]) = (match f a with | .ok b => .ok (r ++ [b]) | .bad e => .bad e)
 | [], a, r, h => by
  cases h
  show (match f a with | .bad e => Rs.bad e | .ok b => Rs.ok [b]) = _
  cases f a <;> rfl
 | x :: l, a, r, h => by
  unfold mapR at h
  rw [List.cons_append]
  unfold mapR
  cases hx : f x with
  | bad e => rw [hx] at h; cases h
  | ok b =>
   rw [hx] at h
   simp only at h ⊢
   cases hl : mapR f l with
   | bad e => rw [hl] at h; cases h
   | ok bs =>
    rw [hl] at h
    cases h
    rw [mapR_snoc hl]
    cases f a <;> rfl
theorem mapR_stop : ∀ {l m : List α} {e : Nat}, mapR f l = .bad e → mapR f (l ++ m) = .bad e
 | [], _, _, h => by cases h
 | x :: l, m, e, h => by
  unfold mapR at h
  rw [List.cons_append]
  unfold mapR
  cases hx : f x with
  | bad e' => rw [hx] at h; exact h
  | ok b =>
   rw [hx] at h
   simp only at h ⊢
   cases hl : mapR f l with
   | bad e' => rw [hl] at h; cases h; rw [mapR_stop hl]
   | ok bs => rw [hl] at h; cases h
theorem mapR_next {l : List α} {k : Nat} {a : α} {r : List β} (h : mapR f (l.take k) = .ok r) (ha : l[k]? = some a) {b : β} (hb : f a = .ok b) : mapR f (l.take (k + 1)) = .ok (r ++ [b]) := by
 rw [List.take_add_one, ha, Option.toList_some, mapR_snoc h, hb]
theorem mapR_fail {l : List α} {k : Nat} {a : α} {r : List β} (h : mapR f (l.take k) = .ok r) (ha : l[k]? = some a) {e : Nat} (hb : f a = .bad e) : mapR f l = .bad e := by
 have h1 : mapR f (l.take (k + 1)) = .bad e := by rw [List.take_add_one, ha, Option.toList_some, mapR_snoc h, hb]
 rw [← List.take_append_drop (k + 1) l]
 exact mapR_stop h1
end
theorem u8_wrap (n : Int) : IntKind.u8.wrap n = ((byteOf n).toNat : Int) := by
 unfold byteOf
 rw [show IntKind.u8.wrap n = n % 256 from by simp [IntKind.wrap, IntKind.bits, IntKind.signed]]
 have h0 := Int.emod_nonneg n (show (256 : Int) ≠ 0 by decide)
 have h1 := Int.emod_lt_of_pos n (show (0 : Int) < 256 by decide)
 rw [UInt8.toNat_ofNat', Nat.mod_eq_of_lt (by omega), Int.toNat_of_nonneg h0]
theorem bc_app (l m : Bytes) : bc (l ++ m) = bc l ++ bc m := by simp [bc]
theorem bytes_none (ab xg xo : Nat) (vo : Value) (ops : List Bytes) (last : Bool) (w : World) (hx2 : w.cell? ⟨xg, xo + 2, none⟩ = some vo) (hvo : Row w vo (sv ops)) (hsz : ∀ p ∈ ops, p.length ≤ 900000) (hn : ops.length ≤ 100000) (hT : TabA w) (h1 : ops.length = 0) : Calls Tryz.prog 95 #[.pointer (some ⟨ab, 0, none⟩), .pointer (some ⟨xg, xo, none⟩), .bool last] w (DirP (bytesR ops) w) := by
 obtain rfl := List.eq_nil_of_length_eq_zero h1
 rw [show bytesR [] = .bad 2 from if_pos (.inl rfl)]
 obtain ⟨ao, cap, rfl, hc⟩ := row_open hvo
 have l2 := cell_lt hx2
 clear h1 hc hvo
 have hL : Kn [] w w [] := Kn.refl [] w; have hF := hL.fx; go_enter Tryz.func95, Tryz.ntmps95
 go_wp2_with (first | ((with_reducible refine ks ?_); clear hL; intro W hL hF) | (go_at_call 100; (with_reducible refine (need_bad _ _).mono ?_); rintro e w' ⟨rfl, rfl⟩))
 exact ⟨rfl, rfl, hL.below0⟩
theorem bytes_some (ab xg xo : Nat) (vo : Value) (ops : List Bytes) (last : Bool) (w : World) (hx2 : w.cell? ⟨xg, xo + 2, none⟩ = some vo) (hvo : Row w vo (sv ops)) (hsz : ∀ p ∈ ops, p.length ≤ 900000) (hn : ops.length ≤ 100000) (hT : TabA w) (hne : ops.length ≠ 0) : Calls Tryz.prog 95 #[.pointer (some ⟨ab, 0, none⟩), .pointer (some ⟨xg, xo, none⟩), .bool last] w (DirP (bytesR ops) w) := by
 obtain ⟨i0, hi, hz0, hz1, hz2⟩ := info_parts infoB8
 have HNE := Lib.hid (show ops ≠ [] from fun h => hne (by rw [h]; rfl))
 obtain ⟨ao, cap, rfl, hc⟩ := row_open hvo
 obtain ⟨p0, hp0⟩ : ∃ p, ops[0]? = some p := ⟨_, List.getElem?_eq_getElem (by omega)⟩
 obtain ⟨g, o, rfl, hg1, _⟩ := hc 0 _ hp0
 have HC := Lib.hid (show ∀ (j : Nat) p, ops[j]? = some p → w.cell? ⟨g, o + j, none⟩ = some (.string ⟨p.toArray⟩) from fun j p hp => by
  obtain ⟨g', o', e, _, h2⟩ := hc j p hp
  cases e; exact h2)
 have HSZ := Lib.hid hsz
 obtain ⟨n, hln⟩ : ∃ n, ops.length = n := ⟨_, rfl⟩
 rw [hln] at hx2 hn hne
 have l2 := cell_lt hx2
 have q1 : (0 : Int) < n := by omega
 have q2 : decide ((0 : Int) < (n : Int)) = true := decide_eq_true q1
 have q3 : decide (0 < n) = true := decide_eq_true (by omega)
 have HLN := Lib.hid hln
 clear hc hvo hp0 hsz hln
 obtain ⟨R, hR⟩ : ∃ R, bytesR ops = R := ⟨_, rfl⟩
 have HR := Lib.hid hR
 rw [hR]
 clear hR
 have hL : Kn [] w w [] := Kn.refl [] w; have hF := hL.fx; go_enter Tryz.func95, Tryz.ntmps95
 go_wp2_with (first | ((with_reducible refine ks ?_); clear hL; intro W hL hF) | (go_at_call 100; (with_reducible refine (need_ok _ _).mono ?_); rintro e w' ⟨rfl, rfl⟩))
 go_loopw [8, 9, 10, 26] (fun a b c i wr => ∃ k : Nat, k ≤ n ∧ i = .int .i64 k ∧ Hid (∀ j < k, ∀ p, ops[j]? = some p → canon p ≠ none) ∧ Kn [] w wr []) (fun _ _ _ i _ => n - (intOf i).toNat)
 case atStart => exact ⟨0, by omega, rfl, Lib.hid (fun j hj => by omega), hL⟩
 case round =>
  clear hL
  obtain ⟨k, hk, rfl, HI, hL⟩ := hrel
  have hF := hL.fx
  by_cases hlt : k < n
  ·obtain ⟨p, hp⟩ : ∃ p, ops[k]? = some p := ⟨_, List.getElem?_eq_getElem (by rw [HLN.out]; omega)⟩
   have hck := HC.out k p hp
   have hps := HSZ.out p (List.mem_of_getElem? hp)
   obtain ⟨s, rfl⟩ : ∃ s : ByteArray, p = s.data.toList := ⟨⟨p.toArray⟩, by simp⟩
   rw [toList_mk] at hck
   rw [szl] at hps
   have HP := Lib.hid hp
   clear hp
   cases hcn : canon s.data.toList with
   | none =>
    have HB := HR.out.symm.trans (bytesR_none HP.out hcn)
    subst HB
    go_wp2_with (first | ((with_reducible refine ks ?_); clear hL; intro W hL hF) | (go_at_call 100; (with_reducible refine (need_bad _ _).mono ?_); rintro e w' ⟨rfl, rfl⟩) | (go_at_call 126; refine kc (fun W hL => Int_none s (by omega) hcn _ ((hT.kn hL (by simp)).t)) ?_; clear hF hL; intro W hL hF))
    exact ⟨rfl, rfl, hL.below0⟩
   | some v =>
    go_wp2_with (first | ((with_reducible refine ks ?_); clear hL; intro W hL hF) | (go_at_call 100; (with_reducible refine (need_ok _ _).mono ?_); rintro e w' ⟨rfl, rfl⟩) | (go_at_call 126; refine kc (fun W hL => Int_some s (by omega) v hcn _ ((hT.kn hL (by simp)).t)) ?_; clear hF hL; intro W hL hF))
    go_roundw
    case measure => simp [intOf]; omega
    case rel => exact ⟨k + 1, by omega, by go_num, Lib.hid (fun j hj p hp => by
     rcases Nat.lt_or_ge j k with h | h
     ·exact HI.out j h p hp
     ·obtain rfl : j = k := by omega
      rw [HP.out] at hp; cases hp; rw [hcn]; simp), hL⟩
  ·obtain rfl : k = n := by omega
   have HM := Lib.hid (HR.out.symm.trans (bytesR_all HNE.out (by rw [HLN.out]; exact HI.out)))
   clear HI
   go_wp2
   go_loopw [11, 13, 43] (fun out b i wr => ∃ (j : Nat) (LP : List (Nat × Obj)) (l : List Int), j ≤ k ∧ i = .int .i64 j ∧ RowL 1 5 LP out j (bc (l.map byteOf)) ∧ Hid (mapR (fun s => number OO s (-128) 255) (ops.take j) = .ok l ∧ l.length = j) ∧ Kn [] w wr (LP ++ [])) (fun _ _ i _ => k - (intOf i).toNat)
   case atStart => exact ⟨0, [], [], by omega, rfl, RowL.nil, Lib.hid ⟨rfl, rfl⟩, hL⟩
   case round =>
    clear hL
    obtain ⟨j, LP, l, hj, rfl, hrow, HI, hL⟩ := hrel
    have hF := hL.fx
    by_cases hlt : j < k
    ·obtain ⟨p, hp⟩ : ∃ p, ops[j]? = some p := ⟨_, List.getElem?_eq_getElem (by rw [HLN.out]; omega)⟩
     have hck := HC.out j p hp
     have hps := HSZ.out p (List.mem_of_getElem? hp)
     obtain ⟨s, rfl⟩ : ∃ s : ByteArray, p = s.data.toList := ⟨⟨p.toArray⟩, by simp⟩
     rw [toList_mk] at hck
     rw [szl] at hps
     have HP := Lib.hid hp
     clear hp
     cases hnum : number OO s.data.toList (-128) 255 with
     | bad m =>
      have HB := HM.out
      rw [mapR_fail HI.out.1 HP.out hnum] at HB
      subst HB
      have HU := Lib.hid hnum
      clear hnum
      rcases hrow with ⟨rfl, rfl, hj0, _⟩ | ⟨g2, cap2, cur2, rfl, rfl, _⟩
      ·(have HJ0 := Lib.hid hj0; clear hj0)
       go_wp2_with (first | ((with_reducible refine ks ?_); clear hL; intro W hL hF) | (go_at_call 100; (with_reducible refine (need_ok _ _).mono ?_); rintro e w' ⟨rfl, rfl⟩) | (go_at_call 127; refine kn_calls ?_; clear hF hL; intro W hL; simp only [kfb] at hL; have hF := hL.fx; (with_reducible refine (number_bad s (by omega) _ _ _ HU _ ((hT.kn hL (by simp)).t)).mono ?_); rintro e W ⟨rfl, hb⟩; replace hL := hL.below hb; clear hb hF; have hF := hL.fx))
       exact ⟨rfl, rfl, hL.below0⟩
      ·go_wp2_with (first | ((with_reducible refine ks ?_); clear hL; intro W hL hF) | (go_at_call 100; (with_reducible refine (need_ok _ _).mono ?_); rintro e w' ⟨rfl, rfl⟩) | (go_at_call 127; refine kn_calls ?_; clear hF hL; intro W hL; simp only [kfb] at hL; have hF := hL.fx; (with_reducible refine (number_bad s (by omega) _ _ _ HU _ ((hT.kn hL (by simp)).t)).mono ?_); rintro e W ⟨rfl, hb⟩; replace hL := hL.below hb; clear hb hF; have hF := hL.fx))
       exact ⟨rfl, rfl, hL.below0⟩
     | ok v =>
      have HU := Lib.hid hnum
      have HN2 := Lib.hid (mapR_next HI.out.1 HP.out hnum)
      clear hnum
      have hw8 := u8_wrap v
      obtain ⟨c, hcb⟩ : ∃ c, byteOf v = c := ⟨_, rfl⟩
      rw [hcb] at hw8
      have HCB := Lib.hid hcb
      clear hcb
      rcases hrow with ⟨rfl, rfl, hj0, hsv⟩ | ⟨g2, cap2, cur2, rfl, rfl, hb⟩
      ·have HJ0 := Lib.hid hj0
       clear hj0
       go_wp2_with (first | ((with_reducible refine ks ?_); clear hL; intro W hL hF) | (go_at_call 100; (with_reducible refine (need_ok _ _).mono ?_); rintro e w' ⟨rfl, rfl⟩) | (go_at_call 127; refine kn_calls ?_; clear hF hL; intro W hL; simp only [kfb] at hL; have hF := hL.fx; (with_reducible refine (number_ok s (by omega) _ _ _ HU _ ((hT.kn hL (by simp)).t)).mono ?_); rintro e W ⟨rfl, hb⟩; replace hL := hL.below hb; clear hb hF; have hF := hL.fx) | (at_builtin; refine kL ?_; clear hF hL; intro W hL hF; refine wpList_append_rowL rfl _ _ 47 rfl 5 i0 _ Tryz.underlying47 hi hz0 (by rw [hz1]; rfl) (by rw [hz1]; decide) _ ([]) [] hL _ _ _ (by rw [hz1]; exact (.inl ⟨rfl, rfl, HJ0.out, hsv⟩)) rfl _ _ _ (bc [c]) rfl (by rw [hz1]; rfl) (fun j u hu => by rw [Go.WideShapes.add_plain, Nat.zero_add, World.cell?, hL.has _ List.mem_cons_self]; simpa [bc] using hu) (by intro u hu; obtain ⟨c, _, rfl⟩ := List.mem_map.1 hu; rfl) (by unfold maxLen; omega) (by rw [hz2]; omega) (by decide) ?_; intro g14 cap14 cur14 W2 hL2 hr14; clear hL hF; rw [hz1] at hr14; have hL := hL2.sub (List.Sublist.cons_cons (g14, Obj.cells cur14 5 (0, 0)) (List.sublist_cons_self _ _)); clear hL2; have hF := hL.fx))
       go_roundw
       case measure => simp [intOf]; omega
       case rel => exact ⟨j + 1, _, _, by omega, by go_num, RowL.of_blk (by rw [List.map_append, bc_app, List.map_cons, List.map_nil, HCB.out]; exact hr14), Lib.hid ⟨HN2.out, by simp [HI.out.2]⟩, hL⟩
      ·go_wp2_with (first | ((with_reducible refine ks ?_); clear hL; intro W hL hF) | (go_at_call 100; (with_reducible refine (need_ok _ _).mono ?_); rintro e w' ⟨rfl, rfl⟩) | (go_at_call 127; refine kn_calls ?_; clear hF hL; intro W hL; simp only [kfb] at hL; have hF := hL.fx; (with_reducible refine (number_ok s (by omega) _ _ _ HU _ ((hT.kn hL (by simp)).t)).mono ?_); rintro e W ⟨rfl, hb⟩; replace hL := hL.below hb; clear hb hF; have hF := hL.fx) | (at_builtin; refine kL ?_; clear hF hL; intro W hL hF; refine wpList_append_rowL rfl _ _ 47 rfl 5 i0 _ Tryz.underlying47 hi hz0 (by rw [hz1]; rfl) (by rw [hz1]; decide) _ ([(g2, .cells cur2 5 (0, 0))]) [] hL _ _ _ (by rw [hz1]; exact (RowL.of_blk hb)) rfl _ _ _ (bc [c]) rfl (by rw [hz1]; rfl) (fun j u hu => by rw [Go.WideShapes.add_plain, Nat.zero_add, World.cell?, hL.has _ List.mem_cons_self]; simpa [bc] using hu) (by intro u hu; obtain ⟨c, _, rfl⟩ := List.mem_map.1 hu; rfl) (by unfold maxLen; omega) (by rw [hz2]; omega) (by decide) ?_; intro g14 cap14 cur14 W2 hL2 hr14; clear hL hF; rw [hz1] at hr14; have hL := hL2.sub (List.Sublist.cons_cons (g14, Obj.cells cur14 5 (0, 0)) (List.sublist_cons_self _ _)); clear hL2; have hF := hL.fx))
       go_roundw
       case measure => simp [intOf]; omega
       case rel => exact ⟨j + 1, _, _, by omega, by go_num, RowL.of_blk (by rw [List.map_append, bc_app, List.map_cons, List.map_nil, HCB.out]; exact hr14), Lib.hid ⟨HN2.out, by simp [HI.out.2]⟩, hL⟩
    ·obtain rfl : j = k := by omega
     have HB := HM.out
     rw [List.take_of_length_le (by rw [HLN.out]; omega)] at HI
     rw [HI.out.1] at HB
     subst HB
     rcases hrow with ⟨rfl, rfl, hj0, hsv⟩ | ⟨g2, cap2, cur2, rfl, rfl, hb⟩
     ·exact absurd q1 (by omega)
     ·go_wp2
      refine bodyPost_ret (by simp [results, Tryz.results95, go_sem, *]; try rfl) rfl ?_
      exact ⟨_, _, _, _, by rw [List.length_map, HI.out.2], fun j x hx => hb.get hx, hL⟩
theorem bytes_is (ab xg xo : Nat) (vo : Value) (ops : List Bytes) (last : Bool) (w : World) (hx2 : w.cell? ⟨xg, xo + 2, none⟩ = some vo) (hvo : Row w vo (sv ops)) (hsz : ∀ p ∈ ops, p.length ≤ 900000) (hn : ops.length ≤ 100000) (hT : TabA w) : Calls Tryz.prog 95 #[.pointer (some ⟨ab, 0, none⟩), .pointer (some ⟨xg, xo, none⟩), .bool last] w (DirP (bytesR ops) w) := by
 by_cases h : ops.length = 0
 ·exact bytes_none ab xg xo vo ops last w hx2 hvo hsz hn hT h
 ·exact bytes_some ab xg xo vo ops last w hx2 hvo hsz hn hT h
end Go.Proofs.YtfdlifhkeicnnaaGreatDoor
