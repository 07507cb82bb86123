/- Lemmas and walks for the law LawTells (part 36). -/
import Derived.Test.YtfdlifhkeicnnaaGreatDoorWPt35
import Derived.Test.YtfdlifhkeicnnaaGreatDoorProg
import Derived.WalkKit
import Derived.Handy
import Derived.Deep.Light
import Derived.WalkSmall
import Derived.StillTailTactics
import Derived.Lib.Hide
set_option maxRecDepth 20000
set_option maxHeartbeats 4000000
set_option linter.unusedVariables false
set_option linter.unusedSimpArgs false
namespace Go.Proofs.YtfdlifhkeicnnaaGreatDoor
open Go Go.RowKit
def errN (r : Rs Bytes) : Nat := match r with
 | .ok _ => 0
 | .bad m => m
noncomputable def dirE (x : Stm) : Nat := if isDir x.op then errN (direct OO [] x false) else 0
def DirRP (x : Stm) (w : World) (e : Ending) (w' : World) : Prop := ∃ n : Int, (∀ b, direct OO [] x false = .ok b → n = (b.length : Int)) ∧ e = .returned (.tuple #[.int .i64 n, .int .i64 (dirE x : Int), .bool (isDir x.op)]) ∧ Below w.heap.size w w'
/-- Whether a number is out of range. -/
def rngB (lo hi : Int) (s : Bytes) : Bool := match canon s with
 | some n => decide (n < lo) || decide (hi < n)
 | none => false
theorem any_next {ops : List Bytes} {f : Bytes → Bool} {k : Nat} {s : Bytes} {ev : Int} (h : ops[k]? = some s) (he : (if (ops.take k).any f then (3 : Int) else 0) = ev) {b : Bool} (hb : f s = b) : (if (ops.take (k + 1)).any f then (3 : Int) else 0) = if b then 3 else ev := by
 rw [List.take_add_one, h, Option.toList_some, List.any_append, ← he, List.any_cons, List.any_nil, hb, Bool.or_false]
 cases b <;> simp
theorem mapR_rng {α : Type} {f : Bytes → Rs α} {r : Bytes → Bool} : ∀ l : List Bytes, (∀ s ∈ l, (r s = true → f s = .bad 3) ∧ (r s = false → ∃ a, f s = .ok a)) → (l.any r = true → mapR f l = .bad 3) ∧ (l.any r = false → ∃ bs, mapR f l = .ok bs ∧ bs.length = l.length)
 | [], _ => ⟨(fun h => by simp at h), fun _ => ⟨[], rfl, rfl⟩⟩
 | s :: l, h => by
  obtain ⟨i1, i2⟩ := mapR_rng l (fun x hx => h x (List.mem_cons_of_mem _ hx))
  obtain ⟨h1, h2⟩ := h s List.mem_cons_self
  rw [List.any_cons]
  cases hr : r s with
  | true =>
   refine ⟨fun _ => ?_, fun hh => by simp at hh⟩
   unfold mapR; rw [h1 hr]
  | false =>
   obtain ⟨a, ha⟩ := h2 hr
   rw [Bool.false_or]
   refine ⟨fun hh => ?_, fun hh => ?_⟩
   ·unfold mapR; rw [ha, i1 hh]
   ·obtain ⟨bs, hb, hl⟩ := i2 hh
    exact ⟨a :: bs, by unfold mapR; rw [ha, hb], by rw [List.length_cons, List.length_cons, hl]⟩
theorem number_rng {s : Bytes} {lo hi : Int} (h : canon s ≠ none) : (rngB lo hi s = true → number OO s lo hi = .bad 3) ∧ (rngB lo hi s = false → ∃ a, number OO s lo hi = .ok a) := by
 cases hc : canon s with
 | none => exact absurd hc h
 | some n =>
  unfold rngB number
  rw [show OO.int s = some n from hc, hc]
  simp only [Bool.or_eq_true, decide_eq_true_eq, Bool.or_eq_false_iff, decide_eq_false_iff_not]
  refine ⟨fun hh => by rw [if_neg (by omega)], fun hh => ⟨n, by rw [if_pos (by omega)]⟩⟩
theorem dirB_none {ls ops : List Bytes} {k : Nat} {p : Bytes} (h : ops[k]? = some p) (hc : canon p = none) : direct OO [] ⟨ls, dByte, ops⟩ false = .bad 2 := by
 unfold direct
 rw [if_pos rfl, if_pos (.inr (List.any_eq_true.2 ⟨p, List.mem_of_getElem? h, by show (canon p).isNone = true; rw [hc]; rfl⟩))]
theorem dirW_none {ls ops : List Bytes} {k : Nat} {p : Bytes} (h : ops[k]? = some p) (hc : canon p = none) (hn : named p = false) : direct OO [] ⟨ls, dWord, ops⟩ false = .bad 2 := by
 unfold direct
 rw [if_neg (show ¬ dWord = dByte by decide), if_pos rfl, if_pos (.inr (List.any_eq_true.2 ⟨p, List.mem_of_getElem? h, by show ((canon p).isNone && !named p) = true; rw [hc, hn]; rfl⟩))]
theorem dirB_all {ls ops : List Bytes} (h0 : ops ≠ []) (h : ∀ (j : Nat) p, ops[j]? = some p → canon p ≠ none) : if ops.any (rngB (-128) 255) then direct OO [] ⟨ls, dByte, ops⟩ false = .bad 3 else ∃ b, direct OO [] ⟨ls, dByte, ops⟩ false = .ok b ∧ b.length = 1 * ops.length := by
 have hall : ∀ s ∈ ops, canon s ≠ none := fun s hs => by obtain ⟨j, hj⟩ := List.getElem?_of_mem hs; exact h j s hj
 have hm := mapR_rng (f := fun s => number OO s (-128) 255) (r := rngB (-128) 255) ops (fun s hs => number_rng (hall s hs))
 have hd : direct OO [] ⟨ls, dByte, ops⟩ false = (match mapR (fun s => number OO s (-128) 255) ops with
   | .bad e => .bad e
   | .ok l => .ok (l.map byteOf)) := by
  unfold direct
  rw [if_pos rfl, if_neg (by
   rintro (h1 | h1)
   ·exact h0 h1
   ·obtain ⟨s, hs, hn⟩ := List.any_eq_true.1 h1
    exact hall s hs (Option.isNone_iff_eq_none.1 hn))]
  rfl
 rw [hd]
 split
 ·rename_i ha; rw [hm.1 ha]
 ·rename_i ha
  obtain ⟨bs, hb, hl⟩ := hm.2 (by simpa using ha)
  rw [hb]
  exact ⟨_, rfl, by rw [List.length_map, hl]; omega⟩
theorem dirW_all {ls ops : List Bytes} (h0 : ops ≠ []) (h : ∀ (j : Nat) p, ops[j]? = some p → (canon p ≠ none ∨ named p = true)) : if ops.any (rngB (-2147483648) 4294967295) then direct OO [] ⟨ls, dWord, ops⟩ false = .bad 3 else ∃ b, direct OO [] ⟨ls, dWord, ops⟩ false = .ok b ∧ b.length = 4 * ops.length := by
 have hall : ∀ s ∈ ops, (canon s ≠ none ∨ named s = true) := fun s hs => by obtain ⟨j, hj⟩ := List.getElem?_of_mem hs; exact h j s hj
 obtain ⟨f, hf⟩ : ∃ f : Bytes → Rs Int, f = fun s => if named s then (match address [] s false with
    | .bad e => .bad e
    | .ok n => .ok (n : Int)) else number OO s (-2147483648) 4294967295 := ⟨_, rfl⟩
 have hm := mapR_rng (f := f) (r := rngB (-2147483648) 4294967295) ops (fun s hs => by
  rw [hf]
  simp only
  cases hn : named s with
  | true =>
   have hc : canon s = none := named_int hn
   have hr : rngB (-2147483648) 4294967295 s = false := by unfold rngB; rw [hc]
   rw [hr]
   refine ⟨(fun hh => by simp at hh), fun _ => ⟨0, ?_⟩⟩
   unfold address; rw [hn]; rfl
  | false =>
   rcases hall s hs with hc | hc
   ·simpa using number_rng hc
   ·rw [hn] at hc; cases hc)
 have hd : direct OO [] ⟨ls, dWord, ops⟩ false = (match mapR f ops with
   | .bad e => .bad e
   | .ok l => .ok (l.flatMap fun n => [byteOf n, byteOf (n / 256), byteOf (n / 65536), byteOf (n / 16777216)])) := by
  unfold direct
  rw [if_neg (show ¬ dWord = dByte by decide), if_pos rfl, if_neg (by
   rintro (h1 | h1)
   ·exact h0 h1
   ·obtain ⟨s, hs, hn⟩ := List.any_eq_true.1 h1
    rw [Bool.and_eq_true, Bool.not_eq_true'] at hn
    rcases hall s hs with hc | hc
    ·exact hc (Option.isNone_iff_eq_none.1 hn.1)
    ·rw [hn.2] at hc; cases hc), hf]
  rfl
 rw [hd]
 split
 ·rename_i ha; rw [hm.1 ha]
 ·rename_i ha
  obtain ⟨bs, hb, hl⟩ := hm.2 (by simpa using ha)
  rw [hb]
  refine ⟨_, rfl, ?_⟩
  rw [flat4 _ (fun _ => rfl), hl]
theorem dirR_b (vl vo : Value) (sop : ByteArray) (ls ops : List Bytes) (at_ : Int) (hsz : ∀ p ∈ ops, p.length ≤ 90000) (hol : ops.length ≤ 100000) (w : World) (hvo : Row w vo (sv ops)) (hso : sop.data.toList = dByte) : Calls Tryz.prog 46 #[.agg #[vl, .string sop, vo, .int .i64 at_]] w (DirRP ⟨ls, sop.data.toList, ops⟩ w) := by
 obtain rfl : sop = ⟨#[46, 98, 121, 116, 101]⟩ := ba_ext hso
 have hop : (⟨#[46, 98, 121, 116, 101]⟩ : ByteArray).data.toList = dByte := rfl
 rw [hop]
 by_cases h0 : ops = []
 ·subst h0
  obtain ⟨ao, cap, rfl, _⟩ := row_open hvo
  have HR := Lib.hid (show dirE ⟨ls, dByte, []⟩ = 2 from rfl)
  unfold DirRP
  rw [HR.out, show direct OO [] ⟨ls, dByte, []⟩ false = .bad 2 from by unfold direct; rw [if_pos rfl, if_pos (.inl rfl)], show isDir dByte = true by decide]
  simp only [List.length_nil]
  clear hop hvo hso
  have hL : Kn [] w w [] := Kn.refl [] w; have hF := hL.fx; go_enter Tryz.func46, Tryz.ntmps46
  go_wp2
  refine bodyPost_ret (by simp [results, Tryz.results46, go_sem, *]; try rfl) rfl ?_
  ((exact ⟨0, (fun b hb => nomatch hb), rfl, kn_here.below0⟩))
 ·have hne : ops.length ≠ 0 := fun h => h0 (List.eq_nil_of_length_eq_zero h)
  obtain ⟨ao, cap, rfl, hc⟩ := row_open hvo
  obtain ⟨p0, hp0⟩ : ∃ p, ops[0]? = some p := ⟨_, List.getElem?_eq_getElem (by omega)⟩
  obtain ⟨g, o, rfl, hg1, _⟩ := hc 0 _ hp0
  have HC := Lib.hid (show ∀ (j : Nat) p, ops[j]? = some p → w.cell? ⟨g, o + j, none⟩ = some (.string ⟨p.toArray⟩) from fun j p hp => by
   obtain ⟨g', o', e, _, h2⟩ := hc j p hp
   cases e; exact h2)
  have HSZ := Lib.hid hsz
  obtain ⟨n, hln⟩ : ∃ n, ops.length = n := ⟨_, rfl⟩
  rw [hln] at hol hne ⊢
  have q1 : ((n : Int) == 0) = false := beq_false_of_ne (by omega)
  have HLN := Lib.hid hln
  have H0 := Lib.hid h0
  obtain ⟨R, hR⟩ : ∃ R, direct OO [] ⟨ls, dByte, ops⟩ false = R := ⟨_, rfl⟩
  have HR := Lib.hid hR
  unfold DirRP
  rw [show dirE ⟨ls, dByte, ops⟩ = errN R from by unfold dirE; rw [if_pos (show isDir dByte = true by decide), hR], hR, show isDir dByte = true by decide]
  clear hc hvo hp0 hsz hln h0 hR hop hso
  have hL : Kn [] w w [] := Kn.refl [] w; have hF := hL.fx; go_enter Tryz.func46, Tryz.ntmps46
  go_wp2
  go_loopw [11, 12, 13, 14] (fun e i a b wr => ∃ k : Nat, k ≤ n ∧ e = .int .i64 (if (ops.take k).any (rngB (-128) 255) then 3 else 0) ∧ i = .int .i64 k ∧ Hid (∀ j, j < k → ∀ p, ops[j]? = some p → canon p ≠ none) ∧ Kn [] w wr [(w.heap.size, .cells #[vl, .string ⟨#[46, 98, 121, 116, 101]⟩, .slice (some ⟨g, o, none⟩) n cap, .int .i64 at_] 85 (0, 0))]) (fun _ i _ _ _ => n - (intOf i).toNat)
  case atStart => exact ⟨0, by omega, rfl, rfl, Lib.hid (fun j hj => by omega), kn_here⟩
  case round =>
   clear hL
   clear hF
   obtain ⟨k, hk, rfl, rfl, HI, hL⟩ := hrel
   have hF := hL.fx
   obtain ⟨ev, hev⟩ : ∃ ev : Int, (if (ops.take k).any (rngB (-128) 255) then (3 : Int) else 0) = ev := ⟨_, rfl⟩
   rw [hev]
   have HEV := Lib.hid hev
   clear hev
   by_cases hlt : k < n
   ·obtain ⟨p, hp⟩ : ∃ p, ops[k]? = some p := ⟨_, List.getElem?_eq_getElem (by rw [HLN.out]; omega)⟩
    have hck := HC.out k p hp
    have hps := HSZ.out p (List.mem_of_getElem? hp)
    obtain ⟨s, rfl⟩ : ∃ s : ByteArray, p = s.data.toList := ⟨⟨p.toArray⟩, by simp⟩
    rw [toList_mk] at hck
    rw [szl] at hps
    have HP := Lib.hid hp
    clear hp
    cases hcn : canon s.data.toList with
    | none =>
     have HNU := Lib.hid (fun W => refNum_none s (by omega) hcn W)
     have HB := HR.out.symm.trans (dirB_none HP.out hcn)
     subst HB
     go_wp2_with ((go_at_call 74; refine kc (fun W hL => HNU.out _) ?_; clear hF hL; intro W hL hF))
     refine bodyPost_ret (by simp [results, Tryz.results46, go_sem, *]; try rfl) rfl ?_
     ((exact ⟨0, (fun b hb => nomatch hb), rfl, kn_here.below0⟩))
    | some v =>
     have HNU := Lib.hid (fun W => refNum_some s (by omega) v hcn W)
     have HCN := Lib.hid hcn
     by_cases h1 : v < -128
     ·have t1 : decide (v < -128) = true := decide_eq_true h1
      have HRG := Lib.hid (show rngB (-128) 255 s.data.toList = true from by unfold rngB; rw [HCN.out]; simp [h1])
      clear hcn
      go_wp2_with ((go_at_call 74; refine kc (fun W hL => HNU.out _) ?_; clear hF hL; intro W hL hF))
      go_roundw
      case measure => simp [intOf]; omega
      case rel => exact ⟨k + 1, by omega, by rw [show (if (ops.take (k + 1)).any (rngB (-128) 255) then (3 : Int) else 0) = 3 from any_next HP.out HEV.out HRG.out], by go_num, Lib.hid (fun j hj q hq => by
       rcases Nat.lt_or_ge j k with h | h
       ·exact HI.out j h q hq
       ·obtain rfl : j = k := by omega
        rw [HP.out] at hq; cases hq; exact by rw [HCN.out]; simp), hL⟩
     ·have t1 : decide (v < -128) = false := decide_eq_false h1
      by_cases h2 : 255 < v
      ·have t2 : decide (255 < v) = true := decide_eq_true h2
       have HRG := Lib.hid (show rngB (-128) 255 s.data.toList = true from by unfold rngB; rw [HCN.out]; simp [h2])
       clear hcn
       go_wp2_with ((go_at_call 74; refine kc (fun W hL => HNU.out _) ?_; clear hF hL; intro W hL hF))
       go_roundw
       case measure => simp [intOf]; omega
       case rel => exact ⟨k + 1, by omega, by rw [show (if (ops.take (k + 1)).any (rngB (-128) 255) then (3 : Int) else 0) = 3 from any_next HP.out HEV.out HRG.out], by go_num, Lib.hid (fun j hj q hq => by
        rcases Nat.lt_or_ge j k with h | h
        ·exact HI.out j h q hq
        ·obtain rfl : j = k := by omega
         rw [HP.out] at hq; cases hq; exact by rw [HCN.out]; simp), hL⟩
      ·have t2 : decide (255 < v) = false := decide_eq_false h2
       have HRG := Lib.hid (show rngB (-128) 255 s.data.toList = false from by unfold rngB; rw [HCN.out]; simp; omega)
       clear hcn
       go_wp2_with ((go_at_call 74; refine kc (fun W hL => HNU.out _) ?_; clear hF hL; intro W hL hF))
       go_roundw
       case measure => simp [intOf]; omega
       case rel => exact ⟨k + 1, by omega, by rw [show (if (ops.take (k + 1)).any (rngB (-128) 255) then (3 : Int) else 0) = ev from any_next HP.out HEV.out HRG.out], by go_num, Lib.hid (fun j hj q hq => by
        rcases Nat.lt_or_ge j k with h | h
        ·exact HI.out j h q hq
        ·obtain rfl : j = k := by omega
         rw [HP.out] at hq; cases hq; exact by rw [HCN.out]; simp), hL⟩
   ·obtain rfl : k = n := by omega
    have hD := dirB_all (ls := ls) H0.out (fun j p hp => HI.out j (by rw [← HLN.out]; exact (List.getElem?_eq_some_iff.1 hp).1) p hp)
    rw [HR.out] at hD
    have HD := Lib.hid hD
    clear hD
    have HEV2 := HEV.out
    rw [List.take_of_length_le (by rw [HLN.out]; exact Nat.le_refl _)] at HEV2
    cases hany : ops.any (rngB (-128) 255) with
    | true =>
     rw [hany] at HEV2
     obtain rfl : ev = 3 := HEV2.symm
     have HB : R = .bad 3 := by have := HD.out; rw [hany] at this; exact this
     subst HB
     clear HEV2 hany
     go_wp2
     refine bodyPost_ret (by simp [results, Tryz.results46, go_sem, *]; try rfl) rfl ?_
     ((exact ⟨⟨_, rfl⟩, kn_here.below0⟩))
    | false =>
     rw [hany] at HEV2
     obtain rfl : ev = 0 := HEV2.symm
     obtain ⟨b, hb, hbl⟩ : ∃ b, R = .ok b ∧ b.length = 1 * k := by have := HD.out; rw [hany] at this; simpa [HLN.out] using this
     subst hb
     clear HEV2 hany
     go_wp2
     refine bodyPost_ret (by simp [results, Tryz.results46, go_sem, *]; try rfl) rfl ?_
     exact ⟨_, (fun b' hb => by cases hb; omega), rfl, kn_here.below0⟩
theorem dirR_w (vl vo : Value) (sop : ByteArray) (ls ops : List Bytes) (at_ : Int) (hsz : ∀ p ∈ ops, p.length ≤ 90000) (hol : ops.length ≤ 100000) (w : World) (hvo : Row w vo (sv ops)) (hso : sop.data.toList = dWord) : Calls Tryz.prog 46 #[.agg #[vl, .string sop, vo, .int .i64 at_]] w (DirRP ⟨ls, sop.data.toList, ops⟩ w) := by
 obtain rfl : sop = ⟨#[46, 119, 111, 114, 100]⟩ := ba_ext hso
 have hop : (⟨#[46, 119, 111, 114, 100]⟩ : ByteArray).data.toList = dWord := rfl
 rw [hop]
 by_cases h0 : ops = []
 ·subst h0
  obtain ⟨ao, cap, rfl, _⟩ := row_open hvo
  have HR := Lib.hid (show dirE ⟨ls, dWord, []⟩ = 2 from rfl)
  unfold DirRP
  rw [HR.out, show direct OO [] ⟨ls, dWord, []⟩ false = .bad 2 from by unfold direct; rw [if_neg (show ¬ dWord = dByte by decide), if_pos rfl, if_pos (.inl rfl)], show isDir dWord = true by decide]
  simp only [List.length_nil]
  clear hop hvo hso
  have hL : Kn [] w w [] := Kn.refl [] w; have hF := hL.fx; go_enter Tryz.func46, Tryz.ntmps46
  go_wp2
  refine bodyPost_ret (by simp [results, Tryz.results46, go_sem, *]; try rfl) rfl ?_
  ((exact ⟨0, (fun b hb => nomatch hb), rfl, kn_here.below0⟩))
 ·have hne : ops.length ≠ 0 := fun h => h0 (List.eq_nil_of_length_eq_zero h)
  obtain ⟨ao, cap, rfl, hc⟩ := row_open hvo
  obtain ⟨p0, hp0⟩ : ∃ p, ops[0]? = some p := ⟨_, List.getElem?_eq_getElem (by omega)⟩
  obtain ⟨g, o, rfl, hg1, _⟩ := hc 0 _ hp0
  have HC := Lib.hid (show ∀ (j : Nat) p, ops[j]? = some p → w.cell? ⟨g, o + j, none⟩ = some (.string ⟨p.toArray⟩) from fun j p hp => by
   obtain ⟨g', o', e, _, h2⟩ := hc j p hp
   cases e; exact h2)
  have HSZ := Lib.hid hsz
  obtain ⟨n, hln⟩ : ∃ n, ops.length = n := ⟨_, rfl⟩
  rw [hln] at hol hne ⊢
  have q1 : ((n : Int) == 0) = false := beq_false_of_ne (by omega)
  have HLN := Lib.hid hln
  have H0 := Lib.hid h0
  obtain ⟨R, hR⟩ : ∃ R, direct OO [] ⟨ls, dWord, ops⟩ false = R := ⟨_, rfl⟩
  have HR := Lib.hid hR
  unfold DirRP
  rw [show dirE ⟨ls, dWord, ops⟩ = errN R from by unfold dirE; rw [if_pos (show isDir dWord = true by decide), hR], hR, show isDir dWord = true by decide]
  clear hc hvo hp0 hsz hln h0 hR hop hso
  have hL : Kn [] w w [] := Kn.refl [] w; have hF := hL.fx; go_enter Tryz.func46, Tryz.ntmps46
  go_wp2
  go_loopw [11, 12, 13, 14] (fun e i a b wr => ∃ k : Nat, k ≤ n ∧ e = .int .i64 (if (ops.take k).any (rngB (-2147483648) 4294967295) then 3 else 0) ∧ i = .int .i64 k ∧ Hid (∀ j, j < k → ∀ p, ops[j]? = some p → (canon p ≠ none ∨ named p = true)) ∧ Kn [] w wr [(w.heap.size, .cells #[vl, .string ⟨#[46, 119, 111, 114, 100]⟩, .slice (some ⟨g, o, none⟩) n cap, .int .i64 at_] 85 (0, 0))]) (fun _ i _ _ _ => n - (intOf i).toNat)
  case atStart => exact ⟨0, by omega, rfl, rfl, Lib.hid (fun j hj => by omega), kn_here⟩
  case round =>
   clear hL
   clear hF
   obtain ⟨k, hk, rfl, rfl, HI, hL⟩ := hrel
   have hF := hL.fx
   obtain ⟨ev, hev⟩ : ∃ ev : Int, (if (ops.take k).any (rngB (-2147483648) 4294967295) then (3 : Int) else 0) = ev := ⟨_, rfl⟩
   rw [hev]
   have HEV := Lib.hid hev
   clear hev
   by_cases hlt : k < n
   ·obtain ⟨p, hp⟩ : ∃ p, ops[k]? = some p := ⟨_, List.getElem?_eq_getElem (by rw [HLN.out]; omega)⟩
    have hck := HC.out k p hp
    have hps := HSZ.out p (List.mem_of_getElem? hp)
    obtain ⟨s, rfl⟩ : ∃ s : ByteArray, p = s.data.toList := ⟨⟨p.toArray⟩, by simp⟩
    rw [toList_mk] at hck
    rw [szl] at hps
    have HP := Lib.hid hp
    clear hp
    cases hcn : canon s.data.toList with
    | none =>
     have HNU := Lib.hid (fun W => refNum_none s (by omega) hcn W)
     have HNM := Lib.hid (fun W => refName_is s (by omega) W)
     cases hnm : named s.data.toList with
     | false =>
      rw [hnm] at HNM
      have HB := HR.out.symm.trans (dirW_none HP.out hcn hnm)
      subst HB
      go_wp2_with (first | (go_at_call 74; refine kc (fun W hL => HNU.out _) ?_; clear hF hL; intro W hL hF) | (go_at_call 12; refine kc (fun W hL => HNM.out _) ?_; clear hF hL; intro W hL hF))
      refine bodyPost_ret (by simp [results, Tryz.results46, go_sem, *]; try rfl) rfl ?_
      ((exact ⟨0, (fun b hb => nomatch hb), rfl, kn_here.below0⟩))
     | true =>
      rw [hnm] at HNM
      have HRG := Lib.hid (show rngB (-2147483648) 4294967295 s.data.toList = false from by unfold rngB; rw [hcn])
      have HNN := Lib.hid hnm
      go_wp2_with (first | (go_at_call 74; refine kc (fun W hL => HNU.out _) ?_; clear hF hL; intro W hL hF) | (go_at_call 12; refine kc (fun W hL => HNM.out _) ?_; clear hF hL; intro W hL hF))
      go_roundw
      case measure => simp [intOf]; omega
      case rel => exact ⟨k + 1, by omega, by rw [show (if (ops.take (k + 1)).any (rngB (-2147483648) 4294967295) then (3 : Int) else 0) = ev from any_next HP.out HEV.out HRG.out], by go_num, Lib.hid (fun j hj q hq => by
       rcases Nat.lt_or_ge j k with h | h
       ·exact HI.out j h q hq
       ·obtain rfl : j = k := by omega
        rw [HP.out] at hq; cases hq; exact .inr HNN.out), hL⟩
    | some v =>
     have HNU := Lib.hid (fun W => refNum_some s (by omega) v hcn W)
     have HCN := Lib.hid hcn
     by_cases h1 : v < -2147483648
     ·have t1 : decide (v < -2147483648) = true := decide_eq_true h1
      have HRG := Lib.hid (show rngB (-2147483648) 4294967295 s.data.toList = true from by unfold rngB; rw [HCN.out]; simp [h1])
      clear hcn
      go_wp2_with ((go_at_call 74; refine kc (fun W hL => HNU.out _) ?_; clear hF hL; intro W hL hF))
      go_roundw
      case measure => simp [intOf]; omega
      case rel => exact ⟨k + 1, by omega, by rw [show (if (ops.take (k + 1)).any (rngB (-2147483648) 4294967295) then (3 : Int) else 0) = 3 from any_next HP.out HEV.out HRG.out], by go_num, Lib.hid (fun j hj q hq => by
       rcases Nat.lt_or_ge j k with h | h
       ·exact HI.out j h q hq
       ·obtain rfl : j = k := by omega
        rw [HP.out] at hq; cases hq; exact .inl (by rw [HCN.out]; simp)), hL⟩
     ·have t1 : decide (v < -2147483648) = false := decide_eq_false h1
      by_cases h2 : 4294967295 < v
      ·have t2 : decide (4294967295 < v) = true := decide_eq_true h2
       have HRG := Lib.hid (show rngB (-2147483648) 4294967295 s.data.toList = true from by unfold rngB; rw [HCN.out]; simp [h2])
       clear hcn
       go_wp2_with ((go_at_call 74; refine kc (fun W hL => HNU.out _) ?_; clear hF hL; intro W hL hF))
       go_roundw
       case measure => simp [intOf]; omega
       case rel => exact ⟨k + 1, by omega, by rw [show (if (ops.take (k + 1)).any (rngB (-2147483648) 4294967295) then (3 : Int) else 0) = 3 from any_next HP.out HEV.out HRG.out], by go_num, Lib.hid (fun j hj q hq => by
        rcases Nat.lt_or_ge j k with h | h
        ·exact HI.out j h q hq
        ·obtain rfl : j = k := by omega
         rw [HP.out] at hq; cases hq; exact .inl (by rw [HCN.out]; simp)), hL⟩
      ·have t2 : decide (4294967295 < v) = false := decide_eq_false h2
       have HRG := Lib.hid (show rngB (-2147483648) 4294967295 s.data.toList = false from by unfold rngB; rw [HCN.out]; simp; omega)
       clear hcn
       go_wp2_with ((go_at_call 74; refine kc (fun W hL => HNU.out _) ?_; clear hF hL; intro W hL hF))
       go_roundw
       case measure => simp [intOf]; omega
       case rel => exact ⟨k + 1, by omega, by rw [show (if (ops.take (k + 1)).any (rngB (-2147483648) 4294967295) then (3 : Int) else 0) = ev from any_next HP.out HEV.out HRG.out], by go_num, Lib.hid (fun j hj q hq => by
        rcases Nat.lt_or_ge j k with h | h
        ·exact HI.out j h q hq
        ·obtain rfl : j = k := by omega
         rw [HP.out] at hq; cases hq; exact .inl (by rw [HCN.out]; simp)), hL⟩
   ·obtain rfl : k = n := by omega
    have hD := dirW_all (ls := ls) H0.out (fun j p hp => HI.out j (by rw [← HLN.out]; exact (List.getElem?_eq_some_iff.1 hp).1) p hp)
    rw [HR.out] at hD
    have HD := Lib.hid hD
    clear hD
    have HEV2 := HEV.out
    rw [List.take_of_length_le (by rw [HLN.out]; exact Nat.le_refl _)] at HEV2
    cases hany : ops.any (rngB (-2147483648) 4294967295) with
    | true =>
     rw [hany] at HEV2
     obtain rfl : ev = 3 := HEV2.symm
     have HB : R = .bad 3 := by have := HD.out; rw [hany] at this; exact this
     subst HB
     clear HEV2 hany
     go_wp2
     refine bodyPost_ret (by simp [results, Tryz.results46, go_sem, *]; try rfl) rfl ?_
     ((exact ⟨⟨_, rfl⟩, kn_here.below0⟩))
    | false =>
     rw [hany] at HEV2
     obtain rfl : ev = 0 := HEV2.symm
     obtain ⟨b, hb, hbl⟩ : ∃ b, R = .ok b ∧ b.length = 4 * k := by have := HD.out; rw [hany] at this; simpa [HLN.out] using this
     subst hb
     clear HEV2 hany
     go_wp2
     refine bodyPost_ret (by simp [results, Tryz.results46, go_sem, *]; try rfl) rfl ?_
     exact ⟨_, (fun b' hb => by cases hb; omega), rfl, kn_here.below0⟩
theorem refUnq_some {s u : ByteArray} (hs : s.size ≤ 900000) (h : unqB s.data.toList = some u.data.toList) (w : World) : Calls Tryz.prog 73 #[.string s] w fun e w' => e = .returned (.tuple #[.string u, .bool true]) ∧ Below w.heap.size w w' := by
 refine (refUnquote_is s hs w).mono fun e w' hp => ?_
 obtain ⟨⟨o, h1, h2, rfl⟩ | ⟨h1, _⟩, hb⟩ := hp
 ·have := unq_some h1 h2
  rw [h] at this
  cases this
  rw [toList_mk]
  exact ⟨rfl, hb⟩
 ·have := unq_none h1
  rw [h] at this
  cases this
theorem refUnq_none {s : ByteArray} (hs : s.size ≤ 900000) (h : unqB s.data.toList = none) (w : World) : Calls Tryz.prog 73 #[.string s] w fun e w' => e = .returned (.tuple #[.string ⟨#[]⟩, .bool false]) ∧ Below w.heap.size w w' := by
 refine (refUnquote_is s hs w).mono fun e w' hp => ?_
 obtain ⟨⟨o, h1, h2, rfl⟩ | ⟨h1, rfl⟩, hb⟩ := hp
 ·have := unq_some h1 h2
  rw [h] at this
  cases this
 ·exact ⟨rfl, hb⟩
theorem dirR_t (vl vo : Value) (sop : ByteArray) (ls ops : List Bytes) (at_ : Int) (hsz : ∀ p ∈ ops, p.length ≤ 90000) (hol : ops.length ≤ 100000) (w : World) (hvo : Row w vo (sv ops)) (hso : sop.data.toList = dText) : Calls Tryz.prog 46 #[.agg #[vl, .string sop, vo, .int .i64 at_]] w (DirRP ⟨ls, sop.data.toList, ops⟩ w) := by
 obtain rfl : sop = ⟨#[46, 116, 101, 120, 116]⟩ := ba_ext hso
 have hop : (⟨#[46, 116, 101, 120, 116]⟩ : ByteArray).data.toList = dText := rfl
 rw [hop]
 unfold DirRP
 by_cases h1 : ops.length = 1
 ·obtain ⟨o1, rfl⟩ : ∃ o1, ops = [o1] := by
   match ops, h1 with
   | [o1], _ => exact ⟨o1, rfl⟩
  obtain ⟨ao, cap, rfl, hc⟩ := row_open hvo
  obtain ⟨g, og, rfl, hg, _⟩ := hc 0 o1 rfl
  obtain ⟨s, rfl⟩ : ∃ s : ByteArray, o1 = s.data.toList := ⟨⟨o1.toArray⟩, by simp⟩
  obtain ⟨_, _, e1, _, c1⟩ := hc 0 s.data.toList rfl
  cases e1
  rw [toList_mk, Nat.add_zero] at c1
  have z1 := hsz s.data.toList (by simp)
  rw [szl] at z1
  clear hc hsz hvo hso h1 hop
  rw [show isDir dText = true by decide, show dirE ⟨ls, dText, [s.data.toList]⟩ = errN (direct OO [] ⟨ls, dText, [s.data.toList]⟩ false) from by unfold dirE; rw [if_pos (show isDir dText = true by decide)]]
  cases hu : unqB s.data.toList with
  | none =>
   have HU := Lib.hid (fun W => refUnq_none (s := s) (by omega) hu W)
   rw [show direct OO [] ⟨ls, dText, [s.data.toList]⟩ false = .bad 2 from by unfold direct; rw [if_neg (show ¬ dText = dByte by decide), if_neg (show ¬ dText = dWord by decide), if_pos rfl]; simp only; rw [show OO.unq s.data.toList = _ from hu]]
   have hL : Kn [] w w [] := Kn.refl [] w; have hF := hL.fx; go_enter Tryz.func46, Tryz.ntmps46
   go_wp2_with ((go_at_call 73; refine kc (fun W hL => HU.out _) ?_; clear hF hL; intro W hL hF))
   refine bodyPost_ret (by simp [results, Tryz.results46, go_sem, *]; try rfl) rfl ?_
   ((exact ⟨0, (fun b hb => nomatch hb), rfl, kn_here.below0⟩))
  | some u =>
   obtain ⟨ub, hub⟩ := ba_of u
   subst hub
   have HU := Lib.hid (fun W => refUnq_some (s := s) (by omega) hu W)
   rw [show direct OO [] ⟨ls, dText, [s.data.toList]⟩ false = .ok ub.data.toList from by unfold direct; rw [if_neg (show ¬ dText = dByte by decide), if_neg (show ¬ dText = dWord by decide), if_pos rfl]; simp only; rw [show OO.unq s.data.toList = _ from hu]]
   have hL : Kn [] w w [] := Kn.refl [] w; have hF := hL.fx; go_enter Tryz.func46, Tryz.ntmps46
   go_wp2_with ((go_at_call 73; refine kc (fun W hL => HU.out _) ?_; clear hF hL; intro W hL hF))
   refine bodyPost_ret (by simp [results, Tryz.results46, go_sem, *]; try rfl) rfl ?_
   exact ⟨_, (fun b' hb => by cases hb; rw [szl]), rfl, kn_here.below0⟩
 ·obtain ⟨ao, cap, rfl, _⟩ := row_open hvo
  obtain ⟨n, hln⟩ : ∃ n, ops.length = n := ⟨_, rfl⟩
  rw [hln] at h1 hol ⊢
  have q1 : ((n : Int) != 1) = true := bne_iff_ne.2 (by omega)
  have hd : direct OO [] ⟨ls, dText, ops⟩ false = .bad 2 := by
   unfold direct
   rw [if_neg (show ¬ dText = dByte by decide), if_neg (show ¬ dText = dWord by decide), if_pos rfl]
   split
   ·rename_i s hs; simp only at hs; rw [hs] at hln; exact absurd hln.symm h1
   ·rfl
  rw [show isDir dText = true by decide, show dirE ⟨ls, dText, ops⟩ = errN (direct OO [] ⟨ls, dText, ops⟩ false) from by unfold dirE; rw [if_pos (show isDir dText = true by decide)], hd]
  clear hd hvo hsz hln hso hop
  have hL : Kn [] w w [] := Kn.refl [] w; have hF := hL.fx; go_enter Tryz.func46, Tryz.ntmps46
  go_wp2
  refine bodyPost_ret (by simp [results, Tryz.results46, go_sem, *]; try rfl) rfl ?_
  ((exact ⟨0, (fun b hb => nomatch hb), rfl, kn_here.below0⟩))
theorem dirR_s (vl vo : Value) (sop : ByteArray) (ls ops : List Bytes) (at_ : Int) (hsz : ∀ p ∈ ops, p.length ≤ 90000) (hol : ops.length ≤ 100000) (w : World) (hvo : Row w vo (sv ops)) (hso : sop.data.toList = dSpace) : Calls Tryz.prog 46 #[.agg #[vl, .string sop, vo, .int .i64 at_]] w (DirRP ⟨ls, sop.data.toList, ops⟩ w) := by
 obtain rfl : sop = ⟨#[46, 115, 112, 97, 99, 101]⟩ := ba_ext hso
 have hop : (⟨#[46, 115, 112, 97, 99, 101]⟩ : ByteArray).data.toList = dSpace := rfl
 rw [hop]
 unfold DirRP
 by_cases h1 : ops.length = 1
 ·obtain ⟨o1, rfl⟩ : ∃ o1, ops = [o1] := by
   match ops, h1 with
   | [o1], _ => exact ⟨o1, rfl⟩
  obtain ⟨ao, cap, rfl, hc⟩ := row_open hvo
  obtain ⟨g, og, rfl, hg, _⟩ := hc 0 o1 rfl
  obtain ⟨s, rfl⟩ : ∃ s : ByteArray, o1 = s.data.toList := ⟨⟨o1.toArray⟩, by simp⟩
  obtain ⟨_, _, e1, _, c1⟩ := hc 0 s.data.toList rfl
  cases e1
  rw [toList_mk, Nat.add_zero] at c1
  have z1 := hsz s.data.toList (by simp)
  rw [szl] at z1
  clear hc hsz hvo hso h1 hop
  rw [show isDir dSpace = true by decide, show dirE ⟨ls, dSpace, [s.data.toList]⟩ = errN (direct OO [] ⟨ls, dSpace, [s.data.toList]⟩ false) from by unfold dirE; rw [if_pos (show isDir dSpace = true by decide)]]
  cases hcn : canon s.data.toList with
  | none =>
   have HNU := Lib.hid (fun W => refNum_none s (by omega) hcn W)
   rw [show direct OO [] ⟨ls, dSpace, [s.data.toList]⟩ false = .bad 2 from by unfold direct; rw [if_neg (show ¬ dSpace = dByte by decide), if_neg (show ¬ dSpace = dWord by decide), if_neg (show ¬ dSpace = dText by decide)]; simp only; unfold number; rw [show OO.int s.data.toList = _ from hcn]]
   have hL : Kn [] w w [] := Kn.refl [] w; have hF := hL.fx; go_enter Tryz.func46, Tryz.ntmps46
   go_wp2_with ((go_at_call 74; refine kc (fun W hL => HNU.out _) ?_; clear hF hL; intro W hL hF))
   refine bodyPost_ret (by simp [results, Tryz.results46, go_sem, *]; try rfl) rfl ?_
   ((exact ⟨0, (fun b hb => nomatch hb), rfl, kn_here.below0⟩))
  | some v =>
   have HNU := Lib.hid (fun W => refNum_some s (by omega) v hcn W)
   by_cases h1 : v < 0
   ·have t1 : decide (v < 0) = true := decide_eq_true h1
    rw [show direct OO [] ⟨ls, dSpace, [s.data.toList]⟩ false = .bad 3 from by unfold direct; rw [if_neg (show ¬ dSpace = dByte by decide), if_neg (show ¬ dSpace = dWord by decide), if_neg (show ¬ dSpace = dText by decide)]; simp only; unfold number; rw [show OO.int s.data.toList = _ from hcn]; simp only; rw [if_neg (by omega)]]
    have hL : Kn [] w w [] := Kn.refl [] w; have hF := hL.fx; go_enter Tryz.func46, Tryz.ntmps46
    go_wp2_with ((go_at_call 74; refine kc (fun W hL => HNU.out _) ?_; clear hF hL; intro W hL hF))
    refine bodyPost_ret (by simp [results, Tryz.results46, go_sem, *]; try rfl) rfl ?_
    ((exact ⟨0, (fun b hb => nomatch hb), rfl, kn_here.below0⟩))
   ·have t1 : decide (v < 0) = false := decide_eq_false h1
    by_cases h2 : 4096 < v
    ·have t2 : decide (4096 < v) = true := decide_eq_true h2
     rw [show direct OO [] ⟨ls, dSpace, [s.data.toList]⟩ false = .bad 3 from by unfold direct; rw [if_neg (show ¬ dSpace = dByte by decide), if_neg (show ¬ dSpace = dWord by decide), if_neg (show ¬ dSpace = dText by decide)]; simp only; unfold number; rw [show OO.int s.data.toList = _ from hcn]; simp only; rw [if_neg (by omega)]]
     have hL : Kn [] w w [] := Kn.refl [] w; have hF := hL.fx; go_enter Tryz.func46, Tryz.ntmps46
     go_wp2_with ((go_at_call 74; refine kc (fun W hL => HNU.out _) ?_; clear hF hL; intro W hL hF))
     refine bodyPost_ret (by simp [results, Tryz.results46, go_sem, *]; try rfl) rfl ?_
     ((exact ⟨0, (fun b hb => nomatch hb), rfl, kn_here.below0⟩))
    ·have t2 : decide (4096 < v) = false := decide_eq_false h2
     rw [show direct OO [] ⟨ls, dSpace, [s.data.toList]⟩ false = .ok (List.replicate v.toNat 0) from by unfold direct; rw [if_neg (show ¬ dSpace = dByte by decide), if_neg (show ¬ dSpace = dWord by decide), if_neg (show ¬ dSpace = dText by decide)]; simp only; unfold number; rw [show OO.int s.data.toList = _ from hcn]; simp only; rw [if_pos (by omega)]]
     have hL : Kn [] w w [] := Kn.refl [] w; have hF := hL.fx; go_enter Tryz.func46, Tryz.ntmps46
     go_wp2_with ((go_at_call 74; refine kc (fun W hL => HNU.out _) ?_; clear hF hL; intro W hL hF))
     refine bodyPost_ret (by simp [results, Tryz.results46, go_sem, *]; try rfl) rfl ?_
     exact ⟨_, (fun b' hb => by cases hb; rw [List.length_replicate]; omega), rfl, kn_here.below0⟩
 ·obtain ⟨ao, cap, rfl, _⟩ := row_open hvo
  obtain ⟨n, hln⟩ : ∃ n, ops.length = n := ⟨_, rfl⟩
  rw [hln] at h1 hol ⊢
  have q1 : ((n : Int) != 1) = true := bne_iff_ne.2 (by omega)
  have hd : direct OO [] ⟨ls, dSpace, ops⟩ false = .bad 2 := by
   unfold direct
   rw [if_neg (show ¬ dSpace = dByte by decide), if_neg (show ¬ dSpace = dWord by decide), if_neg (show ¬ dSpace = dText by decide)]
   split
   ·rename_i s hs; simp only at hs; rw [hs] at hln; exact absurd hln.symm h1
   ·rfl
  rw [show isDir dSpace = true by decide, show dirE ⟨ls, dSpace, ops⟩ = errN (direct OO [] ⟨ls, dSpace, ops⟩ false) from by unfold dirE; rw [if_pos (show isDir dSpace = true by decide)], hd]
  clear hd hvo hsz hln hso hop
  have hL : Kn [] w w [] := Kn.refl [] w; have hF := hL.fx; go_enter Tryz.func46, Tryz.ntmps46
  go_wp2
  refine bodyPost_ret (by simp [results, Tryz.results46, go_sem, *]; try rfl) rfl ?_
  ((exact ⟨0, (fun b hb => nomatch hb), rfl, kn_here.below0⟩))
theorem dirR_n (vl vo : Value) (sop : ByteArray) (ls ops : List Bytes) (at_ : Int) (hsz : ∀ p ∈ ops, p.length ≤ 90000) (hol : ops.length ≤ 100000) (w : World) (hvo : Row w vo (sv ops)) (f0 : (sop.toList == (⟨#[46, 98, 121, 116, 101]⟩ : ByteArray).toList) = false) (e0 : (sop.toList == [46, 98, 121, 116, 101]) = false) (f1 : (sop.toList == (⟨#[46, 119, 111, 114, 100]⟩ : ByteArray).toList) = false) (e1 : (sop.toList == [46, 119, 111, 114, 100]) = false) (f2 : (sop.toList == (⟨#[46, 116, 101, 120, 116]⟩ : ByteArray).toList) = false) (e2 : (sop.toList == [46, 116, 101, 120, 116]) = false) (f3 : (sop.toList == (⟨#[46, 115, 112, 97, 99, 101]⟩ : ByteArray).toList) = false) (e3 : (sop.toList == [46, 115, 112, 97, 99, 101]) = false) (hd : isDir sop.data.toList = false) : Calls Tryz.prog 46 #[.agg #[vl, .string sop, vo, .int .i64 at_]] w fun e w' => e = .returned (.tuple #[.int .i64 0, .int .i64 0, .bool false]) ∧ Below w.heap.size w w' := by
 obtain ⟨ao, cap, rfl, _⟩ := row_open hvo
 clear hvo hsz hd
 have hL : Kn [] w w [] := Kn.refl [] w; have hF := hL.fx; go_enter Tryz.func46, Tryz.ntmps46
 go_wp2
 refine bodyPost_ret (by simp [results, Tryz.results46, go_sem, *]; try rfl) rfl ?_
 exact ⟨rfl, kn_here.below0⟩
def DirRQ (x : Stm) (w : World) (e : Ending) (w' : World) : Prop := ∃ n : Int, ((isDir x.op = true → ∀ b, direct OO [] x false = .ok b → n = (b.length : Int)) ∧ (isDir x.op = false → n = 0)) ∧ e = .returned (.tuple #[.int .i64 n, .int .i64 (dirE x : Int), .bool (isDir x.op)]) ∧ Below w.heap.size w w'
theorem dirq_of {x : Stm} {w w' : World} {e : Ending} (hd : isDir x.op = true) (h : DirRP x w e w') : DirRQ x w e w' := by
 obtain ⟨n, h1, h2⟩ := h
 exact ⟨n, ⟨fun _ => h1, fun hf => by rw [hd] at hf; cases hf⟩, h2⟩
theorem refDir_is (vl vo : Value) (sop : ByteArray) (ls ops : List Bytes) (at_ : Int) (hsz : ∀ p ∈ ops, p.length ≤ 90000) (hol : ops.length ≤ 100000) (w : World) (hvo : Row w vo (sv ops)) : Calls Tryz.prog 46 #[.agg #[vl, .string sop, vo, .int .i64 at_]] w (DirRQ ⟨ls, sop.data.toList, ops⟩ w) := by
 by_cases h0 : sop.data.toList = dByte
 ·exact (dirR_b vl vo sop ls ops at_ hsz hol w hvo h0).mono fun e w' h => dirq_of (by show isDir sop.data.toList = true; rw [h0]; decide) h
 by_cases h1 : sop.data.toList = dWord
 ·exact (dirR_w vl vo sop ls ops at_ hsz hol w hvo h1).mono fun e w' h => dirq_of (by show isDir sop.data.toList = true; rw [h1]; decide) h
 by_cases h2 : sop.data.toList = dText
 ·exact (dirR_t vl vo sop ls ops at_ hsz hol w hvo h2).mono fun e w' h => dirq_of (by show isDir sop.data.toList = true; rw [h2]; decide) h
 by_cases h3 : sop.data.toList = dSpace
 ·exact (dirR_s vl vo sop ls ops at_ hsz hol w hvo h3).mono fun e w' h => dirq_of (by show isDir sop.data.toList = true; rw [h3]; decide) h
 have hd : isDir sop.data.toList = false := by
  unfold isDir
  rw [beq_false_of_ne h0, beq_false_of_ne h1, beq_false_of_ne h2, beq_false_of_ne h3]; rfl
 refine (dirR_n vl vo sop ls ops at_ hsz hol w hvo (by rw [Lib.toList_data, Lib.toList_data]; exact beq_false_of_ne h0) (by rw [Lib.toList_data]; exact beq_false_of_ne h0) (by rw [Lib.toList_data, Lib.toList_data]; exact beq_false_of_ne h1) (by rw [Lib.toList_data]; exact beq_false_of_ne h1) (by rw [Lib.toList_data, Lib.toList_data]; exact beq_false_of_ne h2) (by rw [Lib.toList_data]; exact beq_false_of_ne h2) (by rw [Lib.toList_data, Lib.toList_data]; exact beq_false_of_ne h3) (by rw [Lib.toList_data]; exact beq_false_of_ne h3) hd).mono fun e w' h => ⟨0, ⟨fun hh => ?_, fun _ => rfl⟩, ?_, h.2⟩
 ·have h9 : isDir sop.data.toList = true := hh
  rw [hd] at h9; cases h9
 ·rw [h.1, show dirE ⟨ls, sop.data.toList, ops⟩ = 0 from by unfold dirE; rw [hd]; rfl, hd]; rfl
end Go.Proofs.YtfdlifhkeicnnaaGreatDoor
