/- Lemmas and walks for the law LawTells (part 33). -/
import Derived.Test.YtfdlifhkeicnnaaGreatDoorWPt32
import Derived.Test.YtfdlifhkeicnnaaGreatDoorProg
import Derived.WalkKit
import Derived.Handy
import Derived.Deep.Light
import Derived.WalkSmall
import Derived.StillTailTactics
import Derived.Lib.Hide
import Derived.IntWalk
set_option maxRecDepth 20000
set_option maxHeartbeats 4000000
set_option linter.unusedVariables false
set_option linter.unusedSimpArgs false
namespace Go.Proofs.YtfdlifhkeicnnaaGreatDoor
open Go Go.RowKit
/-- v is a row of the labels L. -/
def LRow (w : World) (v : Value) (L : Labs) : Prop := ∃ ad cap, v = .slice ad L.length cap ∧ ∀ (j : Nat) p, L[j]? = some p → ∃ g o, ad = some ⟨g, o, none⟩ ∧ w.cell? ⟨g, o + j * 2, none⟩ = some (.string ⟨p.1.toArray⟩) ∧ w.cell? ⟨g, o + j * 2 + 1, none⟩ = some (.int .i64 (p.2 : Int))
theorem LRow.nil (w : World) : LRow w (.slice none 0 0) [] := ⟨none, 0, rfl, fun j p h => by simp at h⟩
theorem lrow_open {w : World} {v : Value} {L : Labs} (h : LRow w v L) : (L = [] ∧ ∃ ad cap, v = .slice ad 0 cap) ∨ ∃ g o cap, v = .slice (some ⟨g, o, none⟩) L.length cap ∧ g < w.heap.size ∧ ∀ (j : Nat) p, L[j]? = some p → w.cell? ⟨g, o + j * 2, none⟩ = some (.string ⟨p.1.toArray⟩) ∧ w.cell? ⟨g, o + j * 2 + 1, none⟩ = some (.int .i64 (p.2 : Int)) := by
 obtain ⟨ad, cap, h1, h2⟩ := h
 cases L with
 | nil => exact .inl ⟨rfl, ad, cap, h1⟩
 | cons p L =>
  obtain ⟨g, o, rfl, h3, h4⟩ := h2 0 p rfl
  exact .inr ⟨g, o, cap, h1, cell_lt h3, fun j q hq => by obtain ⟨g', o', e, h5⟩ := h2 j q hq; cases e; exact h5⟩
theorem look_at {L : Labs} {s : Bytes} {k : Nat} {p : Bytes × Nat} (h : ∀ j : Nat, j < k → ∀ q : Bytes × Nat, L[j]? = some q → q.1 ≠ s) (hk : L[k]? = some p) (hp : p.1 = s) : look L s = some p.2 := by
 unfold look
 induction k generalizing L with
 | zero =>
  cases L with
  | nil => cases hk
  | cons a L => simp at hk; subst hk; simp [hp]
 | succ k ih =>
  cases L with
  | nil => cases hk
  | cons a L =>
   have h0 : (a.1 == s) = false := beq_false_of_ne (h 0 (by omega) a rfl)
   rw [List.find?_cons, h0]
   exact ih (fun j hj q hq => h (j + 1) (by omega) q (by simpa using hq)) (by simpa using hk)
theorem look_all {L : Labs} {s : Bytes} (h : ∀ (j : Nat) (q : Bytes × Nat), L[j]? = some q → q.1 ≠ s) : look L s = none := by
 unfold look
 rw [List.find?_eq_none.2 (fun q hq => by
  obtain ⟨j, hj⟩ := List.getElem?_of_mem hq
  simp [h j q hj])]
 rfl
theorem refHas_is (v : Value) (L : Labs) (s : ByteArray) (hn : L.length ≤ 100000) (b : Bool) (hb : Hid ((look L s.data.toList).isSome = b)) (w : World) (hv : LRow w v L) : Calls Tryz.prog 47 #[v, .string s] w fun e w' => e = .returned (.bool b) ∧ Below w.heap.size w w' := by
 rcases lrow_open hv with ⟨rfl, ad, cap, rfl⟩ | ⟨g, o, cap, rfl, hg1, hc⟩
 ·have hb' := hb.out
  obtain rfl : b = false := hb'.symm
  have hL : Kn [] w w [] := Kn.refl [] w; have hF := hL.fx; go_enter Tryz.func47, Tryz.ntmps47
  go_wp2
  go_loopw [5] (fun i wr => i = .int .i64 0 ∧ Kn [] w wr []) (fun _ _ => 0)
  case atStart => exact ⟨rfl, hL⟩
  case round =>
   clear hL
   clear hF
   obtain ⟨rfl, hL⟩ := hrel
   have hF := hL.fx
   go_wp2
   refine bodyPost_ret (by simp [results, Tryz.results47, go_sem, *]; try rfl) rfl ?_
   exact ⟨rfl, hL.below0⟩
 ·have HC := Lib.hid hc
  obtain ⟨n, hln⟩ : ∃ n, L.length = n := ⟨_, rfl⟩
  have HLN := Lib.hid hln
  rw [hln] at hn ⊢
  clear hv hc hln
  have hL : Kn [] w w [] := Kn.refl [] w; have hF := hL.fx; go_enter Tryz.func47, Tryz.ntmps47
  go_wp2
  go_loopw [5] (fun i wr => ∃ k : Nat, k ≤ n ∧ i = .int .i64 k ∧ Hid (∀ j, j < k → ∀ q, L[j]? = some q → q.1 ≠ s.data.toList) ∧ Kn [] w wr []) (fun i _ => n - (intOf i).toNat)
  case atStart => exact ⟨0, by omega, rfl, Lib.hid (fun j hj => by omega), hL⟩
  case round =>
   clear hL
   clear hF
   obtain ⟨k, hk, rfl, HI, hL⟩ := hrel
   have hF := hL.fx
   by_cases hlt : k < n
   ·obtain ⟨p, hp⟩ : ∃ p, L[k]? = some p := ⟨_, List.getElem?_eq_getElem (by rw [HLN.out]; omega)⟩
    obtain ⟨c1, c2⟩ := HC.out k p hp
    obtain ⟨nm, at_⟩ := p
    obtain ⟨x, rfl⟩ : ∃ x : ByteArray, nm = x.data.toList := ⟨⟨nm.toArray⟩, by simp⟩
    rw [toList_mk] at c1
    have HP := Lib.hid hp
    clear hp
    cases he : (x.toList == s.toList) with
    | true =>
     have HE : x = s := ba_ext (by have := beq_iff_eq.1 he; rwa [Lib.toList_data, Lib.toList_data] at this)
     have hb' := hb.out
     rw [look_at HI.out HP.out (by rw [HE])] at hb'
     obtain rfl : b = true := hb'.symm
     clear HE hb'
     go_wp2
     refine bodyPost_ret (by simp [results, Tryz.results47, go_sem, *]; try rfl) rfl ?_
     exact ⟨rfl, hL.below0⟩
    | false =>
     have HE := Lib.hid (show ∀ j, j < k + 1 → ∀ q, L[j]? = some q → q.1 ≠ s.data.toList from fun j hj q hq => by
      rcases Nat.lt_or_ge j k with h | h
      ·exact HI.out j h q hq
      ·obtain rfl : j = k := by omega
       rw [HP.out] at hq; cases hq
       intro e
       have e2 : x.data.toList = s.data.toList := e
       rw [Lib.toList_data, Lib.toList_data, e2] at he; simp at he)
     go_wp2
     go_roundw
     case measure => simp [intOf]; omega
     case rel => exact ⟨k + 1, by omega, by go_num, HE, hL⟩
   ·obtain rfl : k = n := by omega
    have hb' := hb.out
    rw [look_all (fun j q hq => HI.out j (by rw [← HLN.out]; exact (List.getElem?_eq_some_iff.1 hq).1) q hq)] at hb'
    obtain rfl : b = false := hb'.symm
    clear hb'
    go_wp2
    refine bodyPost_ret (by simp [results, Tryz.results47, go_sem, *]; try rfl) rfl ?_
    exact ⟨rfl, hL.below0⟩
theorem calls0 (w : World) : Calls Tryz.prog 52 #[] w fun e w' => ∃ b, e = .returned (.slice (some ⟨b, 0, none⟩) 33 33) ∧ Kn [] w w' [(b, .cells #[.string ⟨#[101, 120, 105, 116]⟩, .string ⟨#[102, 111, 114, 107]⟩, .string ⟨#[101, 120, 101, 99]⟩, .string ⟨#[119, 97, 105, 116]⟩, .string ⟨#[103, 101, 116, 112, 105, 100]⟩, .string ⟨#[103, 101, 116, 112, 112, 105, 100]⟩, .string ⟨#[107, 105, 108, 108]⟩, .string ⟨#[115, 105, 103, 97, 99, 116]⟩, .string ⟨#[115, 105, 103, 109, 97, 115, 107]⟩, .string ⟨#[115, 105, 103, 114, 101, 116, 117, 114, 110]⟩, .string ⟨#[112, 97, 117, 115, 101]⟩, .string ⟨#[97, 108, 97, 114, 109]⟩, .string ⟨#[111, 112, 101, 110]⟩, .string ⟨#[99, 108, 111, 115, 101]⟩, .string ⟨#[114, 101, 97, 100]⟩, .string ⟨#[119, 114, 105, 116, 101]⟩, .string ⟨#[115, 101, 101, 107]⟩, .string ⟨#[100, 117, 112, 50]⟩, .string ⟨#[112, 105, 112, 101]⟩, .string ⟨#[115, 116, 97, 116]⟩, .string ⟨#[109, 107, 100, 105, 114]⟩, .string ⟨#[114, 109, 100, 105, 114]⟩, .string ⟨#[117, 110, 108, 105, 110, 107]⟩, .string ⟨#[114, 101, 110, 97, 109, 101]⟩, .string ⟨#[99, 104, 100, 105, 114]⟩, .string ⟨#[108, 105, 115, 116]⟩, .string ⟨#[109, 109, 97, 112]⟩, .string ⟨#[109, 117, 110, 109, 97, 112]⟩, .string ⟨#[115, 101, 116, 112, 103, 105, 100]⟩, .string ⟨#[116, 99, 115, 101, 116, 112, 103, 114, 112]⟩, .string ⟨#[116, 105, 109, 101]⟩, .string ⟨#[116, 114, 117, 110, 99, 97, 116, 101]⟩, .string ⟨#[121, 105, 101, 108, 100]⟩] 9 (0, 0))] := by
 have hL : Kn [] w w [] := Kn.refl [] w; have hF := hL.fx; go_enter Tryz.func52, Tryz.ntmps52
 go_wp2
 refine bodyPost_ret (by simp [results, Tryz.results52, go_sem, *]; try rfl) rfl ?_
 exact ⟨_, rfl, kn_here⟩
theorem callL_len : callL.length = 33 := rfl
theorem calls_is (w : World) : Calls Tryz.prog 52 #[] w fun e w' => ∃ b cur, e = .returned (.slice (some ⟨b, 0, none⟩) 33 33) ∧ Kn [] w w' [(b, .cells cur 9 (0, 0))] ∧ Hid (∀ k : Nat, k < 33 → cur[k]? = some (.string (callL.getD k ByteArray.empty))) :=
 (calls0 w).mono fun e w' ⟨b, h1, h2⟩ => ⟨b, #[.string ⟨#[101, 120, 105, 116]⟩, .string ⟨#[102, 111, 114, 107]⟩, .string ⟨#[101, 120, 101, 99]⟩, .string ⟨#[119, 97, 105, 116]⟩, .string ⟨#[103, 101, 116, 112, 105, 100]⟩, .string ⟨#[103, 101, 116, 112, 112, 105, 100]⟩, .string ⟨#[107, 105, 108, 108]⟩, .string ⟨#[115, 105, 103, 97, 99, 116]⟩, .string ⟨#[115, 105, 103, 109, 97, 115, 107]⟩, .string ⟨#[115, 105, 103, 114, 101, 116, 117, 114, 110]⟩, .string ⟨#[112, 97, 117, 115, 101]⟩, .string ⟨#[97, 108, 97, 114, 109]⟩, .string ⟨#[111, 112, 101, 110]⟩, .string ⟨#[99, 108, 111, 115, 101]⟩, .string ⟨#[114, 101, 97, 100]⟩, .string ⟨#[119, 114, 105, 116, 101]⟩, .string ⟨#[115, 101, 101, 107]⟩, .string ⟨#[100, 117, 112, 50]⟩, .string ⟨#[112, 105, 112, 101]⟩, .string ⟨#[115, 116, 97, 116]⟩, .string ⟨#[109, 107, 100, 105, 114]⟩, .string ⟨#[114, 109, 100, 105, 114]⟩, .string ⟨#[117, 110, 108, 105, 110, 107]⟩, .string ⟨#[114, 101, 110, 97, 109, 101]⟩, .string ⟨#[99, 104, 100, 105, 114]⟩, .string ⟨#[108, 105, 115, 116]⟩, .string ⟨#[109, 109, 97, 112]⟩, .string ⟨#[109, 117, 110, 109, 97, 112]⟩, .string ⟨#[115, 101, 116, 112, 103, 105, 100]⟩, .string ⟨#[116, 99, 115, 101, 116, 112, 103, 114, 112]⟩, .string ⟨#[116, 105, 109, 101]⟩, .string ⟨#[116, 114, 117, 110, 99, 97, 116, 101]⟩, .string ⟨#[121, 105, 101, 108, 100]⟩], h1, h2, Lib.hid fun k hk => by
  have : ∀ k : Fin 33, (#[.string ⟨#[101, 120, 105, 116]⟩, .string ⟨#[102, 111, 114, 107]⟩, .string ⟨#[101, 120, 101, 99]⟩, .string ⟨#[119, 97, 105, 116]⟩, .string ⟨#[103, 101, 116, 112, 105, 100]⟩, .string ⟨#[103, 101, 116, 112, 112, 105, 100]⟩, .string ⟨#[107, 105, 108, 108]⟩, .string ⟨#[115, 105, 103, 97, 99, 116]⟩, .string ⟨#[115, 105, 103, 109, 97, 115, 107]⟩, .string ⟨#[115, 105, 103, 114, 101, 116, 117, 114, 110]⟩, .string ⟨#[112, 97, 117, 115, 101]⟩, .string ⟨#[97, 108, 97, 114, 109]⟩, .string ⟨#[111, 112, 101, 110]⟩, .string ⟨#[99, 108, 111, 115, 101]⟩, .string ⟨#[114, 101, 97, 100]⟩, .string ⟨#[119, 114, 105, 116, 101]⟩, .string ⟨#[115, 101, 101, 107]⟩, .string ⟨#[100, 117, 112, 50]⟩, .string ⟨#[112, 105, 112, 101]⟩, .string ⟨#[115, 116, 97, 116]⟩, .string ⟨#[109, 107, 100, 105, 114]⟩, .string ⟨#[114, 109, 100, 105, 114]⟩, .string ⟨#[117, 110, 108, 105, 110, 107]⟩, .string ⟨#[114, 101, 110, 97, 109, 101]⟩, .string ⟨#[99, 104, 100, 105, 114]⟩, .string ⟨#[108, 105, 115, 116]⟩, .string ⟨#[109, 109, 97, 112]⟩, .string ⟨#[109, 117, 110, 109, 97, 112]⟩, .string ⟨#[115, 101, 116, 112, 103, 105, 100]⟩, .string ⟨#[116, 99, 115, 101, 116, 112, 103, 114, 112]⟩, .string ⟨#[116, 105, 109, 101]⟩, .string ⟨#[116, 114, 117, 110, 99, 97, 116, 101]⟩, .string ⟨#[121, 105, 101, 108, 100]⟩] : Array Value)[k.val]? = some (.string (callL.getD k.val ByteArray.empty)) := by
   intro k
   have e : (#[.string ⟨#[101, 120, 105, 116]⟩, .string ⟨#[102, 111, 114, 107]⟩, .string ⟨#[101, 120, 101, 99]⟩, .string ⟨#[119, 97, 105, 116]⟩, .string ⟨#[103, 101, 116, 112, 105, 100]⟩, .string ⟨#[103, 101, 116, 112, 112, 105, 100]⟩, .string ⟨#[107, 105, 108, 108]⟩, .string ⟨#[115, 105, 103, 97, 99, 116]⟩, .string ⟨#[115, 105, 103, 109, 97, 115, 107]⟩, .string ⟨#[115, 105, 103, 114, 101, 116, 117, 114, 110]⟩, .string ⟨#[112, 97, 117, 115, 101]⟩, .string ⟨#[97, 108, 97, 114, 109]⟩, .string ⟨#[111, 112, 101, 110]⟩, .string ⟨#[99, 108, 111, 115, 101]⟩, .string ⟨#[114, 101, 97, 100]⟩, .string ⟨#[119, 114, 105, 116, 101]⟩, .string ⟨#[115, 101, 101, 107]⟩, .string ⟨#[100, 117, 112, 50]⟩, .string ⟨#[112, 105, 112, 101]⟩, .string ⟨#[115, 116, 97, 116]⟩, .string ⟨#[109, 107, 100, 105, 114]⟩, .string ⟨#[114, 109, 100, 105, 114]⟩, .string ⟨#[117, 110, 108, 105, 110, 107]⟩, .string ⟨#[114, 101, 110, 97, 109, 101]⟩, .string ⟨#[99, 104, 100, 105, 114]⟩, .string ⟨#[108, 105, 115, 116]⟩, .string ⟨#[109, 109, 97, 112]⟩, .string ⟨#[109, 117, 110, 109, 97, 112]⟩, .string ⟨#[115, 101, 116, 112, 103, 105, 100]⟩, .string ⟨#[116, 99, 115, 101, 116, 112, 103, 114, 112]⟩, .string ⟨#[116, 105, 109, 101]⟩, .string ⟨#[116, 114, 117, 110, 99, 97, 116, 101]⟩, .string ⟨#[121, 105, 101, 108, 100]⟩] : Array Value) = (callL.map Value.string).toArray := rfl
   rw [e, List.getElem?_toArray, List.getElem?_map, List.getElem?_eq_getElem (by rw [callL_len]; exact k.isLt), List.getD_eq_getElem?_getD, List.getElem?_eq_getElem (by rw [callL_len]; exact k.isLt)]
   rfl
  exact this ⟨k, hk⟩⟩
def CallR (r : Option Nat) (w : World) (e : Ending) (w' : World) : Prop := e = (match r with
 | some n => Ending.returned (.tuple #[.int .i64 (n : Int), .bool true])
 | none => Ending.returned (.tuple #[.int .i64 0, .bool false])) ∧ Below w.heap.size w w'
theorem callB_hit {s : ByteArray} {k : Nat} (hk : k < 33) (h : callL.getD k ByteArray.empty = s) (hn : ∀ j, j < k → callL.getD j ByteArray.empty ≠ s) : callB s.data.toList = some (k + 1) := by
 have h1 := Lib.idxFromS_hit s callL k 0 (by rw [callL_len]; exact hk) h hn
 have h2 : callI s = k := by unfold callI Lib.idxOfS; rw [h1]; simp
 unfold callB
 rw [toList_mk, h2, if_pos (by omega), Int.toNat_natCast]
theorem callB_miss {s : ByteArray} (hn : ∀ j, j < 33 → callL.getD j ByteArray.empty ≠ s) : callB s.data.toList = none := by
 have h1 := Lib.idxFromS_miss s callL 0 (by rw [callL_len]; exact hn)
 have h2 : callI s = -1 := by unfold callI Lib.idxOfS; rw [h1]
 unfold callB
 rw [toList_mk, h2, if_neg (by omega)]
theorem refCall_is (s : ByteArray) (w : World) : Calls Tryz.prog 23 #[.string s] w (CallR (callB s.data.toList) w) := by
 obtain ⟨R, hR⟩ : ∃ R, callB s.data.toList = R := ⟨_, rfl⟩
 have HR := Lib.hid hR
 rw [hR]
 clear hR
 have hL : Kn [] w w [] := Kn.refl [] w; have hF := hL.fx; go_enter Tryz.func23, Tryz.ntmps23
 go_wp2_with ((go_at_call 52; refine kG ?_; clear hF hL; intro W hL hF; (with_reducible refine (calls_is _).mono ?_); rintro e W ⟨nb, cur, rfl, hb, HCUR⟩; replace hL := hL.join hb; clear hb hF; simp only [kfb] at hL; have hF := hL.fx))
 go_loopw [5] (fun i wr => ∃ k : Nat, k ≤ 33 ∧ i = .int .i64 k ∧ Hid (∀ j, j < k → callL.getD j ByteArray.empty ≠ s) ∧ Kn [] w wr [(nb, .cells cur 9 (0, 0))]) (fun i _ => 33 - (intOf i).toNat)
 case atStart => exact ⟨0, by omega, rfl, Lib.hid (fun j hj => by omega), hL⟩
 case round =>
  clear hL
  clear hF
  obtain ⟨k, hk, rfl, HI, hL⟩ := hrel
  have hF := hL.fx
  by_cases hlt : k < 33
  ·have hck := HCUR.out k hlt
   obtain ⟨z, hz⟩ : ∃ z, callL.getD k ByteArray.empty = z := ⟨_, rfl⟩
   rw [hz] at hck
   have HZ := Lib.hid hz
   clear hz
   cases hq : (z.toList == s.toList) with
   | false =>
    have HE := Lib.hid (show ∀ j, j < k + 1 → callL.getD j ByteArray.empty ≠ s from fun j hj => by
     rcases Nat.lt_or_ge j k with h | h
     ·exact HI.out j h
     ·obtain rfl : j = k := by omega
      rw [HZ.out]; exact (Lib.bytes_beq_false_iff _ _).1 hq)
    go_wp2
    go_roundw
    case measure => simp [intOf]; omega
    case rel => exact ⟨k + 1, by omega, by go_num, HE, hL⟩
   | true =>
    have hR := HR.out.symm.trans (callB_hit hlt (HZ.out.trans ((Lib.bytes_beq_iff _ _).1 hq)) HI.out)
    subst hR
    go_wp2
    refine bodyPost_ret (by simp [results, Tryz.results23, go_sem, *]; try rfl) rfl ?_
    exact ⟨rfl, hL.below0⟩
  ·obtain rfl : k = 33 := by omega
   have hR := HR.out.symm.trans (callB_miss HI.out)
   subst hR
   go_wp2
   refine bodyPost_ret (by simp [results, Tryz.results23, go_sem, *]; try rfl) rfl ?_
   exact ⟨rfl, hL.below0⟩
theorem refName_is (s : ByteArray) (hs : s.size ≤ 1000000) (w : World) : Calls Tryz.prog 12 #[.string s] w fun e w' => e = .returned (.bool (named s.data.toList)) ∧ Below w.heap.size w w' := by
 obtain ⟨V, hV⟩ : ∃ V, named s.data.toList = V := ⟨_, rfl⟩
 have hsl := szl s
 rw [hV]
 have hL : Kn [] w w [] := Kn.refl [] w; have hF := hL.fx; go_enter Tryz.func12, Tryz.ntmps12
 go_wp2
 go_loopw [3, 4, 5] (fun n c i wr => ∃ k : Nat, k ≤ s.size ∧ n = .int .i64 k ∧ Hid (NmI s.data.toList k V) ∧ Kn [] w wr []) (fun n _ _ _ => s.size - (intOf n).toNat)
 case atStart => exact ⟨0, by omega, rfl, Lib.hid (by unfold NmI; rw [if_pos rfl, hV]), hL⟩
 case round =>
  clear hL
  obtain ⟨k, hk, rfl, HV, hL⟩ := hrel
  have hF := hL.fx
  by_cases hlt : k < s.size
  ·obtain ⟨c0, hc0⟩ : ∃ c, s.data.toList[k]? = some c := ⟨_, List.getElem?_eq_getElem (by rw [szl]; omega)⟩
   have eb0 := byte_at hc0 (by omega)
   have hb : c0.toNat < 256 := c0.toNat_lt
   have hrr : (0 ≤ c0.toNat ∧ c0.toNat ≤ 47) ∨ (48 ≤ c0.toNat ∧ c0.toNat ≤ 57) ∨ (58 ≤ c0.toNat ∧ c0.toNat ≤ 64) ∨ (65 ≤ c0.toNat ∧ c0.toNat ≤ 90) ∨ (91 ≤ c0.toNat ∧ c0.toNat ≤ 94) ∨ (95 ≤ c0.toNat ∧ c0.toNat ≤ 95) ∨ (96 ≤ c0.toNat ∧ c0.toNat ≤ 96) ∨ (97 ≤ c0.toNat ∧ c0.toNat ≤ 122) ∨ (123 ≤ c0.toNat ∧ c0.toNat ≤ 255) := by omega
   rcases Nat.eq_zero_or_pos k with hk0 | hk0
   ·have z1 : decide ((0 : Int) < (k : Int)) = false := decide_eq_false (by omega)
    have z2 : decide (0 < k) = false := decide_eq_false (by omega)
    have z3 : ((k : Int) == 0) = true := beq_iff_eq.2 (by omega)
    have HK0 := Lib.hid hk0
    clear hk0
    rcases hrr with hr | hr | hr | hr | hr | hr | hr | hr | hr
    ·have y0 : decide ((c0.toNat : Int) < 48) = true := decide_eq_true (by omega); have x0 : decide (c0.toNat < 48) = true := decide_eq_true (by omega); have y1 : decide ((57 : Int) < (c0.toNat : Int)) = false := decide_eq_false (by omega); have x1 : decide (57 < c0.toNat) = false := decide_eq_false (by omega)
     have q0 : ((c0.toNat : Int) == 95) = false := beq_false_of_ne (by omega); obtain ⟨q1, p1⟩ := dF 97 97 c0.toNat; obtain ⟨q2, p2⟩ := uT 122 122 c0.toNat; obtain ⟨q3, p3⟩ := dF 65 65 c0.toNat; obtain ⟨q4, p4⟩ := uT 90 90 c0.toNat; obtain ⟨q5, p5⟩ := dF 48 48 c0.toNat; obtain ⟨q6, p6⟩ := uT 57 57 c0.toNat
     have ha : nameC true c0 = false := by
      unfold nameC
      have e : (c0 == 95) = false := beq_false_of_ne (fun h => by subst h; revert hr; decide)
      rw [e]
      (simp; omega)
     clear hr
     go_wp2
     refine bodyPost_ret (by simp [results, Tryz.results12, go_sem, *]; try rfl) rfl ?_
     exact ⟨by rw [nm_stop HV.out hc0 (.inl ⟨HK0.out, ha⟩)], hL.below0⟩
    ·have y0 : decide ((c0.toNat : Int) < 48) = false := decide_eq_false (by omega); have x0 : decide (c0.toNat < 48) = false := decide_eq_false (by omega); have y1 : decide ((57 : Int) < (c0.toNat : Int)) = false := decide_eq_false (by omega); have x1 : decide (57 < c0.toNat) = false := decide_eq_false (by omega)
     have q0 : ((c0.toNat : Int) == 95) = false := beq_false_of_ne (by omega); obtain ⟨q1, p1⟩ := dF 97 97 c0.toNat; obtain ⟨q2, p2⟩ := uT 122 122 c0.toNat; obtain ⟨q3, p3⟩ := dF 65 65 c0.toNat; obtain ⟨q4, p4⟩ := uT 90 90 c0.toNat; obtain ⟨q5, p5⟩ := dT 48 48 c0.toNat; obtain ⟨q6, p6⟩ := uT 57 57 c0.toNat
     have ha : nameC true c0 = false := by
      unfold nameC
      have e : (c0 == 95) = false := beq_false_of_ne (fun h => by subst h; revert hr; decide)
      rw [e]
      (simp; omega)
     clear hr
     go_wp2
     refine bodyPost_ret (by simp [results, Tryz.results12, go_sem, *]; try rfl) rfl ?_
     exact ⟨by rw [nm_stop HV.out hc0 (.inl ⟨HK0.out, ha⟩)], hL.below0⟩
    ·have y0 : decide ((c0.toNat : Int) < 48) = false := decide_eq_false (by omega); have x0 : decide (c0.toNat < 48) = false := decide_eq_false (by omega); have y1 : decide ((57 : Int) < (c0.toNat : Int)) = true := decide_eq_true (by omega); have x1 : decide (57 < c0.toNat) = true := decide_eq_true (by omega)
     have q0 : ((c0.toNat : Int) == 95) = false := beq_false_of_ne (by omega); obtain ⟨q1, p1⟩ := dF 97 97 c0.toNat; obtain ⟨q2, p2⟩ := uT 122 122 c0.toNat; obtain ⟨q3, p3⟩ := dF 65 65 c0.toNat; obtain ⟨q4, p4⟩ := uT 90 90 c0.toNat; obtain ⟨q5, p5⟩ := dT 48 48 c0.toNat; obtain ⟨q6, p6⟩ := uF 57 57 c0.toNat
     have ha : nameC true c0 = false := by
      unfold nameC
      have e : (c0 == 95) = false := beq_false_of_ne (fun h => by subst h; revert hr; decide)
      rw [e]
      (simp; omega)
     clear hr
     go_wp2
     refine bodyPost_ret (by simp [results, Tryz.results12, go_sem, *]; try rfl) rfl ?_
     exact ⟨by rw [nm_stop HV.out hc0 (.inl ⟨HK0.out, ha⟩)], hL.below0⟩
    ·have y0 : decide ((c0.toNat : Int) < 48) = false := decide_eq_false (by omega); have x0 : decide (c0.toNat < 48) = false := decide_eq_false (by omega); have y1 : decide ((57 : Int) < (c0.toNat : Int)) = true := decide_eq_true (by omega); have x1 : decide (57 < c0.toNat) = true := decide_eq_true (by omega)
     have q0 : ((c0.toNat : Int) == 95) = false := beq_false_of_ne (by omega); obtain ⟨q1, p1⟩ := dF 97 97 c0.toNat; obtain ⟨q2, p2⟩ := uT 122 122 c0.toNat; obtain ⟨q3, p3⟩ := dT 65 65 c0.toNat; obtain ⟨q4, p4⟩ := uT 90 90 c0.toNat; obtain ⟨q5, p5⟩ := dT 48 48 c0.toNat; obtain ⟨q6, p6⟩ := uF 57 57 c0.toNat
     have ha : nameC true c0 = true := by
      unfold nameC
      have e : (c0 == 95) = false := beq_false_of_ne (fun h => by subst h; revert hr; decide)
      rw [e]
      (simp; omega)
     clear hr
     go_wp2
     exact ⟨⟨k + 1, by omega, by go_num, Lib.hid (nm_step HV.out hc0 (.inl ⟨HK0.out, ha⟩)), hL⟩, by simp [intOf]; omega⟩
    ·have y0 : decide ((c0.toNat : Int) < 48) = false := decide_eq_false (by omega); have x0 : decide (c0.toNat < 48) = false := decide_eq_false (by omega); have y1 : decide ((57 : Int) < (c0.toNat : Int)) = true := decide_eq_true (by omega); have x1 : decide (57 < c0.toNat) = true := decide_eq_true (by omega)
     have q0 : ((c0.toNat : Int) == 95) = false := beq_false_of_ne (by omega); obtain ⟨q1, p1⟩ := dF 97 97 c0.toNat; obtain ⟨q2, p2⟩ := uT 122 122 c0.toNat; obtain ⟨q3, p3⟩ := dT 65 65 c0.toNat; obtain ⟨q4, p4⟩ := uF 90 90 c0.toNat; obtain ⟨q5, p5⟩ := dT 48 48 c0.toNat; obtain ⟨q6, p6⟩ := uF 57 57 c0.toNat
     have ha : nameC true c0 = false := by
      unfold nameC
      have e : (c0 == 95) = false := beq_false_of_ne (fun h => by subst h; revert hr; decide)
      rw [e]
      (simp; omega)
     clear hr
     go_wp2
     refine bodyPost_ret (by simp [results, Tryz.results12, go_sem, *]; try rfl) rfl ?_
     exact ⟨by rw [nm_stop HV.out hc0 (.inl ⟨HK0.out, ha⟩)], hL.below0⟩
    ·have y0 : decide ((c0.toNat : Int) < 48) = false := decide_eq_false (by omega); have x0 : decide (c0.toNat < 48) = false := decide_eq_false (by omega); have y1 : decide ((57 : Int) < (c0.toNat : Int)) = true := decide_eq_true (by omega); have x1 : decide (57 < c0.toNat) = true := decide_eq_true (by omega)
     have q0 : ((c0.toNat : Int) == 95) = true := beq_iff_eq.2 (by omega); obtain ⟨q1, p1⟩ := dF 97 97 c0.toNat; obtain ⟨q2, p2⟩ := uT 122 122 c0.toNat; obtain ⟨q3, p3⟩ := dT 65 65 c0.toNat; obtain ⟨q4, p4⟩ := uF 90 90 c0.toNat; obtain ⟨q5, p5⟩ := dT 48 48 c0.toNat; obtain ⟨q6, p6⟩ := uF 57 57 c0.toNat
     have ha : nameC true c0 = true := by
      unfold nameC
      have e : (c0 == 95) = true := beq_iff_eq.2 (UInt8.toNat_inj.1 (show c0.toNat = 95 by omega))
      rw [e]
      (simp; done)
     clear hr
     go_wp2
     exact ⟨⟨k + 1, by omega, by go_num, Lib.hid (nm_step HV.out hc0 (.inl ⟨HK0.out, ha⟩)), hL⟩, by simp [intOf]; omega⟩
    ·have y0 : decide ((c0.toNat : Int) < 48) = false := decide_eq_false (by omega); have x0 : decide (c0.toNat < 48) = false := decide_eq_false (by omega); have y1 : decide ((57 : Int) < (c0.toNat : Int)) = true := decide_eq_true (by omega); have x1 : decide (57 < c0.toNat) = true := decide_eq_true (by omega)
     have q0 : ((c0.toNat : Int) == 95) = false := beq_false_of_ne (by omega); obtain ⟨q1, p1⟩ := dF 97 97 c0.toNat; obtain ⟨q2, p2⟩ := uT 122 122 c0.toNat; obtain ⟨q3, p3⟩ := dT 65 65 c0.toNat; obtain ⟨q4, p4⟩ := uF 90 90 c0.toNat; obtain ⟨q5, p5⟩ := dT 48 48 c0.toNat; obtain ⟨q6, p6⟩ := uF 57 57 c0.toNat
     have ha : nameC true c0 = false := by
      unfold nameC
      have e : (c0 == 95) = false := beq_false_of_ne (fun h => by subst h; revert hr; decide)
      rw [e]
      (simp; omega)
     clear hr
     go_wp2
     refine bodyPost_ret (by simp [results, Tryz.results12, go_sem, *]; try rfl) rfl ?_
     exact ⟨by rw [nm_stop HV.out hc0 (.inl ⟨HK0.out, ha⟩)], hL.below0⟩
    ·have y0 : decide ((c0.toNat : Int) < 48) = false := decide_eq_false (by omega); have x0 : decide (c0.toNat < 48) = false := decide_eq_false (by omega); have y1 : decide ((57 : Int) < (c0.toNat : Int)) = true := decide_eq_true (by omega); have x1 : decide (57 < c0.toNat) = true := decide_eq_true (by omega)
     have q0 : ((c0.toNat : Int) == 95) = false := beq_false_of_ne (by omega); obtain ⟨q1, p1⟩ := dT 97 97 c0.toNat; obtain ⟨q2, p2⟩ := uT 122 122 c0.toNat; obtain ⟨q3, p3⟩ := dT 65 65 c0.toNat; obtain ⟨q4, p4⟩ := uF 90 90 c0.toNat; obtain ⟨q5, p5⟩ := dT 48 48 c0.toNat; obtain ⟨q6, p6⟩ := uF 57 57 c0.toNat
     have ha : nameC true c0 = true := by
      unfold nameC
      have e : (c0 == 95) = false := beq_false_of_ne (fun h => by subst h; revert hr; decide)
      rw [e]
      (simp; omega)
     clear hr
     go_wp2
     exact ⟨⟨k + 1, by omega, by go_num, Lib.hid (nm_step HV.out hc0 (.inl ⟨HK0.out, ha⟩)), hL⟩, by simp [intOf]; omega⟩
    ·have y0 : decide ((c0.toNat : Int) < 48) = false := decide_eq_false (by omega); have x0 : decide (c0.toNat < 48) = false := decide_eq_false (by omega); have y1 : decide ((57 : Int) < (c0.toNat : Int)) = true := decide_eq_true (by omega); have x1 : decide (57 < c0.toNat) = true := decide_eq_true (by omega)
     have q0 : ((c0.toNat : Int) == 95) = false := beq_false_of_ne (by omega); obtain ⟨q1, p1⟩ := dT 97 97 c0.toNat; obtain ⟨q2, p2⟩ := uF 122 122 c0.toNat; obtain ⟨q3, p3⟩ := dT 65 65 c0.toNat; obtain ⟨q4, p4⟩ := uF 90 90 c0.toNat; obtain ⟨q5, p5⟩ := dT 48 48 c0.toNat; obtain ⟨q6, p6⟩ := uF 57 57 c0.toNat
     have ha : nameC true c0 = false := by
      unfold nameC
      have e : (c0 == 95) = false := beq_false_of_ne (fun h => by subst h; revert hr; decide)
      rw [e]
      (simp; omega)
     clear hr
     go_wp2
     refine bodyPost_ret (by simp [results, Tryz.results12, go_sem, *]; try rfl) rfl ?_
     exact ⟨by rw [nm_stop HV.out hc0 (.inl ⟨HK0.out, ha⟩)], hL.below0⟩
   ·have z1 : decide ((0 : Int) < (k : Int)) = true := decide_eq_true (by omega)
    have z2 : decide (0 < k) = true := decide_eq_true hk0
    have z3 : ((k : Int) == 0) = false := beq_false_of_ne (by omega)
    have HK0 := Lib.hid hk0
    clear hk0
    rcases hrr with hr | hr | hr | hr | hr | hr | hr | hr | hr
    ·have y0 : decide ((c0.toNat : Int) < 48) = true := decide_eq_true (by omega); have x0 : decide (c0.toNat < 48) = true := decide_eq_true (by omega); have y1 : decide ((57 : Int) < (c0.toNat : Int)) = false := decide_eq_false (by omega); have x1 : decide (57 < c0.toNat) = false := decide_eq_false (by omega)
     have q0 : ((c0.toNat : Int) == 95) = false := beq_false_of_ne (by omega); obtain ⟨q1, p1⟩ := dF 97 97 c0.toNat; obtain ⟨q2, p2⟩ := uT 122 122 c0.toNat; obtain ⟨q3, p3⟩ := dF 65 65 c0.toNat; obtain ⟨q4, p4⟩ := uT 90 90 c0.toNat; obtain ⟨q5, p5⟩ := dF 48 48 c0.toNat; obtain ⟨q6, p6⟩ := uT 57 57 c0.toNat
     have ha : nameC false c0 = false := by
      unfold nameC
      have e : (c0 == 95) = false := beq_false_of_ne (fun h => by subst h; revert hr; decide)
      rw [e]
      (simp; omega)
     clear hr
     go_wp2
     refine bodyPost_ret (by simp [results, Tryz.results12, go_sem, *]; try rfl) rfl ?_
     exact ⟨by rw [nm_stop HV.out hc0 (.inr ⟨HK0.out, ha⟩)], hL.below0⟩
    ·have y0 : decide ((c0.toNat : Int) < 48) = false := decide_eq_false (by omega); have x0 : decide (c0.toNat < 48) = false := decide_eq_false (by omega); have y1 : decide ((57 : Int) < (c0.toNat : Int)) = false := decide_eq_false (by omega); have x1 : decide (57 < c0.toNat) = false := decide_eq_false (by omega)
     have q0 : ((c0.toNat : Int) == 95) = false := beq_false_of_ne (by omega); obtain ⟨q1, p1⟩ := dF 97 97 c0.toNat; obtain ⟨q2, p2⟩ := uT 122 122 c0.toNat; obtain ⟨q3, p3⟩ := dF 65 65 c0.toNat; obtain ⟨q4, p4⟩ := uT 90 90 c0.toNat; obtain ⟨q5, p5⟩ := dT 48 48 c0.toNat; obtain ⟨q6, p6⟩ := uT 57 57 c0.toNat
     have ha : nameC false c0 = true := by
      unfold nameC
      have e : (c0 == 95) = false := beq_false_of_ne (fun h => by subst h; revert hr; decide)
      rw [e]
      (simp; omega)
     clear hr
     go_wp2
     exact ⟨⟨k + 1, by omega, by go_num, Lib.hid (nm_step HV.out hc0 (.inr ⟨HK0.out, ha⟩)), hL⟩, by simp [intOf]; omega⟩
    ·have y0 : decide ((c0.toNat : Int) < 48) = false := decide_eq_false (by omega); have x0 : decide (c0.toNat < 48) = false := decide_eq_false (by omega); have y1 : decide ((57 : Int) < (c0.toNat : Int)) = true := decide_eq_true (by omega); have x1 : decide (57 < c0.toNat) = true := decide_eq_true (by omega)
     have q0 : ((c0.toNat : Int) == 95) = false := beq_false_of_ne (by omega); obtain ⟨q1, p1⟩ := dF 97 97 c0.toNat; obtain ⟨q2, p2⟩ := uT 122 122 c0.toNat; obtain ⟨q3, p3⟩ := dF 65 65 c0.toNat; obtain ⟨q4, p4⟩ := uT 90 90 c0.toNat; obtain ⟨q5, p5⟩ := dT 48 48 c0.toNat; obtain ⟨q6, p6⟩ := uF 57 57 c0.toNat
     have ha : nameC false c0 = false := by
      unfold nameC
      have e : (c0 == 95) = false := beq_false_of_ne (fun h => by subst h; revert hr; decide)
      rw [e]
      (simp; omega)
     clear hr
     go_wp2
     refine bodyPost_ret (by simp [results, Tryz.results12, go_sem, *]; try rfl) rfl ?_
     exact ⟨by rw [nm_stop HV.out hc0 (.inr ⟨HK0.out, ha⟩)], hL.below0⟩
    ·have y0 : decide ((c0.toNat : Int) < 48) = false := decide_eq_false (by omega); have x0 : decide (c0.toNat < 48) = false := decide_eq_false (by omega); have y1 : decide ((57 : Int) < (c0.toNat : Int)) = true := decide_eq_true (by omega); have x1 : decide (57 < c0.toNat) = true := decide_eq_true (by omega)
     have q0 : ((c0.toNat : Int) == 95) = false := beq_false_of_ne (by omega); obtain ⟨q1, p1⟩ := dF 97 97 c0.toNat; obtain ⟨q2, p2⟩ := uT 122 122 c0.toNat; obtain ⟨q3, p3⟩ := dT 65 65 c0.toNat; obtain ⟨q4, p4⟩ := uT 90 90 c0.toNat; obtain ⟨q5, p5⟩ := dT 48 48 c0.toNat; obtain ⟨q6, p6⟩ := uF 57 57 c0.toNat
     have ha : nameC false c0 = true := by
      unfold nameC
      have e : (c0 == 95) = false := beq_false_of_ne (fun h => by subst h; revert hr; decide)
      rw [e]
      (simp; omega)
     clear hr
     go_wp2
     exact ⟨⟨k + 1, by omega, by go_num, Lib.hid (nm_step HV.out hc0 (.inr ⟨HK0.out, ha⟩)), hL⟩, by simp [intOf]; omega⟩
    ·have y0 : decide ((c0.toNat : Int) < 48) = false := decide_eq_false (by omega); have x0 : decide (c0.toNat < 48) = false := decide_eq_false (by omega); have y1 : decide ((57 : Int) < (c0.toNat : Int)) = true := decide_eq_true (by omega); have x1 : decide (57 < c0.toNat) = true := decide_eq_true (by omega)
     have q0 : ((c0.toNat : Int) == 95) = false := beq_false_of_ne (by omega); obtain ⟨q1, p1⟩ := dF 97 97 c0.toNat; obtain ⟨q2, p2⟩ := uT 122 122 c0.toNat; obtain ⟨q3, p3⟩ := dT 65 65 c0.toNat; obtain ⟨q4, p4⟩ := uF 90 90 c0.toNat; obtain ⟨q5, p5⟩ := dT 48 48 c0.toNat; obtain ⟨q6, p6⟩ := uF 57 57 c0.toNat
     have ha : nameC false c0 = false := by
      unfold nameC
      have e : (c0 == 95) = false := beq_false_of_ne (fun h => by subst h; revert hr; decide)
      rw [e]
      (simp; omega)
     clear hr
     go_wp2
     refine bodyPost_ret (by simp [results, Tryz.results12, go_sem, *]; try rfl) rfl ?_
     exact ⟨by rw [nm_stop HV.out hc0 (.inr ⟨HK0.out, ha⟩)], hL.below0⟩
    ·have y0 : decide ((c0.toNat : Int) < 48) = false := decide_eq_false (by omega); have x0 : decide (c0.toNat < 48) = false := decide_eq_false (by omega); have y1 : decide ((57 : Int) < (c0.toNat : Int)) = true := decide_eq_true (by omega); have x1 : decide (57 < c0.toNat) = true := decide_eq_true (by omega)
     have q0 : ((c0.toNat : Int) == 95) = true := beq_iff_eq.2 (by omega); obtain ⟨q1, p1⟩ := dF 97 97 c0.toNat; obtain ⟨q2, p2⟩ := uT 122 122 c0.toNat; obtain ⟨q3, p3⟩ := dT 65 65 c0.toNat; obtain ⟨q4, p4⟩ := uF 90 90 c0.toNat; obtain ⟨q5, p5⟩ := dT 48 48 c0.toNat; obtain ⟨q6, p6⟩ := uF 57 57 c0.toNat
     have ha : nameC false c0 = true := by
      unfold nameC
      have e : (c0 == 95) = true := beq_iff_eq.2 (UInt8.toNat_inj.1 (show c0.toNat = 95 by omega))
      rw [e]
      (simp; done)
     clear hr
     go_wp2
     exact ⟨⟨k + 1, by omega, by go_num, Lib.hid (nm_step HV.out hc0 (.inr ⟨HK0.out, ha⟩)), hL⟩, by simp [intOf]; omega⟩
    ·have y0 : decide ((c0.toNat : Int) < 48) = false := decide_eq_false (by omega); have x0 : decide (c0.toNat < 48) = false := decide_eq_false (by omega); have y1 : decide ((57 : Int) < (c0.toNat : Int)) = true := decide_eq_true (by omega); have x1 : decide (57 < c0.toNat) = true := decide_eq_true (by omega)
     have q0 : ((c0.toNat : Int) == 95) = false := beq_false_of_ne (by omega); obtain ⟨q1, p1⟩ := dF 97 97 c0.toNat; obtain ⟨q2, p2⟩ := uT 122 122 c0.toNat; obtain ⟨q3, p3⟩ := dT 65 65 c0.toNat; obtain ⟨q4, p4⟩ := uF 90 90 c0.toNat; obtain ⟨q5, p5⟩ := dT 48 48 c0.toNat; obtain ⟨q6, p6⟩ := uF 57 57 c0.toNat
     have ha : nameC false c0 = false := by
      unfold nameC
      have e : (c0 == 95) = false := beq_false_of_ne (fun h => by subst h; revert hr; decide)
      rw [e]
      (simp; omega)
     clear hr
     go_wp2
     refine bodyPost_ret (by simp [results, Tryz.results12, go_sem, *]; try rfl) rfl ?_
     exact ⟨by rw [nm_stop HV.out hc0 (.inr ⟨HK0.out, ha⟩)], hL.below0⟩
    ·have y0 : decide ((c0.toNat : Int) < 48) = false := decide_eq_false (by omega); have x0 : decide (c0.toNat < 48) = false := decide_eq_false (by omega); have y1 : decide ((57 : Int) < (c0.toNat : Int)) = true := decide_eq_true (by omega); have x1 : decide (57 < c0.toNat) = true := decide_eq_true (by omega)
     have q0 : ((c0.toNat : Int) == 95) = false := beq_false_of_ne (by omega); obtain ⟨q1, p1⟩ := dT 97 97 c0.toNat; obtain ⟨q2, p2⟩ := uT 122 122 c0.toNat; obtain ⟨q3, p3⟩ := dT 65 65 c0.toNat; obtain ⟨q4, p4⟩ := uF 90 90 c0.toNat; obtain ⟨q5, p5⟩ := dT 48 48 c0.toNat; obtain ⟨q6, p6⟩ := uF 57 57 c0.toNat
     have ha : nameC false c0 = true := by
      unfold nameC
      have e : (c0 == 95) = false := beq_false_of_ne (fun h => by subst h; revert hr; decide)
      rw [e]
      (simp; omega)
     clear hr
     go_wp2
     exact ⟨⟨k + 1, by omega, by go_num, Lib.hid (nm_step HV.out hc0 (.inr ⟨HK0.out, ha⟩)), hL⟩, by simp [intOf]; omega⟩
    ·have y0 : decide ((c0.toNat : Int) < 48) = false := decide_eq_false (by omega); have x0 : decide (c0.toNat < 48) = false := decide_eq_false (by omega); have y1 : decide ((57 : Int) < (c0.toNat : Int)) = true := decide_eq_true (by omega); have x1 : decide (57 < c0.toNat) = true := decide_eq_true (by omega)
     have q0 : ((c0.toNat : Int) == 95) = false := beq_false_of_ne (by omega); obtain ⟨q1, p1⟩ := dT 97 97 c0.toNat; obtain ⟨q2, p2⟩ := uF 122 122 c0.toNat; obtain ⟨q3, p3⟩ := dT 65 65 c0.toNat; obtain ⟨q4, p4⟩ := uF 90 90 c0.toNat; obtain ⟨q5, p5⟩ := dT 48 48 c0.toNat; obtain ⟨q6, p6⟩ := uF 57 57 c0.toNat
     have ha : nameC false c0 = false := by
      unfold nameC
      have e : (c0 == 95) = false := beq_false_of_ne (fun h => by subst h; revert hr; decide)
      rw [e]
      (simp; omega)
     clear hr
     go_wp2
     refine bodyPost_ret (by simp [results, Tryz.results12, go_sem, *]; try rfl) rfl ?_
     exact ⟨by rw [nm_stop HV.out hc0 (.inr ⟨HK0.out, ha⟩)], hL.below0⟩
  ·obtain rfl : k = s.size := by omega
   have hV2 := nm_end (by rw [hsl]; exact HV.out)
   go_wp2
   refine bodyPost_ret (by simp [results, Tryz.results12, go_sem, *]; try rfl) rfl ?_
   exact ⟨by rw [hV2, Lib.toList_data], hL.below0⟩
end Go.Proofs.YtfdlifhkeicnnaaGreatDoor
