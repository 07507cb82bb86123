/- Lemmas and walks for the law of this seat (part 14). -/
import Derived.Test.YtgboffbbpmileaaGreatDoorPj13
import Derived.Test.YtgboffbbpmileaaGreatDoorProg
import Derived.WalkKit
import Derived.Handy
import Derived.Deep.Light
import Derived.WalkSmall
import Derived.StillTailTactics
import Derived.Lib.Hide
set_option maxRecDepth 20000
set_option maxHeartbeats 4000000
set_option linter.unusedVariables false
set_option linter.unusedSimpArgs false
namespace Go.Proofs.YtgboffbbpmileaaGreatDoor
open Go Go.RowKit
theorem cutEq_brk : ∀ l : Bytes, cutEq l = brk 61 l
 | [] => rfl
 | c :: t => by rw [cutEq, brk, cutEq_brk t]
theorem cut_eq (l : Bytes) : Lib.cut l [61] = match cutEq l with
 | some (n, v) => (n, v, true)
 | none => (l, [], false) := by
 rw [cutEq_brk]
 unfold Lib.cut
 rw [Lib.index_one]
 rcases brk_ix 61 l with ⟨h1, h2⟩ | ⟨a, r, h1, h2⟩
 ·rw [h1, h2]; rfl
 ·rw [h1, h2, if_pos (by omega)]
  have h3 := (brk_text h1).1
  simp only [Int.toNat_natCast]
  rw [h3]
  simp
/-- A known row, as a row in no block of Y. -/
theorem RowL.rowY {α : Type} {f : α → List Value} {k : Nat} {e : TypeId} {LP K : List (Nat × Obj)} {X Y : List Nat} {w0 w : World} {v : Value} {l : List α} (hf : ∀ a, (f a).length = k) (h : RowL k e LP v l.length (l.flatMap f)) (hk : Kn X w0 w K) (hs : ∀ p ∈ LP, p ∈ K) (hY : ∀ p ∈ LP, p.1 ∉ Y) : RowY k Y w v (l.map f) := by
 rcases h with ⟨_, rfl, h0, h1⟩ | ⟨g, cap, cur, rfl, rfl, hb⟩
 ·have : l = [] := List.eq_nil_of_length_eq_zero h0
  subst this
  exact RowY.nil
 ·refine ⟨some ⟨g, 0, none⟩, cap, by rw [List.length_map], by rw [List.length_map]; exact hb.le, fun j cs hj => ⟨g, 0, rfl, hY _ List.mem_cons_self, hk.lt (hs _ List.mem_cons_self), fun c x hx => ?_⟩⟩
  rw [List.getElem?_map] at hj
  obtain ⟨a, ha, rfl⟩ := Option.map_eq_some_iff.1 hj
  rw [Nat.zero_add, kn_cell hk (hs _ List.mem_cons_self)]
  exact hb.get (flat_get hf l j c a x ha hx)
theorem run_append_pt {W : World} {t : TypeId} {v : Value} {n m c : Nat} {xs news : List Value} {ad : Addr} (hl : news.length = m * 3) (hnews : ∀ j u, news[j]? = some u → W.cell? (ad.add j) = some u) (h1 : ∀ u ∈ news, u.oneCell' = true) (hs : n + m ≤ 1000000) (ho : W.ownsRow 0 118 3 v n xs) :
  ∃ v' w', (Builtin.append_ #[29, 29] t #[v, .slice (some ad) m c]).run Tryz.prog W = .ok v' w' ∧ w'.ownsRow 0 118 3 v' (n + m) (xs ++ news) ∧ W.grownBy w' v.ownBlock ∧ (v'.ownBlock = v.ownBlock ∨ v'.ownBlock = some W.heap.size) := by
 obtain ⟨i0, hi, hz0, hz1, hz2⟩ := info_parts infoPt
 have := run_append_kn (P := Tryz.prog) (w := W) 0 29 t 118 i0 _ Tryz.underlying29 hi hz0 (by rw [hz1]; rfl) (by rw [hz1]; decide) v n xs (by rw [hz1]; exact ho) ad m c news (by rw [hz1, hl]) hnews h1 (by unfold maxLen; omega) (by rw [hz2]; omega) (Nat.zero_le _)
 rw [hz1] at this
 exact this
/-- An assignment, or none: what a call hands back. -/
def AsgR (W0 : World) (r : Option (Bytes × List Prt)) (w : World) (e : Ending) (w' : World) : Prop := match r with
 | some (n, p) => ∃ LP v, e = .returned (.tuple #[.agg #[bs n, v], .bool true]) ∧ Hid (PRm W0 LP v p) ∧ Kn [] w w' LP
 | none => e = .returned (.tuple #[.agg #[.string ⟨#[]⟩, .slice none 0 0], .bool false]) ∧ Below w.heap.size w w'
theorem assignment_none0 (ao : Option Addr) (cap : Nat) (w : World) : Calls Tryz.prog 147 #[.slice ao 0 cap] w fun e w' => e = .returned (.tuple #[.agg #[.string ⟨#[]⟩, .slice none 0 0], .bool false]) ∧ Below w.heap.size w w' := by
 have hL : Kn [] w w [] := Kn.refl [] w; have hF := hL.fx; go_enter Tryz.func147, Tryz.ntmps147
 go_wp2
 refine kn_body ?_; clear hF hL; intro W hL; have hF := hL.fx
 refine bodyPost_ret (by simp [results, Tryz.results147, go_sem, *]; try rfl) rfl ?_
 exact ⟨rfl, hL.below0⟩
theorem assignment_none1 (g o n cap : Nat) (hn : 0 < n) (k : Int) (s : ByteArray) (q : Bool) (w : World) (h0 : w.cell? ⟨g, o, none⟩ = some (.int .i64 k)) (h2 : w.cell? ⟨g, o + 2, none⟩ = some (.bool q)) (hk : (k != 0) = true ∨ q = true) : Calls Tryz.prog 147 #[.slice (some ⟨g, o, none⟩) n cap] w fun e w' => e = .returned (.tuple #[.agg #[.string ⟨#[]⟩, .slice none 0 0], .bool false]) ∧ Below w.heap.size w w' := by
 have hg := cell_lt h0
 have q0 : ((n : Int) == 0) = false := beq_false_of_ne (by omega)
 have q1 : (n == 0) = false := beq_false_of_ne (by omega)
 obtain ⟨k1, hk1⟩ : ∃ z : Bool, (k != 0) = z := ⟨_, rfl⟩
 rw [hk1] at hk
 cases k1 <;> cases q <;> (first | (exfalso; revert hk; decide) | (
  clear hk
  have hL : Kn [] w w [] := Kn.refl [] w; have hF := hL.fx; go_enter Tryz.func147, Tryz.ntmps147
  go_wp2
  refine kn_body ?_; clear hF hL; intro W hL; have hF := hL.fx
  refine bodyPost_ret (by simp [results, Tryz.results147, go_sem, *]; try rfl) rfl ?_
  exact ⟨rfl, hL.below0⟩))
theorem Cut_is (s : ByteArray) (hs : s.size ≤ 1000000) (m : Int) (nm va : ByteArray) (ok : Bool) (h : Hid (Lib.cut s.data.toList [61] = (nm.data.toList, va.data.toList, ok))) (W : World) (hm : W.cell? ⟨1, 0, none⟩ = some (.int .i64 m)) :
  Calls Tryz.prog 167 #[.string s, .string ⟨#[61]⟩] W fun e w' => e = .returned (.tuple #[.string nm, .string va, .bool ok]) ∧ Below W.heap.size W w' :=
 (Tryz.strings_Cut s ⟨#[61]⟩ m W (by omega) hm).mono fun e w' hh => by
  obtain ⟨h1, n, rfl⟩ := hh
  rw [h.out] at h1
  haveI := Kn.refl [] W
  exact ⟨by rw [h1], (kn_drewN [] W W [] n).below0⟩
theorem assignment_none2 (g o n cap : Nat) (hn : 0 < n) (s : ByteArray) (hs : s.size ≤ 1000000) (m : Int) (w : World) (h0 : w.cell? ⟨g, o, none⟩ = some (.int .i64 0)) (h1 : w.cell? ⟨g, o + 1, none⟩ = some (.string s)) (h2 : w.cell? ⟨g, o + 2, none⟩ = some (.bool false)) (hm : w.cell? ⟨1, 0, none⟩ = some (.int .i64 m))
  (nm va : ByteArray) (ok : Bool) (hc : Hid (Lib.cut s.data.toList [61] = (nm.data.toList, va.data.toList, ok))) (hnm : nm.size ≤ 1000000) (hno : ok = false ∨ isName nm.data.toList = false) : Calls Tryz.prog 147 #[.slice (some ⟨g, o, none⟩) n cap] w fun e w' => e = .returned (.tuple #[.agg #[.string ⟨#[]⟩, .slice none 0 0], .bool false]) ∧ Below w.heap.size w w' := by
 have hg := cell_lt h0
 have q0 : ((n : Int) == 0) = false := beq_false_of_ne (by omega)
 have q1 : (n == 0) = false := beq_false_of_ne (by omega)
 have HIN := Lib.hid (fun W => isName_is nm hnm W)
 obtain ⟨k1, hk1⟩ : ∃ z : Bool, isName nm.data.toList = z := ⟨_, rfl⟩
 rw [hk1] at HIN hno
 have HM := Lib.hid hm
 clear hk1 hm
 cases ok <;> cases k1 <;> (first | (exfalso; revert hno; decide) | (
  clear hno
  have hL : Kn [] w w [] := Kn.refl [] w; have hF := hL.fx; go_enter Tryz.func147, Tryz.ntmps147
  go_wp2_with (first | (go_at_call 167; refine zC (fun W hL => Cut_is s hs m nm va _ hc _ (kn_o0 hL HM.out)) ?_; clear hF hL; intro W hL hF) | (go_at_call 121; refine zC (fun W hL => HIN.out _) ?_; clear hF hL; intro W hL hF))
  refine kn_body ?_; clear hF hL; intro W hL; simp only [kfb] at hL; have hF := hL.fx
  refine bodyPost_ret (by simp [results, Tryz.results147, go_sem, *]; try rfl) rfl ?_
  exact ⟨rfl, hL.below0⟩))
theorem assignment_some (g o n cap : Nat) (hn : 0 < n) (hnc : n ≤ cap) (hn2 : n ≤ 100000) (s : ByteArray) (hs : s.size ≤ 1000000) (m : Int) (w : World) (h0 : w.cell? ⟨g, o, none⟩ = some (.int .i64 0)) (h1 : w.cell? ⟨g, o + 1, none⟩ = some (.string s)) (h2 : w.cell? ⟨g, o + 2, none⟩ = some (.bool false)) (hm : w.cell? ⟨1, 0, none⟩ = some (.int .i64 m))
  (nm va : ByteArray) (hc : Hid (Lib.cut s.data.toList [61] = (nm.data.toList, va.data.toList, true))) (hnm : nm.size ≤ 1000000) (hyes : isName nm.data.toList = true) (ps rs : List Prt) (hrs : Hid (rs = if va.data.toList.isEmpty then ps else ⟨0, va.data.toList, false⟩ :: ps)) (hps : Hid (ps.length + 1 = n)) (hrest : Hid (∀ j u, (ps.flatMap ptc)[j]? = some u → w.cell? ⟨g, o + 3 + j, none⟩ = some u)) :
  Calls Tryz.prog 147 #[.slice (some ⟨g, o, none⟩) n cap] w fun e w' => ∃ LP v, e = .returned (.tuple #[.agg #[.string nm, v], .bool true]) ∧ Hid (RowL 3 118 LP v rs.length (rs.flatMap ptc)) ∧ Kn [] w w' LP := by
 have hg := cell_lt h0
 have q0 : ((n : Int) == 0) = false := beq_false_of_ne (by omega)
 have q1 : (n == 0) = false := beq_false_of_ne (by omega)
 have HIN := Lib.hid (fun W => isName_is nm hnm W)
 rw [hyes] at HIN
 have HM := Lib.hid hm
 clear hm hyes
 obtain ⟨k1, hk1⟩ : ∃ z : Bool, va.data.toList.isEmpty = z := ⟨_, rfl⟩
 have HK1 := Lib.hid hk1
 have j1 : (va.toList == []) = k1 := by rw [Lib.toList_data, ← hk1]; cases va.data.toList <;> rfl
 clear hk1
 cases k1
 ·have HPV := Lib.hid (show ptc ⟨0, va.data.toList, false⟩ = [.int .i64 0, .string va, .bool false] from by simp [ptc, bs])
  have hL : Kn [] w w [] := Kn.refl [] w; have hF := hL.fx; go_enter Tryz.func147, Tryz.ntmps147
  go_wp2_with (first | (go_at_call 167; refine zC (fun W hL => Cut_is s hs m nm va _ hc _ (kn_o0 hL HM.out)) ?_; clear hF hL; intro W hL hF) | (go_at_call 121; refine zC (fun W hL => HIN.out _) ?_; clear hF hL; intro W hL hF) | (at_builtin; refine zL ?_; clear hF hL; intro W hL hF; go_loud (refine wpList_append_end rfl _ _ 29 29 rfl [_, _, _] [] hL 0 1 [] [.int .i64 0, .string va, .bool false] _ _ RowL.nil rfl rfl (fun ho => run_append_pt rfl (fun j u hu => by rw [Go.WideShapes.add_plain, Nat.zero_add, kn_cell hL List.mem_cons_self]; simpa using hu) (by intro u hu; simp only [List.mem_cons, List.not_mem_nil, or_false] at hu; rcases hu with rfl | rfl | rfl <;> rfl) (by omega) ho) ?_); intro LP2 a2 c2 W3 hL2 hr2; clear hL hF; have hL := hL2.sub (List.sublist_cons_self _ _); clear hL2; simp only [List.append_eq, List.cons_append, List.nil_append] at hL; have hF := hL.fx))
  have hn9 := hps.out
  obtain rfl : n = ps.length + 1 := hn9.symm
  by_cases hc1 : cap = 1
  ·have HP0 : Hid (ps = []) := Lib.hid (List.eq_nil_of_length_eq_zero (by omega))
   go_wp2_with ((with_reducible refine at_region 9 ?_); refine kn_wp ?_; clear hF hL; intro W hL; simp only [kfb] at hL; have hF := hL.fx; refine kn_region [0, 1, 2, 3, 4, 5, 6] [0, 1, 2, 3, 5] [4, 6] [0, 2, 3, 5] (by kernel_rfl) (by kernel_rfl) (List.Sublist.cons_cons _ (List.Sublist.cons_cons _ (List.nil_sublist _))) ?_; clear hF hL; intro ι F hne hC hFF; have hG := fun n => (hFF n).fx; clear hFF; (repeat (first | (refine cF hC ?_; intro K hK; go_big_quiet_op; go_big_quiet_on) | (refine cP ?_; intro K hK; go_big_quiet_op; go_big_quiet_on) | (refine cN ?_; intro W hL; have hF := hL.fx; at_builtin; go_loud (refine wpList_append_end rfl _ _ 29 29 rfl [_, _] LP2 hL 1 ps.length [.int .i64 0, .string va, .bool false] (ps.flatMap ptc) _ _ hr2 rfl rfl (fun ho => run_append_pt (by rw [ptc_len]; omega) (fun j u hu => by rw [HP0.out] at hu; simp at hu) (fun u hu => by obtain ⟨p, _, hp⟩ := List.mem_flatMap.1 hu; exact ptc_one p u hp) (by omega) ho) ?_); intro LP3 a3 c3 W3 hL2 hr3; clear hL hF; have hL := hL2; clear hL2; simp only [List.append_eq, List.cons_append, List.nil_append] at hL; have hF := hL.fx; go_wp2; refine zB2 ?_; clear hL hF hC hG; intro ι F hne hC hG) | (refine cN ?_; intro W hL; have hF := hL.fx; go_wp2; refine zB2 ?_; clear hL hF hC hG; intro ι F hne hC hG))); refine cwk_nil ?_; clear hC hG; intro W hL; simp only [kfb] at hL; have hF := hL.fx)
   refine kn_body ?_; clear hF hL; intro W hL; simp only [kfb] at hL; have hF := hL.fx
   refine bodyPost_ret (by simp [results, Tryz.results147, go_sem, *]; try rfl) rfl ?_
   have hrs2 := hrs.out
   rw [HK1.out] at hrs2
   rw [if_neg (by decide)] at hrs2
   refine ⟨LP3, _, rfl, Lib.hid ?_, (hL.sub (List.sublist_cons_self _ _)).sub (List.sublist_cons_self _ _)⟩
   have hln : rs.length = 1 + ps.length := by rw [hrs2]; simp [Nat.add_comm]
   rw [hln]
   have hfl : rs.flatMap ptc = [.int .i64 0, .string va, .bool false] ++ ps.flatMap ptc := by rw [hrs2]; simp [ptc, bs]
   rw [hfl]
   simpa using hr3
  ·go_wp2_with ((with_reducible refine at_region 9 ?_); refine kn_wp ?_; clear hF hL; intro W hL; simp only [kfb] at hL; have hF := hL.fx; refine kn_region [0, 1, 2, 3, 4, 5, 6] [0, 1, 2, 3, 5] [4, 6] [0, 2, 3, 5] (by kernel_rfl) (by kernel_rfl) (List.Sublist.cons_cons _ (List.Sublist.cons_cons _ (List.nil_sublist _))) ?_; clear hF hL; intro ι F hne hC hFF; have hG := fun n => (hFF n).fx; clear hFF; (repeat (first | (refine cF hC ?_; intro K hK; go_big_quiet_op; go_big_quiet_on) | (refine cP ?_; intro K hK; go_big_quiet_op; go_big_quiet_on) | (refine cN ?_; intro W hL; have hF := hL.fx; at_builtin; go_loud (refine wpList_append_end rfl _ _ 29 29 rfl [_, _] LP2 hL 1 ps.length [.int .i64 0, .string va, .bool false] (ps.flatMap ptc) _ _ hr2 rfl rfl (fun ho => run_append_pt (by rw [ptc_len]; omega) (fun j u hu => by rw [Go.WideShapes.add_plain]; exact kn_o0 hL (hrest.out j u hu)) (fun u hu => by obtain ⟨p, _, hp⟩ := List.mem_flatMap.1 hu; exact ptc_one p u hp) (by omega) ho) ?_); intro LP3 a3 c3 W3 hL2 hr3; clear hL hF; have hL := hL2; clear hL2; simp only [List.append_eq, List.cons_append, List.nil_append] at hL; have hF := hL.fx; go_wp2; refine zB2 ?_; clear hL hF hC hG; intro ι F hne hC hG) | (refine cN ?_; intro W hL; have hF := hL.fx; go_wp2; refine zB2 ?_; clear hL hF hC hG; intro ι F hne hC hG))); refine cwk_nil ?_; clear hC hG; intro W hL; simp only [kfb] at hL; have hF := hL.fx)
   refine kn_body ?_; clear hF hL; intro W hL; simp only [kfb] at hL; have hF := hL.fx
   refine bodyPost_ret (by simp [results, Tryz.results147, go_sem, *]; try rfl) rfl ?_
   have hrs2 := hrs.out
   rw [HK1.out] at hrs2
   rw [if_neg (by decide)] at hrs2
   refine ⟨LP3, _, rfl, Lib.hid ?_, (hL.sub (List.sublist_cons_self _ _)).sub (List.sublist_cons_self _ _)⟩
   have hln : rs.length = 1 + ps.length := by rw [hrs2]; simp [Nat.add_comm]
   rw [hln]
   have hfl : rs.flatMap ptc = [.int .i64 0, .string va, .bool false] ++ ps.flatMap ptc := by rw [hrs2]; simp [ptc, bs]
   rw [hfl]
   simpa using hr3
 ·have hL : Kn [] w w [] := Kn.refl [] w; have hF := hL.fx; go_enter Tryz.func147, Tryz.ntmps147
  go_wp2_with (first | (go_at_call 167; refine zC (fun W hL => Cut_is s hs m nm va _ hc _ (kn_o0 hL HM.out)) ?_; clear hF hL; intro W hL hF) | (go_at_call 121; refine zC (fun W hL => HIN.out _) ?_; clear hF hL; intro W hL hF))
  have hn9 := hps.out
  obtain rfl : n = ps.length + 1 := hn9.symm
  by_cases hc1 : cap = 1
  ·have HP0 : Hid (ps = []) := Lib.hid (List.eq_nil_of_length_eq_zero (by omega))
   go_wp2_with ((with_reducible refine at_region 9 ?_); refine zW [0, 1, 2, 3, 4, 5, 6] [0, 1, 2, 3, 5] [4, 6] [0, 2, 3, 5] ?_; clear hF hL; intro ι F hne hC hG; (repeat (first | (refine cF hC ?_; intro K hK; go_big_quiet_op; go_big_quiet_on) | (refine cP ?_; intro K hK; go_big_quiet_op; go_big_quiet_on) | (refine cN ?_; intro W hL; have hF := hL.fx; at_builtin; go_loud (refine wpList_append_end rfl _ _ 29 29 rfl [_, _] [] hL 0 ps.length [] (ps.flatMap ptc) _ _ RowL.nil rfl rfl (fun ho => run_append_pt (by rw [ptc_len]; omega) (fun j u hu => by rw [HP0.out] at hu; simp at hu) (fun u hu => by obtain ⟨p, _, hp⟩ := List.mem_flatMap.1 hu; exact ptc_one p u hp) (by omega) ho) ?_); intro LP3 a3 c3 W3 hL2 hr3; clear hL hF; have hL := hL2; clear hL2; simp only [List.append_eq, List.cons_append, List.nil_append] at hL; have hF := hL.fx; go_wp2; refine zB2 ?_; clear hL hF hC hG; intro ι F hne hC hG) | (refine cN ?_; intro W hL; have hF := hL.fx; go_wp2; refine zB2 ?_; clear hL hF hC hG; intro ι F hne hC hG))); refine cwk_nil ?_; clear hC hG; intro W hL; simp only [kfb] at hL; have hF := hL.fx)
   refine kn_body ?_; clear hF hL; intro W hL; simp only [kfb] at hL; have hF := hL.fx
   refine bodyPost_ret (by simp [results, Tryz.results147, go_sem, *]; try rfl) rfl ?_
   have hrs2 := hrs.out
   rw [HK1.out] at hrs2
   rw [if_pos rfl] at hrs2
   refine ⟨LP3, _, rfl, Lib.hid ?_, (hL.sub (List.sublist_cons_self _ _)).sub (List.sublist_cons_self _ _)⟩
   have hln : rs.length = ps.length := by rw [hrs2]
   rw [hln]
   have hfl : rs.flatMap ptc = ps.flatMap ptc := by rw [hrs2]
   rw [hfl]
   simpa using hr3
  ·go_wp2_with ((with_reducible refine at_region 9 ?_); refine zW [0, 1, 2, 3, 4, 5, 6] [0, 1, 2, 3, 5] [4, 6] [0, 2, 3, 5] ?_; clear hF hL; intro ι F hne hC hG; (repeat (first | (refine cF hC ?_; intro K hK; go_big_quiet_op; go_big_quiet_on) | (refine cP ?_; intro K hK; go_big_quiet_op; go_big_quiet_on) | (refine cN ?_; intro W hL; have hF := hL.fx; at_builtin; go_loud (refine wpList_append_end rfl _ _ 29 29 rfl [_, _] [] hL 0 ps.length [] (ps.flatMap ptc) _ _ RowL.nil rfl rfl (fun ho => run_append_pt (by rw [ptc_len]; omega) (fun j u hu => by rw [Go.WideShapes.add_plain]; exact kn_o0 hL (hrest.out j u hu)) (fun u hu => by obtain ⟨p, _, hp⟩ := List.mem_flatMap.1 hu; exact ptc_one p u hp) (by omega) ho) ?_); intro LP3 a3 c3 W3 hL2 hr3; clear hL hF; have hL := hL2; clear hL2; simp only [List.append_eq, List.cons_append, List.nil_append] at hL; have hF := hL.fx; go_wp2; refine zB2 ?_; clear hL hF hC hG; intro ι F hne hC hG) | (refine cN ?_; intro W hL; have hF := hL.fx; go_wp2; refine zB2 ?_; clear hL hF hC hG; intro ι F hne hC hG))); refine cwk_nil ?_; clear hC hG; intro W hL; simp only [kfb] at hL; have hF := hL.fx)
   refine kn_body ?_; clear hF hL; intro W hL; simp only [kfb] at hL; have hF := hL.fx
   refine bodyPost_ret (by simp [results, Tryz.results147, go_sem, *]; try rfl) rfl ?_
   have hrs2 := hrs.out
   rw [HK1.out] at hrs2
   rw [if_pos rfl] at hrs2
   refine ⟨LP3, _, rfl, Lib.hid ?_, (hL.sub (List.sublist_cons_self _ _)).sub (List.sublist_cons_self _ _)⟩
   have hln : rs.length = ps.length := by rw [hrs2]
   rw [hln]
   have hfl : rs.flatMap ptc = ps.flatMap ptc := by rw [hrs2]
   rw [hfl]
   simpa using hr3
theorem assignment_c {W0 : World} {g o cap : Nat} {tvs : List (Tok × Value)} (E : PEnv W0 g o cap tvs) {x : Tok × Value} (hx : x ∈ tvs) (pa : Option Addr) (pn pc : Nat) (hx2 : x.2 = .slice pa pn pc) (w : World) (hB : Below W0.heap.size W0 w) :
  Calls Tryz.prog 147 #[.slice pa pn pc] w (AsgR W0 (assignment x.1.parts) w) := by
 obtain ⟨hr, ao, n, cap, hv, hnc⟩ := E.parts x hx
 obtain ⟨_, _, _, hw⟩ := E.word x hx
 rw [hx2] at hv
 injection hv with v1 v2 v3
 subst v1 v2 v3
 obtain ⟨ao, cap, hv2, hr⟩ := hr
 rw [hx2] at hv2
 injection hv2 with e1 e2 e3
 subst e1 e3
 rw [List.length_map] at e2
 obtain ⟨m, hm⟩ := E.mx
 have hm := cell_ext hm hB
 have hlen := (E.word x hx).2.2.1
 cases hps : x.1.parts with
 | nil =>
  rw [hps] at e2
  rw [show pn = 0 from e2]
  exact (assignment_none0 pa pc w).mono fun e w' h => h
 | cons p ps =>
  rw [hps] at e2 hr hw hlen
  obtain ⟨g2, o2, epa, hc⟩ := hr 0 (ptc p) rfl
  simp only [Nat.zero_mul, Nat.add_zero] at hc
  have h0 := cell_ext (hc 0 _ rfl) hB
  have h1 := cell_ext (hc 1 _ rfl) hB
  have h2 := cell_ext (hc 2 _ rfl) hB
  rw [Nat.add_zero] at h0
  have hpt := hw p (by simp)
  rw [e2] at hnc ⊢
  rw [epa] at hr ⊢
  have hn0 : 0 < (p :: ps).length := by simp
  by_cases hk : p.k = 0 ∧ p.q = false
  ·obtain ⟨hk0, hq⟩ := hk
   have h0' : w.cell? ⟨g2, o2, none⟩ = some (.int .i64 0) := by rw [h0, hk0]; rfl
   rw [hq] at h2
   obtain ⟨s, hs⟩ : ∃ s : ByteArray, s.data.toList = p.t := ⟨⟨p.t.toArray⟩, by simp⟩
   have hss : s.size ≤ 1000000 := by rw [← szl, hs]; omega
   have h1' : w.cell? ⟨g2, o2 + 1, none⟩ = some (.string s) := by rw [h1, ← hs]; simp [bs]
   have hcq := cut_eq s.data.toList
   cases hce : cutEq s.data.toList with
   | none =>
    rw [hce] at hcq
    have ha : assignment (p :: ps) = none := by simp only [assignment]; rw [if_pos ⟨hk0, hq⟩, ← hs, hce]
    rw [ha]
    exact assignment_none2 g2 o2 _ pc hn0 s hss m w h0' h1' h2 hm s ⟨#[]⟩ false (Lib.hid hcq) hss (.inl rfl)
   | some z =>
    obtain ⟨n, v⟩ := z
    rw [hce] at hcq
    obtain ⟨nm, hnm⟩ : ∃ s : ByteArray, s.data.toList = n := ⟨⟨n.toArray⟩, by simp⟩
    obtain ⟨va, hva⟩ : ∃ s : ByteArray, s.data.toList = v := ⟨⟨v.toArray⟩, by simp⟩
    have hnl : nm.size ≤ 1000000 := by
     have h9 := (brk_text ((cutEq_brk _).symm.trans hce)).1
     rw [← szl, hnm]
     have := congrArg List.length h9
     rw [List.length_append, szl] at this
     omega
    rw [← hnm, ← hva] at hcq
    by_cases hi : isName n = true
    ·have ha : assignment (p :: ps) = some (n, if v.isEmpty then ps else ⟨0, v, false⟩ :: ps) := by simp only [assignment]; rw [if_pos ⟨hk0, hq⟩, ← hs, hce]; simp only [hi, if_true]
     rw [ha]
     refine (assignment_some g2 o2 _ pc hn0 hnc hlen s hss m w h0' h1' h2 hm nm va (Lib.hid hcq) hnl (by rw [hnm]; exact hi) ps _ (Lib.hid rfl) (Lib.hid rfl) (Lib.hid fun j u hu => ?_)).mono fun e w' h => ?_
     ·obtain ⟨i, c, hi, hc2, rfl⟩ : ∃ i c, i < ps.length ∧ c < 3 ∧ j = i * 3 + c := ⟨j / 3, j % 3, by have := (List.getElem?_eq_some_iff.1 hu).1; rw [ptc_len] at this; omega, Nat.mod_lt _ (by omega), by omega⟩
      obtain ⟨q, hq2⟩ : ∃ q, ps[i]? = some q := ⟨_, List.getElem?_eq_getElem hi⟩
      obtain ⟨y, hy⟩ : ∃ y, (ptc q)[c]? = some y := ⟨_, List.getElem?_eq_getElem hc2⟩
      rw [flat_get (f := ptc) (k := 3) (fun _ => rfl) ps i c q y hq2 hy] at hu
      cases hu
      obtain ⟨g3, o3, e3, hc3⟩ := hr (i + 1) (ptc q) (by rw [List.getElem?_map, List.getElem?_cons_succ, hq2]; rfl)
      cases e3
      have := cell_ext (hc3 c _ hy) hB
      rw [show o2 + (i + 1) * 3 + c = o2 + 3 + (i * 3 + c) by omega] at this
      exact this
     ·obtain ⟨LP, v2, h5, h6, h7⟩ := h
      refine ⟨LP, v2, by rw [h5, ← hnm, bs_list], Lib.hid ?_, h7⟩
      rw [← hva]
      exact RowL.rowM (fun _ => rfl) h6.out (fun _ h => h)
    ·have ha : assignment (p :: ps) = none := by simp only [assignment]; rw [if_pos ⟨hk0, hq⟩, ← hs, hce]; simp [hi]
     rw [ha]
     exact assignment_none2 g2 o2 _ pc hn0 s hss m w h0' h1' h2 hm nm va true (Lib.hid hcq) hnl (.inr (by rw [hnm]; simpa using hi))
  ·have ha : assignment (p :: ps) = none := by simp only [assignment]; rw [if_neg hk]
   rw [ha]
   refine assignment_none1 g2 o2 _ pc hn0 p.k ⟨#[]⟩ p.q w h0 h2 ?_
   by_cases hq : p.q = true
   ·exact .inr hq
   ·refine .inl (bne_iff_ne.2 fun e => hk ⟨by omega, by simpa using hq⟩)
end Go.Proofs.YtgboffbbpmileaaGreatDoor
set_option linter.unusedVariables false
set_option linter.unusedSimpArgs false
namespace Go.Proofs.YtgboffbbpmileaaGreatDoor
open Go Go.RowKit
theorem infoRd : (Tryz.prog.info? 94).map (fun i => (i.zero, i.size, i.bytes)) = some (some (.agg #[.int .i64 0, .int .i64 0, .slice none 0 0]), 3, 40) := by kernel_rfl
theorem run_append_Rd {W : World} {t : TypeId} {v : Value} {n m c : Nat} {xs news : List Value} {ad : Addr} (hl : news.length = m * 3) (hnews : ∀ j u, news[j]? = some u → W.cell? (ad.add j) = some u) (h1 : ∀ u ∈ news, u.oneCell' = true) (hs : n + m ≤ 1000000) (ho : W.ownsRow 0 94 3 v n xs) :
  ∃ v' w', (Builtin.append_ #[38, 38] t #[v, .slice (some ad) m c]).run Tryz.prog W = .ok v' w' ∧ w'.ownsRow 0 94 3 v' (n + m) (xs ++ news) ∧ W.grownBy w' v.ownBlock ∧ (v'.ownBlock = v.ownBlock ∨ v'.ownBlock = some W.heap.size) := by
 obtain ⟨i0, hi, hz0, hz1, hz2⟩ := info_parts infoRd
 have := run_append_kn (P := Tryz.prog) (w := W) 0 38 t 94 i0 _ Tryz.underlying38 hi hz0 (by rw [hz1]; rfl) (by rw [hz1]; decide) v n xs (by rw [hz1]; exact ho) ad m c news (by rw [hz1, hl]) hnews h1 (by unfold maxLen; omega) (by rw [hz2]; omega) (Nat.zero_le _)
 rw [hz1] at this
 exact this
theorem infoAs : (Tryz.prog.info? 91).map (fun i => (i.zero, i.size, i.bytes)) = some (some (.agg #[.string ⟨#[]⟩, .slice none 0 0]), 2, 40) := by kernel_rfl
theorem run_append_As {W : World} {t : TypeId} {v : Value} {n m c : Nat} {xs news : List Value} {ad : Addr} (hl : news.length = m * 2) (hnews : ∀ j u, news[j]? = some u → W.cell? (ad.add j) = some u) (h1 : ∀ u ∈ news, u.oneCell' = true) (hs : n + m ≤ 1000000) (ho : W.ownsRow 0 91 2 v n xs) :
  ∃ v' w', (Builtin.append_ #[36, 36] t #[v, .slice (some ad) m c]).run Tryz.prog W = .ok v' w' ∧ w'.ownsRow 0 91 2 v' (n + m) (xs ++ news) ∧ W.grownBy w' v.ownBlock ∧ (v'.ownBlock = v.ownBlock ∨ v'.ownBlock = some W.heap.size) := by
 obtain ⟨i0, hi, hz0, hz1, hz2⟩ := info_parts infoAs
 have := run_append_kn (P := Tryz.prog) (w := W) 0 36 t 91 i0 _ Tryz.underlying36 hi hz0 (by rw [hz1]; rfl) (by rw [hz1]; decide) v n xs (by rw [hz1]; exact ho) ad m c news (by rw [hz1, hl]) hnews h1 (by unfold maxLen; omega) (by rw [hz2]; omega) (Nat.zero_le _)
 rw [hz1] at this
 exact this
theorem infoWd : (Tryz.prog.info? 29).map (fun i => (i.zero, i.size, i.bytes)) = some (some (.slice none 0 0), 1, 24) := by kernel_rfl
theorem run_append_Wd {W : World} {t : TypeId} {v : Value} {n m c : Nat} {xs news : List Value} {ad : Addr} (hl : news.length = m * 1) (hnews : ∀ j u, news[j]? = some u → W.cell? (ad.add j) = some u) (h1 : ∀ u ∈ news, u.oneCell' = true) (hs : n + m ≤ 1000000) (ho : W.ownsRow 0 29 1 v n xs) :
  ∃ v' w', (Builtin.append_ #[37, 37] t #[v, .slice (some ad) m c]).run Tryz.prog W = .ok v' w' ∧ w'.ownsRow 0 29 1 v' (n + m) (xs ++ news) ∧ W.grownBy w' v.ownBlock ∧ (v'.ownBlock = v.ownBlock ∨ v'.ownBlock = some W.heap.size) := by
 obtain ⟨i0, hi, hz0, hz1, hz2⟩ := info_parts infoWd
 have := run_append_kn (P := Tryz.prog) (w := W) 0 37 t 29 i0 _ Tryz.underlying37 hi hz0 (by rw [hz1]; rfl) (by rw [hz1]; decide) v n xs (by rw [hz1]; exact ho) ad m c news (by rw [hz1, hl]) hnews h1 (by unfold maxLen; omega) (by rw [hz2]; omega) (Nat.zero_le _)
 rw [hz1] at this
 exact this
theorem infoNd : (Tryz.prog.info? 41).map (fun i => (i.zero, i.size, i.bytes)) = some (some (.agg #[.int .i64 0, .string ⟨#[]⟩, .bool false, .slice none 0 0, .slice none 0 0, .slice none 0 0, .slice none 0 0]), 7, 128) := by kernel_rfl
theorem run_append_Nd {W : World} {t : TypeId} {v : Value} {n m c : Nat} {xs news : List Value} {ad : Addr} (hl : news.length = m * 7) (hnews : ∀ j u, news[j]? = some u → W.cell? (ad.add j) = some u) (h1 : ∀ u ∈ news, u.oneCell' = true) (hs : n + m ≤ 1000000) (ho : W.ownsRow 0 41 7 v n xs) :
  ∃ v' w', (Builtin.append_ #[39, 39] t #[v, .slice (some ad) m c]).run Tryz.prog W = .ok v' w' ∧ w'.ownsRow 0 41 7 v' (n + m) (xs ++ news) ∧ W.grownBy w' v.ownBlock ∧ (v'.ownBlock = v.ownBlock ∨ v'.ownBlock = some W.heap.size) := by
 obtain ⟨i0, hi, hz0, hz1, hz2⟩ := info_parts infoNd
 have := run_append_kn (P := Tryz.prog) (w := W) 0 39 t 41 i0 _ Tryz.underlying39 hi hz0 (by rw [hz1]; rfl) (by rw [hz1]; decide) v n xs (by rw [hz1]; exact ho) ad m c news (by rw [hz1, hl]) hnews h1 (by unfold maxLen; omega) (by rw [hz2]; omega) (Nat.zero_le _)
 rw [hz1] at this
 exact this
end Go.Proofs.YtgboffbbpmileaaGreatDoor
set_option linter.unusedVariables false
set_option linter.unusedSimpArgs false
namespace Go.Proofs.YtgboffbbpmileaaGreatDoor
open Go Go.RowKit
/-- What a function that parses a node answers, where the depth is d. -/
def NodeC (W0 : World) (g o cap : Nat) (tvs : List (Tok × Value)) (f : FuncId) (d : Nat) (p : Pa Nd) : Prop :=
 ∀ (b i : Nat) (v : Value) (w : World), Below W0.heap.size W0 w → W0.heap.size ≤ b → Hid (AtV g o cap tvs i v) → w.heap[b]? = some (.cells #[v, .int .i64 (d : Nat)] 73 (0, 0)) →
  Calls Tryz.prog f #[.pointer (some ⟨b, 0, none⟩)] w (NOut W0 b d g o cap tvs w (p ((TT tvs).drop i)))
theorem RowM.one {k : Nat} {W0 : World} {L : List (Nat × Obj)} {g c : Nat} {cs : List Value} {t : TypeId} (hm : (g, Obj.cells cs.toArray t (0, 0)) ∈ L) (hc : 1 ≤ c) : RowM k W0 L (.slice (some ⟨g, 0, none⟩) 1 c) [cs] :=
 ⟨_, c, rfl, hc, fun j ds hj => by
  obtain ⟨rfl, rfl⟩ : j = 0 ∧ ds = cs := by
   cases j with
   | zero => exact ⟨rfl, (Option.some.inj hj).symm⟩
   | succ j => simp at hj
  exact ⟨g, 0, rfl, .inl ⟨_, t, hm, fun c x hx => by simpa using hx⟩⟩⟩
theorem RowM.two {k : Nat} {W0 : World} {L : List (Nat × Obj)} {g c : Nat} {cs ds : List Value} {t : TypeId} (hk : cs.length = k) (hm : (g, Obj.cells (cs ++ ds).toArray t (0, 0)) ∈ L) (hc : 2 ≤ c) : RowM k W0 L (.slice (some ⟨g, 0, none⟩) 2 c) [cs, ds] :=
 ⟨_, c, rfl, hc, fun j es hj => by
  have : (j = 0 ∧ es = cs) ∨ (j = 1 ∧ es = ds) := by
   cases j with
   | zero => exact .inl ⟨rfl, (Option.some.inj hj).symm⟩
   | succ j =>
    cases j with
    | zero => exact .inr ⟨rfl, (Option.some.inj hj).symm⟩
    | succ j => simp at hj
  rcases this with ⟨rfl, rfl⟩ | ⟨rfl, rfl⟩
  ·exact ⟨g, 0, rfl, .inl ⟨_, t, hm, fun c x hx => by
    have hl := (List.getElem?_eq_some_iff.1 hx).1
    rw [List.getElem?_toArray, List.getElem?_append_left (by omega)]
    simpa using hx⟩⟩
  ·exact ⟨g, 0, rfl, .inl ⟨_, t, hm, fun c x hx => by
    rw [List.getElem?_toArray, List.getElem?_append_right (by omega), ← hx]
    congr 1; omega⟩⟩⟩
/-- A node that has words and kids alone. -/
theorem NodeL.of {W0 : World} {L : List (Nat × Obj)} {kind : Nat} {name : Bytes} {neg : Bool} {ws : List (List Prt × Value)} {ks : List (Nd × List Value)} {vw vk : Value} (h3 : RowM 1 W0 L vw (ws.map fun x => [x.2])) (h4 : ∀ x ∈ ws, PRm W0 L x.2 x.1) (h7 : RowM 7 W0 L vk (ks.map (·.2))) (h8 : ∀ x ∈ ks, NodeL W0 L x.1 x.2) :
  NodeL W0 L (.mk kind name neg [] (ws.map (·.1)) [] (ks.map (·.1))) [.int .i64 kind, bs name, .bool neg, .slice none 0 0, vw, .slice none 0 0, vk] :=
 NodeL.mk kind name neg [] ws [] ks _ _ _ _ RowM.nil (fun x hx => by cases hx) h3 h4 RowM.nil (fun x hx => by cases hx) h7 h8
theorem NodeL.one {W0 : World} {L : List (Nat × Obj)} {kind : Nat} {name : Bytes} {neg : Bool} {x : Nd} {cs : List Value} {g c : Nat} (h : NodeL W0 L x cs) (hm : (g, Obj.cells cs.toArray 41 (0, 0)) ∈ L) (hc : 1 ≤ c) :
  NodeL W0 L (.mk kind name neg [] [] [] [x]) [.int .i64 kind, bs name, .bool neg, .slice none 0 0, .slice none 0 0, .slice none 0 0, .slice (some ⟨g, 0, none⟩) 1 c] :=
 NodeL.of (ws := []) (ks := [(x, cs)]) RowM.nil (fun x hx => by cases hx) (RowM.one hm hc) (fun y hy => by rw [List.mem_singleton.1 hy]; exact h)
theorem NodeL.two {W0 : World} {L : List (Nat × Obj)} {kind : Nat} {name : Bytes} {neg : Bool} {x y : Nd} {cs ds : List Value} {g c : Nat} (h : NodeL W0 L x cs) (h2 : NodeL W0 L y ds) (hm : (g, Obj.cells (cs ++ ds).toArray 41 (0, 0)) ∈ L) (hc : 2 ≤ c) :
  NodeL W0 L (.mk kind name neg [] [] [] [x, y]) [.int .i64 kind, bs name, .bool neg, .slice none 0 0, .slice none 0 0, .slice none 0 0, .slice (some ⟨g, 0, none⟩) 2 c] :=
 NodeL.of (ws := []) (ks := [(x, cs), (y, ds)]) RowM.nil (fun x hx => by cases hx) (RowM.two h.len hm hc) (fun z hz => by
  rcases List.mem_cons.1 hz with rfl | hz
  ·exact h
  ·rw [List.mem_singleton.1 hz]; exact h2)
theorem kids_flat {W0 : World} {L : List (Nat × Obj)} {ks : List (Nd × List Value)} (h : ∀ x ∈ ks, NodeL W0 L x.1 x.2) {e : TypeId} {LP L' : List (Nat × Obj)} {v : Value} (hr : RowL 7 e LP v ks.length (ks.flatMap (·.2))) (hs : ∀ p ∈ LP, p ∈ L') : RowM 7 W0 L' v (ks.map (·.2)) := by
 have hl : ∀ x ∈ ks, x.2.length = 7 := fun x hx => (h x hx).len
 rcases hr with ⟨_, rfl, h0, h1⟩ | ⟨g, cap, cur, rfl, rfl, hb⟩
 ·have : ks = [] := List.eq_nil_of_length_eq_zero h0
  subst this
  exact RowM.nil
 ·refine ⟨some ⟨g, 0, none⟩, cap, by rw [List.length_map], by rw [List.length_map]; exact hb.le, fun j cs hj => ⟨g, 0, rfl, .inl ⟨cur, e, hs _ List.mem_cons_self, fun c x hx => ?_⟩⟩⟩
  rw [Nat.zero_add]
  refine hb.get ?_
  clear hb h
  induction ks generalizing j with
  | nil => simp at hj
  | cons y r ih =>
   have h7 := hl y List.mem_cons_self
   rw [List.flatMap_cons]
   cases j with
   | zero =>
    obtain rfl : y.2 = cs := by simpa using hj
    have := (List.getElem?_eq_some_iff.1 hx).1
    rw [List.getElem?_append_left (by omega)]
    simpa using hx
   | succ j =>
    rw [List.getElem?_append_right (by omega), show (j + 1) * 7 + c - y.2.length = j * 7 + c by omega]
    exact ih (fun x hx => hl x (List.mem_cons_of_mem _ hx)) j (by simpa using hj)
theorem Kn.in1 {X : List Nat} {w0 W : World} {p0 p1 p2 : Nat × Obj} {LP LC R : List (Nat × Obj)} (h : Kn X w0 W (p0 :: (LP ++ (p1 :: p2 :: (LC ++ R))))) : Kn X w0 W (p0 :: p1 :: p2 :: ((LP ++ LC) ++ R)) := h.perm fun p => by simp only [List.countP_cons, List.countP_append]; omega
theorem NodeL.r {W0 : World} {A B : List (Nat × Obj)} {n : Nd} {cs : List Value} (h : NodeL W0 B n cs) : NodeL W0 (A ++ B) n cs := h.mono fun p hp => List.mem_append_right _ hp
theorem NodeL.l {W0 : World} {A B : List (Nat × Obj)} {n : Nd} {cs : List Value} (h : NodeL W0 A n cs) : NodeL W0 (A ++ B) n cs := h.mono fun p hp => List.mem_append_left _ hp
theorem drop_tail {l : List Tok} {i : Nat} : (l.drop i).tail = l.drop (i + 1) := List.tail_drop
end Go.Proofs.YtgboffbbpmileaaGreatDoor
/- A region whose order is drawn, in which a call may panic: what the panic must answer is what the region owes at a panic. -/
set_option linter.unusedVariables false
set_option linter.unusedSimpArgs false
namespace Go.Proofs.YtgboffbbpmileaaGreatDoor
open Go Go.RowKit
section
variable {P : Program} {ops : Array Oper} {fl br pu : Nat → Bool} {X : List Nat} {w0 : World} {L Lw : List (Nat × Obj)} {a : Act} {rest : List Nat} {i : Nat} {o : Oper}
theorem kn_regionP {id : Nat} {Q : Exit → Act → World → Prop} {w : World} {l : List Oper} [h : Kn X w0 w L] (order fls brs pus : List Nat) (hm : P.follows .mixedOrders = true)
  (hB : (Region.noSelect l.toArray && permB l.length order && okAll .any l.toArray (fun i => fls.contains i) (fun i => brs.contains i) (fun i => pus.contains i) order) = true) (hs : Lw.Sublist L)
  (k : ∀ (Qp : List PanicEntry → World → Prop), (∀ ch W, (∀ a' : Act, a'.defers = a.defers → Q (.panic ch) a' W) → Qp ch W) → ∀ (ι : Type) (F : ι → World) [Nonempty ι], (∀ w, Kn X w0 w Lw → ∃ n, w = F n) → (∀ n, Kn X w0 (F n) Lw) → cwk P l.toArray (fun i => fls.contains i) (fun i => brs.contains i) (fun i => pus.contains i) (Q .normal) Qp X w0 order a L Lw) : (Code.region id l.toArray true).wp P Q a w := by
 obtain ⟨ι, F, hne, h1, h2⟩ := kn_fam X w0 Lw ⟨w, h.sub hs⟩
 exact wp_region_cw order fls brs pus (fun ch W => ∀ a' : Act, a'.defers = a.defers → Q (.panic ch) a' W) hm hB (fun ch a' w' hd h => h a' hd) _ _ (kn_drew X w0 w L) (fun u hu => hu.sub hs) (k _ (fun _ _ h => h) ι F h1 h2)
theorem cwk_callP {f : FuncId} {args : Array Value} {l : List Oper} {Q : Act → World → Prop} {Qp : List PanicEntry → World → Prop} (ho : nth l i = some o) (hw : Region.wanted o (yielded l.toArray a.tmps) = true) (hf : fl i = false) (hx : ∀ w, (execOp a.eval o).run P w = .ok (.enter f args) w)
  (h : ∀ W, Kn X w0 W L → Calls P f args W fun e w' => ∃ ch, e = .panicked ch ∧ Qp ch w') : cwk P l.toArray fl br pu Q Qp X w0 (i :: rest) a L Lw := by
 refine ⟨o, nth_get ho, .inr (.inl ⟨hw, hf, fun w hk => ?_⟩)⟩
 unfold anchAt
 rw [hx w]
 refine (h w hk).mono fun e w' hh => ?_
 obtain ⟨ch, rfl, hq⟩ := hh
 exact hq
end
end Go.Proofs.YtgboffbbpmileaaGreatDoor
/- A region whose order is drawn, in which two operations that do not float are not ordered: it is enough to walk it twice, with an edge between the two put in one way and the other. -/
set_option linter.unusedVariables false
set_option linter.unusedSimpArgs false
namespace Go.Proofs.YtgboffbbpmileaaGreatDoor
open Go Go.RowKit
/-- The operation q waits for p, too. -/
def addE : List Oper → Nat → Nat → List Oper
 | [], _, _ => []
 | o :: l, 0, p => { o with after := o.after.push ⟨p, .data⟩ } :: l
 | o :: l, q + 1, p => o :: addE l q p
def putE (p : Nat) (o : Oper) : Oper := { o with after := o.after.push ⟨p, .data⟩ }
theorem addE_len : ∀ (l : List Oper) (q p : Nat), (addE l q p).length = l.length
 | [], _, _ => rfl
 | o :: l, 0, p => rfl
 | o :: l, q + 1, p => by rw [addE, List.length_cons, List.length_cons, addE_len l q p]
theorem addE_get : ∀ (l : List Oper) (q p i : Nat), (addE l q p)[i]? = if i = q then (l[i]?).map (putE p) else l[i]?
 | [], q, p, i => by simp [addE]
 | o :: l, 0, p, 0 => by simp [addE, putE]
 | o :: l, 0, p, i + 1 => by simp [addE]
 | o :: l, q + 1, p, 0 => by simp [addE]
 | o :: l, q + 1, p, i + 1 => by
  rw [addE, List.getElem?_cons_succ, addE_get l q p i, List.getElem?_cons_succ]
  by_cases h : i = q
  ·rw [if_pos h, if_pos (by omega)]
  ·rw [if_neg h, if_neg (by omega)]
section
variable {P : Program} {l : List Oper} {Q : Exit → Act → World → Prop} {md : Region.Mode}
theorem ready_addE (q p i : Nat) (listed : Array Bool) : i ∈ Region.ready md (addE l q p).toArray listed ↔ (i ∈ Region.ready md l.toArray listed ∧ (i = q → listed.getD p false = true)) := by
 unfold Region.ready
 simp only [List.mem_filter, List.mem_range, List.size_toArray, addE_len, List.getElem?_toArray, addE_get, Bool.and_eq_true]
 by_cases h : i = q
 ·subst h
  simp only [if_true, true_implies]
  cases l[i]? with
  | none => simp
  | some o =>
   simp only [Option.map_some, putE, Option.getD_some, Array.all_push, Bool.and_eq_true]
   simp only [show Region.binds md ⟨p, .data⟩ = true from rfl, Bool.not_true, Bool.false_or]
   constructor
   ·rintro ⟨h1, h2, h3, h4⟩; exact ⟨⟨h1, h2, h3⟩, h4⟩
   ·rintro ⟨⟨h1, h2, h3⟩, h4⟩; exact ⟨h1, h2, h3, h4⟩
 ·simp only [h, if_false, false_implies, and_true]
theorem put_exec (p : Nat) (ρ : Operand → Value) (o : Oper) : execOp ρ (putE p o) = execOp ρ o := by
 obtain ⟨dst, op, type, pos, after, guard⟩ := o
 cases op <;> rfl
theorem put_wp (p : Nat) (o : Oper) (a : Act) (w : World) (K : Act → World → Prop) : (putE p o).wp P a w K Q = o.wp P a w K Q := by
 unfold Oper.wp
 rw [put_exec]
 generalize (execOp a.eval o).run P w = r
 cases r with
 | ok n w' => cases n <;> rfl
 | halt x w' => cases x <;> rfl
theorem put_asks (p : Nat) (o : Oper) (a : Act) (w : World) : (putE p o).asks P a w = o.asks P a w := by
 unfold Oper.asks
 rw [put_exec]
theorem yielded_addE (q p : Nat) (t : Array Value) : yielded (addE l q p).toArray t = yielded l.toArray t := by
 funext g
 have e : ((addE l q p).toArray[g]?).bind (·.dst) = (l.toArray[g]?).bind (·.dst) := by
  rw [List.getElem?_toArray, List.getElem?_toArray, addE_get]
  split
  ·cases l[g]? <;> rfl
  ·rfl
 unfold yielded
 rw [e]
theorem wpOps_addE (q p : Nat) : ∀ (ord : List Nat) (a : Act) (w : World), wpOps P (addE l q p).toArray Q ord a w ↔ wpOps P l.toArray Q ord a w
 | [], a, w => Iff.rfl
 | i :: rest, a, w => by
  have ih : wpOps P (addE l q p).toArray Q rest = wpOps P l.toArray Q rest := by
   funext a w; exact propext (wpOps_addE q p rest a w)
  unfold wpOps
  rw [List.getElem?_toArray, List.getElem?_toArray, addE_get, yielded_addE, ih]
  by_cases h : i = q
  ·rw [if_pos h]
   cases l[i]? with
   | none => exact Iff.rfl
   | some o =>
    simp only [Option.map_some, put_wp, put_asks]
    exact Iff.rfl
  ·rw [if_neg h]
/-- An order that the drawing may bring. -/
def VF (md : Region.Mode) (ops : Array Oper) : Nat → Array Bool → List Nat → Prop
 | 0, _, ord => ord = []
 | f + 1, listed, ord => (Region.ready md ops listed = [] ∧ ord = []) ∨ ∃ i r, ord = i :: r ∧ i ∈ Region.ready md ops listed ∧ VF md ops f (listed.setIfInBounds i true) r
theorem vf_any : ∀ (f : Nat) (listed : Array Bool) (ord : List Nat) (a : Act) (w : World), wpAny P md l.toArray Q f listed a w → VF md l.toArray f listed ord → wpOps P l.toArray Q ord a w
 | 0, listed, ord, a, w, h, hv => by
  have hv : ord = [] := hv
  subst hv
  exact h.2
 | f + 1, listed, ord, a, w, h, hv => by
  rcases hv with ⟨h1, rfl⟩ | ⟨i, r, rfl, h1, h2⟩
  ·exact h.1 h1
  ·rw [wpOps_cons]
   exact wpOp_mono (fun a w hh => vf_any f _ r a w hh h2) (h.2 i h1)
theorem vf_lin (ops : Array Oper) : ∀ (f t : Nat) (listed : Array Bool), VF md ops f listed (Region.linearise.go md ops f t listed [])
 | 0, t, listed => rfl
 | f + 1, t, listed => by
  simp only [Region.linearise.go]
  change VF md ops (f + 1) listed (match (Region.ready md ops listed)[t % (Region.ready md ops listed).length]? with
   | some i => Region.linearise.go md ops f (t / (Region.ready md ops listed).length) (listed.setIfInBounds i true) [i]
   | none => [].reverse)
  cases hi : (Region.ready md ops listed)[t % (Region.ready md ops listed).length]? with
  | none =>
   left
   refine ⟨?_, rfl⟩
   cases hr : Region.ready md ops listed with
   | nil => rfl
   | cons x xs =>
    rw [hr] at hi
    have hlt : t % (x :: xs).length < (x :: xs).length := Nat.mod_lt _ (by simp)
    rw [List.getElem?_eq_getElem hlt] at hi
    cases hi
  | some i =>
   right
   refine ⟨i, Region.linearise.go md ops f (t / (Region.ready md ops listed).length) (listed.setIfInBounds i true) [], ?_, List.mem_of_getElem? hi, vf_lin ops f _ _⟩
   show Region.linearise.go md ops f _ _ [i] = _
   rw [linearise_go_acc]; rfl
theorem vf_done (q p : Nat) : ∀ (f : Nat) (listed : Array Bool) (ord : List Nat), listed.getD p false = true → VF md l.toArray f listed ord → VF md (addE l q p).toArray f listed ord
 | 0, listed, ord, hp, h => h
 | f + 1, listed, ord, hp, h => by
  rcases h with ⟨h1, rfl⟩ | ⟨i, r, rfl, h1, h2⟩
  ·left
   refine ⟨List.eq_nil_iff_forall_not_mem.2 fun i hi => ?_, rfl⟩
   have := ((ready_addE q p i listed).1 hi).1
   rw [h1] at this
   cases this
  ·right
   refine ⟨i, r, rfl, (ready_addE q p i listed).2 ⟨h1, fun _ => hp⟩, vf_done q p f _ r ?_ h2⟩
   rw [Array.getD_eq_getD_getElem?] at hp ⊢
   rw [Array.getElem?_setIfInBounds]
   split
   ·rename_i e
    subst e
    split
    ·rfl
    ·rename_i hs
     rw [Array.getElem?_eq_none (by omega)] at hp
     cases hp
   ·exact hp
theorem vf_split (p q : Nat) (hpq : p ≠ q) (hpl : p < l.length) (hql : q < l.length) : ∀ (f : Nat) (listed : Array Bool) (ord : List Nat), listed.size = l.length → VF md l.toArray f listed ord → VF md (addE l q p).toArray f listed ord ∨ VF md (addE l p q).toArray f listed ord
 | 0, listed, ord, hs, h => .inl h
 | f + 1, listed, ord, hs, h => by
  rcases h with ⟨h1, rfl⟩ | ⟨i, r, rfl, h1, h2⟩
  ·left; left
   refine ⟨List.eq_nil_iff_forall_not_mem.2 fun i hi => ?_, rfl⟩
   have := ((ready_addE q p i listed).1 hi).1
   rw [h1] at this
   cases this
  ·by_cases hip : i = p
   ·left; right
    refine ⟨i, r, rfl, (ready_addE q p i listed).2 ⟨h1, fun e => absurd (hip.symm.trans e) hpq⟩, vf_done q p f _ r ?_ h2⟩
    rw [Array.getD_eq_getD_getElem?, Array.getElem?_setIfInBounds, if_pos hip, if_pos (by omega)]; rfl
   ·by_cases hiq : i = q
    ·right; right
     refine ⟨i, r, rfl, (ready_addE p q i listed).2 ⟨h1, fun e => absurd e hip⟩, vf_done p q f _ r ?_ h2⟩
     rw [Array.getD_eq_getD_getElem?, Array.getElem?_setIfInBounds, if_pos hiq, if_pos (by omega)]; rfl
    ·rcases vf_split p q hpq hpl hql f _ r (by simpa using hs) h2 with h3 | h3
     ·exact .inl (.inr ⟨i, r, rfl, (ready_addE q p i listed).2 ⟨h1, fun e => absurd e hiq⟩, h3⟩)
     ·exact .inr (.inr ⟨i, r, rfl, (ready_addE p q i listed).2 ⟨h1, fun e => absurd e hip⟩, h3⟩)
/-- The region in all orders. -/
def RegAny (P : Program) (l : List Oper) (Q : Exit → Act → World → Prop) (a : Act) (w : World) : Prop := ∀ ord, VF .any l.toArray l.length (Array.replicate l.length false) ord → wpOps P l.toArray Q ord a w.drew
theorem reg_of {id : Nat} {a : Act} {w : World} (hm : P.follows .mixedOrders = true) (h : RegAny P l Q a w) : (Code.region id l.toArray true).wp P Q a w :=
 wp_region_draw fun t => by
  simp only [Region.schedule, hm, Bool.true_or, if_true]
  have := h _ (vf_lin (md := .any) l.toArray l.length t (Array.replicate l.length false))
  unfold Region.linearise
  rw [List.size_toArray]
  exact this
theorem reg_split {a : Act} {w : World} (p q : Nat) (hpq : p ≠ q) (hp : p < l.length) (hq : q < l.length) (h1 : RegAny P (addE l q p) Q a w) (h2 : RegAny P (addE l p q) Q a w) : RegAny P l Q a w := fun ord hv => by
 rcases vf_split p q hpq hp hq _ _ _ (by simp) hv with h | h
 ·have := h1 ord (by rw [addE_len]; exact h)
  exact (wpOps_addE q p ord a _).1 this
 ·have := h2 ord (by rw [addE_len]; exact h)
  exact (wpOps_addE p q ord a _).1 this
theorem reg_any {a : Act} {w : World} (h : wpAny P .any l.toArray Q l.length (Array.replicate l.length false) a w.drew) : RegAny P l Q a w := fun ord hv => vf_any _ _ _ _ _ h hv
end
section
variable {P : Program} {X : List Nat} {w0 : World} {L Lw : List (Nat × Obj)} {a : Act}
/-- One walk of a region, with what is known of the world. -/
theorem kn_regAny {Q : Exit → Act → World → Prop} {w : World} {l : List Oper} [h : Kn X w0 w L] (order fls brs pus : List Nat)
  (hB : (Region.noSelect l.toArray && permB l.length order && okAll .any l.toArray (fun i => fls.contains i) (fun i => brs.contains i) (fun i => pus.contains i) order) = true) (hs : Lw.Sublist L)
  (Qp : List PanicEntry → World → Prop) (hQp : ∀ ch a' w', a'.defers = a.defers → Qp ch w' → Q (.panic ch) a' w')
  (k : ∀ (ι : Type) (F : ι → World) [Nonempty ι], (∀ w, Kn X w0 w Lw → ∃ n, w = F n) → (∀ n, Kn X w0 (F n) Lw) → cwk P l.toArray (fun i => fls.contains i) (fun i => brs.contains i) (fun i => pus.contains i) (Q .normal) Qp X w0 order a L Lw) : RegAny P l Q a w := by
 obtain ⟨ι, F, hne, h1, h2⟩ := kn_fam X w0 Lw ⟨w, h.sub hs⟩
 refine reg_any ?_
 have hk := k ι F h1 h2
 simp only [Bool.and_eq_true] at hB
 obtain ⟨⟨hsel, hp⟩, hok⟩ := hB
 simp only [permB, Bool.and_eq_true, decide_eq_true_eq, List.all_eq_true, List.mem_range, List.contains_iff_mem] at hp
 obtain ⟨⟨hp1, hp2⟩, hp3⟩ := hp
 refine wpAny_of_cw (md := .any) (Region.noSelect_spec hsel) hQp _ order _ a w.drew _ _ (by simpa using hp1) (by simp) (fun j hj => ?_) (fun j hj => by simpa using hp2 j hj) hok rfl (kn_drew X w0 w L) (fun u hu => hu.sub hs) hk
 have : j ∈ order := hp3 j (by simpa using hj)
 simp only [this, not_true, iff_false, Bool.not_eq_true]
 exact getD_replicate_false _ _
theorem kn_regAny0 {Q : Exit → Act → World → Prop} {w : World} {l : List Oper} [h : Kn X w0 w L] (order fls brs pus : List Nat)
  (hB : (Region.noSelect l.toArray && permB l.length order && okAll .any l.toArray (fun i => fls.contains i) (fun i => brs.contains i) (fun i => pus.contains i) order) = true) (hs : Lw.Sublist L)
  (k : ∀ (ι : Type) (F : ι → World) [Nonempty ι], (∀ w, Kn X w0 w Lw → ∃ n, w = F n) → (∀ n, Kn X w0 (F n) Lw) → cwk P l.toArray (fun i => fls.contains i) (fun i => brs.contains i) (fun i => pus.contains i) (Q .normal) (fun _ _ => False) X w0 order a L Lw) : RegAny P l Q a w :=
 kn_regAny order fls brs pus hB hs (fun _ _ => False) (fun _ _ _ _ h => h.elim) k
theorem kn_regAnyP {Q : Exit → Act → World → Prop} {w : World} {l : List Oper} [h : Kn X w0 w L] (order fls brs pus : List Nat)
  (hB : (Region.noSelect l.toArray && permB l.length order && okAll .any l.toArray (fun i => fls.contains i) (fun i => brs.contains i) (fun i => pus.contains i) order) = true) (hs : Lw.Sublist L)
  (k : ∀ (Qp : List PanicEntry → World → Prop), (∀ ch W, (∀ a' : Act, a'.defers = a.defers → Q (.panic ch) a' W) → Qp ch W) → ∀ (ι : Type) (F : ι → World) [Nonempty ι], (∀ w, Kn X w0 w Lw → ∃ n, w = F n) → (∀ n, Kn X w0 (F n) Lw) → cwk P l.toArray (fun i => fls.contains i) (fun i => brs.contains i) (fun i => pus.contains i) (Q .normal) Qp X w0 order a L Lw) : RegAny P l Q a w :=
 kn_regAny order fls brs pus hB hs (fun ch W => ∀ a' : Act, a'.defers = a.defers → Q (.panic ch) a' W) (fun ch a' w' hd h => h a' hd) (k _ (fun _ _ h => h))
end
end Go.Proofs.YtgboffbbpmileaaGreatDoor
set_option linter.unusedVariables false
set_option linter.unusedSimpArgs false
namespace Go.Proofs.YtgboffbbpmileaaGreatDoor
open Go Go.RowKit
def rxL : List ByteArray := [⟨#[60]⟩, ⟨#[62]⟩, ⟨#[62, 62]⟩]
theorem three_words {X : List Nat} {w0 W : World} {L : List (Nat × Obj)} {g : Nat} {t : TypeId} (hL : Kn X w0 W L) (hm : (g, Obj.cells #[.string ⟨#[60]⟩, .string ⟨#[62]⟩, .string ⟨#[62, 62]⟩] t (0, 0)) ∈ L) : ∀ j, j < rxL.length → W.cell? ⟨g, 0 + j, none⟩ = some (.string (rxL.getD j ByteArray.empty)) := fun j hj => by
 rw [Nat.zero_add, kn_cell hL hm]
 have : j = 0 ∨ j = 1 ∨ j = 2 := by have : rxL.length = 3 := rfl; omega
 rcases this with rfl | rfl | rfl <;> rfl
theorem idxFromS_bd0 (x : ByteArray) : ∀ (zs : List ByteArray) (i : Nat), Lib.idxFromS zs x i = -1 ∨ 0 ≤ Lib.idxFromS zs x i
 | [], i => .inl rfl
 | z :: zs, i => by
  unfold Lib.idxFromS
  split
  ·right; omega
  ·exact idxFromS_bd0 x zs (i + 1)
theorem rx_idx (s : ByteArray) : (rxKind s.data.toList : Int) = if decide (Lib.idxOfS rxL s < 0) = true then 3 else Lib.idxOfS rxL s := by
 have ne : ∀ l : Bytes, s.data.toList = l ↔ s = ⟨l.toArray⟩ := fun l => ⟨fun h => by rw [← h], fun h => by rw [h]⟩
 by_cases h0 : s = ⟨#[60]⟩
 ·subst h0; rfl
 ·by_cases h1 : s = ⟨#[62]⟩
  ·subst h1; rfl
  ·by_cases h2 : s = ⟨#[62, 62]⟩
   ·subst h2; rfl
   ·have e : Lib.idxOfS rxL s = -1 := by
     have h3 : Lib.containsS rxL s = false := by
      rw [Bool.eq_false_iff]
      intro hh
      have := (Lib.containsS_iff rxL s).1 hh
      unfold rxL at this
      simp only [List.mem_cons, List.not_mem_nil, or_false] at this
      rcases this with h | h | h
      ·exact h0 h
      ·exact h1 h
      ·exact h2 h
     unfold Lib.containsS at h3
     have h4 := of_decide_eq_false h3
     rcases idxFromS_bd0 s rxL 0 with h5 | h5
     ·exact h5
     ·exact absurd h5 h4
    rw [e]
    unfold rxKind
    rw [if_neg (fun h => h0 ((ne _).1 h)), if_neg (fun h => h1 ((ne _).1 h)), if_neg (fun h => h2 ((ne _).1 h))]
    rfl
theorem red_val (t : Tok) (ps : List Prt) (kx : Int) (k1 k2 : Bool) (h : (rxKind t.text : Int) = if decide (kx < 0) = true then 3 else kx) (h1 : decide (kx < 0) = k1) (h2 : decide (t.fd < 0) = k2) : ((mkRedir t ps).1, ((mkRedir t ps).2.1 : Int)) = (if k2 = true then min 1 (if k1 = true then 3 else kx) else t.fd, if k1 = true then 3 else kx) := by
 rw [h1] at h
 unfold mkRedir
 rw [← h]
 cases k2 with
 | true => rw [if_pos (of_decide_eq_true h2), if_pos rfl]; simp only [Prod.mk.injEq, and_true]; omega
 | false => rw [if_neg (of_decide_eq_false h2), if_neg (by decide)]
/-- A redirection, as a value. -/
def RedV (tvs : List (Tok × Value)) (r : Int × Nat × List Prt) (v0 : Value) (_ : World) : Prop := ∃ x pa pn pc, x ∈ tvs ∧ x.2 = .slice pa pn pc ∧ v0 = .agg #[.int .i64 r.1, .int .i64 (r.2.1 : Int), .slice pa pn pc] ∧ r.2.2 = x.1.parts
end Go.Proofs.YtgboffbbpmileaaGreatDoor
