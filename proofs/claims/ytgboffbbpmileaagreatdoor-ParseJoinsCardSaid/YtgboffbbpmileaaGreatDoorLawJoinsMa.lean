/- Lemmas and walks for the law VLawJoins (part 28). -/
import Derived.Test.YtgboffbbpmileaaGreatDoorPj27
import Derived.Test.YtgboffbbpmileaaGreatDoorProg
import Derived.WalkKit
import Derived.Handy
import Derived.Deep.Light
import Derived.WalkSmall
import Derived.StillTailTactics
import Derived.Lib.Hide
import Derived.Deep.AppendSrc
set_option maxRecDepth 20000
set_option maxHeartbeats 4000000
set_option linter.unusedVariables false
set_option linter.unusedSimpArgs false
namespace Go.Proofs.YtgboffbbpmileaaGreatDoor
open Go Go.RowKit
theorem Same_call {n : Nd} (hs : Sm 100000 n) (c1 c2 : List Value) (w : World) (h1 : NodeIs [] w n c1) (h2 : NodeIs [] w n c2) : Calls Tryz.prog 18 #[.agg c1.toArray, .agg c2.toArray] w fun e w' => e = .returned (.bool true) ∧ Below w.heap.size w w' := Same_is hs c1 c2 w h1 h2
theorem appl (x y : ByteArray) : (x ++ y).data.toList = x.data.toList ++ y.data.toList := by rw [ByteArray.data_append, Array.toList_append]
end Go.Proofs.YtgboffbbpmileaaGreatDoor
set_option maxRecDepth 20000
set_option maxHeartbeats 4000000
set_option linter.unusedVariables false
set_option linter.unusedSimpArgs false
namespace Go.Proofs.YtgboffbbpmileaaGreatDoor
open Go Go.RowKit
theorem open_is (s : ByteArray) (hs : s.size ≤ 2000) (z : Bool) (hz : (s.data.toList.getLast? == some 92) = z) (w : World) : Calls Tryz.prog 17 #[.string s] w fun e w' => e = .returned (.bool z) ∧ Below w.heap.size w w' := by
 by_cases h0 : s.size = 0
 ·have hn : s.data.toList = [] := List.eq_nil_of_length_eq_zero (by rw [szl, h0])
  rw [hn] at hz
  obtain rfl : z = false := hz.symm
  have p0 : decide ((0 : Int) < (s.size : Int)) = false := decide_eq_false (by omega)
  have p1 : ¬ 0 < s.size := by omega
  clear hn h0
  have hL : Kn [] w w [] := Kn.refl [] w; have hF := hL.fx; go_enter Tryz.func17, Tryz.ntmps17
  go_wp2
  refine kn_body ?_; clear hF hL; intro W hL; have hF := hL.fx
  refine bodyPost_ret (by simp [results, Tryz.results17, go_sem, *]; try rfl) rfl ?_
  exact ⟨rfl, hL.below0⟩
 ·obtain ⟨n, hn⟩ : ∃ n, s.size = n + 1 := ⟨s.size - 1, by omega⟩
  obtain ⟨c0, hc0⟩ : ∃ c, s.data.toList[n]? = some c := ⟨_, List.getElem?_eq_getElem (by rw [szl]; omega)⟩
  have eb0 := byte_at hc0 (by omega)
  have hd0 : s.data.toList.drop (n) = c0 :: s.data.toList.drop (n + 1) := by
   obtain ⟨h1, h2⟩ := List.getElem?_eq_some_iff.1 hc0
   rw [List.drop_eq_getElem_cons h1, h2]
  have hl : s.data.toList.getLast? = some c0 := by
   rw [List.getLast?_eq_getElem?, szl, hn]; exact hc0
  rw [hl] at hz
  have p3 : ((c0.toNat : Int) == 92) = z := by
   rw [← hz]
   by_cases h : c0 = 92
   ·subst h; rfl
   ·have h2 : (some c0 == some (92 : UInt8)) = false := by simpa using h
    have h3 : c0.toNat ≠ 92 := fun e => h (UInt8.toNat_inj.1 e)
    rw [h2]; exact beq_false_of_ne (by omega)
  have p0 : decide ((0 : Int) < (s.size : Int)) = true := decide_eq_true (by omega)
  have p1 : 0 < s.size := by omega
  have p2 : wrap64 ((s.size : Int) - 1) = (n : Int) := by rw [IntWalk.wrap64_in _ (by omega)]; omega
  clear hl hd0 h0 hz
  have hL : Kn [] w w [] := Kn.refl [] w; have hF := hL.fx; go_enter Tryz.func17, Tryz.ntmps17
  go_wp2
  refine kn_body ?_; clear hF hL; intro W hL; have hF := hL.fx
  refine bodyPost_ret (by simp [results, Tryz.results17, go_sem, *]; try rfl) rfl ?_
  exact ⟨rfl, hL.below0⟩
end Go.Proofs.YtgboffbbpmileaaGreatDoor
set_option maxRecDepth 20000
set_option maxHeartbeats 4000000
set_option linter.unusedVariables false
set_option linter.unusedSimpArgs false
namespace Go.Proofs.YtgboffbbpmileaaGreatDoor
open Go Go.RowKit
theorem joins_big (a b cm : ByteArray) (h : 900 < a.size ∨ 900 < b.size ∨ 100 < cm.size ∨ (a.size ≤ 900 ∧ (a.data.toList.getLast? == some 92) = true)) (w : World) (hT : TabP w) : Calls Tryz.prog 5 #[.string a, .string b, .string cm] w fun e w' => e = .returned (.bool true) ∧ Below w.heap.size w w' := by
  have HT := Lib.hid hT
  clear hT
  obtain ⟨k1, hk1⟩ : ∃ z : Bool, decide ((900 : Int) < (a.size : Int)) = z := ⟨_, rfl⟩
  obtain ⟨k2, hk2⟩ : ∃ z : Bool, decide ((900 : Int) < (b.size : Int)) = z := ⟨_, rfl⟩
  obtain ⟨k3, hk3⟩ : ∃ z : Bool, decide ((100 : Int) < (cm.size : Int)) = z := ⟨_, rfl⟩
  have hk : k1 = true ∨ k2 = true ∨ k3 = true ∨ (a.size ≤ 900 ∧ Hid ((a.data.toList.getLast? == some 92) = true)) := by
    rcases h with h | h | h | h
    · exact .inl (by rw [← hk1]; exact decide_eq_true (by omega))
    · exact .inr (.inl (by rw [← hk2]; exact decide_eq_true (by omega)))
    · exact .inr (.inr (.inl (by rw [← hk3]; exact decide_eq_true (by omega))))
    · exact .inr (.inr (.inr ⟨h.1, Lib.hid h.2⟩))
  clear h
  cases k1 <;> cases k2 <;> cases k3 <;> first
  | (rcases hk with h | h | h | ⟨hs, HO⟩
     focus (cases h; done)
     focus (cases h; done)
     focus (cases h; done)
     have hL : Kn [] w w [] := Kn.refl [] w
     have hF := hL.fx
     go_enter Tryz.func5, Tryz.ntmps5
     go_wp2_with (first | (go_at_call 16; refine zC (fun W hL => small35 _ (HT.out.ext hL.below0)) ?_; clear hF hL; intro W hL hF) | (go_at_call 17; refine zC (fun W hL => open_is a (by omega) true HO.out _) ?_; clear hF hL; intro W hL hF))
     refine kn_body ?_; clear hF hL; intro W hL; have hF := hL.fx
     refine bodyPost_ret (by simp [results, Tryz.results5, go_sem, *]; try rfl) rfl ?_
     exact ⟨rfl, hL.below0⟩)
  | (clear hk
     have hL : Kn [] w w [] := Kn.refl [] w
     have hF := hL.fx
     go_enter Tryz.func5, Tryz.ntmps5
     go_wp2_with ((go_at_call 16; refine zC (fun W hL => small35 _ (HT.out.ext hL.below0)) ?_; clear hF hL; intro W hL hF))
     refine kn_body ?_; clear hF hL; intro W hL; have hF := hL.fx
     refine bodyPost_ret (by simp [results, Tryz.results5, go_sem, *]; try rfl) rfl ?_
     exact ⟨rfl, hL.below0⟩)
end Go.Proofs.YtgboffbbpmileaaGreatDoor
set_option maxRecDepth 20000
set_option maxHeartbeats 4000000
set_option linter.unusedVariables false
set_option linter.unusedSimpArgs false
namespace Go.Proofs.YtgboffbbpmileaaGreatDoor
open Go Go.RowKit
theorem joins_err (a b cm : ByteArray) (ha : a.size ≤ 900) (hb : b.size ≤ 900) (hcm : cm.size ≤ 100) (ho : (a.data.toList.getLast? == some 92) = false) (hp : ¬ ∃ x y, parseB a.data.toList = .ok x ∧ parseB b.data.toList = .ok y) (w : World) (hT : TabP w) : Calls Tryz.prog 5 #[.string a, .string b, .string cm] w fun e w' => e = .returned (.bool true) ∧ Below w.heap.size w w' := by
 have HT := Lib.hid hT
 have hmax : IntKind.i64.max = 9223372036854775807 := rfl
 have q0 : decide ((900 : Int) < (a.size : Int)) = false := decide_eq_false (by omega)
 have q1 : decide ((900 : Int) < (b.size : Int)) = false := decide_eq_false (by omega)
 have q2 : decide ((100 : Int) < (cm.size : Int)) = false := decide_eq_false (by omega)
 have HO : Hid ((a.data.toList.getLast? == some 92) = false) := Lib.hid ho
 clear hT
 have hL : Kn [] w w [] := Kn.refl [] w
 have hF := hL.fx
 go_enter Tryz.func5, Tryz.ntmps5
 go_wp2_with (first | (go_at_call 16; refine zC (fun W hL => small35 _ (HT.out.ext hL.below0)) ?_; clear hF hL; intro W hL hF) | (go_at_call 17; refine zC (fun W hL => open_is a (by omega) false HO.out _) ?_; clear hF hL; intro W hL hF))
 have HPN := Lib.hid hp
 clear hp ho
 go_loopw [8] (fun i wr => ∃ k : Nat, k ≤ cm.size ∧ i = .int .i64 k ∧ Hid (∀ j, j < k → cm.data.toList[j]? ≠ some 10) ∧ Kn [] w wr []) (fun i _ => cm.size - (intOf i).toNat)
 case atStart => exact ⟨0, by omega, rfl, Lib.hid (fun j hj => absurd hj (Nat.not_lt_zero j)), kn_here⟩
 case round =>
  obtain ⟨k, hk, rfl, HC, hK⟩ := hrel
  clear hL hF
  have hL := hK
  clear hK
  have hF := hL.fx
  by_cases hlt : k < cm.size
  ·obtain ⟨c0, hc0⟩ : ∃ c, cm.data.toList[k]? = some c := ⟨_, List.getElem?_eq_getElem (by rw [szl]; omega)⟩
   have eb0 := byte_at hc0 (by omega)
   have hd0 : cm.data.toList.drop (k) = c0 :: cm.data.toList.drop (k + 1) := by
    obtain ⟨h1, h2⟩ := List.getElem?_eq_some_iff.1 hc0
    rw [List.drop_eq_getElem_cons h1, h2]
   by_cases h10 : c0 = 10
   ·subst h10
    clear hd0 hc0
    go_wp2
    (refine bodyPost_ret (by simp [results, Tryz.results5, go_sem, *]; try rfl) rfl ?_; exact ⟨rfl, hL.below0⟩)
   ·have f10 : ((c0.toNat : Int) == 10) = false := beq_false_of_ne (fun h => h10 (UInt8.toNat_inj.1 (show c0.toNat = 10 by omega)))
    by_cases h92 : c0 = 92
    ·subst h92
     clear hd0 hc0
     go_wp2
     (refine bodyPost_ret (by simp [results, Tryz.results5, go_sem, *]; try rfl) rfl ?_; exact ⟨rfl, hL.below0⟩)
    ·have f92 : ((c0.toNat : Int) == 92) = false := beq_false_of_ne (fun h => h92 (UInt8.toNat_inj.1 (show c0.toNat = 92 by omega)))
     have HC2 : Hid (∀ j, j < k + 1 → cm.data.toList[j]? ≠ some 10) := Lib.hid (by
      intro j hj
      by_cases e : j = k
      ·subst e
       rw [hc0]
       intro e2
       exact h10 (Option.some.inj e2)
      ·exact HC.out j (by omega))
     clear hd0 hc0 HC
     go_wp2
     exact ⟨⟨k + 1, by omega, by go_num, HC2, hL⟩, by simp [intOf]; omega⟩
  ·obtain rfl : cm.size = k := by omega
   have HWB : Hid (Kn [] w wr []) := Lib.hid hL
   clear hlt
   obtain ⟨pa, hpa⟩ : ∃ p, parseB a.data.toList = p := ⟨_, rfl⟩
   obtain ⟨pb, hpb⟩ : ∃ p, parseB b.data.toList = p := ⟨_, rfl⟩
   have hec : ∀ f : Bool, ∃ z : Int, (if f = true then (6 : Int) else 27) = z ∧ (z != 0) = true := by intro f; cases f <;> exact ⟨_, rfl, rfl⟩
   cases pa with
   | ok x =>
    obtain ⟨nx, hnx⟩ : ∃ k, x.length = k := ⟨_, rfl⟩
    cases pb with
    | ok y => exact absurd ⟨x, y, hpa, hpb⟩ HPN.out
    | err fb mb =>
     obtain ⟨ecb, hecb, hzb⟩ := hec fb
     clear hec
     have HPa := Lib.hid (fun W => parse_ok_c a (by omega) x nx hpa hnx W)
     have HPb := Lib.hid (fun W => parse_err_c b (by omega) fb mb ecb hpb hecb W)
     clear hpa hpb
     have hL := HWB.out.self0
     have hF := hL.fx
     go_wp2_with (first | (go_at_call 13; refine zG ?_; clear hF hL; intro W hL hF; (with_reducible refine (HPa.out _ (HT.out.ext (HWB.out.tail0 hL).below0)).mono ?_); rintro e W2 ⟨aaa, caa, awa, cwa, ara, cra, aka, cka, rfl, HNY, hb⟩; have HNa := Lib.hid (HNY.out _ (keys_typed hL (by simp))); clear HNY; replace hL := hL.below hb; clear hb hF; have hF := hL.fx; have HWB2 := Lib.hid (HWB.out.tail0 hL); clear hL; clear HWB; have HWB := HWB2; clear HWB2; have hL := HWB.out.self0; clear hF; have hF := hL.fx) | (go_at_call 13; refine zG ?_; clear hF hL; intro W hL hF; (with_reducible refine (HPb.out _ (HT.out.ext (HWB.out.tail0 hL).below0)).mono ?_); rintro e W2 ⟨rfl, hb⟩; replace HNa := Lib.hid (HNa.out.next2 hL hb); replace hL := hL.below hb; clear hb hF; have hF := hL.fx; have HWB2 := Lib.hid (HWB.out.tail0 hL); clear hL; clear HWB; have HWB := HWB2; clear HWB2; have hL := HWB.out.self0; clear hF; have hF := hL.fx))
     refine kn_body ?_; clear hF hL; intro W hL; have hF := hL.fx
     refine bodyPost_ret (by simp [results, Tryz.results5, go_sem, *]; try rfl) rfl ?_
     exact ⟨rfl, (HWB.out.tail0 hL).below0⟩
   | err fa ma =>
    obtain ⟨eca, heca, hza⟩ := hec fa
    cases pb with
    | ok y =>
     obtain ⟨ny, hny⟩ : ∃ k, y.length = k := ⟨_, rfl⟩
     clear hec
     have HPa := Lib.hid (fun W => parse_err_c a (by omega) fa ma eca hpa heca W)
     have HPb := Lib.hid (fun W => parse_ok_c b (by omega) y ny hpb hny W)
     clear hpa hpb
     have hL := HWB.out.self0
     have hF := hL.fx
     go_wp2_with (first | (go_at_call 13; refine zG ?_; clear hF hL; intro W hL hF; (with_reducible refine (HPa.out _ (HT.out.ext (HWB.out.tail0 hL).below0)).mono ?_); rintro e W2 ⟨rfl, hb⟩; replace hL := hL.below hb; clear hb hF; have hF := hL.fx; have HWB2 := Lib.hid (HWB.out.tail0 hL); clear hL; clear HWB; have HWB := HWB2; clear HWB2; have hL := HWB.out.self0; clear hF; have hF := hL.fx) | (go_at_call 13; refine zG ?_; clear hF hL; intro W hL hF; (with_reducible refine (HPb.out _ (HT.out.ext (HWB.out.tail0 hL).below0)).mono ?_); rintro e W2 ⟨aab, cab, awb, cwb, arb, crb, akb, ckb, rfl, HNY, hb⟩; have HNb := Lib.hid (HNY.out _ (keys_typed hL (by simp))); clear HNY; replace hL := hL.below hb; clear hb hF; have hF := hL.fx; have HWB2 := Lib.hid (HWB.out.tail0 hL); clear hL; clear HWB; have HWB := HWB2; clear HWB2; have hL := HWB.out.self0; clear hF; have hF := hL.fx))
     refine kn_body ?_; clear hF hL; intro W hL; have hF := hL.fx
     refine bodyPost_ret (by simp [results, Tryz.results5, go_sem, *]; try rfl) rfl ?_
     exact ⟨rfl, (HWB.out.tail0 hL).below0⟩
    | err fb mb =>
     obtain ⟨ecb, hecb, hzb⟩ := hec fb
     clear hec
     have HPa := Lib.hid (fun W => parse_err_c a (by omega) fa ma eca hpa heca W)
     have HPb := Lib.hid (fun W => parse_err_c b (by omega) fb mb ecb hpb hecb W)
     clear hpa hpb
     have hL := HWB.out.self0
     have hF := hL.fx
     go_wp2_with (first | (go_at_call 13; refine zG ?_; clear hF hL; intro W hL hF; (with_reducible refine (HPa.out _ (HT.out.ext (HWB.out.tail0 hL).below0)).mono ?_); rintro e W2 ⟨rfl, hb⟩; replace hL := hL.below hb; clear hb hF; have hF := hL.fx; have HWB2 := Lib.hid (HWB.out.tail0 hL); clear hL; clear HWB; have HWB := HWB2; clear HWB2; have hL := HWB.out.self0; clear hF; have hF := hL.fx) | (go_at_call 13; refine zG ?_; clear hF hL; intro W hL hF; (with_reducible refine (HPb.out _ (HT.out.ext (HWB.out.tail0 hL).below0)).mono ?_); rintro e W2 ⟨rfl, hb⟩; replace hL := hL.below hb; clear hb hF; have hF := hL.fx; have HWB2 := Lib.hid (HWB.out.tail0 hL); clear hL; clear HWB; have HWB := HWB2; clear HWB2; have hL := HWB.out.self0; clear hF; have hF := hL.fx))
     refine kn_body ?_; clear hF hL; intro W hL; have hF := hL.fx
     refine bodyPost_ret (by simp [results, Tryz.results5, go_sem, *]; try rfl) rfl ?_
     exact ⟨rfl, (HWB.out.tail0 hL).below0⟩
end Go.Proofs.YtgboffbbpmileaaGreatDoor
set_option maxRecDepth 20000
set_option maxHeartbeats 4000000
set_option linter.unusedVariables false
set_option linter.unusedSimpArgs false
namespace Go.Proofs.YtgboffbbpmileaaGreatDoor
open Go Go.RowKit
theorem flat_at {α : Type} {z : Nat} (hz : 0 < z) : ∀ (l : List (List α)) (hl : ∀ x ∈ l, x.length = z) (j : Nat) (u : α), l.flatten[j]? = some u → ∃ cs, l[j / z]? = some cs ∧ cs[j % z]? = some u
 | [], _, j, u, h => by simp at h
 | x :: l, hl, j, u, h => by
  have hx : x.length = z := hl x List.mem_cons_self
  rw [List.flatten_cons] at h
  by_cases hj : j < z
  ·rw [List.getElem?_append_left (by omega)] at h
   exact ⟨x, by rw [Nat.div_eq_of_lt hj]; rfl, by rw [Nat.mod_eq_of_lt hj]; exact h⟩
  ·rw [List.getElem?_append_right (by omega), hx] at h
   obtain ⟨cs, h1, h2⟩ := flat_at hz l (fun y hy => hl y (List.mem_cons_of_mem _ hy)) (j - z) u h
   refine ⟨cs, ?_, ?_⟩
   ·rw [Nat.div_eq_sub_div hz (by omega)]; exact h1
   ·rw [Nat.mod_eq_sub_mod (by omega)]; exact h2
theorem kids_open {Y : List Nat} {w : World} {n : Nd} {v0 v1 v2 v3 v4 v5 : Value} {ak : Option Addr} {nk ck : Nat} (h : NodeIs Y w n [v0, v1, v2, v3, v4, v5, .slice ak nk ck]) : ∃ ks : List (Nd × List Value), n.kids = ks.map (·.1) ∧ ks.length = nk ∧ (∀ p ∈ ks, NodeIs Y w p.1 p.2) ∧ RowY 7 Y w (.slice ak nk ck) (ks.map (·.2)) := by
 obtain ⟨al, ws, rs, ks, va, vw, vr, vk, hn, hcs, h1, _, h3, _, h5, _, h7, h8⟩ := h.open
 simp only [List.cons.injEq, and_true] at hcs
 obtain ⟨_, _, _, _, _, _, rfl⟩ := hcs
 obtain ⟨a9, c9, hv⟩ := rowy_len h7
 injection hv with _ hv _
 rw [List.length_map] at hv
 exact ⟨ks, by rw [hn]; rfl, hv.symm, h8, h7⟩
theorem node_one {Y : List Nat} {w : World} {n : Nd} {cs : List Value} (h : NodeIs Y w n cs) : cs.length = 7 ∧ ∀ u ∈ cs, u.oneCell' = true := by
 obtain ⟨al, ws, rs, ks, va, vw, vr, vk, hn, rfl, h1, _, h3, _, h5, _, h7, h8⟩ := h.open
 obtain ⟨a1, c1, rfl⟩ := rowy_len h1
 obtain ⟨a3, c3, rfl⟩ := rowy_len h3
 obtain ⟨a5, c5, rfl⟩ := rowy_len h5
 obtain ⟨a7, c7, rfl⟩ := rowy_len h7
 refine ⟨rfl, fun u hu => ?_⟩
 simp only [List.mem_cons, List.not_mem_nil, or_false] at hu
 rcases hu with rfl | rfl | rfl | rfl | rfl | rfl | rfl <;> rfl
theorem flat_put {α : Type} {z : Nat} : ∀ (l : List (List α)) (hl : ∀ x ∈ l, x.length = z) (j c : Nat) (cs : List α) (u : α), l[j]? = some cs → cs[c]? = some u → l.flatten[j * z + c]? = some u
 | [], _, j, c, cs, u, h, _ => by simp at h
 | x :: l, hl, 0, c, cs, u, h, h2 => by
  obtain rfl : x = cs := Option.some.inj h
  rw [List.flatten_cons, Nat.zero_mul, Nat.zero_add, List.getElem?_append_left (List.getElem?_eq_some_iff.1 h2).1]
  exact h2
 | x :: l, hl, j + 1, c, cs, u, h, h2 => by
  have hx : x.length = z := hl x List.mem_cons_self
  have e : (j + 1) * z = j * z + z := Nat.succ_mul j z
  rw [List.flatten_cons, List.getElem?_append_right (by omega), hx, show (j + 1) * z + c - z = j * z + c by omega]
  exact flat_put l (fun y hy => hl y (List.mem_cons_of_mem _ hy)) j c cs u h h2
theorem both_is {Y : List Nat} {w : World} {x y : List Nd} {ka kb : List (Nd × List Value)} (ea : (Nd.mk 4 [] false [] [] [] x).kids = ka.map (·.1)) (eb : (Nd.mk 4 [] false [] [] [] y).kids = kb.map (·.1)) (ha : ∀ p ∈ ka, NodeIs Y w p.1 p.2) (hb : ∀ p ∈ kb, NodeIs Y w p.1 p.2) {n c : Nat} {a : Option Addr} {LP : List (Nat × Obj)} (hn : ka.length + kb.length = n) (hr : RowL 7 41 LP (.slice a n c) n (ka.flatMap (·.2) ++ kb.flatMap (·.2))) (W' : World) (K : List (Nat × Obj)) (hk : Kn Y w W' K) (hs : ∀ p ∈ LP, p ∈ K) : NodeIs [] W' (.mk 4 [] false [] [] [] (x ++ y)) [.int .i64 4, .string ⟨#[]⟩, .bool false, .slice none 0 0, .slice none 0 0, .slice none 0 0, .slice a n c] := by
 have ex : x ++ y = (ka ++ kb).map (·.1) := by
  have e1 : x = ka.map (·.1) := ea
  have e2 : y = kb.map (·.1) := eb
  rw [List.map_append, ← e1, ← e2]
 have hall : ∀ p ∈ ka ++ kb, NodeIs Y w p.1 p.2 := fun p hp => (List.mem_append.1 hp).elim (ha p) (hb p)
 have h7 : RowY 7 [] W' (.slice a n c) ((ka ++ kb).map (·.2)) := by
  rw [← List.flatMap_append] at hr
  rcases hr with ⟨_, e, h0, _⟩ | ⟨g, cap, cur, rfl, e, hb⟩
  ·have : ka ++ kb = [] := List.eq_nil_of_length_eq_zero (by rw [List.length_append]; omega)
   rw [this, e]
   exact RowY.nil
  ·injection e with e1 e2 e3
   subst e1 e3
   refine ⟨some ⟨g, 0, none⟩, c, by rw [List.length_map, List.length_append, hn], by rw [List.length_map, List.length_append, hn]; exact hb.le, fun j cs hj => ⟨g, 0, rfl, List.not_mem_nil, hk.lt (hs _ List.mem_cons_self), fun q u hu => ?_⟩⟩
   rw [Nat.zero_add, kn_cell hk (hs _ List.mem_cons_self)]
   refine hb.get ?_
   rw [List.flatMap_def]
   exact flat_put _ (fun z hz => by obtain ⟨p, hp, rfl⟩ := List.mem_map.1 hz; exact (node_one (hall p hp)).1) j q cs u hj hu
 rw [ex]
 exact NodeIs.mk 4 [] false [] [] [] (ka ++ kb) _ _ _ _ RowY.nil (fun z hz => absurd hz List.not_mem_nil) RowY.nil (fun z hz => absurd hz List.not_mem_nil) RowY.nil (fun z hz => absurd hz List.not_mem_nil) h7 (fun p hp => (hall p hp).kn hk (fun y hy => absurd hy List.not_mem_nil))
theorem run_append_none {W : World} {t : TypeId} {v : Value} {n c : Nat} {xs : List Value} (ho : W.ownsRow 0 41 7 v n xs) : ∃ v' w', (Builtin.append_ #[39, 39] t #[v, .slice none 0 c]).run Tryz.prog W = .ok v' w' ∧ w'.ownsRow 0 41 7 v' (n + 0) (xs ++ []) ∧ W.grownBy w' v.ownBlock ∧ (v'.ownBlock = v.ownBlock ∨ v'.ownBlock = some W.heap.size) := by
 obtain ⟨i0, hi, hz0, hz1, hz2⟩ := info_parts infoNd
 have ho2 := ho
 rw [Nat.add_zero, List.append_nil]
 obtain ⟨hl, ⟨rfl, rfl⟩ | ⟨g, cap, cur, rfl, hb, hg, hle, hr⟩⟩ := ho
 ·refine ⟨.slice none 0 0, W, ?_, ho2, ⟨rfl, rfl, rfl, Nat.le_refl _, fun _ _ _ => rfl⟩, .inl rfl⟩
  simp [Builtin.append_, run_underlying Tryz.underlying39, sizeOf, typeInfo, hi, Builtin.lenOf, run_firstCells_none]
 ·have h := run_append_room_src (P := Tryz.prog) W 39 39 t 41 i0 Tryz.underlying39 hi g 0 n cap (.slice none 0 c) 0 [] (Src.ofNil W Tryz.underlying39 c) (by omega) (by simp) (by simp)
  refine ⟨_, _, h, ?_, ?_, .inl rfl⟩
  ·simpa [World.setCells] using ho2
  ·exact ⟨rfl, rfl, rfl, Nat.le_refl _, fun _ _ _ => rfl⟩
theorem app_kids {W : World} {t : TypeId} {v : Value} {n nk ck : Nat} {ak : Option Addr} {xs : List Value} {Y Y2 : List Nat} {w : World} {ks : List (Nd × List Value)} (hr : RowY 7 Y W (.slice ak nk ck) (ks.map (·.2))) (hk : ∀ p ∈ ks, NodeIs Y2 w p.1 p.2) (hs : n + nk ≤ 1000000) (ho : W.ownsRow 0 41 7 v n xs) : ∃ v' w', (Builtin.append_ #[39, 39] t #[v, .slice ak nk ck]).run Tryz.prog W = .ok v' w' ∧ w'.ownsRow 0 41 7 v' (n + nk) (xs ++ ks.flatMap (·.2)) ∧ W.grownBy w' v.ownBlock ∧ (v'.ownBlock = v.ownBlock ∨ v'.ownBlock = some W.heap.size) := by
 obtain ⟨a9, c9, hv⟩ := rowy_len hr
 injection hv with e1 e2 e3
 rw [List.length_map] at e2
 subst e2
 cases ak with
 | none =>
  have : ks = [] := by
   cases ks with
   | nil => rfl
   | cons p r => obtain ⟨g, o, e, _⟩ := rowy_at hr (j := 0) (cs := p.2) rfl; cases e
  subst this
  exact run_append_none ho
 | some ad =>
  refine run_append_Nd ?_ (fun j u hu => ?_) (fun u hu => ?_) hs ho
  ·have : ∀ l : List (Nd × List Value), (∀ p ∈ l, NodeIs Y2 w p.1 p.2) → (l.flatMap (·.2)).length = l.length * 7 := by
    intro l hl
    induction l with
    | nil => rfl
    | cons p r ih => rw [List.flatMap_cons, List.length_append, ih (fun q hq => hl q (List.mem_cons_of_mem _ hq)), (node_one (hl p List.mem_cons_self)).1, List.length_cons]; omega
   exact this ks hk
  ·rw [List.flatMap_def] at hu
   obtain ⟨cs, h1, h2⟩ := flat_at (by decide : 0 < 7) _ (fun x hx => by obtain ⟨p, hp, rfl⟩ := List.mem_map.1 hx; exact (node_one (hk p hp)).1) j u hu
   obtain ⟨g, o, e, _, hc⟩ := rowy_at hr h1
   obtain rfl := Option.some.inj e
   have := hc _ u h2
   rw [Go.WideShapes.add_plain, ← this]
   congr 2
   have := Nat.div_add_mod j 7
   omega
  ·obtain ⟨p, hp, hu⟩ := List.mem_flatMap.1 hu
   exact (node_one (hk p hp)).2 u hu
end Go.Proofs.YtgboffbbpmileaaGreatDoor
set_option maxRecDepth 20000
set_option maxHeartbeats 4000000
set_option linter.unusedVariables false
set_option linter.unusedSimpArgs false
namespace Go.Proofs.YtgboffbbpmileaaGreatDoor
open Go Go.RowKit
theorem joins_good (a b cm : ByteArray) (ha : a.size ≤ 900) (hb : b.size ≤ 900) (hcm : cm.size ≤ 100) (ho : (a.data.toList.getLast? == some 92) = false) (x y : List Nd) (hpa : parseB a.data.toList = .ok x) (hpb : parseB b.data.toList = .ok y) (nx ny : Nat) (hnx : x.length = nx) (hny : y.length = ny) (w : World) (hT : TabP w) : Calls Tryz.prog 5 #[.string a, .string b, .string cm] w fun e w' => e = .returned (.bool true) ∧ Below w.heap.size w w' := by
 have HT := Lib.hid hT
 have hmax : IntKind.i64.max = 9223372036854775807 := rfl
 have q0 : decide ((900 : Int) < (a.size : Int)) = false := decide_eq_false (by omega)
 have q1 : decide ((900 : Int) < (b.size : Int)) = false := decide_eq_false (by omega)
 have q2 : decide ((100 : Int) < (cm.size : Int)) = false := decide_eq_false (by omega)
 have HO : Hid ((a.data.toList.getLast? == some 92) = false) := Lib.hid ho
 clear hT
 have hL : Kn [] w w [] := Kn.refl [] w
 have hF := hL.fx
 go_enter Tryz.func5, Tryz.ntmps5
 go_wp2_with (first | (go_at_call 16; refine zC (fun W hL => small35 _ (HT.out.ext hL.below0)) ?_; clear hF hL; intro W hL hF) | (go_at_call 17; refine zC (fun W hL => open_is a (by omega) false HO.out _) ?_; clear hF hL; intro W hL hF))
 have HO2 : Hid (a.data.toList.getLast? ≠ some 92) := Lib.hid (fun h => by rw [h] at ho; exact absurd ho (by decide))
 clear ho
 go_loopw [8] (fun i wr => ∃ k : Nat, k ≤ cm.size ∧ i = .int .i64 k ∧ Hid (∀ j, j < k → cm.data.toList[j]? ≠ some 10) ∧ Kn [] w wr []) (fun i _ => cm.size - (intOf i).toNat)
 case atStart => exact ⟨0, by omega, rfl, Lib.hid (fun j hj => absurd hj (Nat.not_lt_zero j)), kn_here⟩
 case round =>
  obtain ⟨k, hk, rfl, HC, hK⟩ := hrel
  clear hL hF
  have hL := hK
  clear hK
  have hF := hL.fx
  by_cases hlt : k < cm.size
  ·obtain ⟨c0, hc0⟩ : ∃ c, cm.data.toList[k]? = some c := ⟨_, List.getElem?_eq_getElem (by rw [szl]; omega)⟩
   have eb0 := byte_at hc0 (by omega)
   have hd0 : cm.data.toList.drop (k) = c0 :: cm.data.toList.drop (k + 1) := by
    obtain ⟨h1, h2⟩ := List.getElem?_eq_some_iff.1 hc0
    rw [List.drop_eq_getElem_cons h1, h2]
   by_cases h10 : c0 = 10
   ·subst h10
    clear hd0 hc0
    go_wp2
    (refine bodyPost_ret (by simp [results, Tryz.results5, go_sem, *]; try rfl) rfl ?_; exact ⟨rfl, hL.below0⟩)
   ·have f10 : ((c0.toNat : Int) == 10) = false := beq_false_of_ne (fun h => h10 (UInt8.toNat_inj.1 (show c0.toNat = 10 by omega)))
    by_cases h92 : c0 = 92
    ·subst h92
     clear hd0 hc0
     go_wp2
     (refine bodyPost_ret (by simp [results, Tryz.results5, go_sem, *]; try rfl) rfl ?_; exact ⟨rfl, hL.below0⟩)
    ·have f92 : ((c0.toNat : Int) == 92) = false := beq_false_of_ne (fun h => h92 (UInt8.toNat_inj.1 (show c0.toNat = 92 by omega)))
     have HC2 : Hid (∀ j, j < k + 1 → cm.data.toList[j]? ≠ some 10) := Lib.hid (by
      intro j hj
      by_cases e : j = k
      ·subst e
       rw [hc0]
       intro e2
       exact h10 (Option.some.inj e2)
      ·exact HC.out j (by omega))
     clear hd0 hc0 HC
     go_wp2
     exact ⟨⟨k + 1, by omega, by go_num, HC2, hL⟩, by simp [intOf]; omega⟩
  ·obtain rfl : cm.size = k := by omega
   have HWB : Hid (Kn [] w wr []) := Lib.hid hL
   clear hlt
   have hcn : 10 ∉ cm.data.toList := fun hm => by
    obtain ⟨j, hj, e⟩ := List.getElem_of_mem hm
    exact HC.out j (by rw [szl] at hj; exact hj) (by rw [List.getElem?_eq_getElem hj, e])
   have hz := joins_plain (a := a.data.toList) (b := b.data.toList) (by rw [szl, szl]; omega) HO2.out hpa hpb
   have hw := joins_comment (a := a.data.toList) (b := b.data.toList) (c := cm.data.toList) (by rw [szl, szl, szl]; omega) HO2.out hcn hpa hpb
   have ez : (a ++ ⟨#[10]⟩ ++ b).data.toList = a.data.toList ++ 10 :: b.data.toList := by simp only [appl]; simp
   have ew : (a ++ ⟨#[10, 10, 32, 9, 10, 35]⟩ ++ cm ++ ⟨#[10]⟩ ++ b).data.toList = a.data.toList ++ 10 :: 10 :: 32 :: 9 :: 10 :: 35 :: (cm.data.toList ++ 10 :: b.data.toList) := by simp only [appl]; simp
   rw [← ez] at hz
   rw [← ew] at hw
   have sz : (a ++ ⟨#[10]⟩ ++ b).size ≤ 2000 := by simp only [ByteArray.size_append]; rw [show (⟨#[10]⟩ : ByteArray).size = 1 from rfl]; omega
   have sw : (a ++ ⟨#[10, 10, 32, 9, 10, 35]⟩ ++ cm ++ ⟨#[10]⟩ ++ b).size ≤ 2000 := by simp only [ByteArray.size_append]; rw [show (⟨#[10]⟩ : ByteArray).size = 1 from rfl, show (⟨#[10, 10, 32, 9, 10, 35]⟩ : ByteArray).size = 6 from rfl]; omega
   have HPa := Lib.hid (fun W => parse_ok_c a (by omega) x nx hpa hnx W)
   have HPb := Lib.hid (fun W => parse_ok_c b (by omega) y ny hpb hny W)
   have HPz := Lib.hid (fun W => parse_ok_c (a ++ ⟨#[10]⟩ ++ b) (by omega) (x ++ y) (nx + ny) hz (by rw [List.length_append, hnx, hny]) W)
   have HPw := Lib.hid (fun W => parse_ok_c (a ++ ⟨#[10, 10, 32, 9, 10, 35]⟩ ++ cm ++ ⟨#[10]⟩ ++ b) (by omega) (x ++ y) (nx + ny) hw (by rw [List.length_append, hnx, hny]) W)
   have m1 : ¬ IntKind.i64.max < ((a.size + (⟨#[10]⟩ : ByteArray).size : Nat) : Int) := by rw [hmax, show (⟨#[10]⟩ : ByteArray).size = 1 from rfl]; omega
   have m2 : ¬ IntKind.i64.max < (((a ++ ⟨#[10]⟩).size + b.size : Nat) : Int) := by rw [hmax, ByteArray.size_append, show (⟨#[10]⟩ : ByteArray).size = 1 from rfl]; omega
   have m3 : ¬ IntKind.i64.max < ((a.size + (⟨#[10, 10, 32, 9, 10, 35]⟩ : ByteArray).size : Nat) : Int) := by rw [hmax, show (⟨#[10, 10, 32, 9, 10, 35]⟩ : ByteArray).size = 6 from rfl]; omega
   have m4 : ¬ IntKind.i64.max < (((a ++ ⟨#[10, 10, 32, 9, 10, 35]⟩).size + cm.size : Nat) : Int) := by rw [hmax, ByteArray.size_append, show (⟨#[10, 10, 32, 9, 10, 35]⟩ : ByteArray).size = 6 from rfl]; omega
   have m5 : ¬ IntKind.i64.max < (((a ++ ⟨#[10, 10, 32, 9, 10, 35]⟩ ++ cm).size + (⟨#[10]⟩ : ByteArray).size : Nat) : Int) := by simp only [hmax, ByteArray.size_append]; rw [show (⟨#[10, 10, 32, 9, 10, 35]⟩ : ByteArray).size = 6 from rfl, show (⟨#[10]⟩ : ByteArray).size = 1 from rfl]; omega
   have m6 : ¬ IntKind.i64.max < (((a ++ ⟨#[10, 10, 32, 9, 10, 35]⟩ ++ cm ++ ⟨#[10]⟩).size + b.size : Nat) : Int) := by simp only [hmax, ByteArray.size_append]; rw [show (⟨#[10, 10, 32, 9, 10, 35]⟩ : ByteArray).size = 6 from rfl, show (⟨#[10]⟩ : ByteArray).size = 1 from rfl]; omega
   have bx := (parseB_sm (by rw [szl]; omega) hpa).1
   have by_ := (parseB_sm (by rw [szl]; omega) hpb).1
   rw [hnx] at bx
   rw [hny] at by_
   have HSM : Hid (Sm 100000 (.mk 4 [] false [] [] [] (x ++ y))) := Lib.hid (by
    obtain ⟨a1, a2⟩ := parseB_sm (by rw [szl]; omega) hz
    exact .mk _ _ _ _ _ _ _ (Nat.zero_le _) (fun x hx => absurd hx List.not_mem_nil) (Nat.zero_le _) (fun x hx => absurd hx List.not_mem_nil) (Nat.zero_le _) (fun x hx => absurd hx List.not_mem_nil) (by omega) (fun y hy => (a2 y hy).mono (by omega)))
   clear ez ew hcn hz hw HC HO HO2 hpa hpb
   have hL := HWB.out.self0
   have hF := hL.fx
   go_upto_region 15 with (first | (go_at_call 13; refine zG ?_; clear hF hL; intro W hL hF; (with_reducible refine (HPa.out _ (HT.out.ext (HWB.out.tail0 hL).below0)).mono ?_); rintro e W2 ⟨aaa, caa, awa, cwa, ara, cra, aka, cka, rfl, HNY, hb⟩; have HNa := Lib.hid (HNY.out _ (keys_typed hL (by simp))); clear HNY; replace hL := hL.below hb; clear hb hF; have hF := hL.fx; have HWB2 := Lib.hid (HWB.out.tail0 hL); clear hL; clear HWB; have HWB := HWB2; clear HWB2; have hL := HWB.out.self0; clear hF; have hF := hL.fx) | (go_at_call 13; refine zG ?_; clear hF hL; intro W hL hF; (with_reducible refine (HPb.out _ (HT.out.ext (HWB.out.tail0 hL).below0)).mono ?_); rintro e W2 ⟨aab, cab, awb, cwb, arb, crb, akb, ckb, rfl, HNY, hb⟩; have HNb := Lib.hid (HNY.out _ (keys_typed hL (by simp))); clear HNY; replace HNa := Lib.hid (HNa.out.next2 hL hb); replace hL := hL.below hb; clear hb hF; have hF := hL.fx; have HWB2 := Lib.hid (HWB.out.tail0 hL); clear hL; clear HWB; have HWB := HWB2; clear HWB2; have hL := HWB.out.self0; clear hF; have hF := hL.fx) | (go_at_call 13; refine zG ?_; clear hF hL; intro W hL hF; (with_reducible refine (HPz.out _ (HT.out.ext (HWB.out.tail0 hL).below0)).mono ?_); rintro e W2 ⟨aaz, caz, awz, cwz, arz, crz, akz, ckz, rfl, HNY, hb⟩; have HNz := Lib.hid (HNY.out _ (keys_typed hL (by simp))); clear HNY; replace HNa := Lib.hid (HNa.out.next2 hL hb); replace HNb := Lib.hid (HNb.out.next2 hL hb); replace hL := hL.below hb; clear hb hF; have hF := hL.fx; have HWB2 := Lib.hid (HWB.out.tail0 hL); clear hL; clear HWB; have HWB := HWB2; clear HWB2; have hL := HWB.out.self0; clear hF; have hF := hL.fx) | (go_at_call 13; refine zG ?_; clear hF hL; intro W hL hF; (with_reducible refine (HPw.out _ (HT.out.ext (HWB.out.tail0 hL).below0)).mono ?_); rintro e W2 ⟨aaw, caw, aww, cww, arw, crw, akw, ckw, rfl, HNY, hb⟩; have HNw := Lib.hid (HNY.out _ (keys_typed hL (by simp))); clear HNY; replace HNa := Lib.hid (HNa.out.next2 hL hb); replace HNb := Lib.hid (HNb.out.next2 hL hb); replace HNz := Lib.hid (HNz.out.next2 hL hb); replace hL := hL.below hb; clear hb hF; have hF := hL.fx; have HWB2 := Lib.hid (HWB.out.tail0 hL); clear hL; clear HWB; have HWB := HWB2; clear HWB2; have hL := HWB.out.self0; clear hF; have hF := hL.fx))
   refine kn_wp ?_; clear hF hL; intro W hL; have hF := hL.fx
   replace HNa := Lib.hid (HNa.out.next hL)
   replace HNb := Lib.hid (HNb.out.next hL)
   replace HNz := Lib.hid (HNz.out.next hL)
   replace HNw := Lib.hid (HNw.out.next hL)
   have HWB2 := Lib.hid (HWB.out.tail0 hL)
   clear hL hF HWB
   have HWB := HWB2
   have hL := HWB.out.self0
   clear HWB2 HPa HPb HPz HPw m1 m2 m3 m4 m5 m6 sz sw
   have hF := hL.fx
   obtain ⟨ka, eka, lka, HKA0, HRA0⟩ := kids_open HNa.out
   obtain ⟨kb, ekb, lkb, HKB0, HRB0⟩ := kids_open HNb.out
   have HKA := Lib.hid HKA0
   have HKB := Lib.hid HKB0
   have HRA := Lib.hid HRA0
   have HRB := Lib.hid HRB0
   have HEA := Lib.hid eka
   have HEB := Lib.hid ekb
   clear HKA0 HKB0 HRA0 HRB0 eka ekb
   ((with_reducible refine at_region 15 ?_); refine kn_wp ?_; clear hF hL; intro W hL; have hF := hL.fx; refine reg_of (by kernel_rfl) ?_; refine reg_split 8 0 (by decide) (by decide) (by decide) ?_ ?_; (focus (dsimp only [addE]; refine kn_regAny0 [1, 2, 4, 5, 8, 0, 3, 6, 7, 9] [1, 2, 4, 5, 7] [6, 9] [1, 4, 7] (by kernel_rfl) (List.Sublist.refl _) ?_; clear hF hL; intro ι F hne hC hFF; have hG := fun n => (hFF n).fx; clear hFF; (repeat (first | (refine cF hC ?_; intro K hK; go_big_quiet_op; go_big_quiet_on) | (refine cP ?_; intro K hK; go_big_quiet_op; go_big_quiet_on) | (refine cN ?_; intro W hL; have hF := hL.fx; at_builtin; go_loud (refine wpList_append_end rfl _ _ 39 39 rfl [_, _, _, _, _] LP3 hL nx ny (ka.flatMap (·.2)) (kb.flatMap (·.2)) _ _ hr3 rfl rfl (fun ho => app_kids (HRB.out.kn hL (fun y hy => .inl hy)) HKB.out (by omega) ho) ?_); intro LP4 a4 c4 W4 hL2 hr4; clear hF hL; have hL := hL2; clear hL2; simp only [List.append_eq, List.cons_append, List.nil_append] at hL; simp only [Nat.zero_add, List.nil_append] at hr4; have hF := hL.fx; go_wp2; refine zB2 ?_; clear hL hF hC hG; intro ι F hne hC hG) | (refine cN ?_; intro W hL; have hF := hL.fx; at_builtin; replace hL := Kn.ofPerm hL (List.perm_append_singleton _ _).symm; go_loud (refine wpList_append_end rfl _ _ 39 39 rfl _ [(_, .cells #[] 41 (0, 0))] hL 0 nx [] (ka.flatMap (·.2)) _ _ (.inr ⟨_, 0, #[], rfl, rfl, ⟨rfl, Nat.le_refl _, Nat.zero_le _, rfl, rfl⟩⟩) rfl rfl (fun ho => app_kids (HRA.out.kn hL (fun y hy => .inl hy)) HKA.out (by omega) ho) ?_); intro LP3 a3 c3 W3 hL2 hr3; clear hF hL; have hL := hL2; clear hL2; simp only [List.append_eq, List.cons_append, List.nil_append] at hL; simp only [Nat.zero_add, List.nil_append] at hr3; have hF := hL.fx; go_wp2; refine anchQ_normal ?_; ((refine owed0 _ (by repeat' (first | (with_reducible exact List.nil_sublist _) | (with_reducible apply List.Sublist.cons_cons) | (with_reducible apply List.Sublist.cons))) ?_; clear hL hF))) | (refine cN ?_; intro W hL; have hF := hL.fx; go_wp2; (first | (refine zB2 ?_; clear hL hF hC hG; intro ι F hne hC hG) | (refine zO2 ?_; clear hL hF))))); refine cwk_nil ?_; clear hC hG; intro W hL; simp only [kfb] at hL; have hF := hL.fx)); rotate_left; (focus (refine reg_split 8 3 (by decide) (by decide) (by decide) ?_ ?_; (focus (dsimp only [addE]; refine kn_regAny0 [1, 2, 4, 5, 0, 8, 3, 6, 7, 9] [1, 2, 4, 5, 7] [6, 9] [1, 4, 7] (by kernel_rfl) (List.Sublist.refl _) ?_; clear hF hL; intro ι F hne hC hFF; have hG := fun n => (hFF n).fx; clear hFF; (repeat (first | (refine cF hC ?_; intro K hK; go_big_quiet_op; go_big_quiet_on) | (refine cP ?_; intro K hK; go_big_quiet_op; go_big_quiet_on) | (refine cN ?_; intro W hL; have hF := hL.fx; at_builtin; go_loud (refine wpList_append_end rfl _ _ 39 39 rfl [_, _, _, _, _] LP3 hL nx ny (ka.flatMap (·.2)) (kb.flatMap (·.2)) _ _ hr3 rfl rfl (fun ho => app_kids (HRB.out.kn hL (fun y hy => .inl hy)) HKB.out (by omega) ho) ?_); intro LP4 a4 c4 W4 hL2 hr4; clear hF hL; have hL := hL2; clear hL2; simp only [List.append_eq, List.cons_append, List.nil_append] at hL; simp only [Nat.zero_add, List.nil_append] at hr4; have hF := hL.fx; go_wp2; refine zB2 ?_; clear hL hF hC hG; intro ι F hne hC hG) | (refine cN ?_; intro W hL; have hF := hL.fx; at_builtin; replace hL := Kn.ofPerm hL (List.Perm.cons _ (List.perm_append_singleton _ _).symm); go_loud (refine wpList_append_end rfl _ _ 39 39 rfl [_, _, _, _, _] [(_, .cells #[] 41 (0, 0))] hL 0 nx [] (ka.flatMap (·.2)) _ _ (.inr ⟨_, 0, #[], rfl, rfl, ⟨rfl, Nat.le_refl _, Nat.zero_le _, rfl, rfl⟩⟩) rfl rfl (fun ho => app_kids (HRA.out.kn hL (fun y hy => .inl hy)) HKA.out (by omega) ho) ?_); intro LP3 a3 c3 W3 hL2 hr3; clear hF hL; have hL := hL2; clear hL2; simp only [List.append_eq, List.cons_append, List.nil_append] at hL; simp only [Nat.zero_add, List.nil_append] at hr3; have hF := hL.fx; go_wp2; refine anchQ_normal ?_; ((refine owed0 _ (by repeat' (first | (with_reducible exact List.nil_sublist _) | (with_reducible apply List.Sublist.cons_cons) | (with_reducible apply List.Sublist.cons))) ?_; clear hL hF))) | (refine cN ?_; intro W hL; have hF := hL.fx; go_wp2; (first | (refine zB2 ?_; clear hL hF hC hG; intro ι F hne hC hG) | (refine zO2 ?_; clear hL hF))))); refine cwk_nil ?_; clear hC hG; intro W hL; simp only [kfb] at hL; have hF := hL.fx)); rotate_left; (focus (refine reg_split 8 6 (by decide) (by decide) (by decide) ?_ ?_; (focus (dsimp only [addE]; refine kn_regAny0 [1, 2, 4, 5, 0, 3, 8, 6, 7, 9] [1, 2, 4, 5, 7] [6, 9] [1, 4, 7] (by kernel_rfl) (List.Sublist.refl _) ?_; clear hF hL; intro ι F hne hC hFF; have hG := fun n => (hFF n).fx; clear hFF; (repeat (first | (refine cF hC ?_; intro K hK; go_big_quiet_op; go_big_quiet_on) | (refine cP ?_; intro K hK; go_big_quiet_op; go_big_quiet_on) | (refine cN ?_; intro W hL; have hF := hL.fx; at_builtin; go_loud (refine wpList_append_end rfl _ _ 39 39 rfl [_, _, _, _, _] LP3 hL nx ny (ka.flatMap (·.2)) (kb.flatMap (·.2)) _ _ hr3 rfl rfl (fun ho => app_kids (HRB.out.kn hL (fun y hy => .inl hy)) HKB.out (by omega) ho) ?_); intro LP4 a4 c4 W4 hL2 hr4; clear hF hL; have hL := hL2; clear hL2; simp only [List.append_eq, List.cons_append, List.nil_append] at hL; simp only [Nat.zero_add, List.nil_append] at hr4; have hF := hL.fx; go_wp2; refine zB2 ?_; clear hL hF hC hG; intro ι F hne hC hG) | (refine cN ?_; intro W hL; have hF := hL.fx; at_builtin; replace hL := Kn.ofPerm hL (List.perm_append_singleton _ _).symm; go_loud (refine wpList_append_end rfl _ _ 39 39 rfl _ [(_, .cells #[] 41 (0, 0))] hL 0 nx [] (ka.flatMap (·.2)) _ _ (.inr ⟨_, 0, #[], rfl, rfl, ⟨rfl, Nat.le_refl _, Nat.zero_le _, rfl, rfl⟩⟩) rfl rfl (fun ho => app_kids (HRA.out.kn hL (fun y hy => .inl hy)) HKA.out (by omega) ho) ?_); intro LP3 a3 c3 W3 hL2 hr3; clear hF hL; have hL := hL2; clear hL2; simp only [List.append_eq, List.cons_append, List.nil_append] at hL; simp only [Nat.zero_add, List.nil_append] at hr3; have hF := hL.fx; go_wp2; refine anchQ_normal ?_; ((refine owed0 _ (by repeat' (first | (with_reducible exact List.nil_sublist _) | (with_reducible apply List.Sublist.cons_cons))) ?_; clear hL hF))) | (refine cN ?_; intro W hL; have hF := hL.fx; go_wp2; refine anchQ_normal ?_; (first | (refine owedB _ (by rfl) ?_; clear hL hF hC hG; intro ι F hne hC hFF; have hG := fun n => (hFF n).fx; clear hFF) | (refine owed0 _ (by repeat' (first | (with_reducible exact List.nil_sublist _) | (with_reducible exact List.Sublist.refl _) | (with_reducible apply List.Sublist.cons_cons) | (with_reducible apply List.Sublist.cons))) ?_; clear hL hF))))); refine cwk_nil ?_; clear hC hG; intro W hL; simp only [kfb] at hL; have hF := hL.fx)); rotate_left; (focus ((dsimp only [addE]; refine kn_regAny0 [1, 2, 4, 5, 0, 3, 6, 7, 8, 9] [1, 2, 4, 5, 7] [6, 8, 9] [1, 4, 7] (by kernel_rfl) (List.Sublist.refl _) ?_; clear hF hL; intro ι F hne hC hFF; have hG := fun n => (hFF n).fx; clear hFF; (repeat (first | (refine cF hC ?_; intro K hK; go_big_quiet_op; go_big_quiet_on) | (refine cP ?_; intro K hK; go_big_quiet_op; go_big_quiet_on) | (refine cN ?_; intro W hL; have hF := hL.fx; at_builtin; go_loud (refine wpList_append_end rfl _ _ 39 39 rfl [_, _, _, _] LP3 hL nx ny (ka.flatMap (·.2)) (kb.flatMap (·.2)) _ _ hr3 rfl rfl (fun ho => app_kids (HRB.out.kn hL (fun y hy => .inl hy)) HKB.out (by omega) ho) ?_); intro LP4 a4 c4 W4 hL2 hr4; clear hF hL; have hL := hL2; clear hL2; simp only [List.append_eq, List.cons_append, List.nil_append] at hL; simp only [Nat.zero_add, List.nil_append] at hr4; have hF := hL.fx; go_wp2; refine zB2 ?_; clear hL hF hC hG; intro ι F hne hC hG) | (refine cN ?_; intro W hL; have hF := hL.fx; at_builtin; replace hL := Kn.ofPerm hL (List.perm_append_singleton _ _).symm; go_loud (refine wpList_append_end rfl _ _ 39 39 rfl _ [(_, .cells #[] 41 (0, 0))] hL 0 nx [] (ka.flatMap (·.2)) _ _ (.inr ⟨_, 0, #[], rfl, rfl, ⟨rfl, Nat.le_refl _, Nat.zero_le _, rfl, rfl⟩⟩) rfl rfl (fun ho => app_kids (HRA.out.kn hL (fun y hy => .inl hy)) HKA.out (by omega) ho) ?_); intro LP3 a3 c3 W3 hL2 hr3; clear hF hL; have hL := hL2; clear hL2; simp only [List.append_eq, List.cons_append, List.nil_append] at hL; simp only [Nat.zero_add, List.nil_append] at hr3; have hF := hL.fx; go_wp2; refine anchQ_normal ?_; ((refine owed0 _ (by repeat' (first | (with_reducible exact List.nil_sublist _) | (with_reducible apply List.Sublist.cons_cons))) ?_; clear hL hF))) | (refine cN ?_; intro W hL; have hF := hL.fx; go_wp2; (first | (refine zB2 ?_; clear hL hF hC hG; intro ι F hne hC hG) | (refine zO2 ?_; clear hL hF))))); refine cwk_nil ?_; clear hC hG; intro W hL; simp only [kfb] at hL; have hF := hL.fx))))))))
   all_goals (
    have HBN := Lib.hid (both_is HEA.out HEB.out HKA.out HKB.out (n := nx + ny) (by omega) hr4)
    clear hr3 hr4
    simp only [keys, List.map_cons, List.map_nil] at HNz
    simp only [keys, List.map_cons, List.map_nil] at HNw
    simp only [keys, List.map_cons, List.map_nil] at HBN
    go_wp2_with (first | ((with_reducible refine zS ?_); clear hL; intro W hL hF) | (go_at_call 18; refine zG ?_; clear hF hL; intro W hL hF; (((first | (with_reducible refine (Same_call HSM.out _ _ _ (HNz.out.kn hL (fun y hy => absurd hy List.not_mem_nil)) (HBN.out _ _ hL (by intro p hp; simp [hp]))).mono ?_) | (with_reducible refine (Same_call HSM.out _ _ _ (HNw.out.kn hL (fun y hy => absurd hy List.not_mem_nil)) (HBN.out _ _ hL (by intro p hp; simp [hp]))).mono ?_)))); rintro e W ⟨rfl, hb⟩; replace hL := hL.below hb; clear hb hF; have hF := hL.fx))
    refine kn_body ?_; clear hF hL; intro W hL; have hF := hL.fx
    refine bodyPost_ret (by simp [results, Tryz.results5, go_sem, *]; try rfl) rfl ?_
    exact ⟨rfl, (HWB.out.tail0 hL).below0⟩)
end Go.Proofs.YtgboffbbpmileaaGreatDoor
set_option linter.unusedVariables false
set_option linter.unusedSimpArgs false
namespace Go.Proofs.YtgboffbbpmileaaGreatDoor
open Go Go.RowKit
theorem pjoins_any (a b cm : ByteArray) (w : World) (hT : TabP w) : Calls Tryz.prog 5 #[.string a, .string b, .string cm] w fun e w' => e = .returned (.bool true) ∧ Below w.heap.size w w' := by
 by_cases h : 900 < a.size ∨ 900 < b.size ∨ 100 < cm.size ∨ (a.size ≤ 900 ∧ (a.data.toList.getLast? == some 92) = true)
 ·exact joins_big a b cm h w hT
 ·have h1 : a.size ≤ 900 := Nat.le_of_not_lt fun e => h (.inl e)
  have h2 : b.size ≤ 900 := Nat.le_of_not_lt fun e => h (.inr (.inl e))
  have h3 : cm.size ≤ 100 := Nat.le_of_not_lt fun e => h (.inr (.inr (.inl e)))
  have h4 : (a.data.toList.getLast? == some 92) = false := by
   cases e : (a.data.toList.getLast? == some 92) with
   | false => rfl
   | true => exact absurd (.inr (.inr (.inr ⟨h1, e⟩))) h
  by_cases hp : ∃ x y, parseB a.data.toList = .ok x ∧ parseB b.data.toList = .ok y
  ·obtain ⟨x, y, hx, hy⟩ := hp
   exact joins_good a b cm h1 h2 h3 h4 x y hx hy _ _ rfl rfl w hT
  ·exact joins_err a b cm h1 h2 h3 h4 hp w hT
end Go.Proofs.YtgboffbbpmileaaGreatDoor
