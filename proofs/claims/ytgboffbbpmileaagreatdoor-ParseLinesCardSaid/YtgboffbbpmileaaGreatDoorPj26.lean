/- Lemmas and walks for the law of this seat (part 26). -/
import Derived.Test.YtgboffbbpmileaaGreatDoorPj25
import Derived.Test.YtgboffbbpmileaaGreatDoorProg
import Derived.WalkKit
import Derived.Handy
import Derived.Deep.Light
import Derived.WalkSmall
import Derived.StillTailTactics
import Derived.Lib.Hide
import Derived.IntWalk
import Derived.Test.YtgboffbbpmileaaGreatDoorCards
import Derived.Test.YtgboffbbpmileaaGreatDoorTie
import Derived.ProofKit
import Derived.OpenShut
import Derived.ReadAgain
import Derived.ChangeSame
import Derived.Deep.DeepHandedRow
import Derived.Lib.LaidTab
import Derived.LaidMore
set_option maxRecDepth 20000
set_option maxHeartbeats 4000000
set_option linter.unusedVariables false
set_option linter.unusedSimpArgs false
namespace Go.Proofs.YtgboffbbpmileaaGreatDoor
open Go Go.RowKit
theorem prt_at {w : World} {ao : Option Addr} {n cap : Nat} {ps : List Prt} (h : RowK 3 w (.slice ao n cap) (ps.map ptc)) {k : Nat} {p : Prt} (hp : ps[k]? = some p) :
  ∃ g o, ao = some ⟨g, o, none⟩ ∧ g < w.heap.size ∧ w.cell? ⟨g, o + k * 3, none⟩ = some (.int .i64 p.k) ∧ w.cell? ⟨g, o + k * 3 + 1, none⟩ = some (bs p.t) ∧ w.cell? ⟨g, o + k * 3 + 2, none⟩ = some (.bool p.q) := by
 obtain ⟨ao', cap', hv, hc⟩ := h
 injection hv with h1 h2 h3
 subst h1
 obtain ⟨g, o, hg, h4⟩ := hc k (ptc p) (by simp [hp])
 have h0 := h4 0 _ rfl
 exact ⟨g, o, hg, cell_lt h0, h0, h4 1 _ rfl, h4 2 _ rfl⟩
theorem sw_is (v1 v2 : Value) (ps : List Prt) (hn : ps.length ≤ 100000) (w : World) (h1 : RowK 3 w v1 (ps.map ptc)) (h2 : RowK 3 w v2 (ps.map ptc)) : Calls Tryz.prog 34 #[v1, v2] w fun e w' => e = .returned (.bool true) ∧ Below w.heap.size w w' := by
 obtain ⟨a1, c1, rfl, _⟩ := id h1
 obtain ⟨a2, c2, rfl, _⟩ := id h2
 rw [List.length_map] at h1 h2 ⊢
 obtain ⟨n, hn1⟩ : ∃ n, ps.length = n := ⟨_, rfl⟩
 rw [hn1] at h1 h2 hn ⊢
 have hL : Kn [] w w [] := Kn.refl [] w; have hF := hL.fx; go_enter Tryz.func34, Tryz.ntmps34
 go_wp2
 go_loopw [5] (fun i wr => ∃ k : Nat, k ≤ n ∧ i = .int .i64 k ∧ Kn [] w wr []) (fun i _ => n - (intOf i).toNat)
 case atStart => exact ⟨0, by omega, rfl, hL⟩
 case round =>
  obtain ⟨k, hk, rfl, hK⟩ := hrel
  clear hL hF
  have hL := hK
  clear hK
  have hF := hL.fx
  by_cases hlt : k < n
  ·obtain ⟨p, hp⟩ : ∃ p, ps[k]? = some p := ⟨_, List.getElem?_eq_getElem (by omega)⟩
   obtain ⟨g1, o1, rfl, hg1, c10, c11, c12⟩ := prt_at h1 hp
   obtain ⟨g2, o2, rfl, hg2, c20, c21, c22⟩ := prt_at h2 hp
   obtain ⟨u, hu⟩ : ∃ u : ByteArray, bs p.t = .string u := ⟨_, rfl⟩
   rw [hu] at c11 c21
   clear hu
   go_wp2_with ((with_reducible refine at_region 6 ?_); refine zW [0, 1, 2, 3, 4, 5, 6, 7, 8] [0, 1, 2, 3, 4, 5, 6, 7, 8] [] [0, 1, 2, 4, 5, 6, 8] ?_; clear hF hL; intro ι F hne hC hG; (repeat (first | (refine cF hC ?_; intro K hK; go_big_quiet_op; go_big_quiet_on) | (refine cP ?_; intro K hK; go_big_quiet_op; go_big_quiet_on))); refine cwk_nil ?_; clear hC hG; intro W hL; have hF := hL.fx)
   exact ⟨⟨k + 1, by omega, by go_num, hL⟩, by simp [intOf]; omega⟩
  ·go_wp2
   refine bodyPost_ret (by simp [results, Tryz.results34, go_sem, *]; try rfl) rfl ?_
   exact ⟨rfl, hL.below0⟩
end Go.Proofs.YtgboffbbpmileaaGreatDoor
set_option maxRecDepth 20000
set_option maxHeartbeats 4000000
set_option linter.unusedVariables false
set_option linter.unusedSimpArgs false
namespace Go.Proofs.YtgboffbbpmileaaGreatDoor
open Go Go.RowKit
theorem NodeIs.open {Y : List Nat} {w : World} {n : Nd} {cs : List Value} (h : NodeIs Y w n cs) : ∃ (al : List ((Bytes × List Prt) × Value)) (ws : List (List Prt × Value)) (rs : List ((Int × Nat × List Prt) × Value)) (ks : List (Nd × List Value)) (va vw vr vk : Value),
  n = .mk n.kind n.name n.neg (al.map (·.1)) (ws.map (·.1)) (rs.map (·.1)) (ks.map (·.1)) ∧ cs = [.int .i64 n.kind, bs n.name, .bool n.neg, va, vw, vr, vk] ∧ RowY 2 Y w va (al.map asc) ∧ (∀ x ∈ al, PRow Y w x.2 x.1.2) ∧ RowY 1 Y w vw (ws.map fun x => [x.2]) ∧ (∀ x ∈ ws, PRow Y w x.2 x.1) ∧
  RowY 3 Y w vr (rs.map rsc) ∧ (∀ x ∈ rs, PRow Y w x.2 x.1.2.2) ∧ RowY 7 Y w vk (ks.map (·.2)) ∧ ∀ x ∈ ks, NodeIs Y w x.1 x.2 := by
 cases h with
 | mk kind name neg al ws rs ks va vw vr vk h1 h2 h3 h4 h5 h6 h7 h8 => exact ⟨al, ws, rs, ks, va, vw, vr, vk, rfl, rfl, h1, h2, h3, h4, h5, h6, h7, h8⟩
theorem NodeIs.len {Y : List Nat} {w : World} {n : Nd} {cs : List Value} (h : NodeIs Y w n cs) : cs.length = 7 := by cases h; rfl
theorem rowy_at {k : Nat} {Y : List Nat} {w : World} {a : Option Addr} {n cap : Nat} {xs : List (List Value)} (h : RowY k Y w (.slice a n cap) xs) {j : Nat} {cs : List Value} (hj : xs[j]? = some cs) : ∃ g o, a = some ⟨g, o, none⟩ ∧ g < w.heap.size ∧ ∀ (c : Nat) x, cs[c]? = some x → w.cell? ⟨g, o + j * k + c, none⟩ = some x := by
 obtain ⟨ao, c, hv, _, h2⟩ := h
 injection hv with e1 e2 e3
 subst e1
 obtain ⟨g, o, h3, _, h4, h5⟩ := h2 j cs hj
 exact ⟨g, o, h3, h4, h5⟩
theorem rowy_len {k : Nat} {Y : List Nat} {w : World} {v : Value} {xs : List (List Value)} (h : RowY k Y w v xs) : ∃ a cap, v = .slice a xs.length cap := by
 obtain ⟨ao, c, hv, _⟩ := h; exact ⟨ao, c, hv⟩
theorem fst_at {α β : Type} {l1 l2 : List (α × β)} (e : l1.map (·.1) = l2.map (·.1)) {k : Nat} (hk : k < l1.length) : ∃ a x y, l1[k]? = some (a, x) ∧ l2[k]? = some (a, y) := by
 obtain ⟨p, hp⟩ : ∃ p, l1[k]? = some p := ⟨_, List.getElem?_eq_getElem hk⟩
 have h2 := congrArg (fun l => l[k]?) e
 simp only [List.getElem?_map, hp, Option.map_some] at h2
 cases hq : l2[k]? with
 | none => rw [hq] at h2; cases h2
 | some q =>
  rw [hq] at h2
  simp only [Option.map_some, Option.some.injEq] at h2
  exact ⟨p.1, p.2, q.2, hp, by rw [h2]⟩
theorem len_of {α β : Type} {l1 l2 : List (α × β)} (e : l1.map (·.1) = l2.map (·.1)) : l1.length = l2.length := by
 have := congrArg List.length e; simpa using this
/-- What Same answers for two nodes of one tree. -/
def SameC (n : Nd) : Prop := ∀ (c1 c2 : List Value) (w : World), NodeIs [] w n c1 → NodeIs [] w n c2 → Calls Tryz.prog 18 #[.agg c1.toArray, .agg c2.toArray] w fun e w' => e = .returned (.bool true) ∧ Below w.heap.size w w'
theorem same_walk (kind : Nat) (nm : ByteArray) (neg : Bool) (na nw nr nk : Nat) (hna : na ≤ 100000) (hnw : nw ≤ 100000) (hnr : nr ≤ 100000) (hnk : nk ≤ 100000) (aa1 aa2 aw1 aw2 ar1 ar2 ak1 ak2 : Option Addr) (ca1 ca2 cw1 cw2 cr1 cr2 ck1 ck2 : Nat) (w : World)
  (HA : Hid (∀ k, k < na → ∃ (u : ByteArray) (p : List Prt) (g1 o1 : Nat) (v1 : Value) (g2 o2 : Nat) (v2 : Value), aa1 = some ⟨g1, o1, none⟩ ∧ aa2 = some ⟨g2, o2, none⟩ ∧ g1 < w.heap.size ∧ g2 < w.heap.size ∧ w.cell? ⟨g1, o1 + k * 2, none⟩ = some (.string u) ∧ w.cell? ⟨g2, o2 + k * 2, none⟩ = some (.string u) ∧ w.cell? ⟨g1, o1 + k * 2 + 1, none⟩ = some v1 ∧ w.cell? ⟨g2, o2 + k * 2 + 1, none⟩ = some v2 ∧ RowK 3 w v1 (p.map ptc) ∧ RowK 3 w v2 (p.map ptc) ∧ p.length ≤ 100000))
  (HW : Hid (∀ k, k < nw → ∃ (p : List Prt) (g1 o1 : Nat) (v1 : Value) (g2 o2 : Nat) (v2 : Value), aw1 = some ⟨g1, o1, none⟩ ∧ aw2 = some ⟨g2, o2, none⟩ ∧ g1 < w.heap.size ∧ g2 < w.heap.size ∧ w.cell? ⟨g1, o1 + k, none⟩ = some v1 ∧ w.cell? ⟨g2, o2 + k, none⟩ = some v2 ∧ RowK 3 w v1 (p.map ptc) ∧ RowK 3 w v2 (p.map ptc) ∧ p.length ≤ 100000))
  (HR : Hid (∀ k, k < nr → ∃ (fd kd : Int) (p : List Prt) (g1 o1 : Nat) (v1 : Value) (g2 o2 : Nat) (v2 : Value), ar1 = some ⟨g1, o1, none⟩ ∧ ar2 = some ⟨g2, o2, none⟩ ∧ g1 < w.heap.size ∧ g2 < w.heap.size ∧ w.cell? ⟨g1, o1 + k * 3, none⟩ = some (.int .i64 fd) ∧ w.cell? ⟨g2, o2 + k * 3, none⟩ = some (.int .i64 fd) ∧ w.cell? ⟨g1, o1 + k * 3 + 1, none⟩ = some (.int .i64 kd) ∧ w.cell? ⟨g2, o2 + k * 3 + 1, none⟩ = some (.int .i64 kd) ∧ w.cell? ⟨g1, o1 + k * 3 + 2, none⟩ = some v1 ∧ w.cell? ⟨g2, o2 + k * 3 + 2, none⟩ = some v2 ∧ RowK 3 w v1 (p.map ptc) ∧ RowK 3 w v2 (p.map ptc) ∧ p.length ≤ 100000))
  (HK : Hid (∀ k, k < nk → ∃ (g1 o1 g2 o2 : Nat) (v10 v11 v12 v13 v14 v15 v16 v20 v21 v22 v23 v24 v25 v26 : Value), ak1 = some ⟨g1, o1, none⟩ ∧ ak2 = some ⟨g2, o2, none⟩ ∧ g1 < w.heap.size ∧ g2 < w.heap.size ∧ w.cell? ⟨g1, o1 + k * 7, none⟩ = some v10 ∧ w.cell? ⟨g2, o2 + k * 7, none⟩ = some v20 ∧ w.cell? ⟨g1, o1 + k * 7 + 1, none⟩ = some v11 ∧ w.cell? ⟨g2, o2 + k * 7 + 1, none⟩ = some v21 ∧ w.cell? ⟨g1, o1 + k * 7 + 2, none⟩ = some v12 ∧ w.cell? ⟨g2, o2 + k * 7 + 2, none⟩ = some v22 ∧ w.cell? ⟨g1, o1 + k * 7 + 3, none⟩ = some v13 ∧ w.cell? ⟨g2, o2 + k * 7 + 3, none⟩ = some v23 ∧ w.cell? ⟨g1, o1 + k * 7 + 4, none⟩ = some v14 ∧ w.cell? ⟨g2, o2 + k * 7 + 4, none⟩ = some v24 ∧ w.cell? ⟨g1, o1 + k * 7 + 5, none⟩ = some v15 ∧ w.cell? ⟨g2, o2 + k * 7 + 5, none⟩ = some v25 ∧ w.cell? ⟨g1, o1 + k * 7 + 6, none⟩ = some v16 ∧ w.cell? ⟨g2, o2 + k * 7 + 6, none⟩ = some v26 ∧ ∀ (W : World) {L : List (Nat × Obj)}, Kn [] w W L → Calls Tryz.prog 18 #[.agg #[v10, v11, v12, v13, v14, v15, v16], .agg #[v20, v21, v22, v23, v24, v25, v26]] W fun e w' => e = .returned (.bool true) ∧ Below W.heap.size W w')) :
  Calls Tryz.prog 18 #[.agg #[.int .i64 (kind : Int), .string nm, .bool neg, .slice aa1 na ca1, .slice aw1 nw cw1, .slice ar1 nr cr1, .slice ak1 nk ck1], .agg #[.int .i64 (kind : Int), .string nm, .bool neg, .slice aa2 na ca2, .slice aw2 nw cw2, .slice ar2 nr cr2, .slice ak2 nk ck2]] w fun e w' => e = .returned (.bool true) ∧ Below w.heap.size w w' := by
 have hL : Kn [] w w [] := Kn.refl [] w; have hF := hL.fx; go_enter Tryz.func18, Tryz.ntmps18
 go_wp2
 go_loopw [5] (fun i wr => ∃ k : Nat, k ≤ na ∧ i = .int .i64 k ∧ Kn [] w wr [(w.heap.size + 1, (.cells #[.int .i64 (kind : Int), .string nm, .bool neg, .slice aa2 na ca2, .slice aw2 nw cw2, .slice ar2 nr cr2, .slice ak2 nk ck2] 41 (0, 0))), (w.heap.size, (.cells #[.int .i64 (kind : Int), .string nm, .bool neg, .slice aa1 na ca1, .slice aw1 nw cw1, .slice ar1 nr cr1, .slice ak1 nk ck1] 41 (0, 0)))]) (fun i _ => na - (intOf i).toNat)
 case atStart => exact ⟨0, by omega, rfl, kn_here⟩
 case round =>
  obtain ⟨k, hk, rfl, hK⟩ := hrel
  clear hL hF
  have hL := hK
  clear hK
  have hF := hL.fx
  by_cases hlt : k < na
  ·obtain ⟨u, p, g1, o1, v1, g2, o2, v2, rfl, rfl, hg1, hg2, c10, c20, c11, c21, hq1, hq2, hpn⟩ := HA.out k hlt
   have HQ1 := Lib.hid hq1
   have HQ2 := Lib.hid hq2
   have HPN := Lib.hid hpn
   clear hq1 hq2 hpn
   go_wp2_with (first | ((with_reducible refine zS ?_); clear hL; intro W hL hF) | ((with_reducible refine at_region 6 ?_); refine zW [0, 1, 2, 3, 4, 5, 6, 7, 8, 9, 10, 11, 12, 13, 14, 15, 16, 17, 18, 19, 20, 21, 22, 23, 24, 25, 26, 27, 28] [0, 1, 2, 3, 4, 5, 6, 7, 8, 9, 10, 11, 12, 13, 14, 15, 16, 17, 18, 19, 20, 21, 22, 23, 24, 25, 27, 28] [26] [0, 2, 3, 4, 6, 8, 9, 10, 12, 13, 14, 16, 17, 18, 20, 22, 23, 24, 27, 28] ?_; clear hF hL; intro ι F hne hC hG; (repeat (first | (refine cS ?_) | (refine cF hC ?_; intro K hK; go_big_quiet_op; go_big_quiet_on) | (refine cP ?_; intro K hK; go_big_quiet_op; go_big_quiet_on) | (refine cC ?_; intro W hL; have hF := hL.fx; simp only [zA, Act.eval]; go_at_call 34; (with_reducible refine (sw_is _ _ _ HPN.out _ (HQ1.out.kn hL (by simp)) (HQ2.out.kn hL (by simp))).mono ?_); rintro e W ⟨rfl, hb⟩; replace hL := hL.below hb; clear hb hF; have hF := hL.fx; refine zB ?_; clear hL hF hC hG; intro ι F hne hC hG; simp only [Act.put, zT]) | (refine cN ?_; intro W hL; have hF := hL.facts; go_wp2; refine zB2 ?_; clear hL hC hG; intro ι F hne hC hG))); refine cwk_nil ?_; clear hC hG; intro W hL; have hF := hL.fx))
   exact ⟨⟨k + 1, by omega, by go_num, hL⟩, by simp [intOf]; omega⟩
  ·go_wp2
   go_loopw [6] (fun i wr => ∃ k : Nat, k ≤ nw ∧ i = .int .i64 k ∧ Kn [] w wr [(w.heap.size + 1, (.cells #[.int .i64 (kind : Int), .string nm, .bool neg, .slice aa2 na ca2, .slice aw2 nw cw2, .slice ar2 nr cr2, .slice ak2 nk ck2] 41 (0, 0))), (w.heap.size, (.cells #[.int .i64 (kind : Int), .string nm, .bool neg, .slice aa1 na ca1, .slice aw1 nw cw1, .slice ar1 nr cr1, .slice ak1 nk ck1] 41 (0, 0)))]) (fun i _ => nw - (intOf i).toNat)
   case atStart => exact ⟨0, by omega, rfl, hL⟩
   case round =>
    obtain ⟨k, hk, rfl, hK⟩ := hrel
    clear hL hF
    have hL := hK
    clear hK
    have hF := hL.fx
    by_cases hlt : k < nw
    ·obtain ⟨p, g1, o1, v1, g2, o2, v2, rfl, rfl, hg1, hg2, c10, c20, hq1, hq2, hpn⟩ := HW.out k hlt
     have HQ1 := Lib.hid hq1
     have HQ2 := Lib.hid hq2
     have HPN := Lib.hid hpn
     clear hq1 hq2 hpn
     go_wp2_with (first | ((with_reducible refine zS ?_); clear hL; intro W hL hF) | ((with_reducible refine at_region 11 ?_); refine zW [0, 1, 2, 3, 4, 5, 6, 7, 8, 9, 10, 11] [0, 1, 2, 3, 4, 5, 6, 7, 8, 9, 11] [10] [0, 2, 3, 5, 7, 8, 11] ?_; clear hF hL; intro ι F hne hC hG; (repeat (first | (refine cS ?_) | (refine cF hC ?_; intro K hK; go_big_quiet_op; go_big_quiet_on) | (refine cP ?_; intro K hK; go_big_quiet_op; go_big_quiet_on) | (refine cC ?_; intro W hL; have hF := hL.fx; simp only [zA, Act.eval]; go_at_call 34; (with_reducible refine (sw_is _ _ _ HPN.out _ (HQ1.out.kn hL (by simp)) (HQ2.out.kn hL (by simp))).mono ?_); rintro e W ⟨rfl, hb⟩; replace hL := hL.below hb; clear hb hF; have hF := hL.fx; refine zB ?_; clear hL hF hC hG; intro ι F hne hC hG; simp only [Act.put, zT]) | (refine cN ?_; intro W hL; have hF := hL.facts; go_wp2; refine zB2 ?_; clear hL hC hG; intro ι F hne hC hG))); refine cwk_nil ?_; clear hC hG; intro W hL; have hF := hL.fx))
     exact ⟨⟨k + 1, by omega, by go_num, hL⟩, by simp [intOf]; omega⟩
    ·go_wp2
     go_loopw [7] (fun i wr => ∃ k : Nat, k ≤ nr ∧ i = .int .i64 k ∧ Kn [] w wr [(w.heap.size + 1, (.cells #[.int .i64 (kind : Int), .string nm, .bool neg, .slice aa2 na ca2, .slice aw2 nw cw2, .slice ar2 nr cr2, .slice ak2 nk ck2] 41 (0, 0))), (w.heap.size, (.cells #[.int .i64 (kind : Int), .string nm, .bool neg, .slice aa1 na ca1, .slice aw1 nw cw1, .slice ar1 nr cr1, .slice ak1 nk ck1] 41 (0, 0)))]) (fun i _ => nr - (intOf i).toNat)
     case atStart => exact ⟨0, by omega, rfl, hL⟩
     case round =>
      obtain ⟨k, hk, rfl, hK⟩ := hrel
      clear hL hF
      have hL := hK
      clear hK
      have hF := hL.fx
      by_cases hlt : k < nr
      ·obtain ⟨fd, kd, p, g1, o1, v1, g2, o2, v2, rfl, rfl, hg1, hg2, c10, c20, c11, c21, c12, c22, hq1, hq2, hpn⟩ := HR.out k hlt
       have HQ1 := Lib.hid hq1
       have HQ2 := Lib.hid hq2
       have HPN := Lib.hid hpn
       clear hq1 hq2 hpn
       go_wp2_with (first | ((with_reducible refine zS ?_); clear hL; intro W hL hF) | ((with_reducible refine at_region 16 ?_); refine zW [0, 1, 2, 3, 4, 5, 6, 7, 8, 9, 10, 11, 12, 13, 14, 15, 16, 17, 18, 19, 20, 21, 22, 23, 24, 25, 26, 27, 28, 29, 30, 31, 32, 33, 34, 35, 36, 37, 38, 39, 40, 41, 42, 43] [0, 1, 2, 3, 4, 5, 6, 7, 8, 9, 10, 11, 12, 13, 14, 15, 16, 17, 18, 19, 20, 21, 22, 23, 24, 25, 26, 27, 28, 29, 30, 31, 32, 33, 34, 35, 36, 37, 38, 39, 40, 42, 43] [41] [0, 2, 3, 4, 6, 8, 9, 10, 12, 13, 14, 16, 17, 18, 20, 22, 23, 24, 26, 27, 28, 29, 31, 32, 33, 35, 37, 38, 39, 42, 43] ?_; clear hF hL; intro ι F hne hC hG; (repeat (first | (refine cS ?_) | (refine cF hC ?_; intro K hK; go_big_quiet_op; go_big_quiet_on) | (refine cP ?_; intro K hK; go_big_quiet_op; go_big_quiet_on) | (refine cC ?_; intro W hL; have hF := hL.fx; simp only [zA, Act.eval]; go_at_call 34; (with_reducible refine (sw_is _ _ _ HPN.out _ (HQ1.out.kn hL (by simp)) (HQ2.out.kn hL (by simp))).mono ?_); rintro e W ⟨rfl, hb⟩; replace hL := hL.below hb; clear hb hF; have hF := hL.fx; refine zB ?_; clear hL hF hC hG; intro ι F hne hC hG; simp only [Act.put, zT]) | (refine cN ?_; intro W hL; have hF := hL.facts; go_wp2; refine zB2 ?_; clear hL hC hG; intro ι F hne hC hG))); refine cwk_nil ?_; clear hC hG; intro W hL; have hF := hL.fx))
       exact ⟨⟨k + 1, by omega, by go_num, hL⟩, by simp [intOf]; omega⟩
      ·go_wp2
       go_loopw [8] (fun i wr => ∃ k : Nat, k ≤ nk ∧ i = .int .i64 k ∧ Kn [] w wr [(w.heap.size + 1, (.cells #[.int .i64 (kind : Int), .string nm, .bool neg, .slice aa2 na ca2, .slice aw2 nw cw2, .slice ar2 nr cr2, .slice ak2 nk ck2] 41 (0, 0))), (w.heap.size, (.cells #[.int .i64 (kind : Int), .string nm, .bool neg, .slice aa1 na ca1, .slice aw1 nw cw1, .slice ar1 nr cr1, .slice ak1 nk ck1] 41 (0, 0)))]) (fun i _ => nk - (intOf i).toNat)
       case atStart => exact ⟨0, by omega, rfl, hL⟩
       case round =>
        obtain ⟨k, hk, rfl, hK⟩ := hrel
        clear hL hF
        have hL := hK
        clear hK
        have hF := hL.fx
        by_cases hlt : k < nk
        ·obtain ⟨g1, o1, g2, o2, v10, v11, v12, v13, v14, v15, v16, v20, v21, v22, v23, v24, v25, v26, rfl, rfl, hg1, hg2, c10, c20, c11, c21, c12, c22, c13, c23, c14, c24, c15, c25, c16, c26, hC9⟩ := HK.out k hlt
         have HC9 := Lib.hid hC9
         clear hC9
         go_wp2_with (first | ((with_reducible refine zS ?_); clear hL; intro W hL hF) | ((with_reducible refine at_region 21 ?_); refine zW [0, 1, 2, 3, 4, 5, 6, 7, 8, 9, 10, 11] [0, 1, 2, 3, 4, 5, 6, 7, 8, 9, 11] [10] [0, 2, 3, 5, 7, 8, 11] ?_; clear hF hL; intro ι F hne hC hG; (repeat (first | (refine cS ?_) | (refine cF hC ?_; intro K hK; go_big_quiet_op; go_big_quiet_on) | (refine cP ?_; intro K hK; go_big_quiet_op; go_big_quiet_on) | (refine cC ?_; intro W hL; have hF := hL.fx; simp only [zA, Act.eval]; go_at_call 18; (with_reducible refine (HC9.out _ hL).mono ?_); rintro e W ⟨rfl, hb⟩; replace hL := hL.below hb; clear hb hF; have hF := hL.fx; refine zB ?_; clear hL hF hC hG; intro ι F hne hC hG; simp only [Act.put, zT]) | (refine cN ?_; intro W hL; have hF := hL.facts; go_wp2; refine zB2 ?_; clear hL hC hG; intro ι F hne hC hG))); refine cwk_nil ?_; clear hC hG; intro W hL; have hF := hL.fx))
         exact ⟨⟨k + 1, by omega, by go_num, hL⟩, by simp [intOf]; omega⟩
        ·go_wp2
         refine bodyPost_ret (by simp [results, Tryz.results18, go_sem, *]; try rfl) rfl ?_
         exact ⟨rfl, hL.below0⟩
end Go.Proofs.YtgboffbbpmileaaGreatDoor
set_option linter.unusedVariables false
set_option linter.unusedSimpArgs false
namespace Go.Proofs.YtgboffbbpmileaaGreatDoor
open Go Go.RowKit
theorem Sm.mono {N M : Nat} (hm : N ≤ M) {n : Nd} (h : Sm N n) : Sm M n := by
 induction h with
 | mk k n g a w r l h1 h2 h3 h4 h5 h6 h7 h8 ih => exact .mk k n g a w r l (by omega) (fun x hx => by have := h2 x hx; omega) (by omega) (fun x hx => by have := h4 x hx; omega) (by omega) (fun x hx => by have := h6 x hx; omega) (by omega) ih
theorem list7 {l : List Value} (h : l.length = 7) : ∃ a b c d e f g, l = [a, b, c, d, e, f, g] := by
 match l, h with
 | [a, b, c, d, e, f, g], _ => exact ⟨a, b, c, d, e, f, g, rfl⟩
theorem same_is : ∀ (m : Nat) (n : Nd), SizeOf.sizeOf n < m → Sm 100000 n → SameC n
 | 0, n, h, _ => absurd h (Nat.not_lt_zero _)
 | m + 1, n, hm, hs => fun c1 c2 w h1 h2 => by
  obtain ⟨al1, ws1, rs1, ks1, va1, vw1, vr1, vk1, hn1, rfl, ra1, pa1, rw1, pw1, rr1, pr1, rk1, nk1⟩ := h1.open
  obtain ⟨al2, ws2, rs2, ks2, va2, vw2, vr2, vk2, hn2, rfl, ra2, pa2, rw2, pw2, rr2, pr2, rk2, nk2⟩ := h2.open
  cases hs with
  | mk kind name neg asg ws rs kids s1 s2 s3 s4 s5 s6 s7 s8 =>
  injection hn1 with _ _ _ ea1 ew1 er1 ek1
  injection hn2 with _ _ _ ea2 ew2 er2 ek2
  subst ea1 ew1 er1 ek1
  have la := len_of ea2
  have lw := len_of ew2
  have lr := len_of er2
  have lk := len_of ek2
  rw [List.length_map] at s1 s3 s5 s7
  obtain ⟨aa1, ca1, rfl⟩ := rowy_len ra1
  obtain ⟨aa2, ca2, rfl⟩ := rowy_len ra2
  obtain ⟨aw1, cw1, rfl⟩ := rowy_len rw1
  obtain ⟨aw2, cw2, rfl⟩ := rowy_len rw2
  obtain ⟨ar1, cr1, rfl⟩ := rowy_len rr1
  obtain ⟨ar2, cr2, rfl⟩ := rowy_len rr2
  obtain ⟨ak1, ck1, rfl⟩ := rowy_len rk1
  obtain ⟨ak2, ck2, rfl⟩ := rowy_len rk2
  simp only [List.length_map, ← la, ← lw, ← lr, ← lk] at ra1 ra2 rw1 rw2 rr1 rr2 rk1 rk2 ⊢
  refine same_walk kind ⟨name.toArray⟩ neg al1.length ws1.length rs1.length ks1.length s1 s3 s5 s7 aa1 aa2 aw1 aw2 ar1 ar2 ak1 ak2 ca1 ca2 cw1 cw2 cr1 cr2 ck1 ck2 w (Lib.hid fun k hk => ?_) (Lib.hid fun k hk => ?_) (Lib.hid fun k hk => ?_) (Lib.hid fun k hk => ?_)
  ·obtain ⟨a, x, y, h3, h4⟩ := fst_at ea2 hk
   obtain ⟨g1, o1, e1, l1, f1⟩ := rowy_at ra1 (j := k) (cs := asc (a, x)) (by rw [List.getElem?_map, h3]; rfl)
   obtain ⟨g2, o2, e2, l2, f2⟩ := rowy_at ra2 (j := k) (cs := asc (a, y)) (by rw [List.getElem?_map, h4]; rfl)
   exact ⟨⟨a.1.toArray⟩, a.2, g1, o1, x, g2, o2, y, e1, e2, l1, l2, f1 0 _ rfl, f2 0 _ rfl, f1 1 _ rfl, f2 1 _ rfl, RowY.rowk (pa1 _ (List.mem_of_getElem? h3)), RowY.rowk (pa2 _ (List.mem_of_getElem? h4)), s2 a (List.mem_map.2 ⟨_, List.mem_of_getElem? h3, rfl⟩)⟩
  ·obtain ⟨a, x, y, h3, h4⟩ := fst_at ew2 hk
   obtain ⟨g1, o1, e1, l1, f1⟩ := rowy_at rw1 (j := k) (cs := [x]) (by rw [List.getElem?_map, h3]; rfl)
   obtain ⟨g2, o2, e2, l2, f2⟩ := rowy_at rw2 (j := k) (cs := [y]) (by rw [List.getElem?_map, h4]; rfl)
   have f1 := f1 0 _ rfl
   have f2 := f2 0 _ rfl
   rw [Nat.mul_one] at f1 f2
   exact ⟨a, g1, o1, x, g2, o2, y, e1, e2, l1, l2, f1, f2, RowY.rowk (pw1 _ (List.mem_of_getElem? h3)), RowY.rowk (pw2 _ (List.mem_of_getElem? h4)), s4 a (List.mem_map.2 ⟨_, List.mem_of_getElem? h3, rfl⟩)⟩
  ·obtain ⟨a, x, y, h3, h4⟩ := fst_at er2 hk
   obtain ⟨g1, o1, e1, l1, f1⟩ := rowy_at rr1 (j := k) (cs := rsc (a, x)) (by rw [List.getElem?_map, h3]; rfl)
   obtain ⟨g2, o2, e2, l2, f2⟩ := rowy_at rr2 (j := k) (cs := rsc (a, y)) (by rw [List.getElem?_map, h4]; rfl)
   exact ⟨a.1, (a.2.1 : Nat), a.2.2, g1, o1, x, g2, o2, y, e1, e2, l1, l2, f1 0 _ rfl, f2 0 _ rfl, f1 1 _ rfl, f2 1 _ rfl, f1 2 _ rfl, f2 2 _ rfl, RowY.rowk (pr1 _ (List.mem_of_getElem? h3)), RowY.rowk (pr2 _ (List.mem_of_getElem? h4)), s6 a (List.mem_map.2 ⟨_, List.mem_of_getElem? h3, rfl⟩)⟩
  ·obtain ⟨a, x, y, h3, h4⟩ := fst_at ek2 hk
   obtain ⟨g1, o1, e1, l1, f1⟩ := rowy_at rk1 (j := k) (cs := x) (by rw [List.getElem?_map, h3]; rfl)
   obtain ⟨g2, o2, e2, l2, f2⟩ := rowy_at rk2 (j := k) (cs := y) (by rw [List.getElem?_map, h4]; rfl)
   have hx := nk1 _ (List.mem_of_getElem? h3)
   have hy := nk2 _ (List.mem_of_getElem? h4)
   have hak : a ∈ ks1.map (·.1) := List.mem_map.2 ⟨_, List.mem_of_getElem? h3, rfl⟩
   have hlt := List.sizeOf_lt_of_mem hak
   obtain ⟨a0, a1, a2, a3, a4, a5, a6, rfl⟩ := list7 hx.len
   obtain ⟨b0, b1, b2, b3, b4, b5, b6, rfl⟩ := list7 hy.len
   exact ⟨g1, o1, g2, o2, a0, a1, a2, a3, a4, a5, a6, b0, b1, b2, b3, b4, b5, b6, e1, e2, l1, l2, f1 0 _ rfl, f2 0 _ rfl, f1 1 _ rfl, f2 1 _ rfl, f1 2 _ rfl, f2 2 _ rfl, f1 3 _ rfl, f2 3 _ rfl, f1 4 _ rfl, f2 4 _ rfl, f1 5 _ rfl, f2 5 _ rfl, f1 6 _ rfl, f2 6 _ rfl, fun W L hK => same_is m a (by simp only [Nd.mk.sizeOf_spec] at hm; omega) (s8 a hak) _ _ W (hx.kn hK (by simp)) (hy.kn hK (by simp))⟩
/-- Same of two trees that stand for one node. -/
theorem Same_is {n : Nd} (hs : Sm 100000 n) : SameC n := same_is (SizeOf.sizeOf n + 1) n (Nat.lt_succ_self _) hs
end Go.Proofs.YtgboffbbpmileaaGreatDoor
set_option maxRecDepth 20000
set_option maxHeartbeats 4000000
set_option linter.unusedVariables false
set_option linter.unusedSimpArgs false
namespace Go.Proofs.YtgboffbbpmileaaGreatDoor
open Go Go.RowKit
theorem ndf0 (kz : Int) (nm : ByteArray) (ng : Bool) (aa : Option Addr) (na : Nat) (ca : Nat) (aw : Option Addr) (nw : Nat) (cw : Nat) (ar : Option Addr) (nr : Nat) (cr : Nat) (ak : Option Addr) (nk : Nat) (ck : Nat) : ∀ w : World, (Instr.field 41 (.agg #[.int .i64 kz, .string nm, .bool ng, .slice aa na ca, .slice aw nw cw, .slice ar nr cr, .slice ak nk ck]) 0).run Tryz.prog w = .ok (.int .i64 kz) w := fun _ => by kernel_rfl
theorem ndf6 (kz : Int) (nm : ByteArray) (ng : Bool) (aa : Option Addr) (na : Nat) (ca : Nat) (aw : Option Addr) (nw : Nat) (cw : Nat) (ar : Option Addr) (nr : Nat) (cr : Nat) (ak : Option Addr) (nk : Nat) (ck : Nat) : ∀ w : World, (Instr.field 41 (.agg #[.int .i64 kz, .string nm, .bool ng, .slice aa na ca, .slice aw nw cw, .slice ar nr cr, .slice ak nk ck]) 6).run Tryz.prog w = .ok (.slice ak nk ck) w := fun _ => by kernel_rfl
theorem NodeIs.ext {w w' : World} {n : Nd} {cs : List Value} (h : NodeIs [] w n cs) (k : Below w.heap.size w w') : NodeIs [] w' n cs :=
 h.kn (L := []) ⟨k.os, k.tape, k.output, k.size, fun b hb _ => k.block b hb, fun p hp => absurd hp List.not_mem_nil, fun p hp => absurd hp List.not_mem_nil, List.nodup_nil⟩ (fun y hy => absurd hy List.not_mem_nil)
/-- What a kid's node is. -/
def KidIs (y : Nd) (kz : Int) (nm : ByteArray) (ng : Bool) (na nw nr nk : Nat) : Prop := (y.kind : Int) = kz ∧ y.name = nm.data.toList ∧ y.neg = ng ∧ y.asg.length = na ∧ y.ws.length = nw ∧ y.rs.length = nr ∧ y.kids.length = nk
theorem node_vals {Y : List Nat} {w : World} {n : Nd} {cs : List Value} (h : NodeIs Y w n cs) {kz : Int} {nm : ByteArray} {ng : Bool} {na nw nr nk : Nat} (hk : KidIs n kz nm ng na nw nr nk) : ∃ (aa : Option Addr) (ca : Nat) (aw : Option Addr) (cw : Nat) (ar : Option Addr) (cr : Nat) (ak : Option Addr) (ck : Nat), cs = [.int .i64 kz, .string nm, .bool ng, .slice aa na ca, .slice aw nw cw, .slice ar nr cr, .slice ak nk ck] := by
 obtain ⟨al, ws, rs, ks, va, vw, vr, vk, hn, rfl, h1, _, h3, _, h5, _, h7, _⟩ := h.open
 obtain ⟨e1, e2, e3, e4, e5, e6, e7⟩ := hk
 obtain ⟨a1, c1, rfl⟩ := rowy_len h1
 obtain ⟨a2, c2, rfl⟩ := rowy_len h3
 obtain ⟨a3, c3, rfl⟩ := rowy_len h5
 obtain ⟨a4, c4, rfl⟩ := rowy_len h7
 rw [hn] at e4 e5 e6 e7
 simp only [Nd.asg, Nd.ws, Nd.rs, Nd.kids, List.length_map] at e4 e5 e6 e7
 refine ⟨a1, c1, a2, c2, a3, c3, a4, c4, ?_⟩
 rw [e1, e3, show bs n.name = .string nm by rw [e2]; exact bs_list nm]
 simp only [List.length_map, e4, e5, e6, e7]
theorem Kn.wk {X : List Nat} {w0 W : World} {L : List (Nat × Obj)} (h : Kn [] w0 W L) : Kn X w0 W L :=
 ⟨h.os, h.tape, h.output, h.size, fun b hb _ => h.block b hb List.not_mem_nil, fun p hp => (h.own p hp).imp id fun e => absurd e List.not_mem_nil, h.has, h.nd⟩
theorem NodeIs.extY {Y : List Nat} {w w' : World} {n : Nd} {cs : List Value} (h : NodeIs Y w n cs) (k : Below w.heap.size w w') : NodeIs Y w' n cs :=
 h.kn (L := []) ⟨k.os, k.tape, k.output, k.size, fun b hb _ => k.block b hb, fun p hp => absurd hp List.not_mem_nil, fun p hp => absurd hp List.not_mem_nil, List.nodup_nil⟩ (fun y hy => .inl hy)
/-- A node, behind a call that made memory alone. -/
theorem NodeIs.next2 {F F' : List (Nat × Obj)} {wb wc w : World} {n : Nd} {cs : List Value} (h : NodeIs (keys F) wb n cs) (k : Kn (keys F) wb wc F') (hb : Below wc.heap.size wc w) : NodeIs (keys F') w n cs := (h.next k).extY hb
theorem keys_typed {X : List Nat} {w0 W : World} {F : List (Nat × Obj)} (h : Kn X w0 W F) (ht : ∀ p ∈ F, ∃ c, p.2 = .cells c 41 (0, 0)) : ∀ y ∈ keys F, ∃ c, W.heap[y]? = some (.cells c 41 (0, 0)) := fun y hy => by
 obtain ⟨p, hp, rfl⟩ := List.mem_map.1 hy
 obtain ⟨c, hc⟩ := ht p hp
 exact ⟨c, by rw [h.has p hp, hc]⟩
theorem kid_row {Y : List Nat} {w : World} {n : Nd} {v0 v1 v2 v3 v4 v5 : Value} {ak : Option Addr} {nk ck : Nat} (h : NodeIs Y w n [v0, v1, v2, v3, v4, v5, .slice ak nk ck]) {i : Nat} {y : Nd} (hy : n.kids[i]? = some y) : ∃ g o ds, ak = some ⟨g, o, none⟩ ∧ g < w.heap.size ∧ i < nk ∧ (∀ (c : Nat) x, ds[c]? = some x → w.cell? ⟨g, o + i * 7 + c, none⟩ = some x) ∧ NodeIs Y w y ds := by
 obtain ⟨al, ws, rs, ks, va, vw, vr, vk, hn, hcs, h1, _, h3, _, h5, _, h7, h8⟩ := h.open
 simp only [List.cons.injEq, and_true] at hcs
 obtain ⟨_, _, _, _, _, _, rfl⟩ := hcs
 rw [hn] at hy
 simp only [Nd.kids, List.getElem?_map] at hy
 obtain ⟨p, hp, rfl⟩ := Option.map_eq_some_iff.1 hy
 obtain ⟨g, o, e, hl, hc⟩ := rowy_at h7 (j := i) (cs := p.2) (by rw [List.getElem?_map, hp]; rfl)
 obtain ⟨a9, c9, hv⟩ := rowy_len h7
 injection hv with _ hv _
 rw [List.length_map] at hv
 exact ⟨g, o, p.2, e, hl, by rw [hv]; exact (List.getElem?_eq_some_iff.1 hp).1, hc, h8 p (List.mem_of_getElem? hp)⟩
theorem kid_c (n : Nd) (kz : Int) (nm : ByteArray) (ng : Bool) (aa : Option Addr) (na : Nat) (ca : Nat) (aw : Option Addr) (nw : Nat) (cw : Nat) (ar : Option Addr) (nr : Nat) (cr : Nat) (ak : Option Addr) (nk : Nat) (ck : Nat) (i : Nat) (iz : Int) (hiz : iz = (i : Int)) (y : Nd) (kz2 : Int) (nm2 : ByteArray) (ng2 : Bool) (na2 nw2 nr2 nk2 : Nat) (w : World) (Y : List Nat) (h : NodeIs Y w n [.int .i64 kz, .string nm, .bool ng, .slice aa na ca, .slice aw nw cw, .slice ar nr cr, .slice ak nk ck]) (hy : n.kids[i]? = some y) (hk : KidIs y kz2 nm2 ng2 na2 nw2 nr2 nk2) :
  Calls Tryz.prog 19 #[.agg #[.int .i64 kz, .string nm, .bool ng, .slice aa na ca, .slice aw nw cw, .slice ar nr cr, .slice ak nk ck], .int .i64 iz] w fun e w' => ∃ (aa2 : Option Addr) (ca2 : Nat) (aw2 : Option Addr) (cw2 : Nat) (ar2 : Option Addr) (cr2 : Nat) (ak2 : Option Addr) (ck2 : Nat), e = .returned (.agg #[.int .i64 kz2, .string nm2, .bool ng2, .slice aa2 na2 ca2, .slice aw2 nw2 cw2, .slice ar2 nr2 cr2, .slice ak2 nk2 ck2]) ∧ Hid (NodeIs Y w' y [.int .i64 kz2, .string nm2, .bool ng2, .slice aa2 na2 ca2, .slice aw2 nw2 cw2, .slice ar2 nr2 cr2, .slice ak2 nk2 ck2]) ∧ Below w.heap.size w w' := by
 subst hiz
 obtain ⟨g, o, ds, rfl, hg, hik, hc, hn⟩ := kid_row h hy
 obtain ⟨aa2, ca2, aw2, cw2, ar2, cr2, ak2, ck2, rfl⟩ := node_vals hn hk
 have HN := Lib.hid hn
 have q0 := hc 0 _ rfl
 have q1 := hc 1 _ rfl
 have q2 := hc 2 _ rfl
 have q3 := hc 3 _ rfl
 have q4 := hc 4 _ rfl
 have q5 := hc 5 _ rfl
 have q6 := hc 6 _ rfl
 rw [Nat.add_zero] at q0
 have s1 : decide ((i : Int) < 0) = false := decide_eq_false (by omega)
 have s2 : decide ((nk : Int) ≤ (i : Int)) = false := decide_eq_false (by omega)
 have s3 : ¬ (i : Int) < 0 := by omega
 have s4 : ¬ (nk : Int) ≤ (i : Int) := by omega
 have s5 : decide (nk ≤ i) = false := decide_eq_false (by omega)
 clear hc hn h hy hk
 have hL : Kn [] w w [] := Kn.refl [] w; have hF := hL.fx; go_enter Tryz.func19, Tryz.ntmps19
 go_wp2
 refine kn_body ?_; clear hF hL; intro W hL; have hF := hL.fx
 refine bodyPost_ret (by simp [results, Tryz.results19, go_sem, *]; try rfl) rfl ?_
 exact ⟨aa2, ca2, aw2, cw2, ar2, cr2, ak2, ck2, rfl, Lib.hid (HN.out.kn hL.wk (fun y hy => .inl hy)), hL.below0⟩
end Go.Proofs.YtgboffbbpmileaaGreatDoor
set_option maxRecDepth 20000
set_option maxHeartbeats 4000000
set_option linter.unusedVariables false
set_option linter.unusedSimpArgs false
namespace Go.Proofs.YtgboffbbpmileaaGreatDoor
open Go Go.RowKit
theorem parse_ok_c (src : ByteArray) (hs : src.size ≤ 8000) (l : List Nd) (n : Nat) (hp : parseB src.data.toList = .ok l) (hn : l.length = n) (W : World) (hT : TabP W) : Calls Tryz.prog 13 #[.string src] W fun e w' => ∃ (aa : Option Addr) (ca : Nat) (aw : Option Addr) (cw : Nat) (ar : Option Addr) (cr : Nat) (ak : Option Addr) (ck : Nat), e = .returned (.tuple #[.agg #[.int .i64 4, .string ⟨#[]⟩, .bool false, .slice aa 0 ca, .slice aw 0 cw, .slice ar 0 cr, .slice ak n ck], .int .i64 0, .int .i64 0]) ∧ Hid (∀ Y : List Nat, (∀ y ∈ Y, ∃ c, W.heap[y]? = some (.cells c 41 (0, 0))) → NodeIs Y w' (.mk 4 [] false [] [] [] l) [.int .i64 4, .string ⟨#[]⟩, .bool false, .slice aa 0 ca, .slice aw 0 cw, .slice ar 0 cr, .slice ak n ck]) ∧ Below W.heap.size W w' :=
 (Parse_is src hs W hT).mono fun e w' h => by
  obtain ⟨h1, h2⟩ := h
  rw [hp] at h2
  obtain ⟨nm, aa, na, ca, aw, nw, cw, ar, nr, cr, ak, nk, ck, rfl, h3⟩ := h2
  have h4 := h3 [] (fun y hy => absurd hy List.not_mem_nil)
  obtain ⟨aa9, ca9, aw9, cw9, ar9, cr9, ak9, ck9, h5⟩ := node_vals h4 (kz := 4) (nm := ⟨#[]⟩) (ng := false) (na := 0) (nw := 0) (nr := 0) (nk := n) ⟨rfl, rfl, rfl, rfl, rfl, rfl, hn⟩
  simp only [List.cons.injEq, and_true, Value.slice.injEq, Value.string.injEq] at h5
  obtain ⟨-, rfl, -, ⟨rfl, rfl, rfl⟩, ⟨rfl, rfl, rfl⟩, ⟨rfl, rfl, rfl⟩, rfl, rfl, rfl⟩ := h5
  exact ⟨_, _, _, _, _, _, _, _, rfl, Lib.hid h3, h1⟩
theorem parse_err_c (src : ByteArray) (hs : src.size ≤ 8000) (f : Bool) (m : Nat) (ec : Int) (hp : parseB src.data.toList = .err f m) (he : (if f = true then (6 : Int) else 27) = ec) (W : World) (hT : TabP W) : Calls Tryz.prog 13 #[.string src] W fun e w' => e = .returned (.tuple #[.agg #[.int .i64 0, .string ⟨#[]⟩, .bool false, .slice none 0 0, .slice none 0 0, .slice none 0 0, .slice none 0 0], .int .i64 ec, .int .i64 (m : Int)]) ∧ Below W.heap.size W w' :=
 (Parse_is src hs W hT).mono fun e w' h => by
  obtain ⟨h1, h2⟩ := h
  rw [hp] at h2
  exact ⟨by rw [← he]; exact h2, h1⟩
theorem small35 (w : World) (hT : TabP w) : Calls Tryz.prog 16 #[] w fun e w' => e = .returned (.bool true) ∧ Below w.heap.size w w' := by
 have HT := Lib.hid hT
 clear hT
 have hf0 := ndf0
 have hf6 := ndf6
 have HPa := Lib.hid (fun W => parse_ok_c (⟨#[97, 32, 124, 32, 98, 32, 38, 38, 32, 99, 32, 38]⟩ : ByteArray) (by decide) _ 1 ex0_is rfl W)
 have HPb := Lib.hid (fun W => parse_ok_c (⟨#[120, 61, 49, 32, 121, 61, 36, 122, 32, 99, 109, 100, 32, 120, 61, 50, 32, 62, 111, 117, 116, 32, 50, 62, 38, 49]⟩ : ByteArray) (by decide) _ 1 ex1_is rfl W)
 have HPc := Lib.hid (fun W => parse_ok_c (⟨#[102, 40, 41, 32, 123, 32, 97, 59, 32, 125]⟩ : ByteArray) (by decide) _ 1 ex2_is rfl W)
 have HP3 := Lib.hid (fun W => parse_err_c (⟨#[105, 102, 32, 97, 59, 32, 116, 104, 101, 110, 32, 98]⟩ : ByteArray) (by decide) false 1 27 ex3_is rfl W)
 have HP4 := Lib.hid (fun W => parse_err_c (⟨#[97, 32, 124, 124]⟩ : ByteArray) (by decide) false 1 27 ex4_is rfl W)
 have HP5 := Lib.hid (fun W => parse_err_c (⟨#[40, 32, 41]⟩ : ByteArray) (by decide) false 1 27 ex5_is rfl W)
 have HP6 := Lib.hid (fun W => parse_err_c (⟨#[102, 105]⟩ : ByteArray) (by decide) false 1 27 ex6_is rfl W)
 have HWB : Hid (Kn [] w w []) := Lib.hid (Kn.refl [] w)
 have hL := HWB.out.self0
 have hF := hL.fx
 go_enter Tryz.func16, Tryz.ntmps16
 go_upto_region 8 with (first | (go_at_call 13; refine zG ?_; clear hF hL; intro W hL hF; (with_reducible refine (HPa.out _ (HT.out.ext (HWB.out.tail0 hL).below0)).mono ?_); rintro e W2 ⟨aaa, caa, awa, cwa, ara, cra, aka, cka, rfl, HNY, hb⟩; have HNa := Lib.hid (HNY.out _ (keys_typed hL (by simp))); clear HNY; replace hL := hL.below hb; clear hb hF; have hF := hL.fx; have HWB2 := Lib.hid (HWB.out.tail0 hL); clear hL; clear HWB; have HWB := HWB2; clear HWB2; have hL := HWB.out.self0; clear hF; have hF := hL.fx) | (go_at_call 13; refine zG ?_; clear hF hL; intro W hL hF; (with_reducible refine (HPb.out _ (HT.out.ext (HWB.out.tail0 hL).below0)).mono ?_); rintro e W2 ⟨aab, cab, awb, cwb, arb, crb, akb, ckb, rfl, HNY, hb⟩; have HNb := Lib.hid (HNY.out _ (keys_typed hL (by simp))); clear HNY; replace HNa := Lib.hid (HNa.out.next2 hL hb); replace hL := hL.below hb; clear hb hF; have hF := hL.fx; have HWB2 := Lib.hid (HWB.out.tail0 hL); clear hL; clear HWB; have HWB := HWB2; clear HWB2; have hL := HWB.out.self0; clear hF; have hF := hL.fx) | (go_at_call 13; refine zG ?_; clear hF hL; intro W hL hF; (with_reducible refine (HPc.out _ (HT.out.ext (HWB.out.tail0 hL).below0)).mono ?_); rintro e W2 ⟨aac, cac, awc, cwc, arc, crc, akc, ckc, rfl, HNY, hb⟩; have HNc := Lib.hid (HNY.out _ (keys_typed hL (by simp))); clear HNY; replace HNa := Lib.hid (HNa.out.next2 hL hb); replace HNb := Lib.hid (HNb.out.next2 hL hb); replace hL := hL.below hb; clear hb hF; have hF := hL.fx; have HWB2 := Lib.hid (HWB.out.tail0 hL); clear hL; clear HWB; have HWB := HWB2; clear HWB2; have hL := HWB.out.self0; clear hF; have hF := hL.fx) | (go_at_call 13; refine zG ?_; clear hF hL; intro W hL hF; (with_reducible refine (HP3.out _ (HT.out.ext (HWB.out.tail0 hL).below0)).mono ?_); rintro e W2 ⟨rfl, hb⟩; replace HNa := Lib.hid (HNa.out.next2 hL hb); replace HNb := Lib.hid (HNb.out.next2 hL hb); replace HNc := Lib.hid (HNc.out.next2 hL hb); replace hL := hL.below hb; clear hb hF; have hF := hL.fx; have HWB2 := Lib.hid (HWB.out.tail0 hL); clear hL; clear HWB; have HWB := HWB2; clear HWB2; have hL := HWB.out.self0; clear hF; have hF := hL.fx) | (go_at_call 13; refine zG ?_; clear hF hL; intro W hL hF; (with_reducible refine (HP4.out _ (HT.out.ext (HWB.out.tail0 hL).below0)).mono ?_); rintro e W2 ⟨rfl, hb⟩; replace HNa := Lib.hid (HNa.out.next2 hL hb); replace HNb := Lib.hid (HNb.out.next2 hL hb); replace HNc := Lib.hid (HNc.out.next2 hL hb); replace hL := hL.below hb; clear hb hF; have hF := hL.fx; have HWB2 := Lib.hid (HWB.out.tail0 hL); clear hL; clear HWB; have HWB := HWB2; clear HWB2; have hL := HWB.out.self0; clear hF; have hF := hL.fx) | (go_at_call 13; refine zG ?_; clear hF hL; intro W hL hF; (with_reducible refine (HP5.out _ (HT.out.ext (HWB.out.tail0 hL).below0)).mono ?_); rintro e W2 ⟨rfl, hb⟩; replace HNa := Lib.hid (HNa.out.next2 hL hb); replace HNb := Lib.hid (HNb.out.next2 hL hb); replace HNc := Lib.hid (HNc.out.next2 hL hb); replace hL := hL.below hb; clear hb hF; have hF := hL.fx; have HWB2 := Lib.hid (HWB.out.tail0 hL); clear hL; clear HWB; have HWB := HWB2; clear HWB2; have hL := HWB.out.self0; clear hF; have hF := hL.fx) | (go_at_call 13; refine zG ?_; clear hF hL; intro W hL hF; (with_reducible refine (HP6.out _ (HT.out.ext (HWB.out.tail0 hL).below0)).mono ?_); rintro e W2 ⟨rfl, hb⟩; replace HNa := Lib.hid (HNa.out.next2 hL hb); replace HNb := Lib.hid (HNb.out.next2 hL hb); replace HNc := Lib.hid (HNc.out.next2 hL hb); replace hL := hL.below hb; clear hb hF; have hF := hL.fx; have HWB2 := Lib.hid (HWB.out.tail0 hL); clear hL; clear HWB; have HWB := HWB2; clear HWB2; have hL := HWB.out.self0; clear hF; have hF := hL.fx))
 refine kn_wp ?_; clear hF hL; intro W hL; have hF := hL.fx
 have H00 : Hid ((0 : Int) = ((0 : Nat) : Int)) := Lib.hid rfl
 have KH3 : Hid (((.mk 4 [] false [] [] [] [(.mk 1 [] false [] [] [] [.mk 0 [] false [([120], [⟨0, [49], false⟩]), ([121], [⟨1, [122], false⟩])] [[⟨0, [99, 109, 100], false⟩], [⟨0, [120, 61, 50], false⟩]] [(1, 1, [⟨0, [111, 117, 116], false⟩]), (2, 3, [⟨0, [49], false⟩])] []] : Nd)] : Nd)).kids[0]? = some (.mk 1 [] false [] [] [] [.mk 0 [] false [([120], [⟨0, [49], false⟩]), ([121], [⟨1, [122], false⟩])] [[⟨0, [99, 109, 100], false⟩], [⟨0, [120, 61, 50], false⟩]] [(1, 1, [⟨0, [111, 117, 116], false⟩]), (2, 3, [⟨0, [49], false⟩])] []] : Nd)) := Lib.hid rfl
 have KI3 : Hid (KidIs (.mk 1 [] false [] [] [] [.mk 0 [] false [([120], [⟨0, [49], false⟩]), ([121], [⟨1, [122], false⟩])] [[⟨0, [99, 109, 100], false⟩], [⟨0, [120, 61, 50], false⟩]] [(1, 1, [⟨0, [111, 117, 116], false⟩]), (2, 3, [⟨0, [49], false⟩])] []] : Nd) 1 ⟨#[]⟩ false 0 0 0 1) := Lib.hid ⟨rfl, rfl, rfl, rfl, rfl, rfl, rfl⟩
 have KH4 : Hid (((.mk 1 [] false [] [] [] [.mk 0 [] false [([120], [⟨0, [49], false⟩]), ([121], [⟨1, [122], false⟩])] [[⟨0, [99, 109, 100], false⟩], [⟨0, [120, 61, 50], false⟩]] [(1, 1, [⟨0, [111, 117, 116], false⟩]), (2, 3, [⟨0, [49], false⟩])] []] : Nd)).kids[0]? = some (.mk 0 [] false [([120], [⟨0, [49], false⟩]), ([121], [⟨1, [122], false⟩])] [[⟨0, [99, 109, 100], false⟩], [⟨0, [120, 61, 50], false⟩]] [(1, 1, [⟨0, [111, 117, 116], false⟩]), (2, 3, [⟨0, [49], false⟩])] [] : Nd)) := Lib.hid rfl
 have KI4 : Hid (KidIs (.mk 0 [] false [([120], [⟨0, [49], false⟩]), ([121], [⟨1, [122], false⟩])] [[⟨0, [99, 109, 100], false⟩], [⟨0, [120, 61, 50], false⟩]] [(1, 1, [⟨0, [111, 117, 116], false⟩]), (2, 3, [⟨0, [49], false⟩])] [] : Nd) 0 ⟨#[]⟩ false 2 2 2 0) := Lib.hid ⟨rfl, rfl, rfl, rfl, rfl, rfl, rfl⟩
 have KH5 : Hid (((.mk 4 [] false [] [] [] [(.mk 5 [] false [] [] [] [.mk 2 [] false [] [] [] [.mk 1 [] false [] [] [] [.mk 0 [] false [] [[⟨0, [97], false⟩]] [] [], .mk 0 [] false [] [[⟨0, [98], false⟩]] [] []], .mk 1 [] false [] [] [] [.mk 0 [] false [] [[⟨0, [99], false⟩]] [] []]]] : Nd)] : Nd)).kids[0]? = some (.mk 5 [] false [] [] [] [.mk 2 [] false [] [] [] [.mk 1 [] false [] [] [] [.mk 0 [] false [] [[⟨0, [97], false⟩]] [] [], .mk 0 [] false [] [[⟨0, [98], false⟩]] [] []], .mk 1 [] false [] [] [] [.mk 0 [] false [] [[⟨0, [99], false⟩]] [] []]]] : Nd)) := Lib.hid rfl
 have KI5 : Hid (KidIs (.mk 5 [] false [] [] [] [.mk 2 [] false [] [] [] [.mk 1 [] false [] [] [] [.mk 0 [] false [] [[⟨0, [97], false⟩]] [] [], .mk 0 [] false [] [[⟨0, [98], false⟩]] [] []], .mk 1 [] false [] [] [] [.mk 0 [] false [] [[⟨0, [99], false⟩]] [] []]]] : Nd) 5 ⟨#[]⟩ false 0 0 0 1) := Lib.hid ⟨rfl, rfl, rfl, rfl, rfl, rfl, rfl⟩
 have KH6 : Hid (((.mk 5 [] false [] [] [] [.mk 2 [] false [] [] [] [.mk 1 [] false [] [] [] [.mk 0 [] false [] [[⟨0, [97], false⟩]] [] [], .mk 0 [] false [] [[⟨0, [98], false⟩]] [] []], .mk 1 [] false [] [] [] [.mk 0 [] false [] [[⟨0, [99], false⟩]] [] []]]] : Nd)).kids[0]? = some (.mk 2 [] false [] [] [] [.mk 1 [] false [] [] [] [.mk 0 [] false [] [[⟨0, [97], false⟩]] [] [], .mk 0 [] false [] [[⟨0, [98], false⟩]] [] []], .mk 1 [] false [] [] [] [.mk 0 [] false [] [[⟨0, [99], false⟩]] [] []]] : Nd)) := Lib.hid rfl
 have KI6 : Hid (KidIs (.mk 2 [] false [] [] [] [.mk 1 [] false [] [] [] [.mk 0 [] false [] [[⟨0, [97], false⟩]] [] [], .mk 0 [] false [] [[⟨0, [98], false⟩]] [] []], .mk 1 [] false [] [] [] [.mk 0 [] false [] [[⟨0, [99], false⟩]] [] []]] : Nd) 2 ⟨#[]⟩ false 0 0 0 2) := Lib.hid ⟨rfl, rfl, rfl, rfl, rfl, rfl, rfl⟩
 have KH7 : Hid (((.mk 2 [] false [] [] [] [.mk 1 [] false [] [] [] [.mk 0 [] false [] [[⟨0, [97], false⟩]] [] [], .mk 0 [] false [] [[⟨0, [98], false⟩]] [] []], .mk 1 [] false [] [] [] [.mk 0 [] false [] [[⟨0, [99], false⟩]] [] []]] : Nd)).kids[0]? = some (.mk 1 [] false [] [] [] [.mk 0 [] false [] [[⟨0, [97], false⟩]] [] [], .mk 0 [] false [] [[⟨0, [98], false⟩]] [] []] : Nd)) := Lib.hid rfl
 have KI7 : Hid (KidIs (.mk 1 [] false [] [] [] [.mk 0 [] false [] [[⟨0, [97], false⟩]] [] [], .mk 0 [] false [] [[⟨0, [98], false⟩]] [] []] : Nd) 1 ⟨#[]⟩ false 0 0 0 2) := Lib.hid ⟨rfl, rfl, rfl, rfl, rfl, rfl, rfl⟩
 have KH8 : Hid (((.mk 4 [] false [] [] [] [(.mk 1 [] false [] [] [] [.mk 14 [102] false [] [] [] [.mk 7 [] false [] [] [] [.mk 4 [] false [] [] [] [.mk 1 [] false [] [] [] [.mk 0 [] false [] [[⟨0, [97], false⟩]] [] []]]]]] : Nd)] : Nd)).kids[0]? = some (.mk 1 [] false [] [] [] [.mk 14 [102] false [] [] [] [.mk 7 [] false [] [] [] [.mk 4 [] false [] [] [] [.mk 1 [] false [] [] [] [.mk 0 [] false [] [[⟨0, [97], false⟩]] [] []]]]]] : Nd)) := Lib.hid rfl
 have KI8 : Hid (KidIs (.mk 1 [] false [] [] [] [.mk 14 [102] false [] [] [] [.mk 7 [] false [] [] [] [.mk 4 [] false [] [] [] [.mk 1 [] false [] [] [] [.mk 0 [] false [] [[⟨0, [97], false⟩]] [] []]]]]] : Nd) 1 ⟨#[]⟩ false 0 0 0 1) := Lib.hid ⟨rfl, rfl, rfl, rfl, rfl, rfl, rfl⟩
 have KH9 : Hid (((.mk 1 [] false [] [] [] [.mk 14 [102] false [] [] [] [.mk 7 [] false [] [] [] [.mk 4 [] false [] [] [] [.mk 1 [] false [] [] [] [.mk 0 [] false [] [[⟨0, [97], false⟩]] [] []]]]]] : Nd)).kids[0]? = some (.mk 14 [102] false [] [] [] [.mk 7 [] false [] [] [] [.mk 4 [] false [] [] [] [.mk 1 [] false [] [] [] [.mk 0 [] false [] [[⟨0, [97], false⟩]] [] []]]]] : Nd)) := Lib.hid rfl
 have KI9 : Hid (KidIs (.mk 14 [102] false [] [] [] [.mk 7 [] false [] [] [] [.mk 4 [] false [] [] [] [.mk 1 [] false [] [] [] [.mk 0 [] false [] [[⟨0, [97], false⟩]] [] []]]]] : Nd) 14 ⟨#[102]⟩ false 0 0 0 1) := Lib.hid ⟨rfl, rfl, rfl, rfl, rfl, rfl, rfl⟩
 have KH10 : Hid (((.mk 14 [102] false [] [] [] [.mk 7 [] false [] [] [] [.mk 4 [] false [] [] [] [.mk 1 [] false [] [] [] [.mk 0 [] false [] [[⟨0, [97], false⟩]] [] []]]]] : Nd)).kids[0]? = some (.mk 7 [] false [] [] [] [.mk 4 [] false [] [] [] [.mk 1 [] false [] [] [] [.mk 0 [] false [] [[⟨0, [97], false⟩]] [] []]]] : Nd)) := Lib.hid rfl
 have KI10 : Hid (KidIs (.mk 7 [] false [] [] [] [.mk 4 [] false [] [] [] [.mk 1 [] false [] [] [] [.mk 0 [] false [] [[⟨0, [97], false⟩]] [] []]]] : Nd) 7 ⟨#[]⟩ false 0 0 0 1) := Lib.hid ⟨rfl, rfl, rfl, rfl, rfl, rfl, rfl⟩
 go_wp2_with (first | (go_at_call 19; refine zG ?_; clear hF hL; intro W hL hF; (with_reducible refine (kid_c _ _ _ _ _ _ _ _ _ _ _ _ _ _ _ _ 0 0 H00.out (.mk 1 [] false [] [] [] [.mk 0 [] false [([120], [⟨0, [49], false⟩]), ([121], [⟨1, [122], false⟩])] [[⟨0, [99, 109, 100], false⟩], [⟨0, [120, 61, 50], false⟩]] [(1, 1, [⟨0, [111, 117, 116], false⟩]), (2, 3, [⟨0, [49], false⟩])] []] : Nd) 1 ⟨#[]⟩ false 0 0 0 1 _ _ (HNb.out.next hL) KH3.out KI3.out).mono ?_); rintro e W2 ⟨aa3, ca3, aw3, cw3, ar3, cr3, ak3, ck3, rfl, HNK, hb⟩; have HN3 := HNK; clear HNK; replace HNa := Lib.hid (HNa.out.next2 hL hb); replace HNb := Lib.hid (HNb.out.next2 hL hb); replace HNc := Lib.hid (HNc.out.next2 hL hb); replace hL := hL.below hb; clear hb hF; have hF := hL.fx; have HWB2 := Lib.hid (HWB.out.tail0 hL); clear hL; clear HWB; have HWB := HWB2; clear HWB2; have hL := HWB.out.self0; clear hF; have hF := hL.fx) | (go_at_call 19; refine zG ?_; clear hF hL; intro W hL hF; (with_reducible refine (kid_c _ _ _ _ _ _ _ _ _ _ _ _ _ _ _ _ 0 0 H00.out (.mk 0 [] false [([120], [⟨0, [49], false⟩]), ([121], [⟨1, [122], false⟩])] [[⟨0, [99, 109, 100], false⟩], [⟨0, [120, 61, 50], false⟩]] [(1, 1, [⟨0, [111, 117, 116], false⟩]), (2, 3, [⟨0, [49], false⟩])] [] : Nd) 0 ⟨#[]⟩ false 2 2 2 0 _ _ (HN3.out.next hL) KH4.out KI4.out).mono ?_); rintro e W2 ⟨aa4, ca4, aw4, cw4, ar4, cr4, ak4, ck4, rfl, HNK, hb⟩; have HN4 := HNK; clear HNK; replace HNa := Lib.hid (HNa.out.next2 hL hb); replace HNb := Lib.hid (HNb.out.next2 hL hb); replace HNc := Lib.hid (HNc.out.next2 hL hb); replace HN3 := Lib.hid (HN3.out.next2 hL hb); replace hL := hL.below hb; clear hb hF; have hF := hL.fx; have HWB2 := Lib.hid (HWB.out.tail0 hL); clear hL; clear HWB; have HWB := HWB2; clear HWB2; have hL := HWB.out.self0; clear hF; have hF := hL.fx) | (go_at_call 19; refine zG ?_; clear hF hL; intro W hL hF; (with_reducible refine (kid_c _ _ _ _ _ _ _ _ _ _ _ _ _ _ _ _ 0 0 H00.out (.mk 5 [] false [] [] [] [.mk 2 [] false [] [] [] [.mk 1 [] false [] [] [] [.mk 0 [] false [] [[⟨0, [97], false⟩]] [] [], .mk 0 [] false [] [[⟨0, [98], false⟩]] [] []], .mk 1 [] false [] [] [] [.mk 0 [] false [] [[⟨0, [99], false⟩]] [] []]]] : Nd) 5 ⟨#[]⟩ false 0 0 0 1 _ _ (HNa.out.next hL) KH5.out KI5.out).mono ?_); rintro e W2 ⟨aa5, ca5, aw5, cw5, ar5, cr5, ak5, ck5, rfl, HNK, hb⟩; have HN5 := HNK; clear HNK; replace HNa := Lib.hid (HNa.out.next2 hL hb); replace HNb := Lib.hid (HNb.out.next2 hL hb); replace HNc := Lib.hid (HNc.out.next2 hL hb); replace HN3 := Lib.hid (HN3.out.next2 hL hb); replace HN4 := Lib.hid (HN4.out.next2 hL hb); (try replace HN6 := Lib.hid (HN6.out.next2 hL hb)); replace hL := hL.below hb; clear hb hF; have hF := hL.fx; have HWB2 := Lib.hid (HWB.out.tail0 hL); clear hL; clear HWB; have HWB := HWB2; clear HWB2; have hL := HWB.out.self0; clear hF; have hF := hL.fx) | (go_at_call 19; refine zG ?_; clear hF hL; intro W hL hF; (with_reducible refine (kid_c _ _ _ _ _ _ _ _ _ _ _ _ _ _ _ _ 0 0 H00.out (.mk 2 [] false [] [] [] [.mk 1 [] false [] [] [] [.mk 0 [] false [] [[⟨0, [97], false⟩]] [] [], .mk 0 [] false [] [[⟨0, [98], false⟩]] [] []], .mk 1 [] false [] [] [] [.mk 0 [] false [] [[⟨0, [99], false⟩]] [] []]] : Nd) 2 ⟨#[]⟩ false 0 0 0 2 _ _ (HN5.out.next hL) KH6.out KI6.out).mono ?_); rintro e W2 ⟨aa6, ca6, aw6, cw6, ar6, cr6, ak6, ck6, rfl, HNK, hb⟩; have HN6 := HNK; clear HNK; replace HNa := Lib.hid (HNa.out.next2 hL hb); replace HNb := Lib.hid (HNb.out.next2 hL hb); replace HNc := Lib.hid (HNc.out.next2 hL hb); replace HN3 := Lib.hid (HN3.out.next2 hL hb); replace HN4 := Lib.hid (HN4.out.next2 hL hb); replace HN5 := Lib.hid (HN5.out.next2 hL hb); replace hL := hL.below hb; clear hb hF; have hF := hL.fx; have HWB2 := Lib.hid (HWB.out.tail0 hL); clear hL; clear HWB; have HWB := HWB2; clear HWB2; have hL := HWB.out.self0; clear hF; have hF := hL.fx) | (go_at_call 19; refine zG ?_; clear hF hL; intro W hL hF; (with_reducible refine (kid_c _ _ _ _ _ _ _ _ _ _ _ _ _ _ _ _ 0 0 H00.out (.mk 1 [] false [] [] [] [.mk 0 [] false [] [[⟨0, [97], false⟩]] [] [], .mk 0 [] false [] [[⟨0, [98], false⟩]] [] []] : Nd) 1 ⟨#[]⟩ false 0 0 0 2 _ _ (HN6.out.next hL) KH7.out KI7.out).mono ?_); rintro e W2 ⟨aa7, ca7, aw7, cw7, ar7, cr7, ak7, ck7, rfl, HNK, hb⟩; have HN7 := HNK; clear HNK; replace HNa := Lib.hid (HNa.out.next2 hL hb); replace HNb := Lib.hid (HNb.out.next2 hL hb); replace HNc := Lib.hid (HNc.out.next2 hL hb); replace HN3 := Lib.hid (HN3.out.next2 hL hb); replace HN4 := Lib.hid (HN4.out.next2 hL hb); replace HN5 := Lib.hid (HN5.out.next2 hL hb); replace HN6 := Lib.hid (HN6.out.next2 hL hb); replace hL := hL.below hb; clear hb hF; have hF := hL.fx; have HWB2 := Lib.hid (HWB.out.tail0 hL); clear hL; clear HWB; have HWB := HWB2; clear HWB2; have hL := HWB.out.self0; clear hF; have hF := hL.fx) | (go_at_call 19; refine zG ?_; clear hF hL; intro W hL hF; (with_reducible refine (kid_c _ _ _ _ _ _ _ _ _ _ _ _ _ _ _ _ 0 0 H00.out (.mk 1 [] false [] [] [] [.mk 14 [102] false [] [] [] [.mk 7 [] false [] [] [] [.mk 4 [] false [] [] [] [.mk 1 [] false [] [] [] [.mk 0 [] false [] [[⟨0, [97], false⟩]] [] []]]]]] : Nd) 1 ⟨#[]⟩ false 0 0 0 1 _ _ (HNc.out.next hL) KH8.out KI8.out).mono ?_); rintro e W2 ⟨aa8, ca8, aw8, cw8, ar8, cr8, ak8, ck8, rfl, HNK, hb⟩; have HN8 := HNK; clear HNK; replace HNa := Lib.hid (HNa.out.next2 hL hb); replace HNb := Lib.hid (HNb.out.next2 hL hb); replace HNc := Lib.hid (HNc.out.next2 hL hb); replace HN3 := Lib.hid (HN3.out.next2 hL hb); replace HN4 := Lib.hid (HN4.out.next2 hL hb); replace HN5 := Lib.hid (HN5.out.next2 hL hb); replace HN6 := Lib.hid (HN6.out.next2 hL hb); replace HN7 := Lib.hid (HN7.out.next2 hL hb); replace hL := hL.below hb; clear hb hF; have hF := hL.fx; have HWB2 := Lib.hid (HWB.out.tail0 hL); clear hL; clear HWB; have HWB := HWB2; clear HWB2; have hL := HWB.out.self0; clear hF; have hF := hL.fx) | (go_at_call 19; refine zG ?_; clear hF hL; intro W hL hF; (with_reducible refine (kid_c _ _ _ _ _ _ _ _ _ _ _ _ _ _ _ _ 0 0 H00.out (.mk 14 [102] false [] [] [] [.mk 7 [] false [] [] [] [.mk 4 [] false [] [] [] [.mk 1 [] false [] [] [] [.mk 0 [] false [] [[⟨0, [97], false⟩]] [] []]]]] : Nd) 14 ⟨#[102]⟩ false 0 0 0 1 _ _ (HN8.out.next hL) KH9.out KI9.out).mono ?_); rintro e W2 ⟨aa9, ca9, aw9, cw9, ar9, cr9, ak9, ck9, rfl, HNK, hb⟩; have HN9 := HNK; clear HNK; replace HNa := Lib.hid (HNa.out.next2 hL hb); replace HNb := Lib.hid (HNb.out.next2 hL hb); replace HNc := Lib.hid (HNc.out.next2 hL hb); replace HN3 := Lib.hid (HN3.out.next2 hL hb); replace HN4 := Lib.hid (HN4.out.next2 hL hb); replace HN5 := Lib.hid (HN5.out.next2 hL hb); replace HN6 := Lib.hid (HN6.out.next2 hL hb); replace HN7 := Lib.hid (HN7.out.next2 hL hb); replace HN8 := Lib.hid (HN8.out.next2 hL hb); replace hL := hL.below hb; clear hb hF; have hF := hL.fx; have HWB2 := Lib.hid (HWB.out.tail0 hL); clear hL; clear HWB; have HWB := HWB2; clear HWB2; have hL := HWB.out.self0; clear hF; have hF := hL.fx) | (go_at_call 19; refine zG ?_; clear hF hL; intro W hL hF; (with_reducible refine (kid_c _ _ _ _ _ _ _ _ _ _ _ _ _ _ _ _ 0 0 H00.out (.mk 7 [] false [] [] [] [.mk 4 [] false [] [] [] [.mk 1 [] false [] [] [] [.mk 0 [] false [] [[⟨0, [97], false⟩]] [] []]]] : Nd) 7 ⟨#[]⟩ false 0 0 0 1 _ _ (HN9.out.next hL) KH10.out KI10.out).mono ?_); rintro e W2 ⟨aa10, ca10, aw10, cw10, ar10, cr10, ak10, ck10, rfl, HNK, hb⟩; have HN10 := HNK; clear HNK; replace HNa := Lib.hid (HNa.out.next2 hL hb); replace HNb := Lib.hid (HNb.out.next2 hL hb); replace HNc := Lib.hid (HNc.out.next2 hL hb); replace HN3 := Lib.hid (HN3.out.next2 hL hb); replace HN4 := Lib.hid (HN4.out.next2 hL hb); replace HN5 := Lib.hid (HN5.out.next2 hL hb); replace HN6 := Lib.hid (HN6.out.next2 hL hb); replace HN7 := Lib.hid (HN7.out.next2 hL hb); replace HN8 := Lib.hid (HN8.out.next2 hL hb); replace HN9 := Lib.hid (HN9.out.next2 hL hb); replace hL := hL.below hb; clear hb hF; have hF := hL.fx; have HWB2 := Lib.hid (HWB.out.tail0 hL); clear hL; clear HWB; have HWB := HWB2; clear HWB2; have hL := HWB.out.self0; clear hF; have hF := hL.fx))
 refine kn_body ?_; clear hF hL; intro W hL; have hF := hL.fx
 refine bodyPost_ret (by simp [results, Tryz.results16, go_sem, *]; try rfl) rfl ?_
 exact ⟨rfl, (HWB.out.tail0 hL).below0⟩
end Go.Proofs.YtgboffbbpmileaaGreatDoor
/- From a law's contract ('it returns true, and what was in memory before is as it was') to its row and its card: arguments read again as they read before, whatever their types; a struct of integers opened cell by cell; a table of strings. -/
set_option linter.unusedVariables false
set_option linter.unusedSimpArgs false
namespace Go.Proofs.YtgboffbbpmileaaGreatDoor
open Go Go.ChangeShapes Go.WideShapes Go.ChangeAt Go.RowKit
section
variable {H : Type} {enc : TypeId × Value → H} {P : Program}
theorem trodAll_carry {w w' : World} {base : Nat} {sp : Nat → Bool} {held : Bool} : ∀ {ts : List TypeId} {vs : List Value} {ds : List (DataW H)} {ps : List MemPlace},
  DataW.TrodAll enc P w base sp held ts vs ds ps → (∀ p ∈ ps, w.sameAt w' p) → DataW.TrodAll enc P w' base sp held ts vs ds ps
 | [], [], [], _, h, _ => h
 | _ :: _, _ :: _, _ :: _, _, ⟨p, q, ⟨n, h1⟩, h2, e⟩, hs =>
  ⟨p, q, ⟨n, DataW.trod_carry n _ _ _ h1 (fun x hx => hs x (by rw [e]; exact List.mem_append_left _ hx))⟩, trodAll_carry h2 (fun x hx => hs x (by rw [e]; exact List.mem_append_right _ hx)), e⟩
/-- What a law's row asks, out of its contract. -/
theorem law_post {f : Func} {s : ChangeSpec} {W W' : World} {args : Array Value} {ds gs : List (DataW H)} {before : List MemPlace} {tb : TypeId}
  (K : Kids P (· < P.types.size)) (hz : ∀ t e, t < P.types.size → P.underlying t = some (.slice e) → 0 < P.cellsOf e) (hpar : ∀ t ∈ f.params.toList, t < P.types.size)
  (hvars0 : s.vars = []) (hrt : f.resultTypes = #[tb]) (htb : P.underlying tb = some .bool)
  (hW : DataW.Whole enc P f.params.toList s.vars false W args.toList ds gs before)
  (hf1 : (s.fn H (ds ++ gs)).results = [.lit (.bool true)]) (hf2 : (s.fn H (ds ++ gs)).args = ds) (hf3 : (s.fn H (ds ++ gs)).vars = [])
  (hb : Below W.heap.size W W') : s.post enc P f false true false false W args (.bool true) W' := by
 have hlt : ∀ p ∈ before, p.block < W.heap.size := fun p hp => hW.lt p hp
 have hold : ∀ p ∈ before, (fun b => decide (b < W.heap.size)) p.block = true := fun p hp => by simpa using hlt p hp
 have hW' := hW
 obtain ⟨p, q, hA, hV, hbef, hfz, hnd⟩ := hW
 rw [hvars0] at hV
 obtain ⟨hg, hq⟩ := trodVars_none hV
 subst hg; subst hq
 simp only [List.append_nil] at hbef hf1 hf2 hf3 hW'
 subst hbef
 have hargs : ∀ sp : Nat → Bool, (∀ x ∈ before, sp x.block = true) → DataW.TrodAll enc P W' 0 sp true f.params.toList args.toList ds before := fun sp hsp =>
  trodAll_carry (DataW.TrodAll.respare K hz hpar hA hsp) (fun x hx => hb.same (hlt x hx))
 have hres : ∀ (b : Nat) (sp : Nat → Bool) (hd : Bool), DataW.TrodAll enc P W' b sp hd f.resultTypes.toList ((Value.bool true).resultList f.resultTypes.size) [.lit (.bool true)] [] := fun b sp hd => by
  rw [hrt]
  exact trodAll_cons_mk (shut_bool htb _) trodAll_mk0
 have hvv : ∀ sp : Nat → Bool, DataW.TrodVars enc P W' sp s.vars (s.fn H (ds ++ [])).vars [] := fun sp => by
  rw [hvars0, List.append_nil, hf3]
  rfl
 refine ⟨ds, [], before, [], before, [], by exact hW', ?_, ?_, hvv _, World.keptBut_mono (fun x hx => ⟨hx, Or.inr (Or.inl hx)⟩) (hb.frame (· ∈ before)), fun h => (by cases h)⟩
 ·rw [List.append_nil, hf1]; exact hres _ _ _
 ·rw [List.append_nil, hf2]; exact hargs _ hold
end
end Go.Proofs.YtgboffbbpmileaaGreatDoor
/- The variables that a row lists, one after the other: tables of numbers, tables of strings. -/
set_option linter.unusedVariables false
set_option linter.unusedSimpArgs false
namespace Go.Proofs.YtgboffbbpmileaaGreatDoor
open Go Go.ChangeShapes Go.WideShapes Go.ChangeAt Go.RowKit
section
variable {P : Program} {W : World} {name : String} {rest : List (String × DataW Unit)} {g : Nat} {t e : TypeId} {n : Nat} {ps : List MemPlace}
theorem laid_tab {k : IntKind} {zs : List Int} (hg : P.globalNamed name = some g) (hty : (P.globals[g]?).map (·.type) = some t) (ht : P.underlying t = some (.array n e)) (he : P.underlying e = some (.int k)) (hce : P.cellsOf e = 1) (hct : P.cellsOf t = n)
  (h : DataW.LaidVars P W ((name, Lib.tabData k zs) :: rest) ps) : Lib.TabIs P W name k zs ∧ ∃ qs, DataW.LaidVars P W rest qs := by
 obtain ⟨g', t', cs, fuel, p, q, hg', ht', hvar, hd, hr, _⟩ := h
 obtain rfl := Option.some.inj (hg.symm.trans hg')
 obtain rfl := Option.some.inj (hty.symm.trans ht')
 refine ⟨?_, q, hr⟩
 unfold Lib.TabIs
 rw [hvar, ← Lib.cells_of_tab ht he hce hct hd]
theorem laid_skip {d : DataW Unit} (h : DataW.LaidVars P W ((name, d) :: rest) ps) : ∃ qs, DataW.LaidVars P W rest qs := by
 obtain ⟨g', t', cs, fuel, p, q, hg', ht', hvar, hd, hr, _⟩ := h
 exact ⟨q, hr⟩
theorem laid_iface {nm : String} {d : DataW Unit} {ms : Array (String × TypeId)} (hg : P.globalNamed name = some g) (hty : (P.globals[g]?).map (·.type) = some t) (ht : P.underlying t = some (.interface ms))
  (h : DataW.LaidVars P W ((name, .iface nm d) :: rest) ps) : (∃ u v, W.var? P name = some #[.iface u v]) ∧ ∃ qs, DataW.LaidVars P W rest qs := by
 obtain ⟨g', t', cs, fuel, p, q, hg', ht', hvar, hd, hr, _⟩ := h
 obtain rfl := Option.some.inj (hg.symm.trans hg')
 obtain rfl := Option.some.inj (hty.symm.trans ht')
 obtain ⟨_, u, v, hc, _⟩ := iface_of_trod ht hd
 refine ⟨⟨u, v, ?_⟩, q, hr⟩
 rw [hvar]; congr 1
 rw [← Array.toArray_toList (xs := cs), hc]
end
end Go.Proofs.YtgboffbbpmileaaGreatDoor
/- A listed variable that holds a slice of strings. -/
set_option linter.unusedVariables false
set_option linter.unusedSimpArgs false
namespace Go.Proofs.YtgboffbbpmileaaGreatDoor
open Go Go.ChangeShapes Go.WideShapes Go.ChangeAt Go.RowKit
section
variable {P : Program} {W : World} {name : String} {rest : List (String × DataW Unit)} {g : Nat} {t e : TypeId} {n : Nat} {ps : List MemPlace}
theorem laid_sslice {ss : List (List UInt8)} (hg : P.globalNamed name = some g) (hty : (P.globals[g]?).map (·.type) = some t) (ht : P.underlying t = some (.slice e)) (he : P.underlying e = some .string) (hce : P.cellsOf e = 1) (hne : ss ≠ [])
  (h : DataW.LaidVars P W ((name, .slice (ss.map fun s => .lit (.string s)) []) :: rest) ps) : (∃ cg co cc, W.cell? ⟨g, 0, none⟩ = some (.slice (some ⟨cg, co, none⟩) ss.length cc) ∧ ss.length ≤ cc ∧ ∀ (j : Nat) s, ss[j]? = some s → W.cell? ⟨cg, co + j, none⟩ = some (.string ⟨s.toArray⟩)) ∧ ∃ qs, DataW.LaidVars P W rest qs := by
 obtain ⟨g', t', cs, fuel, p, q, hg', ht', hvar, hd, hr, _⟩ := h
 obtain rfl := Option.some.inj (hg.symm.trans hg')
 obtain rfl := Option.some.inj (hty.symm.trans ht')
 obtain ⟨a, cap, hcs, hle, hel⟩ := open_row ht hce hd
 rw [List.length_map] at hcs hle
 have key : ∀ (j : Nat) s, ss[j]? = some s → W.cell? (a.add j) = some (.string ⟨s.toArray⟩) := fun j s hs => by
  obtain ⟨v, m, q2, h1, h2⟩ := hel j _ (by rw [List.getElem?_map, hs]; rfl)
  obtain ⟨u, h3, h4, _⟩ := DataW.trod_string he h2
  simp only [List.cons.injEq, and_true] at h3
  simp only [Prod.mk.injEq, DataW.lit.injEq, Lit.string.injEq] at h4
  rw [h1, h3, h4.1]
 have ha : a = ⟨a.block, a.off, none⟩ := by
  obtain ⟨s, hs⟩ : ∃ s, ss[0]? = some s := by
   cases ss with
   | nil => exact absurd rfl hne
   | cons s r => exact ⟨s, rfl⟩
  have := addr_plain (key 0 s hs)
  simpa [Addr.add] using this
 refine ⟨⟨a.block, a.off, cap, ?_, hle, fun j s hs => ?_⟩, q, hr⟩
 ·rw [World.var?_cell hg hvar 0, ← ha]
  have := congrArg (fun l => l[0]?) hcs
  simpa using this
 ·have h1 := key j s hs
  rw [ha, add_plain] at h1
  exact h1
end
end Go.Proofs.YtgboffbbpmileaaGreatDoor
