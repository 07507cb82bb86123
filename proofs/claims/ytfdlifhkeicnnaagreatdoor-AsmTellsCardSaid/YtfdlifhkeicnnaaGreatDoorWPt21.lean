/- Lemmas and walks for the law LawTells (part 21). -/
import Derived.Test.YtfdlifhkeicnnaaGreatDoorWPt20
import Derived.Test.YtfdlifhkeicnnaaGreatDoorProg
import Derived.WalkKit
import Derived.Handy
import Derived.Deep.Light
import Derived.WalkSmall
import Derived.StillTailTactics
import Derived.Lib.Hide
import Derived.Defers
import Derived.Recover
import Derived.Laws.Pointers
set_option maxRecDepth 20000
set_option maxHeartbeats 4000000
set_option linter.unusedVariables false
set_option linter.unusedSimpArgs false
namespace Go.Proofs.YtfdlifhkeicnnaaGreatDoor
open Go Go.RowKit
theorem emitW_D3 (ab mb g xo at_ : Nat) (es : Array MapEntry) (clock : Nat) (L : Labs) (cur : Array Value) (x : Stm) (sop : ByteArray) (vo vc : Value) (code : Bytes) (LP : List (Nat × Obj)) (Y : List Nat) (w : World) (hL0 : Kn Y w w ((ab, .cells #[.map (some mb), vc] 61 (0, 0)) :: LP)) (hrow : RowL 1 5 LP vc code.length (bc code)) (hmb : w.heap[mb]? = some (.map es clock)) (hmY : mb ∉ Y) (hM : MapV Tryz.prog 9 es (lv L)) (hLn : ∀ p ∈ L, p.2 ≤ 100000) (hg : w.heap[g]? = some (.cells cur 64 (0, 0))) (hgY : g ∉ Y) (hS : StEm w Y xo at_ cur x sop vo) (hat : at_ ≤ 5000) (hcl : code.length ≤ 1000000) (hT : TabA w) (h14 : ∀ y ∈ Y, 14 ≤ y) (hso : sop = ⟨#[46, 115, 112, 97, 99, 101]⟩) : Calls Tryz.prog 35 #[.pointer (some ⟨ab, 0, none⟩), .pointer (some ⟨g, xo, none⟩)] w (EmitP (emit OO L x at_ code) ab mb Y w) := by
 subst hso
 have hop := hS.op
 have hfn := func_ne
 have lg := lt_of_has hg
 have x1 := (cells_at hg (xo + 1)).trans hS.c1
 have x2 := (cells_at hg (xo + 2)).trans hS.c2
 have x3 := (cells_at hg (xo + 3)).trans hS.c3
 have HVO := Lib.hid hS.vo
 have HSO := Lib.hid hS.so
 have hno := hS.no
 have HOP := Lib.hid hS.op
 obtain ⟨R, hR⟩ : ∃ R, emit OO L x at_ code = R := ⟨_, rfl⟩
 rw [hR]
 have hL := hL0
 have hF := hL.fx
 have hR2 := hR.symm.trans (emit_D (by rw [hop]; simp) (by rw [hop]; rfl))
 rw [direct_s hop] at hR2
 have HR := Lib.hid hR2
 clear hR hR2 hop hS
 go_enter Tryz.func35, Tryz.ntmps35
 go_wp2
 go_loopg [] (at_ - code.length) (fun n wr => ∃ (k : Nat) (LPk : List (Nat × Obj)) (vk : Value), Hid (n = at_ - code.length - k) ∧ k ≤ at_ - code.length ∧ RowL 1 5 LPk vk (code.length + k) (bc (code ++ List.replicate k 0)) ∧ Kn Y w wr ((ab, .cells #[.map (some mb), vk] 61 (0, 0)) :: LPk))
 case atStart => exact ⟨0, LP, vc, Lib.hid rfl, by omega, by rw [Nat.add_zero, List.replicate_zero, List.append_nil]; exact hrow, hL⟩
 case round =>
  clear hL
  obtain ⟨k, LPk, vk, HK, hk, hrowk, hL⟩ := hrel
  have hF := hL.fx
  have HRK := Lib.hid hrowk
  obtain ⟨ao, cp, hvk⟩ : ∃ ao cp, vk = .slice ao (code.length + k) cp := by
   rcases hrowk with ⟨_, rfl, h0, _⟩ | ⟨g2, cap2, cur2, _, rfl, _⟩
   ·exact ⟨none, 0, by rw [h0]⟩
   ·exact ⟨_, _, rfl⟩
  clear hrowk
  subst hvk
  by_cases hlt : code.length + k < at_
  ·have t1 : ((code.length + k : Nat) : Int) < (at_ : Int) := by omega
   go_wp2_with (first | ((with_reducible refine at_region 1 ?_); refine kW [0, 1, 2, 3, 4, 5, 6, 7, 8, 9] [0, 1, 2, 3, 4, 5, 6, 7, 8, 9] [] [0, 1, 2, 4, 5, 6, 7, 9] ?_; clear hF hL; intro ι F hne hC hG; (repeat (first | (refine cF hC ?_; intro K hK; go_big_quiet_op; go_big_quiet_on) | (refine cP ?_; intro K hK; go_big_quiet_op; go_big_quiet_on))); refine cwk_nil ?_; clear hC hG; intro W hL; have hF := hL.fx) | (at_builtin; refine kL ?_; clear hF hL; intro W hL hF; go_loud (refine wpList_append_end rfl _ _ 47 47 rfl [(_, .cells #[.int .u8 0] 5 (0, 0)), (ab, .cells #[.map (some mb), _] 61 (0, 0))] LPk hL _ 1 _ (bc [0]) _ _ HRK.out rfl rfl (fun ho => run_append_b rfl (fun j u hu => by rw [Go.WideShapes.add_plain, Nat.zero_add, kn_cell hL List.mem_cons_self]; simpa [bc] using hu) (bc_one _) (by omega) ho) ?_); intro LPn an cpn W2 hL2 hrn; clear hL hF; have hL := hL2; clear hL2; simp only [kfb] at hL; have hF := hL.fx))
   go_roundg (at_ - code.length - (k + 1))
   case measure => have := HK.out; omega
   case rel => exact ⟨k + 1, LPn, _, Lib.hid rfl, by omega, by rw [List.replicate_succ', ← List.append_assoc, bc_app, ← Nat.add_assoc]; exact hrn, Kn.sub kn_here (List.sublist_cons_self _ _)⟩
  ·have t1 : ¬ ((code.length + k : Nat) : Int) < (at_ : Int) := by omega
   obtain rfl : k = at_ - code.length := by omega
   obtain ⟨C, hC⟩ : ∃ C, padTo code at_ = C := ⟨_, rfl⟩
   have hCl : C.length = code.length + (at_ - code.length) := by rw [← hC]; simp [padTo]
   have HRC := Lib.hid (show RowL 1 5 LPk (.slice ao (code.length + (at_ - code.length)) cp) C.length (bc C) from by rw [hCl, ← hC]; exact HRK.out)
   rw [hC] at HR
   obtain ⟨cn, hcn⟩ : ∃ cn, code.length + (at_ - code.length) = cn := ⟨_, rfl⟩
   rw [hcn] at hCl HRC hL hF t1
   have HCL := Lib.hid hCl
   have hcnb : cn ≤ 1005000 := by omega
   clear hC hCl
   have HIN := Lib.hid (fun W (b6 b3 : Nat) (hL : Kn Y w W ((b6, .cells #[Value.func (.func 98) #[.pointer (some ⟨ab, 0, none⟩)] #[]] 130 (0, 0)) :: (b3, .cells #[.pointer (some ⟨g, xo, none⟩)] 66 (0, 0)) :: (ab, .cells #[.map (some mb), .slice ao cn cp] 61 (0, 0)) :: LPk)) => clo_3 ab g xo b6 b3 true _ W (by rw [kn_cell hL List.mem_cons_self]; rfl) (by rw [kn_cell hL (List.mem_cons_of_mem _ List.mem_cons_self)]; rfl) (Lib.hid fun W' hK => space_is ab g xo vo x.ops true W' (kn_old hK (kn_old hL x2 hgY) (by simp)) ((HVO.out.kn hL (fun y hy => .inl hy)).row.kn hK (by simp)) HSO.out hno ((hT.kn hL h14).kn hK (by simp))))
   cases hd : spaceR x.ops with
   | bad m =>
    have HB := HR.out
    rw [hd] at HB HIN
    replace HB : R = .bad m := HB
    subst HB
    clear hd
    go_wp2_with (first | ((with_reducible refine ks ?_); clear hL; intro W hL hF) | ((with_reducible refine at_region 1 ?_); refine kW [0, 1, 2, 3, 4, 5, 6, 7, 8, 9] [0, 1, 2, 3, 4, 5, 6, 7, 8, 9] [] [0, 1, 2, 4, 5, 6, 7, 9] ?_; clear hF hL; intro ι F hne hC hG; (repeat (first | (refine cF hC ?_; intro K hK; go_big_quiet_op; go_big_quiet_on) | (refine cP ?_; intro K hK; go_big_quiet_op; go_big_quiet_on))); refine cwk_nil ?_; clear hC hG; intro W hL; have hF := hL.fx) | (go_at_call 63; refine kG ?_; clear hF hL; intro W hL hF; (with_reducible refine (directive_3 ab g xo _ (kn_old hL x1 hgY)).mono ?_); rintro e W ⟨b6, b3, rfl, hb⟩; replace hL := hL.join hb; clear hb hF; simp only [kfb] at hL; have hF := hL.fx) | ((with_reducible refine at_region 5 ?_); refine kn_wp ?_; clear hF hL; intro W hL; have hF := hL.fx; refine kn_regionP [0, 1, 2, 3, 4, 5, 6, 7, 8, 9, 10] [0, 1, 2, 3, 4, 5, 8, 9] [7, 10] [0, 1, 2, 3, 5, 8, 9] (by kernel_rfl) (by kernel_rfl) (List.Sublist.refl _) ?_; clear hF hL; intro Qp hQp; replace hQp := Lib.hid hQp; intro ι F hne hC hFF; have hG := fun n => (hFF n).fx; clear hFF; (repeat (first | (refine cF hC ?_; intro K hK; go_big_quiet_op; go_big_quiet_on) | (refine cP ?_; intro K hK; go_big_quiet_op; go_big_quiet_on) | (refine cwk_callP rfl (by rfl) (by rfl) (fun _ => rfl) ?_; intro W hL; have hF := hL.fx; simp only [ka, Act.eval]; simp only [List.append_toArray, List.cons_append, List.nil_append]; go_at_call 99; (with_reducible refine (HIN.out _ _ _ hL).mono ?_); rintro e W ⟨rfl, hb⟩; replace hL := hL.below hb; clear hb hF; have hF := hL.fx; refine ⟨_, rfl, hQp.out _ _ ?_⟩; clear hQp; intro a' ha; exact ⟨ha, rfl, hL.sub (by simp)⟩))); ((done))))
   | ok u =>
    have HB := HR.out
    rw [hd] at HB HIN
    replace HB : R = .ok (C ++ u) := HB
    subst HB
    have hul : u.length ≤ 1000000 := by have := spaceR_len hd; omega
    clear hd
    go_wp2_with (first | ((with_reducible refine ks ?_); clear hL; intro W hL hF) | ((with_reducible refine at_region 1 ?_); refine kW [0, 1, 2, 3, 4, 5, 6, 7, 8, 9] [0, 1, 2, 3, 4, 5, 6, 7, 8, 9] [] [0, 1, 2, 4, 5, 6, 7, 9] ?_; clear hF hL; intro ι F hne hC hG; (repeat (first | (refine cF hC ?_; intro K hK; go_big_quiet_op; go_big_quiet_on) | (refine cP ?_; intro K hK; go_big_quiet_op; go_big_quiet_on))); refine cwk_nil ?_; clear hC hG; intro W hL; have hF := hL.fx) | (go_at_call 63; refine kG ?_; clear hF hL; intro W hL hF; (with_reducible refine (directive_3 ab g xo _ (kn_old hL x1 hgY)).mono ?_); rintro e W ⟨b6, b3, rfl, hb⟩; replace hL := hL.join hb; clear hb hF; simp only [kfb] at hL; have hF := hL.fx) | ((with_reducible refine at_region 5 ?_); refine kW [0, 1, 2, 3, 4, 5, 6, 7, 8, 9, 10] [0, 1, 2, 3, 4, 5, 8, 9] [7, 10] [0, 1, 2, 3, 5, 8, 9] ?_; clear hF hL; intro ι F hne hC hG; (repeat (first | (refine cS ?_) | (refine cF hC ?_; intro K hK; go_big_quiet_op; go_big_quiet_on) | (refine cP ?_; intro K hK; go_big_quiet_op; go_big_quiet_on) | (refine cC ?_; intro W hL; have hF := hL.fx; simp only [ka, Act.eval]; simp only [List.append_toArray, List.cons_append, List.nil_append]; go_at_call 99; (with_reducible refine (HIN.out _ _ _ hL).mono ?_); rintro e W ⟨gu, cap, cu, fu, rfl, hB, hb⟩; replace hL := hL.join hb; clear hb hF; simp only [kfb] at hL; have hF := hL.fx; refine owed_ret ?_; ((refine owedS _ (by repeat' (first | (with_reducible exact List.Sublist.refl _) | (with_reducible apply List.Sublist.cons))) ?_; clear hL hF hC hG; intro ι F hne hC hFF; have hG := fun n => (hFF n).fx; clear hFF)); simp only [Act.put, kT]) | (refine cN ?_; intro W hL; have hF := hL.fx; at_builtin; go_loud (refine wpList_append_end rfl _ _ 47 47 rfl [(gu, .cells cu 5 fu), (b6, .cells #[Value.func (.func 98) #[.pointer (some ⟨ab, 0, none⟩)] #[]] 130 (0, 0)), (b3, .cells #[.pointer (some ⟨g, xo, none⟩)] 66 (0, 0)), (ab, .cells #[.map (some mb), _] 61 (0, 0))] LPk hL C.length u.length (bc C) (bc u) _ _ HRC.out rfl rfl (fun ho => run_append_b (bc_len u) (crow_at hL List.mem_cons_self hB) (bc_one _) (by rw [HCL.out]; omega) ho) ?_); intro LPn an cpn W2 hL2 hrn; clear hL hF; have hL := hL2.sub (List.sublist_cons_self _ _); clear hL2; simp only [List.append_eq] at hL; simp only [kfb] at hL; have hF := hL.fx; go_wp2; refine kb2 ?_; clear hL hF hC hG; intro ι F hne hC hG) | (refine cN ?_; intro W hL; have hF := hL.fx; go_wp2; refine kb2 ?_; clear hL hF hC hG; intro ι F hne hC hG))); refine cwk_nil ?_; clear hC hG; intro W hL; simp only [kfb] at hL; have hF := hL.fx))
    ((go_end0))
    exact ⟨rfl, LPn, _, by rw [List.length_append, bc_app]; exact hrn, hL.sub (by apply List.Sublist.cons; exact List.sublist_cons_self _ _)⟩
theorem assert_prob (x : Value) (W : World) : (Instr.typeAssert (.iface 56 x) 20 56 true).run Tryz.prog W = .ok (.tuple #[x, .bool true]) W := by kernel_rfl
theorem catch_panic (bo be : Nat) (v0 : ByteArray) (e0 k : Int) (older : List PanicEntry) (w : World) (hL : Kn [bo, be] w w [(bo, .cells #[.string v0] 9 (0, 0)), (be, .cells #[.int .i64 e0] 25 (0, 0))]) :
  CallsD Tryz.prog 31 #[.pointer (some ⟨bo, 0, none⟩), .pointer (some ⟨be, 0, none⟩)] (.panicking ({ v := .iface 56 (.int .i64 k), recovered := false } :: older)) w fun e u' w' =>
   e = .returned (.tuple #[]) ∧ u' = .panicking ({ v := .iface 56 (.int .i64 k), recovered := true } :: older) ∧ Kn [bo, be] w w' [(bo, .cells #[.string ⟨#[]⟩] 9 (0, 0)), (be, .cells #[.int .i64 k] 25 (0, 0))] := by
 refine callsD_of_wpS Tryz.func31 rfl fun c₀ cs hu => ?_
 apply wpS_seq
 apply wpS_region
 simp [wpOpsS, go_sem, recoverD, hu, Tryz.ntmps31, Exit.thenS]
 refine wpS_of_wp ?_
 have hF := hL.fx
 generalize hR : (fun (e : Exit) (a' : Act) (w' : World) => bodyPostS _ _ _ _ _ e a' _ w') = Q2
 have key : ∀ (a' : Act) (w' : World), a'.defers = [] → Kn [bo, be] w w' [(bo, .cells #[.string ⟨#[]⟩] 9 (0, 0)), (be, .cells #[.int .i64 k] 25 (0, 0))] → Q2 .normal a' w' := by
  intro a' w' h1 h2
  rw [← hR]
  refine ⟨h1, _, rfl, .tuple #[], ?_, rfl, rfl, h2⟩
  simp [results, Tryz.results31, go_sem]
 have HK := Lib.hid key
 clear hR key
 clear hu
 obtain ⟨pz, hpz⟩ : ∃ pz, Value.iface 56 (.int .i64 k) = pz := ⟨_, rfl⟩
 rw [hpz]
 show Code.wp _ _ _ { tmps := #[.pointer (some ⟨bo, 0, none⟩), .pointer (some ⟨be, 0, none⟩), pz, undef, undef, pz, undef, undef, undef, undef, undef, undef, undef, undef, undef, undef, undef], defers := [] } _
 subst hpz
 have hta := assert_prob (.int .i64 k)
 go_wp2
 exact HK.out _ _ rfl kn_here
theorem catch_idle (bo be : Nat) (w : World) :
  CallsD Tryz.prog 31 #[.pointer (some ⟨bo, 0, none⟩), .pointer (some ⟨be, 0, none⟩)] .returning w fun e u' w' => e = .returned (.tuple #[]) ∧ u' = .returning ∧ w' = w := by
 refine callsD_of_wpS Tryz.func31 rfl fun c₀ cs hu => ?_
 apply wpS_seq
 apply wpS_region
 simp [wpOpsS, go_sem, recoverD, hu, Tryz.ntmps31, Exit.thenS]
 refine wpS_of_wp ?_
 generalize hR : (fun (e : Exit) (a' : Act) (w' : World) => bodyPostS _ _ _ _ _ e a' _ w') = Q2
 have key : ∀ (a' : Act), a'.defers = [] → Q2 .normal a' w := by
  intro a' h1
  rw [← hR]
  refine ⟨h1, c₀.mode, ?_, .tuple #[], ?_, rfl, hu, rfl⟩
  ·cases c₀; rfl
  ·simp [results, Tryz.results31, go_sem]
 have HK := Lib.hid key
 clear hR key hu
 show Code.wp _ _ _ { tmps := #[.pointer (some ⟨bo, 0, none⟩), .pointer (some ⟨be, 0, none⟩), .nilIface, undef, undef, .nilIface, undef, undef, undef, undef, undef, undef, undef, undef, undef, undef, undef], defers := [] } _
 go_wp2
 exact HK.out _ rfl
theorem Kn.mono {X X' : List Nat} {w W : World} {L : List (Nat × Obj)} (h : Kn X w W L) (hx : ∀ x ∈ X, x ∈ X') : Kn X' w W L :=
 ⟨h.os, h.tape, h.output, h.size, fun b hb hn => h.block b hb (fun hm => hn (hx b hm)), fun p hp => (h.own p hp).imp id (hx _), h.has, h.nd⟩
theorem RowO.sub {Y Y' : List Nat} {w : World} {v : Value} {xs : List Value} (h : RowO Y w v xs) (hy : ∀ y ∈ Y', y ∈ Y) : RowO Y' w v xs := by
 obtain ⟨ao, cap, h1, h2⟩ := h
 exact ⟨ao, cap, h1, fun j x hx => by obtain ⟨g, o, h3, h4, h5⟩ := h2 j x hx; exact ⟨g, o, h3, fun hm => h4 (hy g hm), h5⟩⟩
def M33P (r : Rs (Nat × Nat × Labs)) (bz mb g xo : Nat) (cur : Array Value) (w : World) (e : Ending) (w' : World) : Prop := match r with
 | .ok (s, a, L') => e = .returned (.tuple #[]) ∧ ∃ es' ck', MapV Tryz.prog 9 es' (lv L') ∧ Kn [bz, mb, g] w w' [(bz, .cells #[.int .i64 s] 3 (0, 0)), (mb, .map es' ck'), (g, .cells (cur.setIfInBounds (xo + 3) (.int .i64 a)) 64 (0, 0))]
 | .bad m => e = .panicked [{ v := .iface 56 (.int .i64 m), recovered := false }] ∧ Kn [bz, mb, g] w w' []
theorem clo33 (b5 bz ab mb g xo n : Nat) (es : Array MapEntry) (clock : Nat) (Lb : Labs) (cur : Array Value) (x : Stm) (sop : ByteArray) (vl vo : Value) (w : World) (hL0 : Kn [bz, mb, g] w w [(bz, .cells #[.int .i64 n] 3 (0, 0)), (mb, .map es clock), (g, .cells cur 64 (0, 0))])
  (h5 : w.cell? ⟨b5, 0, none⟩ = some (.pointer (some ⟨ab, 0, none⟩))) (h5n : b5 ∉ [bz, mb, g]) (hA : w.cell? ⟨ab, 0, none⟩ = some (.map (some mb))) (han : ab ∉ [bz, mb, g]) (hM : MapV Tryz.prog 9 es (lv Lb)) (hLn : ∀ p ∈ Lb, p.2 ≤ 100000) (hLl : Lb.length ≤ 1000000000000)
  (hS : ∀ (W : World) (LL : List (Nat × Obj)), Kn [bz, mb, g] w W LL → StIn W mb g xo cur x sop vl vo) (hn : n ≤ 4096) (hT : TabA w) (h14 : ∀ y ∈ [bz, mb, g], 14 ≤ y) :
  Calls Tryz.prog 33 #[.pointer (some ⟨g, xo, none⟩), .pointer (some ⟨b5, 0, none⟩), .pointer (some ⟨bz, 0, none⟩)] w (M33P (measure OO x n Lb) bz mb g xo cur w) := by
 have l5 := cell_lt h5
 have h51 : ¬ b5 = bz := fun e => h5n (by simp [e])
 have h52 : ¬ b5 = mb := fun e => h5n (by simp [e])
 have h53 : ¬ b5 = g := fun e => h5n (by simp [e])
 have ha2 : ab ≠ mb := fun e => han (by simp [e])
 have ha3 : ab ≠ g := fun e => han (by simp [e])
 have HM0 := Lib.hid (fun W (hL : Kn [bz, mb, g] w W [(bz, .cells #[.int .i64 n] 3 (0, 0)), (mb, .map es clock), (g, .cells cur 64 (0, 0))]) => measure_is ab mb g xo n es clock Lb cur x sop vl vo W (hL.sub (List.sublist_cons_self _ _)).self0 (kn_old hL hA han) ha2 ha3 hM hLn hLl (hS W _ hL) hn (hT.kn hL h14) (fun y hy => h14 y (List.mem_cons_of_mem _ hy)))
 have hL := hL0
 have hF := hL.fx
 cases hr : measure OO x n Lb with
 | bad m =>
  rw [hr] at HM0
  go_enter Tryz.func33, Tryz.ntmps33
  go_wp2_with ((go_at_call 34; refine kG ?_; clear hF hL; intro W hL hF; (with_reducible refine (HM0.out _ hL).mono ?_); rintro e W2 ⟨rfl, hb⟩; replace hL := Kn.joinA (P := [(mb, .map es clock), (g, .cells cur 64 (0, 0))]) [(bz, .cells #[.int .i64 n] 3 (0, 0))] [] (by simpa using hL) hb; clear hb))
  exact ⟨rfl, rfl, hL.sub (by simp)⟩
 | ok z =>
  obtain ⟨s, a, L'⟩ := z
  rw [hr] at HM0
  go_enter Tryz.func33, Tryz.ntmps33
  go_wp2_with ((go_at_call 34; refine kG ?_; clear hF hL; intro W hL hF; (with_reducible refine (HM0.out _ hL).mono ?_); rintro e W2 ⟨rfl, es', ck', hM', hb⟩; replace hL := Kn.joinA (P := [(mb, .map es clock), (g, .cells cur 64 (0, 0))]) [(bz, .cells #[.int .i64 n] 3 (0, 0))] [] (by simpa using hL) hb; clear hb; simp only [List.cons_append, List.nil_append, List.append_nil] at hL; clear hF; have hF := hL.fx))
  ((go_end0))
  exact ⟨rfl, es', ck', hM', kn_here⟩
theorem find_dirN {op : Bytes} (h : isDir op = true) : OO.find op = none := by
 have hh := find_dirs
 simp only [isDir, Bool.or_eq_true, beq_iff_eq] at h
 rcases h with ((h | h) | h) | h <;> subst h
 ·exact find_none (s := ⟨#[46, 98, 121, 116, 101]⟩) hh.1
 ·exact find_none (s := ⟨#[46, 119, 111, 114, 100]⟩) hh.2.1
 ·exact find_none (s := ⟨#[46, 116, 101, 120, 116]⟩) hh.2.2.1
 ·exact find_none (s := ⟨#[46, 115, 112, 97, 99, 101]⟩) hh.2.2.2.1
theorem OO_fine : OO.Fine where
 nil := find_nil
 word := find_dirN rfl
 dir := fun op h => find_dirN h
 enc := fun op a b c h => by
  show (encS op a b c).data.toList.length = 4
  have h2 : valid op a b c = true := h
  unfold encS
  rw [if_pos h2]; rfl
theorem pass1_stop {O : Oth} : ∀ {l m : List Stm} {n s : Nat} {L : Labs} {e k : Nat}, pass1 O l n s L = .bad e k → pass1 O (l ++ m) n s L = .bad e k
 | [], _, _, _, _, _, _, h => by cases h
 | x :: l, m, n, s, L, e, k, h => by
  unfold pass1 at h
  rw [List.cons_append]
  unfold pass1
  cases hm : measure O x s L with
  | bad e' => rw [hm] at h; exact h
  | ok z =>
   obtain ⟨s', a, L'⟩ := z
   rw [hm] at h
   simp only at h ⊢
   cases hp : pass1 O l (n + 1) s' L' with
   | bad e' m' => rw [hp] at h; rw [pass1_stop hp]; exact h
   | ok y => rw [hp] at h; cases h
theorem pass2_stop {O : Oth} {L : Labs} : ∀ {l m : List (Stm × Nat)} {n : Nat} {c : Bytes} {e k : Nat}, pass2 O L l n c = .bad e k → pass2 O L (l ++ m) n c = .bad e k
 | [], _, _, _, _, _, h => by cases h
 | (x, a) :: l, m, n, c, e, k, h => by
  unfold pass2 at h
  rw [List.cons_append]
  unfold pass2
  cases hm : emit O L x a c with
  | bad e' => rw [hm] at h; exact h
  | ok c' => rw [hm] at h; exact pass2_stop h
theorem pass1_next {l : List Stm} {k : Nat} {x : Stm} {r : List (Stm × Nat)} {s : Nat} {L : Labs} (h : pass1 OO (l.take k) 1 0 [] = .ok (r, s, L)) (hx : l[k]? = some x) {s' a : Nat} {L' : Labs} (hm : measure OO x s L = .ok (s', a, L')) : pass1 OO (l.take (k + 1)) 1 0 [] = .ok (r ++ [(x, a)], s', L') := by
 rw [List.take_add_one, hx, Option.toList_some, pass1_snoc, h]
 simp only [hm]
theorem pass1_fail {l : List Stm} {k : Nat} {x : Stm} {r : List (Stm × Nat)} {s : Nat} {L : Labs} (h : pass1 OO (l.take k) 1 0 [] = .ok (r, s, L)) (hx : l[k]? = some x) {e : Nat} (hm : measure OO x s L = .bad e) : pass1 OO l 1 0 [] = .bad e (k + 1) := by
 have hk := (List.getElem?_eq_some_iff.1 hx).1
 have h1 : pass1 OO (l.take (k + 1)) 1 0 [] = .bad e (k + 1) := by
  rw [List.take_add_one, hx, Option.toList_some, pass1_snoc, h]
  simp only [hm, List.length_take, Nat.min_eq_left (Nat.le_of_lt hk)]
  rw [Nat.add_comm]
 rw [← List.take_append_drop (k + 1) l]
 exact pass1_stop h1
theorem pass2_next {L : Labs} {r : List (Stm × Nat)} {k : Nat} {x : Stm} {a : Nat} {c c' : Bytes} (h : pass2 OO L (r.take k) 1 [] = .ok c) (hx : r[k]? = some (x, a)) (he : emit OO L x a c = .ok c') : pass2 OO L (r.take (k + 1)) 1 [] = .ok c' := by
 rw [List.take_add_one, hx, Option.toList_some, pass2_snoc, h]
 simp only [he]
theorem pass2_fail {L : Labs} {r : List (Stm × Nat)} {k : Nat} {x : Stm} {a : Nat} {c : Bytes} {e : Nat} (h : pass2 OO L (r.take k) 1 [] = .ok c) (hx : r[k]? = some (x, a)) (he : emit OO L x a c = .bad e) : pass2 OO L r 1 [] = .bad e (k + 1) := by
 have hk := (List.getElem?_eq_some_iff.1 hx).1
 have h1 : pass2 OO L (r.take (k + 1)) 1 [] = .bad e (k + 1) := by
  rw [List.take_add_one, hx, Option.toList_some, pass2_snoc, h]
  simp only [he, List.length_take, Nat.min_eq_left (Nat.le_of_lt hk)]
  rw [Nat.add_comm]
 rw [← List.take_append_drop (k + 1) r]
 exact pass2_stop h1
/-- What holds of the first pass over a prefix. -/
structure P1 (l : List Stm) (r : List (Stm × Nat)) (s : Nat) (L : Labs) : Prop where
 len : r.length = l.length
 fst : r.map (·.1) = l
 le : s ≤ 4096
 labs : ∀ p ∈ L, p.2 ≤ 100000
 cnt : (∀ x ∈ l, x.labels.length ≤ 100000) → L.length ≤ 100000 * l.length
 at_ : ∀ p ∈ r, p.2 ≤ 4096 ∧ (OO.find p.1.op ≠ none ∨ isDir p.1.op = true ∨ p.1.op = [])
theorem P1.nil : P1 [] [] 0 [] := ⟨rfl, rfl, by omega, by simp, by simp, by simp⟩
theorem P1.next {l : List Stm} {r : List (Stm × Nat)} {s : Nat} {L : Labs} (h : P1 l r s L) {x : Stm} {s' a : Nat} {L' : Labs} (hm : measure OO x s L = .ok (s', a, L')) : P1 (l ++ [x]) (r ++ [(x, a)]) s' L' := by
 obtain ⟨_, h2, h3, h4, _, h6, h7⟩ := measure_at OO OO_fine hm
 refine ⟨by simp [h.len], by simp [h.fst], h2, addL_le h4 h.labs (by omega), fun hl => ?_, fun p hp => ?_⟩
 ·have h8 := addL_len h4
  have h9 := h.cnt (fun y hy => hl y (List.mem_append_left _ hy))
  have h10 := hl x (by simp)
  rw [h8, List.length_append, List.length_singleton]; omega
 ·rcases List.mem_append.1 hp with hp | hp
  ·exact h.at_ p hp
  ·simp only [List.mem_singleton] at hp
   subst hp
   refine ⟨by omega, ?_⟩
   by_cases hf : OO.find x.op = none
   ·by_cases ho : x.op = []
    ·exact .inr (.inr ho)
    ·exact .inr (.inl (h7 hf ho).1)
   ·exact .inl hf
theorem snocInd {α : Type} {p : List α → Prop} (nil : p []) (snoc : ∀ l a, p l → p (l ++ [a])) (l : List α) : p l := by
 suffices H : ∀ n (l : List α), l.length = n → p l from H _ l rfl
 intro n
 induction n with
 | zero => intro l h; rw [List.eq_nil_of_length_eq_zero h]; exact nil
 | succ n ih =>
  intro l h
  have hne : l ≠ [] := by intro e; rw [e] at h; cases h
  rw [← List.dropLast_concat_getLast hne]
  exact snoc _ _ (ih _ (by rw [List.length_dropLast, h]; rfl))
theorem P1.all : ∀ {l : List Stm} {k : Nat} {r : List (Stm × Nat)} {s : Nat} {L : Labs}, pass1 OO l k 0 [] = .ok (r, s, L) → ∀ n, n ≤ l.length → ∃ sn Ln, pass1 OO (l.take n) k 0 [] = .ok (r.take n, sn, Ln) ∧ P1 (l.take n) (r.take n) sn Ln := by
 intro l k r s L h n hn
 obtain ⟨rn, sn, Ln, h1⟩ : ∃ rn sn Ln, pass1 OO (l.take n) k 0 [] = .ok (rn, sn, Ln) := by
  cases hp : pass1 OO (l.take n) k 0 [] with
  | bad e m =>
   have := pass1_stop (m := l.drop n) hp
   rw [List.take_append_drop, h] at this
   cases this
  | ok z => obtain ⟨a, b, c⟩ := z; exact ⟨a, b, c, rfl⟩
 have gen : ∀ (m : List Stm) (rm : List (Stm × Nat)) (sm : Nat) (Lm : Labs), pass1 OO m k 0 [] = .ok (rm, sm, Lm) → P1 m rm sm Lm := by
  intro m
  induction m using snocInd with
  | nil => intro rm sm Lm h; cases h; exact P1.nil
  | snoc m x ih =>
   intro rm sm Lm h
   rw [pass1_snoc] at h
   cases hp : pass1 OO m k 0 [] with
   | bad e m => rw [hp] at h; cases h
   | ok z =>
    obtain ⟨r1, s1, L1⟩ := z
    rw [hp] at h
    simp only at h
    cases hm : measure OO x s1 L1 with
    | bad e => rw [hm] at h; cases h
    | ok y =>
     obtain ⟨s2, a2, L2⟩ := y
     rw [hm] at h
     cases h
     exact (ih _ _ _ hp).next hm
 have h2 := gen _ _ _ _ h1
 have h3 := gen _ _ _ _ h
 refine ⟨sn, Ln, ?_, ?_⟩
 all_goals
  have e : rn = r.take n := by
   have pre : ∀ (m : List Stm) (i : Nat) (s0 : Nat) (L0 : Labs) (ra rb : List (Stm × Nat)) (sa sb : Nat) (La Lb : Labs) (q : List Stm), pass1 OO m i s0 L0 = .ok (ra, sa, La) → pass1 OO (m ++ q) i s0 L0 = .ok (rb, sb, Lb) → ra = rb.take m.length := by
    intro m
    induction m with
    | nil => intro i s0 L0 ra rb sa sb La Lb q ha _; cases ha; simp
    | cons x m ih =>
     intro i s0 L0 ra rb sa sb La Lb q ha hb
     unfold pass1 at ha
     rw [List.cons_append] at hb
     unfold pass1 at hb
     cases hm : measure OO x s0 L0 with
     | bad e => rw [hm] at ha; cases ha
     | ok y =>
      obtain ⟨s1, a1, L1⟩ := y
      rw [hm] at ha hb
      simp only at ha hb
      cases hpa : pass1 OO m (i + 1) s1 L1 with
      | bad e w => rw [hpa] at ha; cases ha
      | ok za =>
       obtain ⟨r2, s2, L2⟩ := za
       cases hpb : pass1 OO (m ++ q) (i + 1) s1 L1 with
       | bad e w => rw [hpb] at hb; cases hb
       | ok zb =>
        obtain ⟨r3, s3, L3⟩ := zb
        rw [hpa] at ha
        rw [hpb] at hb
        cases ha; cases hb
        rw [ih _ _ _ _ _ _ _ _ _ _ hpa hpb]; rfl
   have := pre _ _ _ _ _ _ _ _ _ _ (l.drop n) h1 (by rw [List.take_append_drop]; exact h)
   rw [this, List.length_take, Nat.min_eq_left hn]
  rw [← e]; assumption
theorem readL_sizes : ∀ (f : Nat) (r : Bytes), (∀ p ∈ (readL f r).1, p.length ≤ r.length) ∧ (readL f r).1.length ≤ f ∧ (readL f r).2.length ≤ r.length
 | 0, r => ⟨fun p hp => (by cases hp), Nat.le_refl _, Nat.le_refl _⟩
 | f + 1, r => by
  unfold readL
  cases hD : dv 58 1 false r with
  | nil => exact absurd hD (dv_ne _ _ _ _)
  | cons a l =>
   cases l with
   | nil => exact ⟨fun p hp => (by cases hp), Nat.zero_le _, Nat.le_refl _⟩
   | cons b t =>
    simp only
    obtain ⟨h1, h2, h3⟩ := readL_sizes f (trim b)
    have h4 := dv_second hD
    have h5 := trim_len b
    have h6 := trim_len a
    have h7 := dv_mem_len (c := 58) (m := 1) (s := r) (p := a) (by rw [hD]; simp)
    refine ⟨fun p hp => ?_, by simp; exact h2, by omega⟩
    rcases List.mem_cons.1 hp with rfl | hp
    ·omega
    ·have := h1 p hp; omega
theorem read_sizes (line : Bytes) : (∀ p ∈ (read line).labels, p.length ≤ line.length) ∧ (∀ p ∈ (read line).ops, p.length ≤ line.length) ∧ (read line).labels.length ≤ line.length + 1 ∧ (read line).ops.length ≤ line.length + 1 ∧ (read line).op.length ≤ line.length := by
 have hr : (rest line).length ≤ line.length := by
  unfold rest
  have h1 := trim_len ((dv 59 1 false line).headD [])
  have h2 : ((dv 59 1 false line).headD []).length ≤ line.length := by
   cases hD : dv 59 1 false line with
   | nil => exact absurd hD (dv_ne _ _ _ _)
   | cons a l => exact dv_mem_len (c := 59) (m := 1) (by rw [hD]; simp)
  omega
 obtain ⟨h1, h2, h3⟩ := readL_sizes ((rest line).length + 1) (rest line)
 have hx : ∀ (x : List Bytes × Bytes), (∀ p ∈ x.1, p.length ≤ (rest line).length) → x.1.length ≤ (rest line).length + 1 → x.2.length ≤ (rest line).length → ∀ ops, ops = (if x.2.drop (x.2.takeWhile (fun c => !blank c)).length = [] then [] else (dv 44 x.2.length false (x.2.drop (x.2.takeWhile (fun c => !blank c)).length)).map trim) → (∀ p ∈ ops, p.length ≤ line.length) ∧ ops.length ≤ line.length + 1 ∧ (x.2.takeWhile (fun c => !blank c)).length ≤ line.length := by
  intro x a1 a2 a3 ops ho
  have htw := (List.takeWhile_sublist (fun c => !blank c) (l := x.2)).length_le
  refine ⟨fun p hp => ?_, ?_, by omega⟩
  ·rw [ho] at hp
   split at hp
   ·cases hp
   ·obtain ⟨q, hq, rfl⟩ := List.mem_map.1 hp
    have b1 := dv_mem_len hq
    have b2 := trim_len q
    rw [List.length_drop] at b1; omega
  ·rw [ho]
   split
   ·simp
   ·rw [List.length_map]
    have b1 := dv_count (c := 44) (m := x.2.length) (s := x.2.drop (x.2.takeWhile (fun c => !blank c)).length)
    rw [List.length_drop] at b1; omega
 obtain ⟨c1, c2, c3⟩ := hx _ h1 h2 h3 _ rfl
 exact ⟨fun p hp => by have := h1 p hp; omega, c1, by unfold read; simp only; omega, c2, c3⟩
/-- A statement and where its parts lie. -/
structure XT where
 s : Stm
 vl : Value
 vo : Value
 op : ByteArray
def stc (x : XT) : List Value := [x.vl, .string x.op, x.vo, .int .i64 0]
theorem stc_len (x : XT) : (stc x).length = 4 := rfl
structure XOK (Y : List Nat) (w : World) (x : XT) : Prop where
 op : x.s.op = x.op.data.toList
 vl : RowO Y w x.vl (sv x.s.labels)
 vo : RowO Y w x.vo (sv x.s.ops)
 sl : ∀ p ∈ x.s.labels, p.length ≤ 900000
 so : ∀ p ∈ x.s.ops, p.length ≤ 900000
 sp : x.op.size ≤ 900000
 nl : x.s.labels.length ≤ 100000
 no : x.s.ops.length ≤ 100000
theorem XOK.kn {Y Y' : List Nat} {w W : World} {L : List (Nat × Obj)} {x : XT} (h : XOK Y w x) (k : Kn Y w W L) (hy : ∀ y ∈ Y', y ∈ Y ∨ w.heap.size ≤ y) : XOK Y' W x :=
 ⟨h.op, h.vl.kn k hy, h.vo.kn k hy, h.sl, h.so, h.sp, h.nl, h.no⟩
theorem XOK.next {F F' : List (Nat × Obj)} {w W : World} {x : XT} (h : XOK (keys F) w x) (k : Kn (keys F) w W F') : XOK (keys F') W x :=
 h.kn k (fun y hy => by obtain ⟨p, hp, rfl⟩ := List.mem_map.1 hy; rcases k.own p hp with e | e; exact .inr e; exact .inl e)
theorem XOK.sub {Y Y' : List Nat} {w : World} {x : XT} (h : XOK Y w x) (hy : ∀ y ∈ Y', y ∈ Y) : XOK Y' w x := ⟨h.op, h.vl.sub hy, h.vo.sub hy, h.sl, h.so, h.sp, h.nl, h.no⟩
theorem RowL.rowO {LL : List (Nat × Obj)} {X : List Nat} {w0 w : World} {v : Value} {l : List Bytes} {Y : List Nat} (h : RowL 1 9 LL v l.length (sv l)) (hk : Kn X w0 w LL) (hy : ∀ p ∈ LL, p.1 ∉ Y) : RowO Y w v (sv l) := by
 have e : (sv l).length = l.length := by simp [sv]
 rcases h with ⟨_, rfl, h0, h1⟩ | ⟨g, cap, cur, rfl, rfl, hb⟩
 ·refine ⟨none, 0, by rw [e, h0], fun j x hx => ?_⟩
  rw [h1] at hx; simp at hx
 ·refine ⟨some ⟨g, 0, none⟩, cap, by rw [e], fun j x hx => ⟨g, 0, rfl, hy _ (List.mem_cons_self), ?_⟩⟩
  rw [Nat.zero_add, cells_at (hk.has _ List.mem_cons_self)]
  exact hb.get hx
theorem Kn.tail0 {X : List Nat} {w0 W W' : World} {P P' : List (Nat × Obj)} (h : Kn X w0 W P) (k : Kn (keys P) W W' P') : Kn X w0 W' P' := by
 have := Kn.joinA [] [] (P := P) (P' := P') (by simpa using h) k
 simpa using this
/-- read, its rows as what stands. -/
theorem readO (hIA : Hid IAny) (Y : List Nat) (line : ByteArray) (hs : line.size ≤ 20000) (w : World) (hY : ∀ y ∈ Y, y < w.heap.size) : Calls Tryz.prog 32 #[.string line] w fun e w' => ∃ vl vo sop, e = .returned (.agg #[vl, .string sop, vo, .int .i64 0]) ∧ XOK Y w' ⟨read line.data.toList, vl, vo, sop⟩ ∧ (∃ ao n c, vl = .slice ao n c) ∧ (∃ ao n c, vo = .slice ao n c) ∧ Below w.heap.size w w' := by
 refine (read_is hIA line hs w).mono fun e w' h => ?_
 obtain ⟨vl, vo, LL, LO, sop, h1, h2, h3, h4, h5⟩ := h
 obtain ⟨s1, s2, s3, s4, s5⟩ := read_sizes line.data.toList
 rw [szl] at s1 s2 s3 s4 s5
 have hnew : ∀ p ∈ LO ++ LL, p.1 ∉ Y := fun p hp hm => by
  have := hY _ hm
  rcases h5.own p hp with e | e
  ·omega
  ·simp at e
 refine ⟨vl, vo, sop, h1, ⟨h4.symm, h2.rowO (h5.sub (List.sublist_append_right LO LL)) (fun p hp => hnew p (List.mem_append_right _ hp)), h3.rowO (h5.sub (List.sublist_append_left LO LL)) (fun p hp => hnew p (List.mem_append_left _ hp)), fun p hp => by have := s1 p hp; omega, fun p hp => by have := s2 p hp; omega, by rw [← szl, h4]; omega, by show (read line.data.toList).labels.length ≤ _; omega, by show (read line.data.toList).ops.length ≤ _; omega⟩, ?_, ?_, h5.below0⟩
 ·rcases h2 with ⟨_, rfl, _⟩ | ⟨_, _, _, _, rfl, _⟩ <;> exact ⟨_, _, _, rfl⟩
 ·rcases h3 with ⟨_, rfl, _⟩ | ⟨_, _, _, _, rfl, _⟩ <;> exact ⟨_, _, _, rfl⟩
theorem emit_is (ab mb g xo at_ : Nat) (es : Array MapEntry) (clock : Nat) (L : Labs) (cur : Array Value) (x : Stm) (sop : ByteArray) (vo vc : Value) (code : Bytes) (LP : List (Nat × Obj)) (Y : List Nat) (w : World) (hL0 : Kn Y w w ((ab, .cells #[.map (some mb), vc] 61 (0, 0)) :: LP)) (hrow : RowL 1 5 LP vc code.length (bc code)) (hmb : w.heap[mb]? = some (.map es clock)) (hmY : mb ∉ Y) (hM : MapV Tryz.prog 9 es (lv L)) (hLn : ∀ p ∈ L, p.2 ≤ 100000) (hg : w.heap[g]? = some (.cells cur 64 (0, 0))) (hgY : g ∉ Y) (hS : StEm w Y xo at_ cur x sop vo) (hat : at_ ≤ 5000) (hcl : code.length ≤ 1000000) (hT : TabA w) (h14 : ∀ y ∈ Y, 14 ≤ y) (hk : OO.find x.op ≠ none ∨ isDir x.op = true ∨ x.op = []) : Calls Tryz.prog 35 #[.pointer (some ⟨ab, 0, none⟩), .pointer (some ⟨g, xo, none⟩)] w (EmitP (emit OO L x at_ code) ab mb Y w) := by
 have hop := hS.op
 by_cases h0 : 0 ≤ findI sop
 ·exact emitW_I ab mb g xo at_ es clock L cur x sop vo vc code LP Y w hL0 hrow hmb hmY hM hLn hg hgY hS hat hcl hT h14 (findI sop).toNat (by omega)
 ·have hfi : findI sop = -1 := by have := (findI_lt sop).1; omega
  have hfn : OO.find x.op = none := by rw [hop]; exact find_none hfi
  rcases hk with hk | hd | he
  ·exact absurd hfn hk
  ·have : ∀ (d : Bytes) (b : ByteArray), b.data.toList = d → sop.data.toList = d → sop = b := fun d b h1 h2 => by
    rw [← h1] at h2
    cases sop; cases b; simp at h2; simp [h2]
   rw [hop] at hd
   simp only [isDir, Bool.or_eq_true, beq_iff_eq] at hd
   rcases hd with ((hd | hd) | hd) | hd
   ·exact emitW_D0 ab mb g xo at_ es clock L cur x sop vo vc code LP Y w hL0 hrow hmb hmY hM hLn hg hgY hS hat hcl hT h14 (this _ ⟨#[46, 98, 121, 116, 101]⟩ rfl hd)
   ·exact emitW_D1 ab mb g xo at_ es clock L cur x sop vo vc code LP Y w hL0 hrow hmb hmY hM hLn hg hgY hS hat hcl hT h14 (this _ ⟨#[46, 119, 111, 114, 100]⟩ rfl hd)
   ·exact emitW_D2 ab mb g xo at_ es clock L cur x sop vo vc code LP Y w hL0 hrow hmb hmY hM hLn hg hgY hS hat hcl hT h14 (this _ ⟨#[46, 116, 101, 120, 116]⟩ rfl hd)
   ·exact emitW_D3 ab mb g xo at_ es clock L cur x sop vo vc code LP Y w hL0 hrow hmb hmY hM hLn hg hgY hS hat hcl hT h14 (this _ ⟨#[46, 115, 112, 97, 99, 101]⟩ rfl hd)
  ·exact emitW_E ab mb g xo at_ es clock L cur x sop vo vc code LP Y w hL0 hrow hmb hmY hM hLn hg hgY hS hat hcl hT h14 (by rw [hop] at he; cases sop; simp at he; simp [he])
theorem infoST : (Tryz.prog.info? 64).map (fun i => (i.zero, i.size, i.bytes)) = some (some (.agg #[.slice none 0 0, .string ⟨#[]⟩, .slice none 0 0, .int .i64 0]), 4, 72) := by kernel_rfl
theorem run_append_st {W : World} {t : TypeId} {v : Value} {n m c : Nat} {xs news : List Value} {ad : Addr} (hl : news.length = m * 4) (hnews : ∀ j u, news[j]? = some u → W.cell? (ad.add j) = some u) (h1 : ∀ u ∈ news, u.oneCell' = true) (hs : n + m ≤ 1000000) (ho : W.ownsRow 0 64 4 v n xs) :
  ∃ v' w', (Builtin.append_ #[62, 62] t #[v, .slice (some ad) m c]).run Tryz.prog W = .ok v' w' ∧ w'.ownsRow 0 64 4 v' (n + m) (xs ++ news) ∧ W.grownBy w' v.ownBlock ∧ (v'.ownBlock = v.ownBlock ∨ v'.ownBlock = some W.heap.size) := by
 obtain ⟨i0, hi, hz0, hz1, hz2⟩ := info_parts infoST
 have := run_append_kn (P := Tryz.prog) (w := W) 0 62 t 64 i0 _ Tryz.underlying62 hi hz0 (by rw [hz1]; rfl) (by rw [hz1]; decide) v n xs (by rw [hz1]; exact ho) ad m c news (by rw [hz1, hl]) hnews h1 (by unfold maxLen; omega) (by rw [hz2]; omega) (Nat.zero_le _)
 rw [hz1] at this
 exact this
theorem flat4_get {xs : List XT} {i : Nat} {x : XT} (h : xs[i]? = some x) (c : Nat) (v : Value) (hc : (stc x)[c]? = some v) : (xs.flatMap stc)[i * 4 + c]? = some v := by
 induction xs generalizing i with
 | nil => simp at h
 | cons y ys ih =>
  cases i with
  | zero =>
   simp at h; subst h
   rw [List.flatMap_cons, Nat.zero_mul, Nat.zero_add, List.getElem?_append_left (List.getElem?_eq_some_iff.1 hc).1]; exact hc
  | succ i =>
   rw [List.flatMap_cons, List.getElem?_append_right (by rw [stc_len]; omega), stc_len, show (i + 1) * 4 + c - 4 = i * 4 + c by omega]
   exact ih (by simpa using h)
theorem split10_len (s : Bytes) : (split10 s).length ≤ s.length + 1 ∧ (∀ p ∈ split10 s, p.length ≤ s.length) ∧ split10 s ≠ [] := by
 induction s with
 | nil => exact ⟨by simp [split10], by simp [split10], by simp [split10]⟩
 | cons c t ih =>
  obtain ⟨h1, h2, h3⟩ := ih
  unfold split10
  split
  ·refine ⟨by simp; omega, fun p hp => ?_, by simp⟩
   rcases List.mem_cons.1 hp with rfl | hp
   ·simp
   ·have := h2 p hp; simp; omega
  ·cases hs : split10 t with
   | nil => exact absurd hs h3
   | cons a r =>
    rw [hs] at h1 h2
    simp only [List.length_cons] at h1 ⊢
    refine ⟨by omega, fun p hp => ?_, by simp⟩
    rcases List.mem_cons.1 hp with rfl | hp
    ·have := h2 a (by simp); simp; omega
    ·have := h2 p (List.mem_cons_of_mem _ hp); omega
theorem lines_len (s : Bytes) : (linesB s).length ≤ s.length + 1 ∧ (∀ p ∈ linesB s, p.length ≤ s.length) ∧ (s ≠ [] → 0 < (linesB s).length) := by
 unfold linesB
 split
 ·rename_i h; exact ⟨by simp, by simp, fun h2 => absurd h h2⟩
 ·have ht : (Lib.trimSuffix s [10]).length ≤ s.length := by unfold Lib.trimSuffix; split <;> simp
  obtain ⟨h1, h2, h3⟩ := split10_len (Lib.trimSuffix s [10])
  exact ⟨by omega, fun p hp => by have := h2 p hp; omega, fun _ => List.length_pos_iff.2 h3⟩
/-- The statements' cells. -/
def CU (cur : Array Value) (xs : List XT) (r : List (Stm × Nat)) : Prop := ∀ (i : Nat) x, xs[i]? = some x → cur[i * 4]? = some x.vl ∧ cur[i * 4 + 1]? = some (.string x.op) ∧ cur[i * 4 + 2]? = some x.vo ∧ (∃ a : Int, cur[i * 4 + 3]? = some (.int .i64 a)) ∧ ∀ p, r[i]? = some p → cur[i * 4 + 3]? = some (.int .i64 p.2)
theorem CU.start {cur : Array Value} {cap n : Nat} {xs : List XT} (h : RowB 4 cur cap n (xs.flatMap stc)) : CU cur xs [] := fun i x hx =>
 ⟨by have := h.get (flat4_get hx 0 _ rfl); simpa using this, h.get (flat4_get hx 1 _ rfl), h.get (flat4_get hx 2 _ rfl), ⟨0, h.get (flat4_get hx 3 _ rfl)⟩, fun p hp => by simp at hp⟩
theorem CU.set {cur : Array Value} {xs : List XT} {r : List (Stm × Nat)} (h : CU cur xs r) {k : Nat} (hk : r.length = k) {x : XT} (hx : xs[k]? = some x) (a : Nat) : CU (cur.setIfInBounds (k * 4 + 3) (.int .i64 a)) xs (r ++ [(x.s, a)]) := by
 intro i y hy
 obtain ⟨h1, h2, h3, ⟨b, h4⟩, h5⟩ := h i y hy
 by_cases e : i = k
 ·subst e
  have hlt := (Array.getElem?_eq_some_iff.1 h4).1
  refine ⟨by rw [Array.getElem?_setIfInBounds_ne (by omega)]; exact h1, by rw [Array.getElem?_setIfInBounds_ne (by omega)]; exact h2, by rw [Array.getElem?_setIfInBounds_ne (by omega)]; exact h3, ⟨a, Array.getElem?_setIfInBounds_self_of_lt hlt⟩, fun p hp => ?_⟩
  rw [List.getElem?_append_right (by omega), hk, Nat.sub_self] at hp
  simp at hp; subst hp
  exact Array.getElem?_setIfInBounds_self_of_lt hlt
 ·have e4 : k * 4 + 3 ≠ i * 4 + 3 := by omega
  refine ⟨by rw [Array.getElem?_setIfInBounds_ne (by omega)]; exact h1, by rw [Array.getElem?_setIfInBounds_ne (by omega)]; exact h2, by rw [Array.getElem?_setIfInBounds_ne (by omega)]; exact h3, ⟨b, by rw [Array.getElem?_setIfInBounds_ne e4]; exact h4⟩, fun p hp => ?_⟩
  rw [Array.getElem?_setIfInBounds_ne e4]
  refine h5 p ?_
  rcases Nat.lt_or_ge i r.length with h6 | h6
  ·rwa [List.getElem?_append_left h6] at hp
  ·rw [List.getElem?_append_right h6] at hp
   have := (List.getElem?_eq_some_iff.1 hp).1
   simp at this; omega
theorem Lines_eq (s : ByteArray) (hs : s.size ≤ 100000000) (h : s.size ≠ 0) (n : Nat) (CL : Array Value) (hn : (linesB s.data.toList).length = n) (hC : (strs (linesB s.data.toList)).toArray = CL) (w : World) (hT : Tab w) : Calls Tryz.prog 16 #[.string s] w fun e w' => ∃ g, e = .returned (.slice (some ⟨g, 0, none⟩) n n) ∧ Kn [] w w' [(g, .cells CL 9 (0, 0))] := by
 subst hn hC
 exact Lines_some s hs h w hT
theorem Kn.joinS {X : List Nat} {w0 W W' : World} {P P' : List (Nat × Obj)} (A : List (Nat × Obj)) (h : Kn X w0 W (A ++ P)) (k : Kn (keys P) W W' P') : Kn X w0 W' (A ++ P') := by
 have := Kn.joinA (P := P) (P' := P') A [] (by simpa using h) k
 simpa using this
theorem kn_bodyD {P : Program} {fn : Func} {R : Ending → World → Prop} {x : Exit} {a : Act} {X : List Nat} {w0 Xw : World} {L : List (Nat × Obj)} [h : Kn X w0 Xw L]
  (k : ∀ W, Kn X w0 W L → bodyPostD P fn R x a W) : bodyPostD P fn R x a Xw := k Xw h
theorem Kn.ofPerm {X : List Nat} {w0 w : World} {L L' : List (Nat × Obj)} (h : Kn X w0 w L) (p : L.Perm L') : Kn X w0 w L' :=
 ⟨h.os, h.tape, h.output, h.size, h.block, fun q hq => h.own q (p.symm.mem_iff.1 hq), fun q hq => h.has q (p.symm.mem_iff.1 hq), ((p.map (·.1))).nodup_iff.1 h.nd⟩
theorem p9 (a b c d e f g h i : Nat × Obj) : [a, b, c, d, e, f, g, h, i].Perm [b, f, i, a, d, g, h, c, e] := by
 refine (List.perm_middle (l₁ := [a])).trans (.cons b ?_)
 refine (List.perm_middle (l₁ := [a, c, d, e])).trans (.cons f ?_)
 refine (List.perm_middle (l₁ := [a, c, d, e, g, h])).trans (.cons i ?_)
 refine .cons a ?_
 refine (List.perm_middle (l₁ := [c])).trans (.cons d ?_)
 refine (List.perm_middle (l₁ := [c, e])).trans (.cons g ?_)
 refine (List.perm_middle (l₁ := [c, e])).trans (.cons h ?_)
 exact .refl _
theorem p8 (a b c d e f g h i : Nat × Obj) : [b, f, i, a, d, g, h, e].Sublist [b, f, i, a, d, g, h, c, e] := by
 (repeat apply List.Sublist.cons_cons)
 exact List.Sublist.cons _ (List.Sublist.refl _)
theorem keys_sub {L L' L2 : List (Nat × Obj)} (p : L.Perm L2) (h : L'.Sublist L2) : ∀ y ∈ keys L', y ∈ keys L := fun y hy => by
 obtain ⟨q, hq, rfl⟩ := List.mem_map.1 hy
 exact List.mem_map.2 ⟨q, p.symm.mem_iff.1 (h.subset hq), rfl⟩
theorem kn_two {X : List Nat} {w0 W : World} {L : List (Nat × Obj)} {a b : Nat} {o o2 : Obj} (h : Kn X w0 W L) (h1 : (a, o) ∈ L) (h2 : (b, o2) ∈ L) (hne : a ≠ b) : Kn [a, b] W W [(a, o), (b, o2)] :=
 ⟨rfl, rfl, rfl, Nat.le_refl _, fun _ _ _ => rfl, fun p hp => .inr (by simp at hp; rcases hp with rfl | rfl <;> simp), fun p hp => (by simp at hp; rcases hp with rfl | rfl; exact h.has _ h1; exact h.has _ h2), by simp [hne]⟩
theorem Kn.far {X : List Nat} {w W W' : World} {L L' : List (Nat × Obj)} (h : Kn [] w W L) (k : Kn X W W' L') (hx : ∀ x ∈ X, w.heap.size ≤ x) : Below w.heap.size w W' :=
 ⟨k.os.trans h.os, k.tape.trans h.tape, k.output.trans h.output, Nat.le_trans h.size k.size, fun b hb => (k.block b (Nat.lt_of_lt_of_le hb h.size) (fun hm => by have := hx b hm; omega)).trans (h.block b hb (by simp))⟩
theorem nd_far2 {A B : List Nat} (h : (A ++ B).Nodup) : ∀ a ∈ A, a ∉ B := fun a ha hb => (List.nodup_append.1 h).2.2 a ha a hb rfl
theorem nd_far {A B : List Nat} (h : (A ++ B).Nodup) : ∀ b ∈ B, b ∉ A := fun b hb ha => (List.nodup_append.1 h).2.2 b ha b hb rfl
theorem XOK.stin {w : World} {mb g k : Nat} {cur : Array Value} {xs : List XT} {r : List (Stm × Nat)} {x : XT} (h : XOK [mb, g] w x) (hc : CU cur xs r) (hx : xs[k]? = some x) : StIn w mb g (k * 4) cur x.s x.op x.vl x.vo := by
 obtain ⟨c0, c1, c2, c3, _⟩ := hc k x hx
 exact ⟨c0, c1, c2, c3, h.op, h.vl, h.vo, h.sl, h.so, h.sp, h.nl, h.no⟩
theorem XOK.stem {w : World} {Y : List Nat} {k at_ : Nat} {cur : Array Value} {xs : List XT} {r : List (Stm × Nat)} {x : XT} (h : XOK Y w x) (hc : CU cur xs r) (hx : xs[k]? = some x) (hr : r[k]? = some (x.s, at_)) : StEm w Y (k * 4) at_ cur x.s x.op x.vo := by
 obtain ⟨c0, c1, c2, _, c4⟩ := hc k x hx
 exact ⟨c1, c2, c4 _ hr, h.op, h.vo, h.so, h.sp, h.no⟩
def AsmP (A : Ans Bytes) (w : World) (e : Ending) (w' : World) : Prop := Below w.heap.size w w' ∧ match A with
 | .ok c => e = .returned (.tuple #[.string ⟨c.toArray⟩, .int .i64 0, .int .i64 0])
 | .bad m k => e = .returned (.tuple #[.string ⟨#[]⟩, .int .i64 m, .int .i64 k])
end Go.Proofs.YtfdlifhkeicnnaaGreatDoor
