/- Lemmas and walks for the law LawTells (part 20). -/
import Derived.Test.YtfdlifhkeicnnaaGreatDoorWPt19
import Derived.Test.YtfdlifhkeicnnaaGreatDoorProg
import Derived.WalkKit
import Derived.Handy
import Derived.Deep.Light
import Derived.WalkSmall
import Derived.StillTailTactics
import Derived.Lib.Hide
set_option maxRecDepth 20000
set_option maxHeartbeats 4000000
set_option linter.unusedVariables false
set_option linter.unusedSimpArgs false
namespace Go.Proofs.YtfdlifhkeicnnaaGreatDoor
open Go Go.RowKit
theorem emitW_D0 (ab mb g xo at_ : Nat) (es : Array MapEntry) (clock : Nat) (L : Labs) (cur : Array Value) (x : Stm) (sop : ByteArray) (vo vc : Value) (code : Bytes) (LP : List (Nat × Obj)) (Y : List Nat) (w : World) (hL0 : Kn Y w w ((ab, .cells #[.map (some mb), vc] 61 (0, 0)) :: LP)) (hrow : RowL 1 5 LP vc code.length (bc code)) (hmb : w.heap[mb]? = some (.map es clock)) (hmY : mb ∉ Y) (hM : MapV Tryz.prog 9 es (lv L)) (hLn : ∀ p ∈ L, p.2 ≤ 100000) (hg : w.heap[g]? = some (.cells cur 64 (0, 0))) (hgY : g ∉ Y) (hS : StEm w Y xo at_ cur x sop vo) (hat : at_ ≤ 5000) (hcl : code.length ≤ 1000000) (hT : TabA w) (h14 : ∀ y ∈ Y, 14 ≤ y) (hso : sop = ⟨#[46, 98, 121, 116, 101]⟩) : Calls Tryz.prog 35 #[.pointer (some ⟨ab, 0, none⟩), .pointer (some ⟨g, xo, none⟩)] w (EmitP (emit OO L x at_ code) ab mb Y w) := by
 subst hso
 have hop := hS.op
 have hfn := func_ne
 have lg := lt_of_has hg
 have x1 := (cells_at hg (xo + 1)).trans hS.c1
 have x2 := (cells_at hg (xo + 2)).trans hS.c2
 have x3 := (cells_at hg (xo + 3)).trans hS.c3
 have HVO := Lib.hid hS.vo
 have HSO := Lib.hid hS.so
 have hno := hS.no
 have HOP := Lib.hid hS.op
 obtain ⟨R, hR⟩ : ∃ R, emit OO L x at_ code = R := ⟨_, rfl⟩
 rw [hR]
 have hL := hL0
 have hF := hL.fx
 have hR2 := hR.symm.trans (emit_D (by rw [hop]; simp) (by rw [hop]; rfl))
 rw [direct_b hop] at hR2
 have HR := Lib.hid hR2
 clear hR hR2 hop hS
 go_enter Tryz.func35, Tryz.ntmps35
 go_wp2
 go_loopg [] (at_ - code.length) (fun n wr => ∃ (k : Nat) (LPk : List (Nat × Obj)) (vk : Value), Hid (n = at_ - code.length - k) ∧ k ≤ at_ - code.length ∧ RowL 1 5 LPk vk (code.length + k) (bc (code ++ List.replicate k 0)) ∧ Kn Y w wr ((ab, .cells #[.map (some mb), vk] 61 (0, 0)) :: LPk))
 case atStart => exact ⟨0, LP, vc, Lib.hid rfl, by omega, by rw [Nat.add_zero, List.replicate_zero, List.append_nil]; exact hrow, hL⟩
 case round =>
  clear hL
  obtain ⟨k, LPk, vk, HK, hk, hrowk, hL⟩ := hrel
  have hF := hL.fx
  have HRK := Lib.hid hrowk
  obtain ⟨ao, cp, hvk⟩ : ∃ ao cp, vk = .slice ao (code.length + k) cp := by
   rcases hrowk with ⟨_, rfl, h0, _⟩ | ⟨g2, cap2, cur2, _, rfl, _⟩
   ·exact ⟨none, 0, by rw [h0]⟩
   ·exact ⟨_, _, rfl⟩
  clear hrowk
  subst hvk
  by_cases hlt : code.length + k < at_
  ·have t1 : ((code.length + k : Nat) : Int) < (at_ : Int) := by omega
   go_wp2_with (first | ((with_reducible refine at_region 1 ?_); refine kW [0, 1, 2, 3, 4, 5, 6, 7, 8, 9] [0, 1, 2, 3, 4, 5, 6, 7, 8, 9] [] [0, 1, 2, 4, 5, 6, 7, 9] ?_; clear hF hL; intro ι F hne hC hG; (repeat (first | (refine cF hC ?_; intro K hK; go_big_quiet_op; go_big_quiet_on) | (refine cP ?_; intro K hK; go_big_quiet_op; go_big_quiet_on))); refine cwk_nil ?_; clear hC hG; intro W hL; have hF := hL.fx) | (at_builtin; refine kL ?_; clear hF hL; intro W hL hF; go_loud (refine wpList_append_end rfl _ _ 47 47 rfl [(_, .cells #[.int .u8 0] 5 (0, 0)), (ab, .cells #[.map (some mb), _] 61 (0, 0))] LPk hL _ 1 _ (bc [0]) _ _ HRK.out rfl rfl (fun ho => run_append_b rfl (fun j u hu => by rw [Go.WideShapes.add_plain, Nat.zero_add, kn_cell hL List.mem_cons_self]; simpa [bc] using hu) (bc_one _) (by omega) ho) ?_); intro LPn an cpn W2 hL2 hrn; clear hL hF; have hL := hL2; clear hL2; simp only [kfb] at hL; have hF := hL.fx))
   go_roundg (at_ - code.length - (k + 1))
   case measure => have := HK.out; omega
   case rel => exact ⟨k + 1, LPn, _, Lib.hid rfl, by omega, by rw [List.replicate_succ', ← List.append_assoc, bc_app, ← Nat.add_assoc]; exact hrn, Kn.sub kn_here (List.sublist_cons_self _ _)⟩
  ·have t1 : ¬ ((code.length + k : Nat) : Int) < (at_ : Int) := by omega
   obtain rfl : k = at_ - code.length := by omega
   obtain ⟨C, hC⟩ : ∃ C, padTo code at_ = C := ⟨_, rfl⟩
   have hCl : C.length = code.length + (at_ - code.length) := by rw [← hC]; simp [padTo]
   have HRC := Lib.hid (show RowL 1 5 LPk (.slice ao (code.length + (at_ - code.length)) cp) C.length (bc C) from by rw [hCl, ← hC]; exact HRK.out)
   rw [hC] at HR
   obtain ⟨cn, hcn⟩ : ∃ cn, code.length + (at_ - code.length) = cn := ⟨_, rfl⟩
   rw [hcn] at hCl HRC hL hF t1
   have HCL := Lib.hid hCl
   have hcnb : cn ≤ 1005000 := by omega
   clear hC hCl
   have HIN := Lib.hid (fun W (b6 b3 : Nat) (hL : Kn Y w W ((b6, .cells #[Value.func (.func 95) #[.pointer (some ⟨ab, 0, none⟩)] #[]] 130 (0, 0)) :: (b3, .cells #[.pointer (some ⟨g, xo, none⟩)] 66 (0, 0)) :: (ab, .cells #[.map (some mb), .slice ao cn cp] 61 (0, 0)) :: LPk)) => clo_0 ab g xo b6 b3 true _ W (by rw [kn_cell hL List.mem_cons_self]; rfl) (by rw [kn_cell hL (List.mem_cons_of_mem _ List.mem_cons_self)]; rfl) (Lib.hid fun W' hK => bytes_is ab g xo vo x.ops true W' (kn_old hK (kn_old hL x2 hgY) (by simp)) ((HVO.out.kn hL (fun y hy => .inl hy)).row.kn hK (by simp)) HSO.out hno ((hT.kn hL h14).kn hK (by simp))))
   cases hd : bytesR x.ops with
   | bad m =>
    have HB := HR.out
    rw [hd] at HB HIN
    replace HB : R = .bad m := HB
    subst HB
    clear hd
    go_wp2_with (first | ((with_reducible refine ks ?_); clear hL; intro W hL hF) | ((with_reducible refine at_region 1 ?_); refine kW [0, 1, 2, 3, 4, 5, 6, 7, 8, 9] [0, 1, 2, 3, 4, 5, 6, 7, 8, 9] [] [0, 1, 2, 4, 5, 6, 7, 9] ?_; clear hF hL; intro ι F hne hC hG; (repeat (first | (refine cF hC ?_; intro K hK; go_big_quiet_op; go_big_quiet_on) | (refine cP ?_; intro K hK; go_big_quiet_op; go_big_quiet_on))); refine cwk_nil ?_; clear hC hG; intro W hL; have hF := hL.fx) | (go_at_call 63; refine kG ?_; clear hF hL; intro W hL hF; (with_reducible refine (directive_0 ab g xo _ (kn_old hL x1 hgY)).mono ?_); rintro e W ⟨b6, b3, rfl, hb⟩; replace hL := hL.join hb; clear hb hF; simp only [kfb] at hL; have hF := hL.fx) | ((with_reducible refine at_region 5 ?_); refine kn_wp ?_; clear hF hL; intro W hL; have hF := hL.fx; refine kn_regionP [0, 1, 2, 3, 4, 5, 6, 7, 8, 9, 10] [0, 1, 2, 3, 4, 5, 8, 9] [7, 10] [0, 1, 2, 3, 5, 8, 9] (by kernel_rfl) (by kernel_rfl) (List.Sublist.refl _) ?_; clear hF hL; intro Qp hQp; replace hQp := Lib.hid hQp; intro ι F hne hC hFF; have hG := fun n => (hFF n).fx; clear hFF; (repeat (first | (refine cF hC ?_; intro K hK; go_big_quiet_op; go_big_quiet_on) | (refine cP ?_; intro K hK; go_big_quiet_op; go_big_quiet_on) | (refine cwk_callP rfl (by rfl) (by rfl) (fun _ => rfl) ?_; intro W hL; have hF := hL.fx; simp only [ka, Act.eval]; simp only [List.append_toArray, List.cons_append, List.nil_append]; go_at_call 99; (with_reducible refine (HIN.out _ _ _ hL).mono ?_); rintro e W ⟨rfl, hb⟩; replace hL := hL.below hb; clear hb hF; have hF := hL.fx; refine ⟨_, rfl, hQp.out _ _ ?_⟩; clear hQp; intro a' ha; exact ⟨ha, rfl, hL.sub (by simp)⟩))); ((done))))
   | ok u =>
    have HB := HR.out
    rw [hd] at HB HIN
    replace HB : R = .ok (C ++ u) := HB
    subst HB
    have hul : u.length ≤ 1000000 := by have := bytesR_len hd; omega
    clear hd
    go_wp2_with (first | ((with_reducible refine ks ?_); clear hL; intro W hL hF) | ((with_reducible refine at_region 1 ?_); refine kW [0, 1, 2, 3, 4, 5, 6, 7, 8, 9] [0, 1, 2, 3, 4, 5, 6, 7, 8, 9] [] [0, 1, 2, 4, 5, 6, 7, 9] ?_; clear hF hL; intro ι F hne hC hG; (repeat (first | (refine cF hC ?_; intro K hK; go_big_quiet_op; go_big_quiet_on) | (refine cP ?_; intro K hK; go_big_quiet_op; go_big_quiet_on))); refine cwk_nil ?_; clear hC hG; intro W hL; have hF := hL.fx) | (go_at_call 63; refine kG ?_; clear hF hL; intro W hL hF; (with_reducible refine (directive_0 ab g xo _ (kn_old hL x1 hgY)).mono ?_); rintro e W ⟨b6, b3, rfl, hb⟩; replace hL := hL.join hb; clear hb hF; simp only [kfb] at hL; have hF := hL.fx) | ((with_reducible refine at_region 5 ?_); refine kW [0, 1, 2, 3, 4, 5, 6, 7, 8, 9, 10] [0, 1, 2, 3, 4, 5, 8, 9] [7, 10] [0, 1, 2, 3, 5, 8, 9] ?_; clear hF hL; intro ι F hne hC hG; (repeat (first | (refine cS ?_) | (refine cF hC ?_; intro K hK; go_big_quiet_op; go_big_quiet_on) | (refine cP ?_; intro K hK; go_big_quiet_op; go_big_quiet_on) | (refine cC ?_; intro W hL; have hF := hL.fx; simp only [ka, Act.eval]; simp only [List.append_toArray, List.cons_append, List.nil_append]; go_at_call 99; (with_reducible refine (HIN.out _ _ _ hL).mono ?_); rintro e W ⟨gu, cap, cu, fu, rfl, hB, hb⟩; replace hL := hL.join hb; clear hb hF; simp only [kfb] at hL; have hF := hL.fx; refine owed_ret ?_; ((refine owedS _ (by repeat' (first | (with_reducible exact List.Sublist.refl _) | (with_reducible apply List.Sublist.cons))) ?_; clear hL hF hC hG; intro ι F hne hC hFF; have hG := fun n => (hFF n).fx; clear hFF)); simp only [Act.put, kT]) | (refine cN ?_; intro W hL; have hF := hL.fx; at_builtin; go_loud (refine wpList_append_end rfl _ _ 47 47 rfl [(gu, .cells cu 5 fu), (b6, .cells #[Value.func (.func 95) #[.pointer (some ⟨ab, 0, none⟩)] #[]] 130 (0, 0)), (b3, .cells #[.pointer (some ⟨g, xo, none⟩)] 66 (0, 0)), (ab, .cells #[.map (some mb), _] 61 (0, 0))] LPk hL C.length u.length (bc C) (bc u) _ _ HRC.out rfl rfl (fun ho => run_append_b (bc_len u) (crow_at hL List.mem_cons_self hB) (bc_one _) (by rw [HCL.out]; omega) ho) ?_); intro LPn an cpn W2 hL2 hrn; clear hL hF; have hL := hL2.sub (List.sublist_cons_self _ _); clear hL2; simp only [List.append_eq] at hL; simp only [kfb] at hL; have hF := hL.fx; go_wp2; refine kb2 ?_; clear hL hF hC hG; intro ι F hne hC hG) | (refine cN ?_; intro W hL; have hF := hL.fx; go_wp2; refine kb2 ?_; clear hL hF hC hG; intro ι F hne hC hG))); refine cwk_nil ?_; clear hC hG; intro W hL; simp only [kfb] at hL; have hF := hL.fx))
    ((go_end0))
    exact ⟨rfl, LPn, _, by rw [List.length_append, bc_app]; exact hrn, hL.sub (by apply List.Sublist.cons; exact List.sublist_cons_self _ _)⟩
theorem emitW_D1 (ab mb g xo at_ : Nat) (es : Array MapEntry) (clock : Nat) (L : Labs) (cur : Array Value) (x : Stm) (sop : ByteArray) (vo vc : Value) (code : Bytes) (LP : List (Nat × Obj)) (Y : List Nat) (w : World) (hL0 : Kn Y w w ((ab, .cells #[.map (some mb), vc] 61 (0, 0)) :: LP)) (hrow : RowL 1 5 LP vc code.length (bc code)) (hmb : w.heap[mb]? = some (.map es clock)) (hmY : mb ∉ Y) (hM : MapV Tryz.prog 9 es (lv L)) (hLn : ∀ p ∈ L, p.2 ≤ 100000) (hg : w.heap[g]? = some (.cells cur 64 (0, 0))) (hgY : g ∉ Y) (hS : StEm w Y xo at_ cur x sop vo) (hat : at_ ≤ 5000) (hcl : code.length ≤ 1000000) (hT : TabA w) (h14 : ∀ y ∈ Y, 14 ≤ y) (hso : sop = ⟨#[46, 119, 111, 114, 100]⟩) : Calls Tryz.prog 35 #[.pointer (some ⟨ab, 0, none⟩), .pointer (some ⟨g, xo, none⟩)] w (EmitP (emit OO L x at_ code) ab mb Y w) := by
 subst hso
 have hop := hS.op
 have hfn := func_ne
 have lg := lt_of_has hg
 have x1 := (cells_at hg (xo + 1)).trans hS.c1
 have x2 := (cells_at hg (xo + 2)).trans hS.c2
 have x3 := (cells_at hg (xo + 3)).trans hS.c3
 have HVO := Lib.hid hS.vo
 have HSO := Lib.hid hS.so
 have hno := hS.no
 have HOP := Lib.hid hS.op
 obtain ⟨R, hR⟩ : ∃ R, emit OO L x at_ code = R := ⟨_, rfl⟩
 rw [hR]
 have hL := hL0
 have hF := hL.fx
 have hR2 := hR.symm.trans (emit_D (by rw [hop]; simp) (by rw [hop]; rfl))
 rw [direct_w hop] at hR2
 have HR := Lib.hid hR2
 clear hR hR2 hop hS
 go_enter Tryz.func35, Tryz.ntmps35
 go_wp2
 go_loopg [] (at_ - code.length) (fun n wr => ∃ (k : Nat) (LPk : List (Nat × Obj)) (vk : Value), Hid (n = at_ - code.length - k) ∧ k ≤ at_ - code.length ∧ RowL 1 5 LPk vk (code.length + k) (bc (code ++ List.replicate k 0)) ∧ Kn Y w wr ((ab, .cells #[.map (some mb), vk] 61 (0, 0)) :: LPk))
 case atStart => exact ⟨0, LP, vc, Lib.hid rfl, by omega, by rw [Nat.add_zero, List.replicate_zero, List.append_nil]; exact hrow, hL⟩
 case round =>
  clear hL
  obtain ⟨k, LPk, vk, HK, hk, hrowk, hL⟩ := hrel
  have hF := hL.fx
  have HRK := Lib.hid hrowk
  obtain ⟨ao, cp, hvk⟩ : ∃ ao cp, vk = .slice ao (code.length + k) cp := by
   rcases hrowk with ⟨_, rfl, h0, _⟩ | ⟨g2, cap2, cur2, _, rfl, _⟩
   ·exact ⟨none, 0, by rw [h0]⟩
   ·exact ⟨_, _, rfl⟩
  clear hrowk
  subst hvk
  by_cases hlt : code.length + k < at_
  ·have t1 : ((code.length + k : Nat) : Int) < (at_ : Int) := by omega
   go_wp2_with (first | ((with_reducible refine at_region 1 ?_); refine kW [0, 1, 2, 3, 4, 5, 6, 7, 8, 9] [0, 1, 2, 3, 4, 5, 6, 7, 8, 9] [] [0, 1, 2, 4, 5, 6, 7, 9] ?_; clear hF hL; intro ι F hne hC hG; (repeat (first | (refine cF hC ?_; intro K hK; go_big_quiet_op; go_big_quiet_on) | (refine cP ?_; intro K hK; go_big_quiet_op; go_big_quiet_on))); refine cwk_nil ?_; clear hC hG; intro W hL; have hF := hL.fx) | (at_builtin; refine kL ?_; clear hF hL; intro W hL hF; go_loud (refine wpList_append_end rfl _ _ 47 47 rfl [(_, .cells #[.int .u8 0] 5 (0, 0)), (ab, .cells #[.map (some mb), _] 61 (0, 0))] LPk hL _ 1 _ (bc [0]) _ _ HRK.out rfl rfl (fun ho => run_append_b rfl (fun j u hu => by rw [Go.WideShapes.add_plain, Nat.zero_add, kn_cell hL List.mem_cons_self]; simpa [bc] using hu) (bc_one _) (by omega) ho) ?_); intro LPn an cpn W2 hL2 hrn; clear hL hF; have hL := hL2; clear hL2; simp only [kfb] at hL; have hF := hL.fx))
   go_roundg (at_ - code.length - (k + 1))
   case measure => have := HK.out; omega
   case rel => exact ⟨k + 1, LPn, _, Lib.hid rfl, by omega, by rw [List.replicate_succ', ← List.append_assoc, bc_app, ← Nat.add_assoc]; exact hrn, Kn.sub kn_here (List.sublist_cons_self _ _)⟩
  ·have t1 : ¬ ((code.length + k : Nat) : Int) < (at_ : Int) := by omega
   obtain rfl : k = at_ - code.length := by omega
   obtain ⟨C, hC⟩ : ∃ C, padTo code at_ = C := ⟨_, rfl⟩
   have hCl : C.length = code.length + (at_ - code.length) := by rw [← hC]; simp [padTo]
   have HRC := Lib.hid (show RowL 1 5 LPk (.slice ao (code.length + (at_ - code.length)) cp) C.length (bc C) from by rw [hCl, ← hC]; exact HRK.out)
   rw [hC] at HR
   obtain ⟨cn, hcn⟩ : ∃ cn, code.length + (at_ - code.length) = cn := ⟨_, rfl⟩
   rw [hcn] at hCl HRC hL hF t1
   have HCL := Lib.hid hCl
   have hcnb : cn ≤ 1005000 := by omega
   clear hC hCl
   have HIN := Lib.hid (fun W (b6 b3 : Nat) (hL : Kn Y w W ((b6, .cells #[Value.func (.func 96) #[.pointer (some ⟨ab, 0, none⟩)] #[]] 130 (0, 0)) :: (b3, .cells #[.pointer (some ⟨g, xo, none⟩)] 66 (0, 0)) :: (ab, .cells #[.map (some mb), .slice ao cn cp] 61 (0, 0)) :: LPk)) => clo_1 ab g xo b6 b3 true _ W (by rw [kn_cell hL List.mem_cons_self]; rfl) (by rw [kn_cell hL (List.mem_cons_of_mem _ List.mem_cons_self)]; rfl) (Lib.hid fun W' hK => words_is ab mb es clock L g xo vo x.ops true W' (kn_old hK ((kn_cell hL (List.mem_cons_of_mem _ (List.mem_cons_of_mem _ List.mem_cons_self)) 0).trans rfl) (by simp)) ((hK.block mb (Nat.lt_of_lt_of_le (lt_of_has hmb) hL.size) (by simp)).trans ((hL.block mb (lt_of_has hmb) hmY).trans hmb)) hM hLn (kn_old hK (kn_old hL x2 hgY) (by simp)) ((HVO.out.kn hL (fun y hy => .inl hy)).row.kn hK (by simp)) HSO.out hno ((hT.kn hL h14).kn hK (by simp))))
   cases hd : wordsR L true x.ops with
   | bad m =>
    have HB := HR.out
    rw [hd] at HB HIN
    replace HB : R = .bad m := HB
    subst HB
    clear hd
    go_wp2_with (first | ((with_reducible refine ks ?_); clear hL; intro W hL hF) | ((with_reducible refine at_region 1 ?_); refine kW [0, 1, 2, 3, 4, 5, 6, 7, 8, 9] [0, 1, 2, 3, 4, 5, 6, 7, 8, 9] [] [0, 1, 2, 4, 5, 6, 7, 9] ?_; clear hF hL; intro ι F hne hC hG; (repeat (first | (refine cF hC ?_; intro K hK; go_big_quiet_op; go_big_quiet_on) | (refine cP ?_; intro K hK; go_big_quiet_op; go_big_quiet_on))); refine cwk_nil ?_; clear hC hG; intro W hL; have hF := hL.fx) | (go_at_call 63; refine kG ?_; clear hF hL; intro W hL hF; (with_reducible refine (directive_1 ab g xo _ (kn_old hL x1 hgY)).mono ?_); rintro e W ⟨b6, b3, rfl, hb⟩; replace hL := hL.join hb; clear hb hF; simp only [kfb] at hL; have hF := hL.fx) | ((with_reducible refine at_region 5 ?_); refine kn_wp ?_; clear hF hL; intro W hL; have hF := hL.fx; refine kn_regionP [0, 1, 2, 3, 4, 5, 6, 7, 8, 9, 10] [0, 1, 2, 3, 4, 5, 8, 9] [7, 10] [0, 1, 2, 3, 5, 8, 9] (by kernel_rfl) (by kernel_rfl) (List.Sublist.refl _) ?_; clear hF hL; intro Qp hQp; replace hQp := Lib.hid hQp; intro ι F hne hC hFF; have hG := fun n => (hFF n).fx; clear hFF; (repeat (first | (refine cF hC ?_; intro K hK; go_big_quiet_op; go_big_quiet_on) | (refine cP ?_; intro K hK; go_big_quiet_op; go_big_quiet_on) | (refine cwk_callP rfl (by rfl) (by rfl) (fun _ => rfl) ?_; intro W hL; have hF := hL.fx; simp only [ka, Act.eval]; simp only [List.append_toArray, List.cons_append, List.nil_append]; go_at_call 99; (with_reducible refine (HIN.out _ _ _ hL).mono ?_); rintro e W ⟨rfl, hb⟩; replace hL := hL.below hb; clear hb hF; have hF := hL.fx; refine ⟨_, rfl, hQp.out _ _ ?_⟩; clear hQp; intro a' ha; exact ⟨ha, rfl, hL.sub (by simp)⟩))); ((done))))
   | ok u =>
    have HB := HR.out
    rw [hd] at HB HIN
    replace HB : R = .ok (C ++ u) := HB
    subst HB
    have hul : u.length ≤ 1000000 := by have := wordsR_len hd; omega
    clear hd
    go_wp2_with (first | ((with_reducible refine ks ?_); clear hL; intro W hL hF) | ((with_reducible refine at_region 1 ?_); refine kW [0, 1, 2, 3, 4, 5, 6, 7, 8, 9] [0, 1, 2, 3, 4, 5, 6, 7, 8, 9] [] [0, 1, 2, 4, 5, 6, 7, 9] ?_; clear hF hL; intro ι F hne hC hG; (repeat (first | (refine cF hC ?_; intro K hK; go_big_quiet_op; go_big_quiet_on) | (refine cP ?_; intro K hK; go_big_quiet_op; go_big_quiet_on))); refine cwk_nil ?_; clear hC hG; intro W hL; have hF := hL.fx) | (go_at_call 63; refine kG ?_; clear hF hL; intro W hL hF; (with_reducible refine (directive_1 ab g xo _ (kn_old hL x1 hgY)).mono ?_); rintro e W ⟨b6, b3, rfl, hb⟩; replace hL := hL.join hb; clear hb hF; simp only [kfb] at hL; have hF := hL.fx) | ((with_reducible refine at_region 5 ?_); refine kW [0, 1, 2, 3, 4, 5, 6, 7, 8, 9, 10] [0, 1, 2, 3, 4, 5, 8, 9] [7, 10] [0, 1, 2, 3, 5, 8, 9] ?_; clear hF hL; intro ι F hne hC hG; (repeat (first | (refine cS ?_) | (refine cF hC ?_; intro K hK; go_big_quiet_op; go_big_quiet_on) | (refine cP ?_; intro K hK; go_big_quiet_op; go_big_quiet_on) | (refine cC ?_; intro W hL; have hF := hL.fx; simp only [ka, Act.eval]; simp only [List.append_toArray, List.cons_append, List.nil_append]; go_at_call 99; (with_reducible refine (HIN.out _ _ _ hL).mono ?_); rintro e W ⟨gu, cap, cu, fu, rfl, hB, hb⟩; replace hL := hL.join hb; clear hb hF; simp only [kfb] at hL; have hF := hL.fx; refine owed_ret ?_; ((refine owedS _ (by repeat' (first | (with_reducible exact List.Sublist.refl _) | (with_reducible apply List.Sublist.cons))) ?_; clear hL hF hC hG; intro ι F hne hC hFF; have hG := fun n => (hFF n).fx; clear hFF)); simp only [Act.put, kT]) | (refine cN ?_; intro W hL; have hF := hL.fx; at_builtin; go_loud (refine wpList_append_end rfl _ _ 47 47 rfl [(gu, .cells cu 5 fu), (b6, .cells #[Value.func (.func 96) #[.pointer (some ⟨ab, 0, none⟩)] #[]] 130 (0, 0)), (b3, .cells #[.pointer (some ⟨g, xo, none⟩)] 66 (0, 0)), (ab, .cells #[.map (some mb), _] 61 (0, 0))] LPk hL C.length u.length (bc C) (bc u) _ _ HRC.out rfl rfl (fun ho => run_append_b (bc_len u) (crow_at hL List.mem_cons_self hB) (bc_one _) (by rw [HCL.out]; omega) ho) ?_); intro LPn an cpn W2 hL2 hrn; clear hL hF; have hL := hL2.sub (List.sublist_cons_self _ _); clear hL2; simp only [List.append_eq] at hL; simp only [kfb] at hL; have hF := hL.fx; go_wp2; refine kb2 ?_; clear hL hF hC hG; intro ι F hne hC hG) | (refine cN ?_; intro W hL; have hF := hL.fx; go_wp2; refine kb2 ?_; clear hL hF hC hG; intro ι F hne hC hG))); refine cwk_nil ?_; clear hC hG; intro W hL; simp only [kfb] at hL; have hF := hL.fx))
    ((go_end0))
    exact ⟨rfl, LPn, _, by rw [List.length_append, bc_app]; exact hrn, hL.sub (by apply List.Sublist.cons; exact List.sublist_cons_self _ _)⟩
theorem emitW_D2 (ab mb g xo at_ : Nat) (es : Array MapEntry) (clock : Nat) (L : Labs) (cur : Array Value) (x : Stm) (sop : ByteArray) (vo vc : Value) (code : Bytes) (LP : List (Nat × Obj)) (Y : List Nat) (w : World) (hL0 : Kn Y w w ((ab, .cells #[.map (some mb), vc] 61 (0, 0)) :: LP)) (hrow : RowL 1 5 LP vc code.length (bc code)) (hmb : w.heap[mb]? = some (.map es clock)) (hmY : mb ∉ Y) (hM : MapV Tryz.prog 9 es (lv L)) (hLn : ∀ p ∈ L, p.2 ≤ 100000) (hg : w.heap[g]? = some (.cells cur 64 (0, 0))) (hgY : g ∉ Y) (hS : StEm w Y xo at_ cur x sop vo) (hat : at_ ≤ 5000) (hcl : code.length ≤ 1000000) (hT : TabA w) (h14 : ∀ y ∈ Y, 14 ≤ y) (hso : sop = ⟨#[46, 116, 101, 120, 116]⟩) : Calls Tryz.prog 35 #[.pointer (some ⟨ab, 0, none⟩), .pointer (some ⟨g, xo, none⟩)] w (EmitP (emit OO L x at_ code) ab mb Y w) := by
 subst hso
 have hop := hS.op
 have hfn := func_ne
 have lg := lt_of_has hg
 have x1 := (cells_at hg (xo + 1)).trans hS.c1
 have x2 := (cells_at hg (xo + 2)).trans hS.c2
 have x3 := (cells_at hg (xo + 3)).trans hS.c3
 have HVO := Lib.hid hS.vo
 have HSO := Lib.hid hS.so
 have hno := hS.no
 have HOP := Lib.hid hS.op
 obtain ⟨R, hR⟩ : ∃ R, emit OO L x at_ code = R := ⟨_, rfl⟩
 rw [hR]
 have hL := hL0
 have hF := hL.fx
 have hR2 := hR.symm.trans (emit_D (by rw [hop]; simp) (by rw [hop]; rfl))
 rw [direct_t hop] at hR2
 have HR := Lib.hid hR2
 clear hR hR2 hop hS
 go_enter Tryz.func35, Tryz.ntmps35
 go_wp2
 go_loopg [] (at_ - code.length) (fun n wr => ∃ (k : Nat) (LPk : List (Nat × Obj)) (vk : Value), Hid (n = at_ - code.length - k) ∧ k ≤ at_ - code.length ∧ RowL 1 5 LPk vk (code.length + k) (bc (code ++ List.replicate k 0)) ∧ Kn Y w wr ((ab, .cells #[.map (some mb), vk] 61 (0, 0)) :: LPk))
 case atStart => exact ⟨0, LP, vc, Lib.hid rfl, by omega, by rw [Nat.add_zero, List.replicate_zero, List.append_nil]; exact hrow, hL⟩
 case round =>
  clear hL
  obtain ⟨k, LPk, vk, HK, hk, hrowk, hL⟩ := hrel
  have hF := hL.fx
  have HRK := Lib.hid hrowk
  obtain ⟨ao, cp, hvk⟩ : ∃ ao cp, vk = .slice ao (code.length + k) cp := by
   rcases hrowk with ⟨_, rfl, h0, _⟩ | ⟨g2, cap2, cur2, _, rfl, _⟩
   ·exact ⟨none, 0, by rw [h0]⟩
   ·exact ⟨_, _, rfl⟩
  clear hrowk
  subst hvk
  by_cases hlt : code.length + k < at_
  ·have t1 : ((code.length + k : Nat) : Int) < (at_ : Int) := by omega
   go_wp2_with (first | ((with_reducible refine at_region 1 ?_); refine kW [0, 1, 2, 3, 4, 5, 6, 7, 8, 9] [0, 1, 2, 3, 4, 5, 6, 7, 8, 9] [] [0, 1, 2, 4, 5, 6, 7, 9] ?_; clear hF hL; intro ι F hne hC hG; (repeat (first | (refine cF hC ?_; intro K hK; go_big_quiet_op; go_big_quiet_on) | (refine cP ?_; intro K hK; go_big_quiet_op; go_big_quiet_on))); refine cwk_nil ?_; clear hC hG; intro W hL; have hF := hL.fx) | (at_builtin; refine kL ?_; clear hF hL; intro W hL hF; go_loud (refine wpList_append_end rfl _ _ 47 47 rfl [(_, .cells #[.int .u8 0] 5 (0, 0)), (ab, .cells #[.map (some mb), _] 61 (0, 0))] LPk hL _ 1 _ (bc [0]) _ _ HRK.out rfl rfl (fun ho => run_append_b rfl (fun j u hu => by rw [Go.WideShapes.add_plain, Nat.zero_add, kn_cell hL List.mem_cons_self]; simpa [bc] using hu) (bc_one _) (by omega) ho) ?_); intro LPn an cpn W2 hL2 hrn; clear hL hF; have hL := hL2; clear hL2; simp only [kfb] at hL; have hF := hL.fx))
   go_roundg (at_ - code.length - (k + 1))
   case measure => have := HK.out; omega
   case rel => exact ⟨k + 1, LPn, _, Lib.hid rfl, by omega, by rw [List.replicate_succ', ← List.append_assoc, bc_app, ← Nat.add_assoc]; exact hrn, Kn.sub kn_here (List.sublist_cons_self _ _)⟩
  ·have t1 : ¬ ((code.length + k : Nat) : Int) < (at_ : Int) := by omega
   obtain rfl : k = at_ - code.length := by omega
   obtain ⟨C, hC⟩ : ∃ C, padTo code at_ = C := ⟨_, rfl⟩
   have hCl : C.length = code.length + (at_ - code.length) := by rw [← hC]; simp [padTo]
   have HRC := Lib.hid (show RowL 1 5 LPk (.slice ao (code.length + (at_ - code.length)) cp) C.length (bc C) from by rw [hCl, ← hC]; exact HRK.out)
   rw [hC] at HR
   obtain ⟨cn, hcn⟩ : ∃ cn, code.length + (at_ - code.length) = cn := ⟨_, rfl⟩
   rw [hcn] at hCl HRC hL hF t1
   have HCL := Lib.hid hCl
   have hcnb : cn ≤ 1005000 := by omega
   clear hC hCl
   have HIN := Lib.hid (fun W (b6 b3 : Nat) (hL : Kn Y w W ((b6, .cells #[Value.func (.func 97) #[.pointer (some ⟨ab, 0, none⟩)] #[]] 130 (0, 0)) :: (b3, .cells #[.pointer (some ⟨g, xo, none⟩)] 66 (0, 0)) :: (ab, .cells #[.map (some mb), .slice ao cn cp] 61 (0, 0)) :: LPk)) => clo_2 ab g xo b6 b3 true _ W (by rw [kn_cell hL List.mem_cons_self]; rfl) (by rw [kn_cell hL (List.mem_cons_of_mem _ List.mem_cons_self)]; rfl) (Lib.hid fun W' hK => text_is ab g xo vo x.ops true W' (kn_old hK (kn_old hL x2 hgY) (by simp)) ((HVO.out.kn hL (fun y hy => .inl hy)).row.kn hK (by simp)) HSO.out hno ((hT.kn hL h14).kn hK (by simp))))
   cases hd : textR x.ops with
   | bad m =>
    have HB := HR.out
    rw [hd] at HB HIN
    replace HB : R = .bad m := HB
    subst HB
    clear hd
    go_wp2_with (first | ((with_reducible refine ks ?_); clear hL; intro W hL hF) | ((with_reducible refine at_region 1 ?_); refine kW [0, 1, 2, 3, 4, 5, 6, 7, 8, 9] [0, 1, 2, 3, 4, 5, 6, 7, 8, 9] [] [0, 1, 2, 4, 5, 6, 7, 9] ?_; clear hF hL; intro ι F hne hC hG; (repeat (first | (refine cF hC ?_; intro K hK; go_big_quiet_op; go_big_quiet_on) | (refine cP ?_; intro K hK; go_big_quiet_op; go_big_quiet_on))); refine cwk_nil ?_; clear hC hG; intro W hL; have hF := hL.fx) | (go_at_call 63; refine kG ?_; clear hF hL; intro W hL hF; (with_reducible refine (directive_2 ab g xo _ (kn_old hL x1 hgY)).mono ?_); rintro e W ⟨b6, b3, rfl, hb⟩; replace hL := hL.join hb; clear hb hF; simp only [kfb] at hL; have hF := hL.fx) | ((with_reducible refine at_region 5 ?_); refine kn_wp ?_; clear hF hL; intro W hL; have hF := hL.fx; refine kn_regionP [0, 1, 2, 3, 4, 5, 6, 7, 8, 9, 10] [0, 1, 2, 3, 4, 5, 8, 9] [7, 10] [0, 1, 2, 3, 5, 8, 9] (by kernel_rfl) (by kernel_rfl) (List.Sublist.refl _) ?_; clear hF hL; intro Qp hQp; replace hQp := Lib.hid hQp; intro ι F hne hC hFF; have hG := fun n => (hFF n).fx; clear hFF; (repeat (first | (refine cF hC ?_; intro K hK; go_big_quiet_op; go_big_quiet_on) | (refine cP ?_; intro K hK; go_big_quiet_op; go_big_quiet_on) | (refine cwk_callP rfl (by rfl) (by rfl) (fun _ => rfl) ?_; intro W hL; have hF := hL.fx; simp only [ka, Act.eval]; simp only [List.append_toArray, List.cons_append, List.nil_append]; go_at_call 99; (with_reducible refine (HIN.out _ _ _ hL).mono ?_); rintro e W ⟨rfl, hb⟩; replace hL := hL.below hb; clear hb hF; have hF := hL.fx; refine ⟨_, rfl, hQp.out _ _ ?_⟩; clear hQp; intro a' ha; exact ⟨ha, rfl, hL.sub (by simp)⟩))); ((done))))
   | ok u =>
    have HB := HR.out
    rw [hd] at HB HIN
    replace HB : R = .ok (C ++ u) := HB
    subst HB
    have hul : u.length ≤ 1000000 := by have := textR_len hd HSO.out; omega
    clear hd
    go_wp2_with (first | ((with_reducible refine ks ?_); clear hL; intro W hL hF) | ((with_reducible refine at_region 1 ?_); refine kW [0, 1, 2, 3, 4, 5, 6, 7, 8, 9] [0, 1, 2, 3, 4, 5, 6, 7, 8, 9] [] [0, 1, 2, 4, 5, 6, 7, 9] ?_; clear hF hL; intro ι F hne hC hG; (repeat (first | (refine cF hC ?_; intro K hK; go_big_quiet_op; go_big_quiet_on) | (refine cP ?_; intro K hK; go_big_quiet_op; go_big_quiet_on))); refine cwk_nil ?_; clear hC hG; intro W hL; have hF := hL.fx) | (go_at_call 63; refine kG ?_; clear hF hL; intro W hL hF; (with_reducible refine (directive_2 ab g xo _ (kn_old hL x1 hgY)).mono ?_); rintro e W ⟨b6, b3, rfl, hb⟩; replace hL := hL.join hb; clear hb hF; simp only [kfb] at hL; have hF := hL.fx) | ((with_reducible refine at_region 5 ?_); refine kW [0, 1, 2, 3, 4, 5, 6, 7, 8, 9, 10] [0, 1, 2, 3, 4, 5, 8, 9] [7, 10] [0, 1, 2, 3, 5, 8, 9] ?_; clear hF hL; intro ι F hne hC hG; (repeat (first | (refine cS ?_) | (refine cF hC ?_; intro K hK; go_big_quiet_op; go_big_quiet_on) | (refine cP ?_; intro K hK; go_big_quiet_op; go_big_quiet_on) | (refine cC ?_; intro W hL; have hF := hL.fx; simp only [ka, Act.eval]; simp only [List.append_toArray, List.cons_append, List.nil_append]; go_at_call 99; (with_reducible refine (HIN.out _ _ _ hL).mono ?_); rintro e W ⟨gu, cap, cu, fu, rfl, hB, hb⟩; replace hL := hL.join hb; clear hb hF; simp only [kfb] at hL; have hF := hL.fx; refine owed_ret ?_; ((refine owedS _ (by repeat' (first | (with_reducible exact List.Sublist.refl _) | (with_reducible apply List.Sublist.cons))) ?_; clear hL hF hC hG; intro ι F hne hC hFF; have hG := fun n => (hFF n).fx; clear hFF)); simp only [Act.put, kT]) | (refine cN ?_; intro W hL; have hF := hL.fx; at_builtin; go_loud (refine wpList_append_end rfl _ _ 47 47 rfl [(gu, .cells cu 5 fu), (b6, .cells #[Value.func (.func 97) #[.pointer (some ⟨ab, 0, none⟩)] #[]] 130 (0, 0)), (b3, .cells #[.pointer (some ⟨g, xo, none⟩)] 66 (0, 0)), (ab, .cells #[.map (some mb), _] 61 (0, 0))] LPk hL C.length u.length (bc C) (bc u) _ _ HRC.out rfl rfl (fun ho => run_append_b (bc_len u) (crow_at hL List.mem_cons_self hB) (bc_one _) (by rw [HCL.out]; omega) ho) ?_); intro LPn an cpn W2 hL2 hrn; clear hL hF; have hL := hL2.sub (List.sublist_cons_self _ _); clear hL2; simp only [List.append_eq] at hL; simp only [kfb] at hL; have hF := hL.fx; go_wp2; refine kb2 ?_; clear hL hF hC hG; intro ι F hne hC hG) | (refine cN ?_; intro W hL; have hF := hL.fx; go_wp2; refine kb2 ?_; clear hL hF hC hG; intro ι F hne hC hG))); refine cwk_nil ?_; clear hC hG; intro W hL; simp only [kfb] at hL; have hF := hL.fx))
    ((go_end0))
    exact ⟨rfl, LPn, _, by rw [List.length_append, bc_app]; exact hrn, hL.sub (by apply List.Sublist.cons; exact List.sublist_cons_self _ _)⟩
end Go.Proofs.YtfdlifhkeicnnaaGreatDoor
