/- Lemmas and walks for the law of this seat (part 20). -/
import Derived.Test.YtgboffbbpmileaaGreatDoorPj19
import Derived.Test.YtgboffbbpmileaaGreatDoorProg
import Derived.WalkKit
import Derived.Handy
import Derived.Deep.Light
import Derived.WalkSmall
import Derived.StillTailTactics
import Derived.Lib.Hide
import Derived.Defers
import Derived.IntWalk
import Derived.Recover
set_option maxRecDepth 20000
set_option maxHeartbeats 4000000
set_option linter.unusedVariables false
set_option linter.unusedSimpArgs false
namespace Go.Proofs.YtgboffbbpmileaaGreatDoor
open Go Go.RowKit
theorem func_neB (bk : Blk) : ∀ W : World, (binOp .neq 149 (blkV (some bk)) .nilFunc).run Tryz.prog W = .ok (.bool true) W := fun W => by cases bk <;> kernel_rfl
theorem func_geB (bk : Blk) (x y : Operand) : ∀ W : World, (eqGuard .neq 149 x y (blkV (some bk)) .nilFunc).run Tryz.prog W = .ok () W := fun W => by cases bk <;> kernel_rfl
theorem nil_neB : ∀ W : World, (binOp .neq 149 .nilFunc .nilFunc).run Tryz.prog W = .ok (.bool false) W := fun W => by kernel_rfl
theorem clo_row10 {W0 W : World} (hB : Below W0.heap.size W0 W) {cg co : Nat} (h : ∀ (j : Nat) s, closers[j]? = some s → W0.cell? ⟨cg, co + j, none⟩ = some (bs s)) : ∀ j, j < closB.length → W.cell? ⟨cg, co + j, none⟩ = some (.string (closB.getD j ByteArray.empty)) := by
 have := clo_row hB h 10
 rwa [List.take_of_length_le (by decide)] at this
/-- What a compound command answers, where the depth is d. -/
def CompC (W0 : World) (g o cap : Nat) (tvs : List (Tok × Value)) (d : Nat) (comp : Blk → Pa Nd) : Prop :=
 ∀ (bk : Blk) (b i : Nat) (v : Value) (w : World), Below W0.heap.size W0 w → W0.heap.size ≤ b → Hid (AtV g o cap tvs i v) → w.heap[b]? = some (.cells #[v, .int .i64 (d : Nat)] 73 (0, 0)) → (TT tvs).drop i ≠ [] →
  Calls Tryz.prog 120 #[.pointer (some ⟨b, 0, none⟩), blkV (some bk)] w (NOut W0 b d g o cap tvs w (comp bk ((TT tvs).drop i)))
/-- .. a function. -/
def FunC (W0 : World) (g o cap : Nat) (tvs : List (Tok × Value)) (d : Nat) (fn : Pa Nd) : Prop :=
 ∀ (b i : Nat) (v : Value) (w : World), Below W0.heap.size W0 w → W0.heap.size ≤ b → Hid (AtV g o cap tvs i v) → w.heap[b]? = some (.cells #[v, .int .i64 (d : Nat)] 73 (0, 0)) → isFn ((TT tvs).drop i) = true →
  Calls Tryz.prog 122 #[.pointer (some ⟨b, 0, none⟩)] w (NOut W0 b d g o cap tvs w (fn ((TT tvs).drop i)))
def fnP (inner : Option (Blk → Pa Nd)) : Pa Nd := fun ts => match inner with
 | none => full ts
 | some c => funF c ts
theorem command_blk {W0 : World} {g o cap : Nat} {tvs : List (Tok × Value)} (E : PEnv W0 g o cap tvs) {d : Nat} {comp : Blk → Pa Nd} (HC : CompC W0 g o cap tvs d comp) (b i : Nat) (v : Value) (w : World) (hB : Below W0.heap.size W0 w) (hbb : W0.heap.size ≤ b) (hv : Hid (AtV g o cap tvs i v)) (hb : w.heap[b]? = some (.cells #[v, .int .i64 (d : Nat)] 73 (0, 0))) (bk : Blk) (hbo : blockOf ((TT tvs).drop i) = some bk) : Calls Tryz.prog 105 #[.pointer (some ⟨b, 0, none⟩)] w fun e w' => NOut W0 b d g o cap tvs w (comp bk ((TT tvs).drop i)) e w' := by
 have HBL : Hid (∀ W, Below W0.heap.size W0 W → W.heap[b]? = some (.cells #[v, .int .i64 (d : Nat)] 73 (0, 0)) → Calls Tryz.prog 119 #[.pointer (some ⟨b, 0, none⟩)] W fun e w' => e = .returned (blkV (some bk)) ∧ Below W.heap.size W w') := Lib.hid fun W hB hb => by have h := block_c E b i v d W hB hbb hv hb; rw [hbo] at h; exact h
 have HNE := block_ne hbo
 have HCJ := Lib.hid (fun W hB hb => HC bk b i v W hB hbb hv hb HNE)
 have hfn := func_neB bk
 have hge := func_geB bk
 obtain ⟨bv, hbv⟩ : ∃ z, blkV (some bk) = z := ⟨_, rfl⟩
 rw [hbv] at HBL HCJ hfn
 simp only [hbv] at hge
 obtain ⟨PL, hpl⟩ : ∃ p : PR Nd, comp bk ((TT tvs).drop i) = p := ⟨_, rfl⟩
 rw [hpl] at HCJ ⊢
 clear HC HNE hbo hbv hpl
 have HB0 := Lib.hid hB
 have HXB := Lib.hid (show ∀ y ∈ [b], W0.heap.size ≤ y from by simpa using hbb)
 have hL : Kn [b] w w [(b, .cells #[v, .int .i64 (d : Int)] 73 (0, 0))] := Kn.one hb
 have HBS := Lib.hid hb
 clear hB hb
 have hF := hL.fx
 cases PL with
 | bad er m2 =>
  go_enter Tryz.func105, Tryz.ntmps105
  go_wp2_with (first | ((with_reducible refine zS ?_); clear hL; intro W hL hF) | (go_at_call 119; refine zC (fun W hL => HBL.out _ (kn_bw HB0.out hL HXB.out) (by (exact hL.has _ (List.mem_cons_of_mem _ List.mem_cons_self)))) ?_; clear hF hL; intro W hL hF) | (go_at_call 120; refine zG ?_; clear hF hL; intro W hL hF; (with_reducible refine (HCJ.out _ (kn_bw HB0.out hL HXB.out) (by (exact hL.has _ (List.mem_cons_of_mem _ List.mem_cons_self)))).mono ?_); rintro e W ⟨vj2, dj, rfl, hb⟩; ((replace hL := hL.join1 1 rfl hb)); clear hb hF; simp only [List.eraseIdx_cons_zero, List.eraseIdx_cons_succ, List.cons_append, List.nil_append] at hL; have hF := hL.fx))
  exact ⟨rfl, vj2, dj, rfl, (hL.perml fun p => by simp only [List.countP_cons, List.countP_nil, List.countP_append, List.append_nil, List.nil_append, List.length_nil]; omega)⟩
 | ok x r =>
  go_enter Tryz.func105, Tryz.ntmps105
  go_wp2_with (first | ((with_reducible refine zS ?_); clear hL; intro W hL hF) | (go_at_call 119; refine zC (fun W hL => HBL.out _ (kn_bw HB0.out hL HXB.out) (by (exact hL.has _ (List.mem_cons_of_mem _ List.mem_cons_self)))) ?_; clear hF hL; intro W hL hF) | (go_at_call 120; refine zG ?_; clear hF hL; intro W hL hF; (with_reducible refine (HCJ.out _ (kn_bw HB0.out hL HXB.out) (by (exact hL.has _ (List.mem_cons_of_mem _ List.mem_cons_self)))).mono ?_); rintro e W ⟨nm, aa, na, ca, aw, nw, cw, ar, nr, cr, ak, nk, ck, LN, j2, vj2, rfl, HN, HJ2, hb⟩; ((replace hL := hL.join1 1 rfl hb)); clear hb hF; simp only [List.eraseIdx_cons_zero, List.eraseIdx_cons_succ, List.cons_append, List.nil_append] at hL; have hF := hL.fx; replace hL := hL.in0; clear hF; have hF := hL.fx))
  refine kn_body ?_; clear hF hL; intro W hL; simp only [kfb] at hL; have hF := hL.fx
  refine bodyPost_ret (by simp [results, Tryz.results105, go_sem, *]; try rfl) rfl ?_
  exact ⟨nm, aa, na, ca, aw, nw, cw, ar, nr, cr, ak, nk, ck, LN, j2, vj2, rfl, HN, HJ2, (hL.perml fun p => by simp only [List.countP_cons, List.countP_nil, List.countP_append, List.append_nil, List.nil_append, List.length_nil]; omega)⟩
theorem command_clo {W0 : World} {g o cap : Nat} {tvs : List (Tok × Value)} (E : PEnv W0 g o cap tvs) {d : Nat} (b i : Nat) (v : Value) (w : World) (hB : Below W0.heap.size W0 w) (hbb : W0.heap.size ≤ b) (hv : Hid (AtV g o cap tvs i v)) (hb : w.heap[b]? = some (.cells #[v, .int .i64 (d : Nat)] 73 (0, 0))) (hbo : blockOf ((TT tvs).drop i) = none) (hk1 : isKw closers ((TT tvs).drop i) = true) : Calls Tryz.prog 105 #[.pointer (some ⟨b, 0, none⟩)] w fun e w' => NOut W0 b d g o cap tvs w (syn ((TT tvs).drop i)) e w' := by
 have HBL : Hid (∀ W, Below W0.heap.size W0 W → W.heap[b]? = some (.cells #[v, .int .i64 (d : Nat)] 73 (0, 0)) → Calls Tryz.prog 119 #[.pointer (some ⟨b, 0, none⟩)] W fun e w' => e = .returned (.nilFunc) ∧ Below W.heap.size W w') := Lib.hid fun W hB hb => by have h := block_c E b i v d W hB hbb hv hb; rw [hbo] at h; exact h
 have hfn := nil_neB
 have HK1 : Hid (isKw (closB.map fun z => z.data.toList) ((TT tvs).drop i) = true) := Lib.hid (by rw [closB_map]; exact hk1)
 clear hbo hk1
 obtain ⟨cg, co, cc, hc1, hc2, hc3⟩ := E.clo
 have HC3 := Lib.hid hc3
 have hg0 := cell_lt hc1
 have hc4 := cell_ext hc1 hB
 have hcb : Hid (cg ≠ b) := Lib.hid (by have := clo_lt hc3; omega)
 have hg1 : 0 < b := by omega
 have hg2 : 0 < w.heap.size := cell_lt hc4
 have hg3 : ¬ 0 = b := by omega
 clear hc3 hc1
 obtain ⟨m, hm⟩ : ∃ m, m = ((TT tvs).drop i).length := ⟨_, rfl⟩
 have Hm := Lib.hid hm
 clear hm
 have HB0 := Lib.hid hB
 have HXB := Lib.hid (show ∀ y ∈ [b], W0.heap.size ≤ y from by simpa using hbb)
 have hL : Kn [b] w w [(b, .cells #[v, .int .i64 (d : Int)] 73 (0, 0))] := Kn.one hb
 have HBS := Lib.hid hb
 clear hB hb
 have hF := hL.fx
 go_enter Tryz.func105, Tryz.ntmps105
 go_wp2_with (first | ((with_reducible refine zS ?_); clear hL; intro W hL hF) | (go_at_call 119; refine zC (fun W hL => HBL.out _ (kn_bw HB0.out hL HXB.out) (by (exact hL.has _ (List.mem_cons_of_mem _ List.mem_cons_self)))) ?_; clear hF hL; intro W hL hF) | (go_at_call 86; refine zC (fun W hL => key_c E b i v (d : Int) _ (kn_bw HB0.out hL HXB.out) hbb hv (by (exact hL.has _ (List.mem_cons_of_mem _ List.mem_cons_self))) cg co 10 _ closB _ HK1 (Lib.hid rfl) (by omega) (clo_row10 (kn_bw HB0.out hL HXB.out) HC3.out) hcb.out) ?_; clear hF hL; intro W hL hF) | (go_at_call 28; refine zG ?_; clear hF hL; intro W hL hF; (with_reducible refine (fail_c E b i v d _ (kn_bw HB0.out hL HXB.out) hbb hv (by (exact hL.has _ (List.mem_cons_of_mem _ List.mem_cons_self))) 27 d 1 (Lib.hid rfl) m Hm).mono ?_); rintro e W ⟨vj, dj, rfl, hb⟩; ((replace hL := hL.join1 1 rfl hb)); clear hb hF; simp only [List.eraseIdx_cons_zero, List.eraseIdx_cons_succ, List.cons_append, List.nil_append] at hL; have hF := hL.fx))
 exact ⟨rfl, _, _, by rw [Hm.out] <;> rfl, hL.sub (by repeat' (first | exact List.Sublist.refl _ | apply List.Sublist.cons_cons | apply List.Sublist.cons))⟩
end Go.Proofs.YtgboffbbpmileaaGreatDoor
set_option maxRecDepth 20000
set_option maxHeartbeats 4000000
set_option linter.unusedVariables false
set_option linter.unusedSimpArgs false
namespace Go.Proofs.YtgboffbbpmileaaGreatDoor
open Go Go.RowKit
theorem Kn.in02 {X : List Nat} {w0 W : World} {p0 p1 p2 : Nat × Obj} {LP : List (Nat × Obj)} (h : Kn X w0 W (p0 :: (LP ++ [p1, p2]))) : Kn X w0 W (p0 :: p1 :: p2 :: LP) := h.perm fun p => by simp only [List.countP_cons, List.countP_append, List.countP_nil]; omega
theorem command_s1 {W0 : World} {g o cap : Nat} {tvs : List (Tok × Value)} (E : PEnv W0 g o cap tvs) {d : Nat} {pl : Pa Nd} (b i : Nat) (v : Value) (w : World) (hB : Below W0.heap.size W0 w) (hbb : W0.heap.size ≤ b) (hv : Hid (AtV g o cap tvs i v)) (hb : w.heap[b]? = some (.cells #[v, .int .i64 (d : Nat)] 73 (0, 0))) (HSI : ∀ W : World, Below W0.heap.size W0 W → W.heap[b]? = some (.cells #[v, .int .i64 (d : Nat)] 73 (0, 0)) → Calls Tryz.prog 123 #[.pointer (some ⟨b, 0, none⟩)] W (NOut W0 b d g o cap tvs W (pl ((TT tvs).drop i)))) (hbo : blockOf ((TT tvs).drop i) = none) (hk1 : isKw closers ((TT tvs).drop i) = false) {x : Tok × Value} (hx0 : tvs[i]? = some x) (hno : ((x.1.kind : Int) == 0) = false ∨ isName x.1.plain = false) : Calls Tryz.prog 105 #[.pointer (some ⟨b, 0, none⟩)] w fun e w' => NOut W0 b d g o cap tvs w (pl ((TT tvs).drop i)) e w' := by
 have HBL : Hid (∀ W, Below W0.heap.size W0 W → W.heap[b]? = some (.cells #[v, .int .i64 (d : Nat)] 73 (0, 0)) → Calls Tryz.prog 119 #[.pointer (some ⟨b, 0, none⟩)] W fun e w' => e = .returned (.nilFunc) ∧ Below W.heap.size W w') := Lib.hid fun W hB hb => by have h := block_c E b i v d W hB hbb hv hb; rw [hbo] at h; exact h
 have hfn := nil_neB
 have HK1 : Hid (isKw (closB.map fun z => z.data.toList) ((TT tvs).drop i) = false) := Lib.hid (by rw [closB_map]; exact hk1)
 clear hbo hk1
 obtain ⟨cg, co, cc, hc1, hc2, hc3⟩ := E.clo
 have HC3 := Lib.hid hc3
 have hg0 := cell_lt hc1
 have hc4 := cell_ext hc1 hB
 have hcb : Hid (cg ≠ b) := Lib.hid (by have := clo_lt hc3; omega)
 have hg1 : 0 < b := by omega
 have hg2 : 0 < w.heap.size := cell_lt hc4
 have hg3 : ¬ 0 = b := by omega
 clear hc3 hc1
 obtain ⟨x9, pa, pn, pc, hx, hx2⟩ := E.tok hv.out
 obtain rfl : x = x9 := Option.some.inj (hx0.symm.trans hx)
 clear hx0
 have HX := Lib.hid hx
 have HX2 := Lib.hid hx2
 have f0 := tkf0 x.1.kind x.1.fd x.1.line ⟨x.1.text.toArray⟩ ⟨x.1.plain.toArray⟩ pa pn pc
 have f1 := tkf1 x.1.kind x.1.fd x.1.line ⟨x.1.text.toArray⟩ ⟨x.1.plain.toArray⟩ pa pn pc
 have f2 := tkf2 x.1.kind x.1.fd x.1.line ⟨x.1.text.toArray⟩ ⟨x.1.plain.toArray⟩ pa pn pc
 have f3 := tkf3 x.1.kind x.1.fd x.1.line ⟨x.1.text.toArray⟩ ⟨x.1.plain.toArray⟩ pa pn pc
 have f4 := tkf4 x.1.kind x.1.fd x.1.line ⟨x.1.text.toArray⟩ ⟨x.1.plain.toArray⟩ pa pn pc
 have f5 := tkf5 x.1.kind x.1.fd x.1.line ⟨x.1.text.toArray⟩ ⟨x.1.plain.toArray⟩ pa pn pc
 clear hx hx2
 have HSZ : Hid ((⟨x.1.plain.toArray⟩ : ByteArray).size ≤ 1000000) := Lib.hid (by have := (E.word x (List.mem_of_getElem? HX.out)).2.1; rw [← szl]; simp only [List.toList_toArray]; omega)
 have HIN := Lib.hid (fun W => isName_is ⟨x.1.plain.toArray⟩ HSZ.out W)
 simp only [List.toList_toArray] at HIN
 obtain ⟨kx, hkx⟩ : ∃ z : Bool, ((x.1.kind : Int) == 0) = z := ⟨_, rfl⟩
 obtain ⟨nm, hnm⟩ : ∃ z : Bool, isName x.1.plain = z := ⟨_, rfl⟩
 rw [hnm] at HIN hno
 rw [hkx] at hno
 clear hnm
 have HSC := Lib.hid HSI
 obtain ⟨PL, hpl⟩ : ∃ p : PR Nd, pl ((TT tvs).drop i) = p := ⟨_, rfl⟩
 rw [hpl] at HSC ⊢
 clear hpl HSI
 have HB0 := Lib.hid hB
 have HXB := Lib.hid (show ∀ y ∈ [b], W0.heap.size ≤ y from by simpa using hbb)
 have hL : Kn [b] w w [(b, .cells #[v, .int .i64 (d : Int)] 73 (0, 0))] := Kn.one hb
 have HBS := Lib.hid hb
 clear hB hb
 have hF := hL.fx
 cases kx
 ·cases PL with
  | bad er m2 =>
   go_enter Tryz.func105, Tryz.ntmps105
   go_wp2_with (first | ((with_reducible refine zS ?_); clear hL; intro W hL hF) | (go_at_call 119; refine zC (fun W hL => HBL.out _ (kn_bw HB0.out hL HXB.out) (by (exact hL.has _ (List.mem_cons_of_mem _ List.mem_cons_self)))) ?_; clear hF hL; intro W hL hF) | (go_at_call 86; refine zC (fun W hL => key_c E b i v (d : Int) _ (kn_bw HB0.out hL HXB.out) hbb hv (by (exact hL.has _ (List.mem_cons_of_mem _ List.mem_cons_self))) cg co 10 _ closB _ HK1 (Lib.hid rfl) (by omega) (clo_row10 (kn_bw HB0.out hL HXB.out) HC3.out) hcb.out) ?_; clear hF hL; intro W hL hF) | (go_at_call 27; refine zC (fun W hL => next_i E b i v (d : Int) _ (kn_bw HB0.out hL HXB.out) hbb hv (by (exact hL.has _ (List.mem_cons_of_mem _ List.mem_cons_self))) HX.out pa pn pc HX2.out ) ?_; clear hF hL; intro W hL hF) | (go_at_call 123; refine zG ?_; clear hF hL; intro W hL hF; (with_reducible refine (HSC.out _ (kn_bw HB0.out hL HXB.out) (by (exact hL.has _ (List.mem_cons_of_mem _ (List.mem_cons_of_mem _ List.mem_cons_self))))).mono ?_); rintro e W ⟨vj2, dj, rfl, hb⟩; ((replace hL := hL.join1 2 rfl hb)); clear hb hF; simp only [List.eraseIdx_cons_zero, List.eraseIdx_cons_succ, List.cons_append, List.nil_append] at hL; have hF := hL.fx))
   exact ⟨rfl, vj2, dj, rfl, (hL.perml fun p => by simp only [List.countP_cons, List.countP_nil, List.countP_append, List.append_nil, List.nil_append, List.length_nil]; omega)⟩
  | ok z r =>
   go_enter Tryz.func105, Tryz.ntmps105
   go_wp2_with (first | ((with_reducible refine zS ?_); clear hL; intro W hL hF) | (go_at_call 119; refine zC (fun W hL => HBL.out _ (kn_bw HB0.out hL HXB.out) (by (exact hL.has _ (List.mem_cons_of_mem _ List.mem_cons_self)))) ?_; clear hF hL; intro W hL hF) | (go_at_call 86; refine zC (fun W hL => key_c E b i v (d : Int) _ (kn_bw HB0.out hL HXB.out) hbb hv (by (exact hL.has _ (List.mem_cons_of_mem _ List.mem_cons_self))) cg co 10 _ closB _ HK1 (Lib.hid rfl) (by omega) (clo_row10 (kn_bw HB0.out hL HXB.out) HC3.out) hcb.out) ?_; clear hF hL; intro W hL hF) | (go_at_call 27; refine zC (fun W hL => next_i E b i v (d : Int) _ (kn_bw HB0.out hL HXB.out) hbb hv (by (exact hL.has _ (List.mem_cons_of_mem _ List.mem_cons_self))) HX.out pa pn pc HX2.out ) ?_; clear hF hL; intro W hL hF) | (go_at_call 123; refine zG ?_; clear hF hL; intro W hL hF; (with_reducible refine (HSC.out _ (kn_bw HB0.out hL HXB.out) (by (exact hL.has _ (List.mem_cons_of_mem _ (List.mem_cons_of_mem _ List.mem_cons_self))))).mono ?_); rintro e W ⟨nm, aa, na, ca, aw, nw, cw, ar, nr, cr, ak, nk, ck, LN, j2, vj2, rfl, HN, HJ2, hb⟩; ((replace hL := hL.join1 2 rfl hb)); clear hb hF; simp only [List.eraseIdx_cons_zero, List.eraseIdx_cons_succ, List.cons_append, List.nil_append] at hL; have hF := hL.fx; replace hL := hL.in02; clear hF; have hF := hL.fx))
   refine kn_body ?_; clear hF hL; intro W hL; simp only [kfb] at hL; have hF := hL.fx
   refine bodyPost_ret (by simp [results, Tryz.results105, go_sem, *]; try rfl) rfl ?_
   exact ⟨nm, aa, na, ca, aw, nw, cw, ar, nr, cr, ak, nk, ck, LN, j2, vj2, rfl, HN, HJ2, (hL.perml fun p => by simp only [List.countP_cons, List.countP_nil, List.countP_append, List.append_nil, List.nil_append, List.length_nil]; omega)⟩
 ·obtain rfl : nm = false := hno.resolve_left (by decide)
  clear hno
  cases PL with
  | bad er m2 =>
   go_enter Tryz.func105, Tryz.ntmps105
   go_wp2_with (first | ((with_reducible refine zS ?_); clear hL; intro W hL hF) | (go_at_call 119; refine zC (fun W hL => HBL.out _ (kn_bw HB0.out hL HXB.out) (by (exact hL.has _ (List.mem_cons_of_mem _ List.mem_cons_self)))) ?_; clear hF hL; intro W hL hF) | (go_at_call 86; refine zC (fun W hL => key_c E b i v (d : Int) _ (kn_bw HB0.out hL HXB.out) hbb hv (by (exact hL.has _ (List.mem_cons_of_mem _ List.mem_cons_self))) cg co 10 _ closB _ HK1 (Lib.hid rfl) (by omega) (clo_row10 (kn_bw HB0.out hL HXB.out) HC3.out) hcb.out) ?_; clear hF hL; intro W hL hF) | (go_at_call 27; refine zC (fun W hL => next_i E b i v (d : Int) _ (kn_bw HB0.out hL HXB.out) hbb hv (by (exact hL.has _ (List.mem_cons_of_mem _ List.mem_cons_self))) HX.out pa pn pc HX2.out ) ?_; clear hF hL; intro W hL hF) | (go_at_call 121; refine zC (fun W hL => HIN.out _) ?_; clear hF hL; intro W hL hF) | (go_at_call 123; refine zG ?_; clear hF hL; intro W hL hF; (with_reducible refine (HSC.out _ (kn_bw HB0.out hL HXB.out) (by (exact hL.has _ (List.mem_cons_of_mem _ (List.mem_cons_of_mem _ List.mem_cons_self))))).mono ?_); rintro e W ⟨vj2, dj, rfl, hb⟩; ((replace hL := hL.join1 2 rfl hb)); clear hb hF; simp only [List.eraseIdx_cons_zero, List.eraseIdx_cons_succ, List.cons_append, List.nil_append] at hL; have hF := hL.fx))
   exact ⟨rfl, vj2, dj, rfl, (hL.perml fun p => by simp only [List.countP_cons, List.countP_nil, List.countP_append, List.append_nil, List.nil_append, List.length_nil]; omega)⟩
  | ok z r =>
   go_enter Tryz.func105, Tryz.ntmps105
   go_wp2_with (first | ((with_reducible refine zS ?_); clear hL; intro W hL hF) | (go_at_call 119; refine zC (fun W hL => HBL.out _ (kn_bw HB0.out hL HXB.out) (by (exact hL.has _ (List.mem_cons_of_mem _ List.mem_cons_self)))) ?_; clear hF hL; intro W hL hF) | (go_at_call 86; refine zC (fun W hL => key_c E b i v (d : Int) _ (kn_bw HB0.out hL HXB.out) hbb hv (by (exact hL.has _ (List.mem_cons_of_mem _ List.mem_cons_self))) cg co 10 _ closB _ HK1 (Lib.hid rfl) (by omega) (clo_row10 (kn_bw HB0.out hL HXB.out) HC3.out) hcb.out) ?_; clear hF hL; intro W hL hF) | (go_at_call 27; refine zC (fun W hL => next_i E b i v (d : Int) _ (kn_bw HB0.out hL HXB.out) hbb hv (by (exact hL.has _ (List.mem_cons_of_mem _ List.mem_cons_self))) HX.out pa pn pc HX2.out ) ?_; clear hF hL; intro W hL hF) | (go_at_call 121; refine zC (fun W hL => HIN.out _) ?_; clear hF hL; intro W hL hF) | (go_at_call 123; refine zG ?_; clear hF hL; intro W hL hF; (with_reducible refine (HSC.out _ (kn_bw HB0.out hL HXB.out) (by (exact hL.has _ (List.mem_cons_of_mem _ (List.mem_cons_of_mem _ List.mem_cons_self))))).mono ?_); rintro e W ⟨nm, aa, na, ca, aw, nw, cw, ar, nr, cr, ak, nk, ck, LN, j2, vj2, rfl, HN, HJ2, hb⟩; ((replace hL := hL.join1 2 rfl hb)); clear hb hF; simp only [List.eraseIdx_cons_zero, List.eraseIdx_cons_succ, List.cons_append, List.nil_append] at hL; have hF := hL.fx; replace hL := hL.in02; clear hF; have hF := hL.fx))
   refine kn_body ?_; clear hF hL; intro W hL; simp only [kfb] at hL; have hF := hL.fx
   refine bodyPost_ret (by simp [results, Tryz.results105, go_sem, *]; try rfl) rfl ?_
   exact ⟨nm, aa, na, ca, aw, nw, cw, ar, nr, cr, ak, nk, ck, LN, j2, vj2, rfl, HN, HJ2, (hL.perml fun p => by simp only [List.countP_cons, List.countP_nil, List.countP_append, List.append_nil, List.nil_append, List.length_nil]; omega)⟩
end Go.Proofs.YtgboffbbpmileaaGreatDoor
set_option maxRecDepth 20000
set_option maxHeartbeats 4000000
set_option linter.unusedVariables false
set_option linter.unusedSimpArgs false
namespace Go.Proofs.YtgboffbbpmileaaGreatDoor
open Go Go.RowKit
theorem command_s2 {W0 : World} {g o cap : Nat} {tvs : List (Tok × Value)} (E : PEnv W0 g o cap tvs) {d : Nat} {pl : Pa Nd} (b i : Nat) (v : Value) (w : World) (hB : Below W0.heap.size W0 w) (hbb : W0.heap.size ≤ b) (hv : Hid (AtV g o cap tvs i v)) (hb : w.heap[b]? = some (.cells #[v, .int .i64 (d : Nat)] 73 (0, 0))) (HSI : ∀ W : World, Below W0.heap.size W0 W → W.heap[b]? = some (.cells #[v, .int .i64 (d : Nat)] 73 (0, 0)) → Calls Tryz.prog 123 #[.pointer (some ⟨b, 0, none⟩)] W (NOut W0 b d g o cap tvs W (pl ((TT tvs).drop i)))) (hbo : blockOf ((TT tvs).drop i) = none) (hk1 : isKw closers ((TT tvs).drop i) = false) {x y : Tok × Value} (hx0 : tvs[i]? = some x) (hy : tvs[i + 1]? = some y) (hkx : ((x.1.kind : Int) == 0) = true) (hnm : isName x.1.plain = true) (hno : ((y.1.kind : Int) == 1) = false ∨ (y.1.text == [40]) = false) : Calls Tryz.prog 105 #[.pointer (some ⟨b, 0, none⟩)] w fun e w' => NOut W0 b d g o cap tvs w (pl ((TT tvs).drop i)) e w' := by
 have HBL : Hid (∀ W, Below W0.heap.size W0 W → W.heap[b]? = some (.cells #[v, .int .i64 (d : Nat)] 73 (0, 0)) → Calls Tryz.prog 119 #[.pointer (some ⟨b, 0, none⟩)] W fun e w' => e = .returned (.nilFunc) ∧ Below W.heap.size W w') := Lib.hid fun W hB hb => by have h := block_c E b i v d W hB hbb hv hb; rw [hbo] at h; exact h
 have hfn := nil_neB
 have HK1 : Hid (isKw (closB.map fun z => z.data.toList) ((TT tvs).drop i) = false) := Lib.hid (by rw [closB_map]; exact hk1)
 clear hbo hk1
 obtain ⟨cg, co, cc, hc1, hc2, hc3⟩ := E.clo
 have HC3 := Lib.hid hc3
 have hg0 := cell_lt hc1
 have hc4 := cell_ext hc1 hB
 have hcb : Hid (cg ≠ b) := Lib.hid (by have := clo_lt hc3; omega)
 have hg1 : 0 < b := by omega
 have hg2 : 0 < w.heap.size := cell_lt hc4
 have hg3 : ¬ 0 = b := by omega
 clear hc3 hc1
 obtain ⟨x9, pa, pn, pc, hx, hx2⟩ := E.tok hv.out
 obtain rfl : x = x9 := Option.some.inj (hx0.symm.trans hx)
 clear hx0
 have HX := Lib.hid hx
 have HX2 := Lib.hid hx2
 have f0 := tkf0 x.1.kind x.1.fd x.1.line ⟨x.1.text.toArray⟩ ⟨x.1.plain.toArray⟩ pa pn pc
 have f1 := tkf1 x.1.kind x.1.fd x.1.line ⟨x.1.text.toArray⟩ ⟨x.1.plain.toArray⟩ pa pn pc
 have f2 := tkf2 x.1.kind x.1.fd x.1.line ⟨x.1.text.toArray⟩ ⟨x.1.plain.toArray⟩ pa pn pc
 have f3 := tkf3 x.1.kind x.1.fd x.1.line ⟨x.1.text.toArray⟩ ⟨x.1.plain.toArray⟩ pa pn pc
 have f4 := tkf4 x.1.kind x.1.fd x.1.line ⟨x.1.text.toArray⟩ ⟨x.1.plain.toArray⟩ pa pn pc
 have f5 := tkf5 x.1.kind x.1.fd x.1.line ⟨x.1.text.toArray⟩ ⟨x.1.plain.toArray⟩ pa pn pc
 clear hx hx2
 have HSZ : Hid ((⟨x.1.plain.toArray⟩ : ByteArray).size ≤ 1000000) := Lib.hid (by have := (E.word x (List.mem_of_getElem? HX.out)).2.1; rw [← szl]; simp only [List.toList_toArray]; omega)
 have HIN := Lib.hid (fun W => isName_is ⟨x.1.plain.toArray⟩ HSZ.out W)
 simp only [List.toList_toArray] at HIN
 rw [hnm] at HIN
 clear hnm
 have hn9 : i + 1 < tvs.length := (List.getElem?_eq_some_iff.1 hy).1
 have hi9 := hv.out.1
 have hmx := E.max
 have hve := hv.out.2
 have q1 : decide ((1 : Int) < ((tvs.length - i : Nat) : Int)) = true := decide_eq_true (by omega)
 have q2 : 1 < tvs.length - i := by omega
 obtain ⟨pay, pny, pcy, hyp⟩ : ∃ a n c, y.2 = .slice a n c := by obtain ⟨a, n, c, h, _⟩ := (E.parts y (List.mem_of_getElem? hy)).2; exact ⟨a, n, c, h⟩
 have hcy := tok6 E hB hy pay pny pcy hyp
 have hy0 : w.cell? ⟨g, o + i * 6 + 6, none⟩ = some (.int .i64 (y.1.kind : Int)) := by have := hcy.1; rwa [show o + (i + 1) * 6 = o + i * 6 + 6 by omega] at this
 have hy1 : w.cell? ⟨g, o + i * 6 + 6 + 1, none⟩ = some (.string ⟨y.1.text.toArray⟩) := by have := hcy.2.1; rwa [show o + (i + 1) * 6 + 1 = o + i * 6 + 6 + 1 by omega] at this
 have hgl := cell_lt hy0
 have hgb : g ≠ b := by have := cell_lt (tok6 E (Below.refl _ W0) hy pay pny pcy hyp).1; omega
 clear hcy hyp
 clear hy
 have HSC := Lib.hid HSI
 obtain ⟨PL, hpl⟩ : ∃ p : PR Nd, pl ((TT tvs).drop i) = p := ⟨_, rfl⟩
 rw [hpl] at HSC ⊢
 clear hpl HSI
 obtain ⟨ky, hky⟩ : ∃ z : Bool, ((y.1.kind : Int) == 1) = z := ⟨_, rfl⟩
 obtain ⟨ty, hty⟩ : ∃ z : Bool, (y.1.text == [40]) = z := ⟨_, rfl⟩
 rw [hky, hty] at hno
 have HB0 := Lib.hid hB
 have HXB := Lib.hid (show ∀ y ∈ [b], W0.heap.size ≤ y from by simpa using hbb)
 have hL : Kn [b] w w [(b, .cells #[v, .int .i64 (d : Int)] 73 (0, 0))] := Kn.one hb
 have HBS := Lib.hid hb
 clear hB hb
 have hF := hL.fx
 cases ky
 ·cases PL with
  | bad er m2 =>
   go_enter Tryz.func105, Tryz.ntmps105
   go_wp2_with (first | ((with_reducible refine zS ?_); clear hL; intro W hL hF) | (go_at_call 119; refine zC (fun W hL => HBL.out _ (kn_bw HB0.out hL HXB.out) (by (exact hL.has _ (List.mem_cons_of_mem _ List.mem_cons_self)))) ?_; clear hF hL; intro W hL hF) | (go_at_call 86; refine zC (fun W hL => key_c E b i v (d : Int) _ (kn_bw HB0.out hL HXB.out) hbb hv (by (exact hL.has _ (List.mem_cons_of_mem _ List.mem_cons_self))) cg co 10 _ closB _ HK1 (Lib.hid rfl) (by omega) (clo_row10 (kn_bw HB0.out hL HXB.out) HC3.out) hcb.out) ?_; clear hF hL; intro W hL hF) | (go_at_call 27; refine zC (fun W hL => next_i E b i v (d : Int) _ (kn_bw HB0.out hL HXB.out) hbb hv (by (exact hL.has _ (List.mem_cons_of_mem _ List.mem_cons_self))) HX.out pa pn pc HX2.out ) ?_; clear hF hL; intro W hL hF) | (go_at_call 121; refine zC (fun W hL => HIN.out _) ?_; clear hF hL; intro W hL hF) | (go_at_call 123; refine zG ?_; clear hF hL; intro W hL hF; (with_reducible refine (HSC.out _ (kn_bw HB0.out hL HXB.out) (by (exact hL.has _ (List.mem_cons_of_mem _ (List.mem_cons_of_mem _ List.mem_cons_self))))).mono ?_); rintro e W ⟨vj2, dj, rfl, hb⟩; ((replace hL := hL.join1 2 rfl hb)); clear hb hF; simp only [List.eraseIdx_cons_zero, List.eraseIdx_cons_succ, List.cons_append, List.nil_append] at hL; have hF := hL.fx))
   exact ⟨rfl, vj2, dj, rfl, (hL.perml fun p => by simp only [List.countP_cons, List.countP_nil, List.countP_append, List.append_nil, List.nil_append, List.length_nil]; omega)⟩
  | ok z r =>
   go_enter Tryz.func105, Tryz.ntmps105
   go_wp2_with (first | ((with_reducible refine zS ?_); clear hL; intro W hL hF) | (go_at_call 119; refine zC (fun W hL => HBL.out _ (kn_bw HB0.out hL HXB.out) (by (exact hL.has _ (List.mem_cons_of_mem _ List.mem_cons_self)))) ?_; clear hF hL; intro W hL hF) | (go_at_call 86; refine zC (fun W hL => key_c E b i v (d : Int) _ (kn_bw HB0.out hL HXB.out) hbb hv (by (exact hL.has _ (List.mem_cons_of_mem _ List.mem_cons_self))) cg co 10 _ closB _ HK1 (Lib.hid rfl) (by omega) (clo_row10 (kn_bw HB0.out hL HXB.out) HC3.out) hcb.out) ?_; clear hF hL; intro W hL hF) | (go_at_call 27; refine zC (fun W hL => next_i E b i v (d : Int) _ (kn_bw HB0.out hL HXB.out) hbb hv (by (exact hL.has _ (List.mem_cons_of_mem _ List.mem_cons_self))) HX.out pa pn pc HX2.out ) ?_; clear hF hL; intro W hL hF) | (go_at_call 121; refine zC (fun W hL => HIN.out _) ?_; clear hF hL; intro W hL hF) | (go_at_call 123; refine zG ?_; clear hF hL; intro W hL hF; (with_reducible refine (HSC.out _ (kn_bw HB0.out hL HXB.out) (by (exact hL.has _ (List.mem_cons_of_mem _ (List.mem_cons_of_mem _ List.mem_cons_self))))).mono ?_); rintro e W ⟨nm, aa, na, ca, aw, nw, cw, ar, nr, cr, ak, nk, ck, LN, j2, vj2, rfl, HN, HJ2, hb⟩; ((replace hL := hL.join1 2 rfl hb)); clear hb hF; simp only [List.eraseIdx_cons_zero, List.eraseIdx_cons_succ, List.cons_append, List.nil_append] at hL; have hF := hL.fx; replace hL := hL.in02; clear hF; have hF := hL.fx))
   refine kn_body ?_; clear hF hL; intro W hL; simp only [kfb] at hL; have hF := hL.fx
   refine bodyPost_ret (by simp [results, Tryz.results105, go_sem, *]; try rfl) rfl ?_
   exact ⟨nm, aa, na, ca, aw, nw, cw, ar, nr, cr, ak, nk, ck, LN, j2, vj2, rfl, HN, HJ2, (hL.perml fun p => by simp only [List.countP_cons, List.countP_nil, List.countP_append, List.append_nil, List.nil_append, List.length_nil]; omega)⟩
 ·obtain rfl : ty = false := hno.resolve_left (by decide)
  clear hno
  cases PL with
  | bad er m2 =>
   go_enter Tryz.func105, Tryz.ntmps105
   go_wp2_with (first | ((with_reducible refine zS ?_); clear hL; intro W hL hF) | (go_at_call 119; refine zC (fun W hL => HBL.out _ (kn_bw HB0.out hL HXB.out) (by (exact hL.has _ (List.mem_cons_of_mem _ List.mem_cons_self)))) ?_; clear hF hL; intro W hL hF) | (go_at_call 86; refine zC (fun W hL => key_c E b i v (d : Int) _ (kn_bw HB0.out hL HXB.out) hbb hv (by (exact hL.has _ (List.mem_cons_of_mem _ List.mem_cons_self))) cg co 10 _ closB _ HK1 (Lib.hid rfl) (by omega) (clo_row10 (kn_bw HB0.out hL HXB.out) HC3.out) hcb.out) ?_; clear hF hL; intro W hL hF) | (go_at_call 27; refine zC (fun W hL => next_i E b i v (d : Int) _ (kn_bw HB0.out hL HXB.out) hbb hv (by (exact hL.has _ (List.mem_cons_of_mem _ List.mem_cons_self))) HX.out pa pn pc HX2.out ) ?_; clear hF hL; intro W hL hF) | (go_at_call 121; refine zC (fun W hL => HIN.out _) ?_; clear hF hL; intro W hL hF) | (go_at_call 123; refine zG ?_; clear hF hL; intro W hL hF; (with_reducible refine (HSC.out _ (kn_bw HB0.out hL HXB.out) (by (exact hL.has _ (List.mem_cons_of_mem _ (List.mem_cons_of_mem _ List.mem_cons_self))))).mono ?_); rintro e W ⟨vj2, dj, rfl, hb⟩; ((replace hL := hL.join1 2 rfl hb)); clear hb hF; simp only [List.eraseIdx_cons_zero, List.eraseIdx_cons_succ, List.cons_append, List.nil_append] at hL; have hF := hL.fx))
   exact ⟨rfl, vj2, dj, rfl, (hL.perml fun p => by simp only [List.countP_cons, List.countP_nil, List.countP_append, List.append_nil, List.nil_append, List.length_nil]; omega)⟩
  | ok z r =>
   go_enter Tryz.func105, Tryz.ntmps105
   go_wp2_with (first | ((with_reducible refine zS ?_); clear hL; intro W hL hF) | (go_at_call 119; refine zC (fun W hL => HBL.out _ (kn_bw HB0.out hL HXB.out) (by (exact hL.has _ (List.mem_cons_of_mem _ List.mem_cons_self)))) ?_; clear hF hL; intro W hL hF) | (go_at_call 86; refine zC (fun W hL => key_c E b i v (d : Int) _ (kn_bw HB0.out hL HXB.out) hbb hv (by (exact hL.has _ (List.mem_cons_of_mem _ List.mem_cons_self))) cg co 10 _ closB _ HK1 (Lib.hid rfl) (by omega) (clo_row10 (kn_bw HB0.out hL HXB.out) HC3.out) hcb.out) ?_; clear hF hL; intro W hL hF) | (go_at_call 27; refine zC (fun W hL => next_i E b i v (d : Int) _ (kn_bw HB0.out hL HXB.out) hbb hv (by (exact hL.has _ (List.mem_cons_of_mem _ List.mem_cons_self))) HX.out pa pn pc HX2.out ) ?_; clear hF hL; intro W hL hF) | (go_at_call 121; refine zC (fun W hL => HIN.out _) ?_; clear hF hL; intro W hL hF) | (go_at_call 123; refine zG ?_; clear hF hL; intro W hL hF; (with_reducible refine (HSC.out _ (kn_bw HB0.out hL HXB.out) (by (exact hL.has _ (List.mem_cons_of_mem _ (List.mem_cons_of_mem _ List.mem_cons_self))))).mono ?_); rintro e W ⟨nm, aa, na, ca, aw, nw, cw, ar, nr, cr, ak, nk, ck, LN, j2, vj2, rfl, HN, HJ2, hb⟩; ((replace hL := hL.join1 2 rfl hb)); clear hb hF; simp only [List.eraseIdx_cons_zero, List.eraseIdx_cons_succ, List.cons_append, List.nil_append] at hL; have hF := hL.fx; replace hL := hL.in02; clear hF; have hF := hL.fx))
   refine kn_body ?_; clear hF hL; intro W hL; simp only [kfb] at hL; have hF := hL.fx
   refine bodyPost_ret (by simp [results, Tryz.results105, go_sem, *]; try rfl) rfl ?_
   exact ⟨nm, aa, na, ca, aw, nw, cw, ar, nr, cr, ak, nk, ck, LN, j2, vj2, rfl, HN, HJ2, (hL.perml fun p => by simp only [List.countP_cons, List.countP_nil, List.countP_append, List.append_nil, List.nil_append, List.length_nil]; omega)⟩
theorem command_f {W0 : World} {g o cap : Nat} {tvs : List (Tok × Value)} (E : PEnv W0 g o cap tvs) {d : Nat} {pl : Pa Nd} (b i : Nat) (v : Value) (w : World) (hB : Below W0.heap.size W0 w) (hbb : W0.heap.size ≤ b) (hv : Hid (AtV g o cap tvs i v)) (hb : w.heap[b]? = some (.cells #[v, .int .i64 (d : Nat)] 73 (0, 0))) (HSI : ∀ W : World, Below W0.heap.size W0 W → W.heap[b]? = some (.cells #[v, .int .i64 (d : Nat)] 73 (0, 0)) → Calls Tryz.prog 122 #[.pointer (some ⟨b, 0, none⟩)] W (NOut W0 b d g o cap tvs W (pl ((TT tvs).drop i)))) (hbo : blockOf ((TT tvs).drop i) = none) (hk1 : isKw closers ((TT tvs).drop i) = false) {x y : Tok × Value} (hx0 : tvs[i]? = some x) (hy : tvs[i + 1]? = some y) (hkx : ((x.1.kind : Int) == 0) = true) (hnm : isName x.1.plain = true) (hky : ((y.1.kind : Int) == 1) = true) (hty : (y.1.text == [40]) = true) : Calls Tryz.prog 105 #[.pointer (some ⟨b, 0, none⟩)] w fun e w' => NOut W0 b d g o cap tvs w (pl ((TT tvs).drop i)) e w' := by
 have HBL : Hid (∀ W, Below W0.heap.size W0 W → W.heap[b]? = some (.cells #[v, .int .i64 (d : Nat)] 73 (0, 0)) → Calls Tryz.prog 119 #[.pointer (some ⟨b, 0, none⟩)] W fun e w' => e = .returned (.nilFunc) ∧ Below W.heap.size W w') := Lib.hid fun W hB hb => by have h := block_c E b i v d W hB hbb hv hb; rw [hbo] at h; exact h
 have hfn := nil_neB
 have HK1 : Hid (isKw (closB.map fun z => z.data.toList) ((TT tvs).drop i) = false) := Lib.hid (by rw [closB_map]; exact hk1)
 clear hbo hk1
 obtain ⟨cg, co, cc, hc1, hc2, hc3⟩ := E.clo
 have HC3 := Lib.hid hc3
 have hg0 := cell_lt hc1
 have hc4 := cell_ext hc1 hB
 have hcb : Hid (cg ≠ b) := Lib.hid (by have := clo_lt hc3; omega)
 have hg1 : 0 < b := by omega
 have hg2 : 0 < w.heap.size := cell_lt hc4
 have hg3 : ¬ 0 = b := by omega
 clear hc3 hc1
 obtain ⟨x9, pa, pn, pc, hx, hx2⟩ := E.tok hv.out
 obtain rfl : x = x9 := Option.some.inj (hx0.symm.trans hx)
 clear hx0
 have HX := Lib.hid hx
 have HX2 := Lib.hid hx2
 have f0 := tkf0 x.1.kind x.1.fd x.1.line ⟨x.1.text.toArray⟩ ⟨x.1.plain.toArray⟩ pa pn pc
 have f1 := tkf1 x.1.kind x.1.fd x.1.line ⟨x.1.text.toArray⟩ ⟨x.1.plain.toArray⟩ pa pn pc
 have f2 := tkf2 x.1.kind x.1.fd x.1.line ⟨x.1.text.toArray⟩ ⟨x.1.plain.toArray⟩ pa pn pc
 have f3 := tkf3 x.1.kind x.1.fd x.1.line ⟨x.1.text.toArray⟩ ⟨x.1.plain.toArray⟩ pa pn pc
 have f4 := tkf4 x.1.kind x.1.fd x.1.line ⟨x.1.text.toArray⟩ ⟨x.1.plain.toArray⟩ pa pn pc
 have f5 := tkf5 x.1.kind x.1.fd x.1.line ⟨x.1.text.toArray⟩ ⟨x.1.plain.toArray⟩ pa pn pc
 clear hx hx2
 have HSZ : Hid ((⟨x.1.plain.toArray⟩ : ByteArray).size ≤ 1000000) := Lib.hid (by have := (E.word x (List.mem_of_getElem? HX.out)).2.1; rw [← szl]; simp only [List.toList_toArray]; omega)
 have HIN := Lib.hid (fun W => isName_is ⟨x.1.plain.toArray⟩ HSZ.out W)
 simp only [List.toList_toArray] at HIN
 rw [hnm] at HIN
 clear hnm
 have hn9 : i + 1 < tvs.length := (List.getElem?_eq_some_iff.1 hy).1
 have hi9 := hv.out.1
 have hmx := E.max
 have hve := hv.out.2
 have q1 : decide ((1 : Int) < ((tvs.length - i : Nat) : Int)) = true := decide_eq_true (by omega)
 have q2 : 1 < tvs.length - i := by omega
 obtain ⟨pay, pny, pcy, hyp⟩ : ∃ a n c, y.2 = .slice a n c := by obtain ⟨a, n, c, h, _⟩ := (E.parts y (List.mem_of_getElem? hy)).2; exact ⟨a, n, c, h⟩
 have hcy := tok6 E hB hy pay pny pcy hyp
 have hy0 : w.cell? ⟨g, o + i * 6 + 6, none⟩ = some (.int .i64 (y.1.kind : Int)) := by have := hcy.1; rwa [show o + (i + 1) * 6 = o + i * 6 + 6 by omega] at this
 have hy1 : w.cell? ⟨g, o + i * 6 + 6 + 1, none⟩ = some (.string ⟨y.1.text.toArray⟩) := by have := hcy.2.1; rwa [show o + (i + 1) * 6 + 1 = o + i * 6 + 6 + 1 by omega] at this
 have hgl := cell_lt hy0
 have hgb : g ≠ b := by have := cell_lt (tok6 E (Below.refl _ W0) hy pay pny pcy hyp).1; omega
 clear hcy hyp
 clear hy
 have HSC := Lib.hid HSI
 obtain ⟨PL, hpl⟩ : ∃ p : PR Nd, pl ((TT tvs).drop i) = p := ⟨_, rfl⟩
 rw [hpl] at HSC ⊢
 clear hpl HSI
 have HB0 := Lib.hid hB
 have HXB := Lib.hid (show ∀ y ∈ [b], W0.heap.size ≤ y from by simpa using hbb)
 have hL : Kn [b] w w [(b, .cells #[v, .int .i64 (d : Int)] 73 (0, 0))] := Kn.one hb
 have HBS := Lib.hid hb
 clear hB hb
 have hF := hL.fx
 cases PL with
 | bad er m2 =>
  go_enter Tryz.func105, Tryz.ntmps105
  go_wp2_with (first | ((with_reducible refine zS ?_); clear hL; intro W hL hF) | (go_at_call 119; refine zC (fun W hL => HBL.out _ (kn_bw HB0.out hL HXB.out) (by (exact hL.has _ (List.mem_cons_of_mem _ List.mem_cons_self)))) ?_; clear hF hL; intro W hL hF) | (go_at_call 86; refine zC (fun W hL => key_c E b i v (d : Int) _ (kn_bw HB0.out hL HXB.out) hbb hv (by (exact hL.has _ (List.mem_cons_of_mem _ List.mem_cons_self))) cg co 10 _ closB _ HK1 (Lib.hid rfl) (by omega) (clo_row10 (kn_bw HB0.out hL HXB.out) HC3.out) hcb.out) ?_; clear hF hL; intro W hL hF) | (go_at_call 27; refine zC (fun W hL => next_i E b i v (d : Int) _ (kn_bw HB0.out hL HXB.out) hbb hv (by (exact hL.has _ (List.mem_cons_of_mem _ List.mem_cons_self))) HX.out pa pn pc HX2.out ) ?_; clear hF hL; intro W hL hF) | (go_at_call 121; refine zC (fun W hL => HIN.out _) ?_; clear hF hL; intro W hL hF) | (go_at_call 122; refine zG ?_; clear hF hL; intro W hL hF; (with_reducible refine (HSC.out _ (kn_bw HB0.out hL HXB.out) (by (exact hL.has _ (List.mem_cons_of_mem _ (List.mem_cons_of_mem _ List.mem_cons_self))))).mono ?_); rintro e W ⟨vj2, dj, rfl, hb⟩; ((replace hL := hL.join1 2 rfl hb)); clear hb hF; simp only [List.eraseIdx_cons_zero, List.eraseIdx_cons_succ, List.cons_append, List.nil_append] at hL; have hF := hL.fx))
  exact ⟨rfl, vj2, dj, rfl, (hL.perml fun p => by simp only [List.countP_cons, List.countP_nil, List.countP_append, List.append_nil, List.nil_append, List.length_nil]; omega)⟩
 | ok z r =>
  go_enter Tryz.func105, Tryz.ntmps105
  go_wp2_with (first | ((with_reducible refine zS ?_); clear hL; intro W hL hF) | (go_at_call 119; refine zC (fun W hL => HBL.out _ (kn_bw HB0.out hL HXB.out) (by (exact hL.has _ (List.mem_cons_of_mem _ List.mem_cons_self)))) ?_; clear hF hL; intro W hL hF) | (go_at_call 86; refine zC (fun W hL => key_c E b i v (d : Int) _ (kn_bw HB0.out hL HXB.out) hbb hv (by (exact hL.has _ (List.mem_cons_of_mem _ List.mem_cons_self))) cg co 10 _ closB _ HK1 (Lib.hid rfl) (by omega) (clo_row10 (kn_bw HB0.out hL HXB.out) HC3.out) hcb.out) ?_; clear hF hL; intro W hL hF) | (go_at_call 27; refine zC (fun W hL => next_i E b i v (d : Int) _ (kn_bw HB0.out hL HXB.out) hbb hv (by (exact hL.has _ (List.mem_cons_of_mem _ List.mem_cons_self))) HX.out pa pn pc HX2.out ) ?_; clear hF hL; intro W hL hF) | (go_at_call 121; refine zC (fun W hL => HIN.out _) ?_; clear hF hL; intro W hL hF) | (go_at_call 122; refine zG ?_; clear hF hL; intro W hL hF; (with_reducible refine (HSC.out _ (kn_bw HB0.out hL HXB.out) (by (exact hL.has _ (List.mem_cons_of_mem _ (List.mem_cons_of_mem _ List.mem_cons_self))))).mono ?_); rintro e W ⟨nm, aa, na, ca, aw, nw, cw, ar, nr, cr, ak, nk, ck, LN, j2, vj2, rfl, HN, HJ2, hb⟩; ((replace hL := hL.join1 2 rfl hb)); clear hb hF; simp only [List.eraseIdx_cons_zero, List.eraseIdx_cons_succ, List.cons_append, List.nil_append] at hL; have hF := hL.fx; replace hL := hL.in02; clear hF; have hF := hL.fx))
  refine kn_body ?_; clear hF hL; intro W hL; simp only [kfb] at hL; have hF := hL.fx
  refine bodyPost_ret (by simp [results, Tryz.results105, go_sem, *]; try rfl) rfl ?_
  exact ⟨nm, aa, na, ca, aw, nw, cw, ar, nr, cr, ak, nk, ck, LN, j2, vj2, rfl, HN, HJ2, (hL.perml fun p => by simp only [List.countP_cons, List.countP_nil, List.countP_append, List.append_nil, List.nil_append, List.length_nil]; omega)⟩
end Go.Proofs.YtgboffbbpmileaaGreatDoor
set_option linter.unusedVariables false
set_option linter.unusedSimpArgs false
namespace Go.Proofs.YtgboffbbpmileaaGreatDoor
open Go Go.RowKit
theorem isFn_at {W0 : World} {g o cap : Nat} {tvs : List (Tok × Value)} (E : PEnv W0 g o cap tvs) {i : Nat} {x : Tok × Value} (hx : tvs[i]? = some x) : isFn ((TT tvs).drop i) = (((x.1.kind : Int) == 0) && isName x.1.plain && isOp [40] ((TT tvs).drop (i + 1))) := by
 rcases drop_at E hx with ⟨h1, h2, h3, h4⟩ | ⟨h1, h2, h3⟩
 ·rw [h1, h2]; rfl
 ·rw [h1]
  show ((x.1.kind == 0) && _ && _) = _
  congr 2
  rw [Bool.eq_iff_iff, beq_iff_eq, beq_iff_eq]
  omega
theorem command_c {W0 : World} {g o cap : Nat} {tvs : List (Tok × Value)} (E : PEnv W0 g o cap tvs) {d : Nat} {comp : Blk → Pa Nd} {inner : Option (Blk → Pa Nd)} (HCO : CompC W0 g o cap tvs d comp) (HFN : FunC W0 g o cap tvs d (fnP inner)) : NodeC W0 g o cap tvs 105 d (cmdF comp inner) := by
 intro b i v w hB hbb hv hb
 obtain ⟨x, pa, pn, pc, hx, _⟩ := E.tok hv.out
 unfold cmdF
 cases hbo : blockOf ((TT tvs).drop i) with
 | some bk => exact command_blk E HCO b i v w hB hbb hv hb bk hbo
 | none =>
  have HSI := fun (W : World) (hB : Below W0.heap.size W0 W) hb => simple_c E b i v d W hB hbb hv hb
  simp only
  cases hk1 : isKw closers ((TT tvs).drop i) with
  | true => rw [if_pos rfl]; exact command_clo E b i v w hB hbb hv hb hbo hk1
  | false =>
   rw [if_neg (by decide)]
   have hf := isFn_at E hx
   cases hkx : ((x.1.kind : Int) == 0) with
   | false =>
    rw [hkx] at hf
    rw [if_neg (by rw [hf]; simp)]
    exact command_s1 E b i v w hB hbb hv hb HSI hbo hk1 hx (.inl hkx)
   | true =>
    cases hnm : isName x.1.plain with
    | false =>
     rw [hnm] at hf
     rw [if_neg (by rw [hf]; simp)]
     exact command_s1 E b i v w hB hbb hv hb HSI hbo hk1 hx (.inr hnm)
    | true =>
     have h9 : i + 1 < tvs.length := by
      rcases drop_at E hx with h | h
      ·have := h.2.1; rw [beq_iff_eq] at hkx; omega
      ·exact h.2.2
     obtain ⟨y, hy⟩ : ∃ y, tvs[i + 1]? = some y := ⟨_, List.getElem?_eq_getElem h9⟩
     rw [hkx, hnm, op_at E hy] at hf
     cases hky : ((y.1.kind : Int) == 1) with
     | false =>
      rw [hky] at hf
      rw [if_neg (by rw [hf]; simp)]
      exact command_s2 E b i v w hB hbb hv hb HSI hbo hk1 hx hy hkx hnm (.inl hky)
     | true =>
      cases hty : (y.1.text == [40]) with
      | false =>
       rw [hky, hty] at hf
       rw [if_neg (by rw [hf]; decide)]
       exact command_s2 E b i v w hB hbb hv hb HSI hbo hk1 hx hy hkx hnm (.inr hty)
      | true =>
       rw [hky, hty] at hf
       rw [if_pos (by rw [hf]; decide)]
       exact command_f E (pl := fnP inner) b i v w hB hbb hv hb (fun W hB hb => HFN b i v W hB hbb hv hb (by rw [hf]; decide)) hbo hk1 hx hy hkx hnm hky hty
end Go.Proofs.YtgboffbbpmileaaGreatDoor
set_option maxRecDepth 20000
set_option maxHeartbeats 4000000
set_option linter.unusedVariables false
set_option linter.unusedSimpArgs false
namespace Go.Proofs.YtgboffbbpmileaaGreatDoor
open Go Go.RowKit
theorem enter_full {W0 : World} {g o cap : Nat} {tvs : List (Tok × Value)} (E : PEnv W0 g o cap tvs) (b i : Nat) (v : Value) (d : Nat) (w : World) (hB : Below W0.heap.size W0 w) (hbb : W0.heap.size ≤ b) (hv : Hid (AtV g o cap tvs i v)) (hb : w.heap[b]? = some (.cells #[v, .int .i64 (d : Int)] 73 (0, 0))) (h20 : d = 20) : Calls Tryz.prog 143 #[.pointer (some ⟨b, 0, none⟩)] w fun e w' => POut b d g o cap tvs w (α := Unit) (fun _ _ _ => False) (full ((TT tvs).drop i)) e w' := by
 obtain ⟨m, hm⟩ : ∃ m, m = ((TT tvs).drop i).length := ⟨_, rfl⟩
 have Hm := Lib.hid hm
 clear hm
 have q0 : ((d : Int) == 20) = true := by rw [h20]; rfl
 have HB0 := Lib.hid hB
 have HXB := Lib.hid (show ∀ y ∈ [b], W0.heap.size ≤ y from by simpa using hbb)
 have hL : Kn [b] w w [(b, .cells #[v, .int .i64 (d : Int)] 73 (0, 0))] := Kn.one hb
 have HBS := Lib.hid hb
 clear hB hb
 have hF := hL.fx
 have hmf : ∀ (fn : Fn) (first cap : Array Value) (w : World), (Instr.makeFunc fn first cap).run Tryz.prog w = .ok (.func fn first cap) w := fun _ _ _ _ => rfl
 go_enter Tryz.func143, Tryz.ntmps143
 go_wp2_with (first | ((with_reducible refine zS ?_); clear hL; intro W hL hF) | (go_at_call 28; refine zG ?_; clear hF hL; intro W hL hF; (with_reducible refine (fail_c E b i v d _ (kn_bw HB0.out hL HXB.out) hbb hv (by (exact hL.has _ (List.mem_cons_of_mem _ List.mem_cons_self))) 6 d 2 (Lib.hid rfl) m Hm).mono ?_); rintro e W ⟨vj, dj, rfl, hb⟩; ((replace hL := hL.join1 1 rfl hb)); clear hb hF; simp only [List.eraseIdx_cons_zero, List.eraseIdx_cons_succ, List.cons_append, List.nil_append] at hL; have hF := hL.fx))
 exact ⟨rfl, _, _, by rw [Hm.out] <;> rfl, hL.sub (by repeat' (first | exact List.Sublist.refl _ | apply List.Sublist.cons_cons | apply List.Sublist.cons))⟩
theorem enter_ok {W0 : World} {g o cap : Nat} {tvs : List (Tok × Value)} (E : PEnv W0 g o cap tvs) (b i : Nat) (v : Value) (d : Nat) (w : World) (hB : Below W0.heap.size W0 w) (hbb : W0.heap.size ≤ b) (hv : Hid (AtV g o cap tvs i v)) (hb : w.heap[b]? = some (.cells #[v, .int .i64 (d : Int)] 73 (0, 0))) (h20 : d < 20) : Calls Tryz.prog 143 #[.pointer (some ⟨b, 0, none⟩)] w fun e w' => ∃ c, e = .returned (.func (.func 166) #[] #[.pointer (some ⟨c, 0, none⟩)]) ∧ Kn [b] w w' [(b, .cells #[v, .int .i64 ((d + 1 : Nat) : Int)] 73 (0, 0)), (c, .cells #[.pointer (some ⟨b, 0, none⟩)] 71 (0, 0))] := by
 have q0 : ((d : Int) == 20) = false := beq_false_of_ne (by omega)
 have q1 : IntKind.i64.wrap ((d : Int) + 1) = ((d + 1 : Nat) : Int) := by rw [IntWalk.i64_in _ (by omega)]; omega
 have HB0 := Lib.hid hB
 have HXB := Lib.hid (show ∀ y ∈ [b], W0.heap.size ≤ y from by simpa using hbb)
 have hL : Kn [b] w w [(b, .cells #[v, .int .i64 (d : Int)] 73 (0, 0))] := Kn.one hb
 have HBS := Lib.hid hb
 clear hB hb
 have hF := hL.fx
 have hmf : ∀ (fn : Fn) (first cap : Array Value) (w : World), (Instr.makeFunc fn first cap).run Tryz.prog w = .ok (.func fn first cap) w := fun _ _ _ _ => rfl
 go_enter Tryz.func143, Tryz.ntmps143
 go_wp2
 refine kn_body ?_; clear hF hL; intro W hL; simp only [kfb] at hL; have hF := hL.fx
 refine bodyPost_ret (by simp [results, Tryz.results143, go_sem, *]; try rfl) rfl ?_
 exact ⟨_, rfl, Kn.ofPerm hL (List.Perm.swap _ _ _)⟩
end Go.Proofs.YtgboffbbpmileaaGreatDoor
set_option maxRecDepth 20000
set_option maxHeartbeats 4000000
set_option linter.unusedVariables false
set_option linter.unusedSimpArgs false
namespace Go.Proofs.YtgboffbbpmileaaGreatDoor
open Go Go.RowKit
theorem exit_c (b c : Nat) (v : Value) (dj : Int) (u : FrameMode) (w : World) (hL : Kn [b, c] w w [(b, .cells #[v, .int .i64 dj] 73 (0, 0)), (c, .cells #[.pointer (some ⟨b, 0, none⟩)] 71 (0, 0))]) :
    CallsD Tryz.prog 166 #[.pointer (some ⟨c, 0, none⟩)] u w fun e u' w' => u' = u ∧ e = .returned (.tuple #[]) ∧ Kn [b, c] w w' [(b, .cells #[v, .int .i64 (wrap64 (dj - 1))] 73 (0, 0)), (c, .cells #[.pointer (some ⟨b, 0, none⟩)] 71 (0, 0))] := by
  have hF := hL.fx
  go_enter_d Tryz.func166, Tryz.ntmps166
  go_wp2
  first
  | exact ⟨rfl, rfl, rfl, kn_here⟩
  | (go_end0
     (exact ⟨rfl, kn_here⟩))
end Go.Proofs.YtgboffbbpmileaaGreatDoor
set_option linter.unusedVariables false
set_option linter.unusedSimpArgs false
namespace Go.Proofs.YtgboffbbpmileaaGreatDoor
open Go Go.RowKit
/-- What was deferred: the depth is one less. -/
theorem leave_x {fn : Func} {tmps : Array Value} {R : Ending → World → Prop} {b c : Nat} {v : Value} {d : Nat} {u : FrameMode} {X : List Nat} {w0 W : World} {L : List (Nat × Obj)} (hd : d < 1000) (hL : Kn X w0 W ((b, .cells #[v, .int .i64 ((d + 1 : Nat) : Int)] 73 (0, 0)) :: (c, .cells #[.pointer (some ⟨b, 0, none⟩)] 71 (0, 0)) :: L)) (hu : u ≠ .run) (k : ∀ W', Kn X w0 W' ((b, .cells #[v, .int .i64 (d : Int)] 73 (0, 0)) :: L) → Leaves Tryz.prog fn tmps R [] (settle u) W') :
  Leaves Tryz.prog fn tmps R [{ target := .fn (.func 166) #[.pointer (some ⟨c, 0, none⟩)], args := #[] }] u W := by
 have h1 : Kn [b, c] W W [(b, .cells #[v, .int .i64 ((d + 1 : Nat) : Int)] 73 (0, 0)), (c, .cells #[.pointer (some ⟨b, 0, none⟩)] 71 (0, 0))] := Kn.self (P := [(b, .cells #[v, .int .i64 ((d + 1 : Nat) : Int)] 73 (0, 0)), (c, .cells #[.pointer (some ⟨b, 0, none⟩)] 71 (0, 0))]) [] L hL
 refine leaves_cons (f := 166) (args := #[.pointer (some ⟨c, 0, none⟩)]) hu (by simp [go_sem]) ?_
 refine (exit_c b c v ((d + 1 : Nat) : Int) u W h1).mono ?_
 rintro e u' w' ⟨rfl, rfl, hK⟩
 have h2 := Kn.joinA (P := [(b, .cells #[v, .int .i64 ((d + 1 : Nat) : Int)] 73 (0, 0)), (c, .cells #[.pointer (some ⟨b, 0, none⟩)] 71 (0, 0))]) [] L hL hK
 rw [show wrap64 (((d + 1 : Nat) : Int) - 1) = (d : Int) from by rw [show ((d + 1 : Nat) : Int) - 1 = (d : Int) by omega]; exact IntWalk.wrap64_in (d : Int) (by omega)] at h2
 exact k w' (h2.sub (List.Sublist.cons_cons _ (List.Sublist.cons _ (List.Sublist.refl _))))
theorem leave_x2 {fn : Func} {tmps : Array Value} {R : Ending → World → Prop} {b c : Nat} {v : Value} {dj : Int} {u : FrameMode} {X : List Nat} {w0 W : World} {L : List (Nat × Obj)} (hL : Kn X w0 W ((b, .cells #[v, .int .i64 dj] 73 (0, 0)) :: (c, .cells #[.pointer (some ⟨b, 0, none⟩)] 71 (0, 0)) :: L)) (hu : u ≠ .run) (k : ∀ W' dj, Kn X w0 W' ((b, .cells #[v, .int .i64 dj] 73 (0, 0)) :: L) → Leaves Tryz.prog fn tmps R [] (settle u) W') :
  Leaves Tryz.prog fn tmps R [{ target := .fn (.func 166) #[.pointer (some ⟨c, 0, none⟩)], args := #[] }] u W := by
 have h1 : Kn [b, c] W W [(b, .cells #[v, .int .i64 dj] 73 (0, 0)), (c, .cells #[.pointer (some ⟨b, 0, none⟩)] 71 (0, 0))] := Kn.self (P := [(b, .cells #[v, .int .i64 dj] 73 (0, 0)), (c, .cells #[.pointer (some ⟨b, 0, none⟩)] 71 (0, 0))]) [] L hL
 refine leaves_cons (f := 166) (args := #[.pointer (some ⟨c, 0, none⟩)]) hu (by simp [go_sem]) ?_
 refine (exit_c b c v dj u W h1).mono ?_
 rintro e u' w' ⟨rfl, rfl, hK⟩
 have h2 := Kn.joinA (P := [(b, .cells #[v, .int .i64 dj] 73 (0, 0)), (c, .cells #[.pointer (some ⟨b, 0, none⟩)] 71 (0, 0))]) [] L hL hK
 exact k w' _ (h2.sub (List.Sublist.cons_cons _ (List.Sublist.cons _ (List.Sublist.refl _))))
theorem leave_p {fn : Func} {tmps : Array Value} {R : Ending → World → Prop} {b c : Nat} {v : Value} {dj : Int} {chain : List PanicEntry} {e : PanicEntry} {X : List Nat} {w0 W : World} (hL : Kn X w0 W [(b, .cells #[v, .int .i64 dj] 73 (0, 0)), (c, .cells #[.pointer (some ⟨b, 0, none⟩)] 71 (0, 0))]) (he : e.recovered = false) (k : ∀ W' dj, Kn X w0 W' [(b, .cells #[v, .int .i64 dj] 73 (0, 0))] → R (.panicked (e :: chain)) W') :
  Leaves Tryz.prog fn tmps R [{ target := .fn (.func 166) #[.pointer (some ⟨c, 0, none⟩)], args := #[] }] (.panicking (e :: chain)) W :=
 leave_x2 (L := []) hL (by simp) fun W' dj' h => by
  have : settle (.panicking (e :: chain)) = .panicking (e :: chain) := by
   obtain ⟨v, r, gx⟩ := e
   simp only at he
   subst he
   rfl
  rw [this]
  exact k W' dj' h
theorem Kn.in1c {X : List Nat} {w0 W : World} {p0 p1 p2 p3 : Nat × Obj} {LP LC R : List (Nat × Obj)} (h : Kn X w0 W (p0 :: (LP ++ (p1 :: p2 :: p3 :: (LC ++ R))))) : Kn X w0 W (p0 :: p1 :: p2 :: p3 :: ((LP ++ LC) ++ R)) := h.perm fun p => by simp only [List.countP_cons, List.countP_append]; omega
/-- A body with one kid more. -/
theorem cond_out {W0 : World} {b d j g o cap : Nat} {tvs : List (Tok × Value)} {w W : World} {vj : Value} {kind : Nat} {nm : ByteArray} {aw : Option Addr} {nw cw : Nat} {ws : List (List Prt × Value)} {ks : List (Nd × List Value)} {x y : Nd} {cs : List Value} {a3 : Option Addr} {c3 : Nat} {LC LN LP : List (Nat × Obj)}
  (hx : x = .mk kind nm.data.toList false [] (ws.map (·.1)) [] (ks.map (·.1))) (h1 : RowM 1 W0 LC (.slice aw nw cw) (ws.map fun x => [x.2])) (h2 : ∀ x ∈ ws, PRm W0 LC x.2 x.1) (h4 : ∀ x ∈ ks, NodeL W0 LC x.1 x.2) (HN : NodeL W0 LN y cs)
  (hr : RowL 7 41 LP (.slice a3 (ks.length + 1) c3) (ks.length + 1) (ks.flatMap (·.2) ++ cs)) (Hvj : AtV g o cap tvs j vj) (hL : Kn [b] w W ((b, .cells #[vj, .int .i64 (d : Int)] 73 (0, 0)) :: ((LN ++ LC) ++ LP))) :
  BOut W0 b d g o cap tvs w (.ok (x.addKid y) ((TT tvs).drop j)) (.returned (.agg #[.int .i64 (kind : Int), .string nm, .bool false, .slice none 0 0, .slice aw nw cw, .slice none 0 0, .slice a3 (ks.length + 1) c3])) W :=
 ⟨(kind : Int), nm, aw, nw, cw, a3, ks.length + 1, c3, LN ++ LC, LP, j, vj, rfl, Lib.hid ⟨kind, ws, ks ++ [(y, cs)], by rw [hx]; simp [Nd.addKid], rfl, h1.mono fun p hp => List.mem_append_right _ hp, fun x hx => (h2 x hx).mono fun p hp => List.mem_append_right _ hp, by simp, by simpa using hr, all_snoc (fun y hy => (h4 y hy).r) HN.l⟩, Lib.hid ⟨Hvj, rfl⟩, hL⟩
end Go.Proofs.YtgboffbbpmileaaGreatDoor
