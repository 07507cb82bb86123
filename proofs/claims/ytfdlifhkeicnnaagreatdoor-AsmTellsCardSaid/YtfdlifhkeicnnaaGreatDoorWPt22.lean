/- Lemmas and walks for the law LawTells (part 22). -/
import Derived.Test.YtfdlifhkeicnnaaGreatDoorWPt21
import Derived.Test.YtfdlifhkeicnnaaGreatDoorProg
import Derived.WalkKit
import Derived.Handy
import Derived.Deep.Light
import Derived.WalkSmall
import Derived.StillTailTactics
import Derived.Lib.Hide
set_option maxRecDepth 20000
set_option maxHeartbeats 4000000
set_option linter.unusedVariables false
set_option linter.unusedSimpArgs false
namespace Go.Proofs.YtfdlifhkeicnnaaGreatDoor
open Go Go.RowKit
theorem Assemble_some (hIA : Hid IAny) (src : ByteArray) (hs : src.size ≤ 20000) (hne : src.size ≠ 0) (w : World) (hT : TabA w) : Calls Tryz.prog 11 #[.string src] w (AsmP (asm OO (linesB src.data.toList)) w) := by
 have hmf : ∀ (fn : Fn) (first cap : Array Value) (w : World), (Instr.makeFunc fn first cap).run Tryz.prog w = .ok (.func fn first cap) w := fun _ _ _ _ => rfl
 have hmm := @run_makeMap Tryz.prog
 obtain ⟨Ls, hLs⟩ : ∃ l, linesB src.data.toList = l := ⟨_, rfl⟩
 obtain ⟨n, hn⟩ : ∃ n, Ls.length = n := ⟨_, rfl⟩
 obtain ⟨CL, hCL⟩ : ∃ c, (strs Ls).toArray = c := ⟨_, rfl⟩
 have hll := lines_len src.data.toList
 rw [hLs, hn, szl] at hll
 obtain ⟨hn1, hLp, hn0⟩ := hll
 have hn0 := hn0 (by intro e; rw [← szl, e] at hne; exact hne rfl)
 obtain ⟨A, hA⟩ : ∃ A, asm OO Ls = A := ⟨_, rfl⟩
 have HA := Lib.hid hA
 have HLP := Lib.hid hLp
 have HN := Lib.hid hn
 have HCL := Lib.hid (show ∀ (j : Nat) (s : ByteArray), Ls[j]? = some s.data.toList → CL[j]? = some (.string s) from fun j s h => by rw [← hCL]; simp [strs, h, toList_mk])
 have HLN := Lib.hid (fun W hT => Lines_eq src (by omega) hne n CL (by rw [hLs]; exact hn) (by rw [hLs]; exact hCL) W hT)
 rw [hLs, hA]
 have q0 : ¬ ((20000 : Int) < (src.size : Int)) := by omega
 clear hLs hA hLp hn hCL
 have hL : Kn [] w w [] := Kn.refl [] w
 have hF := hL.fx
 go_enter_defers Tryz.func11, Tryz.ntmps11
 go_wp2_with ((go_at_call 16; refine kG ?_; clear hF hL; intro W hL hF; (with_reducible refine (HLN.out _ ((hT.kn hL (by simp)).t)).mono ?_); rintro e W ⟨gl, rfl, hb⟩; replace hL := hL.join hb; clear hb hF; simp only [kfb] at hL; have hF := hL.fx))
 go_loopw [6, 8, 23] (fun o6 o8 c wr => ∃ (k : Nat) (LP : List (Nat × Obj)) (xs : List XT), k ≤ n ∧ c = .int .i64 k ∧ RowL 4 64 LP o6 k (xs.flatMap stc) ∧ Hid (xs.length = k ∧ xs.map (·.s) = (Ls.take k).map read) ∧ Hid (∀ x ∈ xs, XOK (keys ((gl, .cells CL 9 (0, 0)) :: ((w.heap.size + 4), .cells #[.pointer (some ⟨(w.heap.size + 3), 0, none⟩)] 58 (0, 0)) :: ((w.heap.size + 3), .cells #[.map (some (w.heap.size + 2)), .slice none 0 0] 61 (0, 0)) :: ((w.heap.size + 2), .map #[] 0) :: ((w.heap.size + 1), .cells #[.int .i64 0] 25 (0, 0)) :: (w.heap.size, .cells #[.string ⟨#[]⟩] 9 (0, 0)) :: LP)) wr x) ∧ Kn [] w wr ((gl, .cells CL 9 (0, 0)) :: ((w.heap.size + 4), .cells #[.pointer (some ⟨(w.heap.size + 3), 0, none⟩)] 58 (0, 0)) :: ((w.heap.size + 3), .cells #[.map (some (w.heap.size + 2)), .slice none 0 0] 61 (0, 0)) :: ((w.heap.size + 2), .map #[] 0) :: ((w.heap.size + 1), .cells #[.int .i64 0] 25 (0, 0)) :: (w.heap.size, .cells #[.string ⟨#[]⟩] 9 (0, 0)) :: LP)) (fun _ _ c _ => n - (intOf c).toNat)
 case atStart => exact ⟨0, [], [], by omega, rfl, RowL.nil, Lib.hid ⟨rfl, rfl⟩, Lib.hid (fun x hx => by cases hx), hL⟩
 case round =>
  clear hL
  obtain ⟨k, LP, xs, hk, rfl, hrow, HXS, HX, hL⟩ := hrel
  have HB := Lib.hid hL
  clear hL
  have hL := HB.out.self0
  have hF := hL.fx
  have HRW := Lib.hid hrow
  obtain ⟨ao, cp, hvk⟩ : ∃ ao cp, u6 = .slice ao k cp := by
   rcases hrow with ⟨_, rfl, h0, _⟩ | ⟨g2, cap2, cur2, _, rfl, _⟩
   ·exact ⟨none, 0, by rw [h0]⟩
   ·exact ⟨_, _, rfl⟩
  clear hrow
  subst hvk
  by_cases hlt : k < n
  ·obtain ⟨p, hp⟩ : ∃ p, Ls[k]? = some p := ⟨_, List.getElem?_eq_getElem (by rw [HN.out]; omega)⟩
   have hps := HLP.out p (List.mem_of_getElem? hp)
   obtain ⟨s, rfl⟩ : ∃ s : ByteArray, p = s.data.toList := ⟨⟨p.toArray⟩, by simp⟩
   rw [szl] at hps
   have hcl := HCL.out k s hp
   have HP := Lib.hid hp
   clear hp
   have HRD := Lib.hid (fun W (hL : Kn (keys ((gl, .cells CL 9 (0, 0)) :: ((w.heap.size + 4), .cells #[.pointer (some ⟨(w.heap.size + 3), 0, none⟩)] 58 (0, 0)) :: ((w.heap.size + 3), .cells #[.map (some (w.heap.size + 2)), .slice none 0 0] 61 (0, 0)) :: ((w.heap.size + 2), .map #[] 0) :: ((w.heap.size + 1), .cells #[.int .i64 0] 25 (0, 0)) :: (w.heap.size, .cells #[.string ⟨#[]⟩] 9 (0, 0)) :: LP)) wr W ((gl, .cells CL 9 (0, 0)) :: ((w.heap.size + 4), .cells #[.pointer (some ⟨(w.heap.size + 3), 0, none⟩)] 58 (0, 0)) :: ((w.heap.size + 3), .cells #[.map (some (w.heap.size + 2)), .slice none 0 0] 61 (0, 0)) :: ((w.heap.size + 2), .map #[] 0) :: ((w.heap.size + 1), .cells #[.int .i64 0] 25 (0, 0)) :: (w.heap.size, .cells #[.string ⟨#[]⟩] 9 (0, 0)) :: LP)) => readO hIA (keys ((gl, .cells CL 9 (0, 0)) :: ((w.heap.size + 4), .cells #[.pointer (some ⟨(w.heap.size + 3), 0, none⟩)] 58 (0, 0)) :: ((w.heap.size + 3), .cells #[.map (some (w.heap.size + 2)), .slice none 0 0] 61 (0, 0)) :: ((w.heap.size + 2), .map #[] 0) :: ((w.heap.size + 1), .cells #[.int .i64 0] 25 (0, 0)) :: (w.heap.size, .cells #[.string ⟨#[]⟩] 9 (0, 0)) :: LP)) s (by omega) W (fun y hy => by obtain ⟨p, hp, rfl⟩ := List.mem_map.1 hy; exact hL.lt hp))
   go_wp2_with (first | (go_at_call 32; refine kG ?_; clear hF hL; intro W hL hF; (with_reducible refine (HRD.out _ hL).mono ?_); rintro e W2 ⟨vl, vo, sop, rfl, hxn, ⟨al, nl2, cl2, rfl⟩, ⟨ao2, no2, co2, rfl⟩, hb⟩; replace hL := hL.below hb; clear hb hF; have hF := hL.fx; have HXN := Lib.hid (fun x hx => (HX.out x hx).next hL); have HXW := Lib.hid hxn; have HB2 := Lib.hid (HB.out.tail0 hL); clear hL hF hxn; have hL := HB2.out.self0; have hF := hL.fx) | (at_builtin; refine kL ?_; clear hF hL; intro W hL hF; go_loud (refine wpList_append_end rfl _ _ 62 62 rfl ((_, .cells #[.slice al nl2 cl2, .string sop, .slice ao2 no2 co2, .int .i64 0] 64 (0, 0)) :: (gl, .cells CL 9 (0, 0)) :: ((w.heap.size + 4), .cells #[.pointer (some ⟨(w.heap.size + 3), 0, none⟩)] 58 (0, 0)) :: ((w.heap.size + 3), .cells #[.map (some (w.heap.size + 2)), .slice none 0 0] 61 (0, 0)) :: ((w.heap.size + 2), .map #[] 0) :: ((w.heap.size + 1), .cells #[.int .i64 0] 25 (0, 0)) :: (w.heap.size, .cells #[.string ⟨#[]⟩] 9 (0, 0)) :: []) LP hL k 1 (xs.flatMap stc) (stc ⟨read s.data.toList, .slice al nl2 cl2, .slice ao2 no2 co2, sop⟩) _ _ HRW.out rfl rfl (fun ho => run_append_st rfl (fun j u hu => by rw [Go.WideShapes.add_plain, Nat.zero_add, kn_cell hL List.mem_cons_self]; simpa [stc] using hu) (by intro u hu; simp only [stc, List.mem_cons, List.not_mem_nil, or_false] at hu; rcases hu with rfl | rfl | rfl | rfl <;> rfl) (by omega) ho) ?_); intro LPn an cpn W3 hL2 hrn; clear hL hF; have hL := hL2.sub (List.sublist_cons_self _ _); clear hL2; simp only [List.append_eq] at hL; simp only [kfb] at hL; have hF := hL.fx))
   exact ⟨⟨k + 1, LPn, xs ++ [⟨read s.data.toList, .slice al nl2 cl2, .slice ao2 no2 co2, sop⟩], by omega, by go_num, by rw [List.flatMap_append, List.flatMap_cons, List.flatMap_nil, List.append_nil]; exact hrn, Lib.hid ⟨by simp [HXS.out.1], by rw [List.map_append, HXS.out.2, List.take_add_one, HP.out, Option.toList_some, List.map_append]; rfl⟩, Lib.hid (fun x hx => by
    rcases List.mem_append.1 hx with hx | hx
    ·exact (HXN.out x hx).next hL
    ·obtain rfl := List.mem_singleton.1 hx; exact HXW.out.next hL), HB2.out.tail0 hL⟩, by simp [intOf]; omega⟩
  ·obtain rfl : k = n := by omega
   obtain ⟨g, cap, cur, rfl, hsl, hrb⟩ := (HRW.out).resolve_left (fun h => by have := h.2.2.1; omega)
   injection hsl with h1 h2 h3
   subst h1 h3
   have HXE := Lib.hid (show xs.map (·.s) = (Ls.map read) from by rw [HXS.out.2, List.take_of_length_le (by rw [HN.out]; omega)])
   have HCU := Lib.hid (CU.start hrb)
   have HCNT := Lib.hid (show ∀ (j : Nat) (r : List (Stm × Nat)) (m : Nat) (L : Labs), P1 ((Ls.map read).take j) r m L → L.length ≤ 1000000000000 from fun j r m L h => by
    have h1 := h.cnt (fun x hx => by
     have hx2 := List.mem_of_mem_take hx
     rw [← HXE.out] at hx2
     obtain ⟨y, hy, rfl⟩ := List.mem_map.1 hx2
     exact (HX.out y hy).nl)
    rw [List.length_take] at h1
    have h2 : ((Ls.map read)).length = k := by rw [List.length_map, HN.out]
    have h3 : min j ((Ls.map read)).length ≤ 20001 := by omega
    have := Nat.mul_le_mul_left 100000 h3
    omega)
   clear hrb
   go_upto_region 12 with (first | ((with_reducible refine ks ?_); clear hL; intro W hL hF))
   refine kn_wp ?_; clear hF hL; intro W12 hL; have hF := hL.fx
   have HX12 := Lib.hid (fun x hx => (HX.out x hx).next hL)
   have HB12 := Lib.hid (HB.out.tail0 hL)
   clear hL hF HX
   have hL := HB12.out.self0
   have hF := hL.fx
   go_wp2
   refine kn_wp ?_; clear hF hL; intro W13 hL; have hF := hL.fx
   have HX13 := Lib.hid (fun x hx => (HX12.out x hx).next hL)
   have HB13 := Lib.hid (HB12.out.tail0 hL)
   clear hL hF HX12
   obtain ⟨bz, hbz⟩ : ∃ b, wr.heap.size = b := ⟨_, rfl⟩
   obtain ⟨gf, hgf⟩ : ∃ b, W12.heap.size = b := ⟨_, rfl⟩
   rw [hbz, hgf] at HB13 HX13 ⊢
   have hL := (HB13.out.ofPerm (p9 _ _ _ _ _ _ _ _ _)).sub (p8 _ _ _ _ _ _ _ _ _)
   have HXQ := Lib.hid (fun x hx => (HX13.out x hx).sub (keys_sub (p9 _ _ _ _ _ _ _ _ _) (p8 _ _ _ _ _ _ _ _ _)))
   clear HX13
   have hF := hL.fx
   go_loopw [4, 38] (fun o4 c wq => (c = .int .i64 0 ∧ Hid (CU cur xs []) ∧ Hid (∀ x ∈ xs, XOK (keys ((bz, .cells #[.int .i64 0] 3 (0, 0)) :: ((w.heap.size + 2), .map #[] 0) :: (g, .cells cur 64 (0, 0)) :: (gf, .cells #[.func (.func 33) #[] #[.pointer (some ⟨(w.heap.size + 4), 0, none⟩), .pointer (some ⟨bz, 0, none⟩)], .func (.func 35) #[.pointer (some ⟨(w.heap.size + 3), 0, none⟩)] #[]] 68 (0, 0)) :: ((w.heap.size + 4), .cells #[.pointer (some ⟨(w.heap.size + 3), 0, none⟩)] 58 (0, 0)) :: ((w.heap.size + 1), .cells #[.int .i64 0] 25 (0, 0)) :: (w.heap.size, .cells #[.string ⟨#[]⟩] 9 (0, 0)) :: ((w.heap.size + 3), .cells #[.map (some (w.heap.size + 2)), .slice none 0 0] 61 (0, 0)) :: [])) wq x) ∧ Kn [] w wq ((bz, .cells #[.int .i64 0] 3 (0, 0)) :: ((w.heap.size + 2), .map #[] 0) :: (g, .cells cur 64 (0, 0)) :: (gf, .cells #[.func (.func 33) #[] #[.pointer (some ⟨(w.heap.size + 4), 0, none⟩), .pointer (some ⟨bz, 0, none⟩)], .func (.func 35) #[.pointer (some ⟨(w.heap.size + 3), 0, none⟩)] #[]] 68 (0, 0)) :: ((w.heap.size + 4), .cells #[.pointer (some ⟨(w.heap.size + 3), 0, none⟩)] 58 (0, 0)) :: ((w.heap.size + 1), .cells #[.int .i64 0] 25 (0, 0)) :: (w.heap.size, .cells #[.string ⟨#[]⟩] 9 (0, 0)) :: ((w.heap.size + 3), .cells #[.map (some (w.heap.size + 2)), .slice none 0 0] 61 (0, 0)) :: [])) ∨ (c = .int .i64 1 ∧ ∃ (r : List (Stm × Nat)) (m : Nat) (L : Labs) (es : Array MapEntry) (ck : Nat) (cuk : Array Value), Hid (pass1 OO (Ls.map read) 1 0 [] = .ok (r, m, L)) ∧ MapV Tryz.prog 9 es (lv L) ∧ Hid (CU cuk xs r) ∧ Hid (∀ x ∈ xs, XOK (keys ((bz, .cells #[.int .i64 m] 3 (0, 0)) :: ((w.heap.size + 2), .map es ck) :: (g, .cells cuk 64 (0, 0)) :: (gf, .cells #[.func (.func 33) #[] #[.pointer (some ⟨(w.heap.size + 4), 0, none⟩), .pointer (some ⟨bz, 0, none⟩)], .func (.func 35) #[.pointer (some ⟨(w.heap.size + 3), 0, none⟩)] #[]] 68 (0, 0)) :: ((w.heap.size + 4), .cells #[.pointer (some ⟨(w.heap.size + 3), 0, none⟩)] 58 (0, 0)) :: ((w.heap.size + 1), .cells #[.int .i64 0] 25 (0, 0)) :: (w.heap.size, .cells #[.string ⟨#[]⟩] 9 (0, 0)) :: ((w.heap.size + 3), .cells #[.map (some (w.heap.size + 2)), .slice none 0 0] 61 (0, 0)) :: [])) wq x) ∧ Kn [] w wq ((bz, .cells #[.int .i64 m] 3 (0, 0)) :: ((w.heap.size + 2), .map es ck) :: (g, .cells cuk 64 (0, 0)) :: (gf, .cells #[.func (.func 33) #[] #[.pointer (some ⟨(w.heap.size + 4), 0, none⟩), .pointer (some ⟨bz, 0, none⟩)], .func (.func 35) #[.pointer (some ⟨(w.heap.size + 3), 0, none⟩)] #[]] 68 (0, 0)) :: ((w.heap.size + 4), .cells #[.pointer (some ⟨(w.heap.size + 3), 0, none⟩)] 58 (0, 0)) :: ((w.heap.size + 1), .cells #[.int .i64 0] 25 (0, 0)) :: (w.heap.size, .cells #[.string ⟨#[]⟩] 9 (0, 0)) :: ((w.heap.size + 3), .cells #[.map (some (w.heap.size + 2)), .slice none 0 0] 61 (0, 0)) :: []))
    ∨ (c = .int .i64 2 ∧ ∃ (r : List (Stm × Nat)) (m : Nat) (L : Labs) (es : Array MapEntry) (ck : Nat) (cuk : Array Value) (code : Bytes) (vc : Value) (LC : List (Nat × Obj)), Hid (asm OO Ls = .ok code) ∧ RowL 1 5 LC vc code.length (bc code) ∧ Hid (CU cuk xs r) ∧ Hid (∀ x ∈ xs, XOK (keys ((bz, .cells #[.int .i64 m] 3 (0, 0)) :: ((w.heap.size + 2), .map es ck) :: (g, .cells cuk 64 (0, 0)) :: (gf, .cells #[.func (.func 33) #[] #[.pointer (some ⟨(w.heap.size + 4), 0, none⟩), .pointer (some ⟨bz, 0, none⟩)], .func (.func 35) #[.pointer (some ⟨(w.heap.size + 3), 0, none⟩)] #[]] 68 (0, 0)) :: ((w.heap.size + 4), .cells #[.pointer (some ⟨(w.heap.size + 3), 0, none⟩)] 58 (0, 0)) :: ((w.heap.size + 1), .cells #[.int .i64 0] 25 (0, 0)) :: (w.heap.size, .cells #[.string ⟨#[]⟩] 9 (0, 0)) :: ((w.heap.size + 3), .cells #[.map (some (w.heap.size + 2)), vc] 61 (0, 0)) :: LC)) wq x) ∧ Kn [] w wq ((bz, .cells #[.int .i64 m] 3 (0, 0)) :: ((w.heap.size + 2), .map es ck) :: (g, .cells cuk 64 (0, 0)) :: (gf, .cells #[.func (.func 33) #[] #[.pointer (some ⟨(w.heap.size + 4), 0, none⟩), .pointer (some ⟨bz, 0, none⟩)], .func (.func 35) #[.pointer (some ⟨(w.heap.size + 3), 0, none⟩)] #[]] 68 (0, 0)) :: ((w.heap.size + 4), .cells #[.pointer (some ⟨(w.heap.size + 3), 0, none⟩)] 58 (0, 0)) :: ((w.heap.size + 1), .cells #[.int .i64 0] 25 (0, 0)) :: (w.heap.size, .cells #[.string ⟨#[]⟩] 9 (0, 0)) :: ((w.heap.size + 3), .cells #[.map (some (w.heap.size + 2)), vc] 61 (0, 0)) :: LC))) (fun _ c _ => 2 - (intOf c).toNat)
   case atStart => exact .inl ⟨rfl, HCU, HXQ, hL⟩
   case round =>
    clear hL HXQ
    rcases hrel with ⟨rfl, HCU2, HXQ, hL⟩ | ⟨rfl, r, m, L, es, ck, cuk, HP1, hM, HCUK, HXQ, hL⟩ | ⟨rfl, r, m, L, es, ck, cuk, code, vc, LC, HAO, hrc, HCUK, HXQ, hL⟩
    ·have hF := hL.fx
     go_wp2
     go_loopw [4, 12, 44] (fun o4 o12 c wi => ∃ (i : Nat) (r : List (Stm × Nat)) (m : Nat) (L : Labs) (es : Array MapEntry) (ck : Nat) (cuk : Array Value), i ≤ k ∧ c = .int .i64 i ∧ Hid (pass1 OO ((Ls.map read).take i) 1 0 [] = .ok (r, m, L)) ∧ Hid (P1 ((Ls.map read).take i) r m L) ∧ MapV Tryz.prog 9 es (lv L) ∧ Hid (CU cuk xs r) ∧ Hid (∀ x ∈ xs, XOK (keys ((bz, .cells #[.int .i64 m] 3 (0, 0)) :: ((w.heap.size + 2), .map es ck) :: (g, .cells cuk 64 (0, 0)) :: (gf, .cells #[.func (.func 33) #[] #[.pointer (some ⟨(w.heap.size + 4), 0, none⟩), .pointer (some ⟨bz, 0, none⟩)], .func (.func 35) #[.pointer (some ⟨(w.heap.size + 3), 0, none⟩)] #[]] 68 (0, 0)) :: ((w.heap.size + 4), .cells #[.pointer (some ⟨(w.heap.size + 3), 0, none⟩)] 58 (0, 0)) :: ((w.heap.size + 1), .cells #[.int .i64 0] 25 (0, 0)) :: (w.heap.size, .cells #[.string ⟨#[]⟩] 9 (0, 0)) :: ((w.heap.size + 3), .cells #[.map (some (w.heap.size + 2)), .slice none 0 0] 61 (0, 0)) :: [])) wi x) ∧ Kn [] w wi ((bz, .cells #[.int .i64 m] 3 (0, 0)) :: ((w.heap.size + 2), .map es ck) :: (g, .cells cuk 64 (0, 0)) :: (gf, .cells #[.func (.func 33) #[] #[.pointer (some ⟨(w.heap.size + 4), 0, none⟩), .pointer (some ⟨bz, 0, none⟩)], .func (.func 35) #[.pointer (some ⟨(w.heap.size + 3), 0, none⟩)] #[]] 68 (0, 0)) :: ((w.heap.size + 4), .cells #[.pointer (some ⟨(w.heap.size + 3), 0, none⟩)] 58 (0, 0)) :: ((w.heap.size + 1), .cells #[.int .i64 0] 25 (0, 0)) :: (w.heap.size, .cells #[.string ⟨#[]⟩] 9 (0, 0)) :: ((w.heap.size + 3), .cells #[.map (some (w.heap.size + 2)), .slice none 0 0] 61 (0, 0)) :: [])) (fun _ _ c _ => k - (intOf c).toNat)
     case atStart => exact ⟨0, [], 0, [], #[], 0, cur, by omega, rfl, Lib.hid rfl, Lib.hid P1.nil, MapV.nil, HCU, HXQ, hL⟩
     case round =>
      clear hL
      obtain ⟨i, r, m, L, es, ck, cuk, hi, rfl, HP1, HPP, hM, HCUK, HXI, hL⟩ := hrel
      have HBJ := Lib.hid hL
      clear hL
      have hL := HBJ.out.self0
      have hF := hL.fx
      by_cases hlt : i < k
      ·obtain ⟨x, hx⟩ : ∃ x, xs[i]? = some x := ⟨_, List.getElem?_eq_getElem (by rw [HXS.out.1]; omega)⟩
       have hxl : (Ls.map read)[i]? = some x.s := by
        have := congrArg (fun l => l[i]?) HXE.out
        simp only [List.getElem?_map, hx, Option.map_some] at this
        rw [← HXE.out, List.getElem?_map, hx]; rfl
       have hxm := HXI.out x (List.mem_of_getElem? hx)
       have hm4 := HPP.out.le
       have HXL := Lib.hid hxl
       have HXX := Lib.hid hx
       clear hxl hx
       have HMC := Lib.hid (fun W (hL : Kn (keys ((bz, .cells #[.int .i64 m] 3 (0, 0)) :: ((w.heap.size + 2), .map es ck) :: (g, .cells cuk 64 (0, 0)) :: (gf, .cells #[.func (.func 33) #[] #[.pointer (some ⟨(w.heap.size + 4), 0, none⟩), .pointer (some ⟨bz, 0, none⟩)], .func (.func 35) #[.pointer (some ⟨(w.heap.size + 3), 0, none⟩)] #[]] 68 (0, 0)) :: ((w.heap.size + 4), .cells #[.pointer (some ⟨(w.heap.size + 3), 0, none⟩)] 58 (0, 0)) :: ((w.heap.size + 1), .cells #[.int .i64 0] 25 (0, 0)) :: (w.heap.size, .cells #[.string ⟨#[]⟩] 9 (0, 0)) :: ((w.heap.size + 3), .cells #[.map (some (w.heap.size + 2)), .slice none 0 0] 61 (0, 0)) :: [])) wr W ((bz, .cells #[.int .i64 m] 3 (0, 0)) :: ((w.heap.size + 2), .map es ck) :: (g, .cells cuk 64 (0, 0)) :: (gf, .cells #[.func (.func 33) #[] #[.pointer (some ⟨(w.heap.size + 4), 0, none⟩), .pointer (some ⟨bz, 0, none⟩)], .func (.func 35) #[.pointer (some ⟨(w.heap.size + 3), 0, none⟩)] #[]] 68 (0, 0)) :: ((w.heap.size + 4), .cells #[.pointer (some ⟨(w.heap.size + 3), 0, none⟩)] 58 (0, 0)) :: ((w.heap.size + 1), .cells #[.int .i64 0] 25 (0, 0)) :: (w.heap.size, .cells #[.string ⟨#[]⟩] 9 (0, 0)) :: ((w.heap.size + 3), .cells #[.map (some (w.heap.size + 2)), .slice none 0 0] 61 (0, 0)) :: [])) => clo33 (w.heap.size + 4) bz (w.heap.size + 3) (w.heap.size + 2) g (i * 4) m es ck L cuk x.s x.op x.vl x.vo W (show Kn [bz, (w.heap.size + 2), g] W W ([(bz, .cells #[.int .i64 m] 3 (0, 0)), ((w.heap.size + 2), .map es ck), (g, .cells cuk 64 (0, 0))] : List (Nat × Obj)) from (hL.sub (L' := ([(bz, .cells #[.int .i64 m] 3 (0, 0)), ((w.heap.size + 2), .map es ck), (g, .cells cuk 64 (0, 0))] : List (Nat × Obj))) (List.sublist_append_left ([(bz, .cells #[.int .i64 m] 3 (0, 0)), ((w.heap.size + 2), .map es ck), (g, .cells cuk 64 (0, 0))] : List (Nat × Obj)) _)).self0) ((kn_cell hL (List.mem_cons_of_mem _ (List.mem_cons_of_mem _ (List.mem_cons_of_mem _ (List.mem_cons_of_mem _ List.mem_cons_self)))) 0).trans rfl) (nd_far (A := [bz, (w.heap.size + 2), g]) hL.nd _ (by simp)) ((kn_cell hL (List.mem_cons_of_mem _ (List.mem_cons_of_mem _ (List.mem_cons_of_mem _ (List.mem_cons_of_mem _ (List.mem_cons_of_mem _ (List.mem_cons_of_mem _ (List.mem_cons_of_mem _ List.mem_cons_self))))))) 0).trans rfl) (nd_far (A := [bz, (w.heap.size + 2), g]) hL.nd _ (by simp)) hM HPP.out.labs (HCNT.out _ _ _ _ HPP.out) (fun W' LL hK => (((hxm.next hL).sub (Y' := [bz, (w.heap.size + 2), g]) (by simp)).kn hK (Y' := [(w.heap.size + 2), g]) (by simp)).stin HCUK.out HXX.out) hm4 (hT.kn (HBJ.out.tail0 hL) (by simp)) (fun y hy => Nat.le_trans hT.1.1 (by
        have own := (HBJ.out.tail0 hL).own
        simp only [List.mem_cons, List.not_mem_nil, or_false] at hy
        rcases hy with rfl | rfl | rfl
        ·exact (own _ List.mem_cons_self).resolve_right (by simp)
        ·omega
        ·exact (own _ (List.mem_cons_of_mem _ (List.mem_cons_of_mem _ List.mem_cons_self))).resolve_right (by simp))))
       cases hms : measure OO x.s m L with
       | bad e =>
        have hAA : A = .bad e (i + 1) := by rw [← HA.out]; unfold asm; rw [pass1_fail HP1.out HXL.out hms]
        rw [hms] at HMC
        have HAA := Lib.hid hAA
        clear hAA hms
        go_wp2_with ((go_at_call 33; refine kG ?_; clear hF hL; intro W hL hF; (with_reducible refine (HMC.out _ hL).mono ?_); rintro e W2 ⟨rfl, hb⟩; replace hL := Kn.joinA (P := ([(bz, .cells #[.int .i64 m] 3 (0, 0)), ((w.heap.size + 2), .map es ck), (g, .cells cuk 64 (0, 0))] : List (Nat × Obj))) [] ((gf, .cells #[.func (.func 33) #[] #[.pointer (some ⟨(w.heap.size + 4), 0, none⟩), .pointer (some ⟨bz, 0, none⟩)], .func (.func 35) #[.pointer (some ⟨(w.heap.size + 3), 0, none⟩)] #[]] 68 (0, 0)) :: ((w.heap.size + 4), .cells #[.pointer (some ⟨(w.heap.size + 3), 0, none⟩)] 58 (0, 0)) :: ((w.heap.size + 1), .cells #[.int .i64 0] 25 (0, 0)) :: (w.heap.size, .cells #[.string ⟨#[]⟩] 9 (0, 0)) :: ((w.heap.size + 3), .cells #[.map (some (w.heap.size + 2)), .slice none 0 0] 61 (0, 0)) :: []) hL hb; clear hb; simp only [List.cons_append, List.nil_append, List.append_nil] at hL; clear hF; have hF := hL.fx))
        refine leaves_cons (f := 31) (args := #[.pointer (some ⟨w.heap.size, 0, none⟩), .pointer (some ⟨(w.heap.size + 1), 0, none⟩)]) (by simp) (by simp [go_sem]) ?_
        refine (catch_panic w.heap.size (w.heap.size + 1) ⟨#[]⟩ 0 _ _ _ (kn_two hL (a := w.heap.size) (b := (w.heap.size + 1)) (by simp) (by simp) (by omega))).mono ?_
        rintro e u' w'' ⟨rfl, rfl, hK⟩
        have hF4 := hK.facts
        simp only [Facts, Dist, kd] at hF4
        simp [Leaves, settle, results, Tryz.results11, go_sem, hF4]
        refine ⟨(HBJ.out.tail0 hL).far hK (by simp), ?_⟩
        rw [HAA.out]
        exact rfl
       | ok z =>
        obtain ⟨s', a, L'⟩ := z
        rw [hms] at HMC
        have HMS := Lib.hid hms
        clear hms
        go_wp2_with ((go_at_call 33; refine kG ?_; clear hF hL; intro W hL hF; (with_reducible refine (HMC.out _ hL).mono ?_); rintro e W2 ⟨rfl, es2, ck2, hM2, hb⟩; replace hL := Kn.joinA (P := ([(bz, .cells #[.int .i64 m] 3 (0, 0)), ((w.heap.size + 2), .map es ck), (g, .cells cuk 64 (0, 0))] : List (Nat × Obj))) [] ((gf, .cells #[.func (.func 33) #[] #[.pointer (some ⟨(w.heap.size + 4), 0, none⟩), .pointer (some ⟨bz, 0, none⟩)], .func (.func 35) #[.pointer (some ⟨(w.heap.size + 3), 0, none⟩)] #[]] 68 (0, 0)) :: ((w.heap.size + 4), .cells #[.pointer (some ⟨(w.heap.size + 3), 0, none⟩)] 58 (0, 0)) :: ((w.heap.size + 1), .cells #[.int .i64 0] 25 (0, 0)) :: (w.heap.size, .cells #[.string ⟨#[]⟩] 9 (0, 0)) :: ((w.heap.size + 3), .cells #[.map (some (w.heap.size + 2)), .slice none 0 0] 61 (0, 0)) :: []) hL hb; clear hb; simp only [List.cons_append, List.nil_append, List.append_nil] at hL; clear hF; have hF := hL.fx))
        exact ⟨⟨i + 1, r ++ [(x.s, a)], s', L', es2, ck2, _, by omega, by go_num, Lib.hid (pass1_next HP1.out HXL.out HMS.out), Lib.hid (by rw [List.take_add_one, HXL.out, Option.toList_some]; exact HPP.out.next HMS.out), hM2, Lib.hid (HCUK.out.set (by rw [HPP.out.len, List.length_take, List.length_map, HN.out]; omega) HXX.out a), Lib.hid (fun y hy => (HXI.out y hy).next hL), HBJ.out.tail0 hL⟩, by simp [intOf]; omega⟩
      ·obtain rfl : i = k := by omega
       have HPF := Lib.hid (show pass1 OO (Ls.map read) 1 0 [] = .ok (r, m, L) from by have := HP1.out; rwa [List.take_of_length_le (by rw [List.length_map, HN.out]; omega)] at this)
       go_wp2
       exact ⟨.inr (.inl ⟨by go_num, r, m, L, es, ck, cuk, HPF, hM, HCUK, HXI, HBJ.out⟩), by simp [intOf]⟩
    ·have hF := hL.fx
     go_wp2
     obtain ⟨sn, Ln, hpa1, hpa2⟩ := P1.all HP1.out _ (Nat.le_refl _)
     have hrl : r.length = ((Ls.map read)).length := pass1_len OO _ _ _ _ _ _ _ HP1.out
     rw [List.take_length, HP1.out] at hpa1
     rw [List.take_length, ← hrl, List.take_length] at hpa2
     injection hpa1 with hpa1
     injection hpa1 with _ hpa3
     injection hpa3 with hpa4 hpa5
     subst hpa4 hpa5
     have HPP := Lib.hid hpa2
     have HCB := Lib.hid (show ∀ (i : Nat) (code : Bytes), pass2 OO L (r.take i) 1 [] = .ok code → code.length ≤ 4096 from fun i code hc => by
      rcases Nat.lt_or_ge ((Ls.map read)).length i with hi | hi
      ·rw [List.take_of_length_le (by omega)] at hc
       have := (pass_len OO OO_fine _ _ _ _ _ _ _ _ _ _ _ HP1.out rfl hc).1
       have := hpa2.le; omega
      ·obtain ⟨sn, Ln, h1, h2⟩ := P1.all HP1.out i hi
       have := (pass_len OO OO_fine _ _ _ _ _ _ _ _ _ _ _ h1 rfl hc).1
       have := h2.le; omega)
     have HRL := Lib.hid hrl
     clear hpa2 hrl
     go_loopw [4, 12, 44] (fun o4 o12 c wi => ∃ (i : Nat) (code : Bytes) (vc : Value) (LC : List (Nat × Obj)), i ≤ k ∧ c = .int .i64 i ∧ Hid (pass2 OO L (r.take i) 1 [] = .ok code) ∧ RowL 1 5 LC vc code.length (bc code) ∧ Hid (∀ x ∈ xs, XOK (keys ((bz, .cells #[.int .i64 m] 3 (0, 0)) :: ((w.heap.size + 2), .map es ck) :: (g, .cells cuk 64 (0, 0)) :: (gf, .cells #[.func (.func 33) #[] #[.pointer (some ⟨(w.heap.size + 4), 0, none⟩), .pointer (some ⟨bz, 0, none⟩)], .func (.func 35) #[.pointer (some ⟨(w.heap.size + 3), 0, none⟩)] #[]] 68 (0, 0)) :: ((w.heap.size + 4), .cells #[.pointer (some ⟨(w.heap.size + 3), 0, none⟩)] 58 (0, 0)) :: ((w.heap.size + 1), .cells #[.int .i64 0] 25 (0, 0)) :: (w.heap.size, .cells #[.string ⟨#[]⟩] 9 (0, 0)) :: ((w.heap.size + 3), .cells #[.map (some (w.heap.size + 2)), vc] 61 (0, 0)) :: LC)) wi x) ∧ Kn [] w wi ((bz, .cells #[.int .i64 m] 3 (0, 0)) :: ((w.heap.size + 2), .map es ck) :: (g, .cells cuk 64 (0, 0)) :: (gf, .cells #[.func (.func 33) #[] #[.pointer (some ⟨(w.heap.size + 4), 0, none⟩), .pointer (some ⟨bz, 0, none⟩)], .func (.func 35) #[.pointer (some ⟨(w.heap.size + 3), 0, none⟩)] #[]] 68 (0, 0)) :: ((w.heap.size + 4), .cells #[.pointer (some ⟨(w.heap.size + 3), 0, none⟩)] 58 (0, 0)) :: ((w.heap.size + 1), .cells #[.int .i64 0] 25 (0, 0)) :: (w.heap.size, .cells #[.string ⟨#[]⟩] 9 (0, 0)) :: ((w.heap.size + 3), .cells #[.map (some (w.heap.size + 2)), vc] 61 (0, 0)) :: LC)) (fun _ _ c _ => k - (intOf c).toNat)
     case atStart => exact ⟨0, [], _, [], by omega, rfl, Lib.hid rfl, RowL.nil, HXQ, hL⟩
     case round =>
      clear hL
      obtain ⟨i, code, vc, LC, hi, rfl, HP2, hrc, HXI, hL⟩ := hrel
      have HBJ := Lib.hid hL
      clear hL
      have hL := HBJ.out.self0
      have hF := hL.fx
      by_cases hlt : i < k
      ·obtain ⟨x, hx⟩ : ∃ x, xs[i]? = some x := ⟨_, List.getElem?_eq_getElem (by rw [HXS.out.1]; omega)⟩
       obtain ⟨pr, hpr⟩ : ∃ p, r[i]? = some p := ⟨_, List.getElem?_eq_getElem (by rw [HRL.out, List.length_map, HN.out]; omega)⟩
       obtain ⟨px, a⟩ := pr
       have hpx : px = x.s := by
        have h1 := congrArg (fun l => l[i]?) HPP.out.fst
        have h2 := congrArg (fun l => l[i]?) HXE.out
        simp only [List.getElem?_map, hpr, hx, Option.map_some] at h1 h2
        rw [← h2] at h1
        exact Option.some.inj h1
       subst hpx
       obtain ⟨hpa, hpk⟩ := HPP.out.at_ _ (List.mem_of_getElem? hpr)
       have hxm := HXI.out x (List.mem_of_getElem? hx)
       have hcl := HCB.out i code HP2.out
       have HXX := Lib.hid hx
       have HPR := Lib.hid hpr
       clear hx hpr
       have HMC := Lib.hid (fun W (hL : Kn (keys ((bz, .cells #[.int .i64 m] 3 (0, 0)) :: ((w.heap.size + 2), .map es ck) :: (g, .cells cuk 64 (0, 0)) :: (gf, .cells #[.func (.func 33) #[] #[.pointer (some ⟨(w.heap.size + 4), 0, none⟩), .pointer (some ⟨bz, 0, none⟩)], .func (.func 35) #[.pointer (some ⟨(w.heap.size + 3), 0, none⟩)] #[]] 68 (0, 0)) :: ((w.heap.size + 4), .cells #[.pointer (some ⟨(w.heap.size + 3), 0, none⟩)] 58 (0, 0)) :: ((w.heap.size + 1), .cells #[.int .i64 0] 25 (0, 0)) :: (w.heap.size, .cells #[.string ⟨#[]⟩] 9 (0, 0)) :: ((w.heap.size + 3), .cells #[.map (some (w.heap.size + 2)), vc] 61 (0, 0)) :: LC)) wr W ((bz, .cells #[.int .i64 m] 3 (0, 0)) :: ((w.heap.size + 2), .map es ck) :: (g, .cells cuk 64 (0, 0)) :: (gf, .cells #[.func (.func 33) #[] #[.pointer (some ⟨(w.heap.size + 4), 0, none⟩), .pointer (some ⟨bz, 0, none⟩)], .func (.func 35) #[.pointer (some ⟨(w.heap.size + 3), 0, none⟩)] #[]] 68 (0, 0)) :: ((w.heap.size + 4), .cells #[.pointer (some ⟨(w.heap.size + 3), 0, none⟩)] 58 (0, 0)) :: ((w.heap.size + 1), .cells #[.int .i64 0] 25 (0, 0)) :: (w.heap.size, .cells #[.string ⟨#[]⟩] 9 (0, 0)) :: ((w.heap.size + 3), .cells #[.map (some (w.heap.size + 2)), vc] 61 (0, 0)) :: LC)) => emit_is (w.heap.size + 3) (w.heap.size + 2) g (i * 4) a es ck L cuk x.s x.op x.vo vc code LC (keys (((w.heap.size + 3), .cells #[.map (some (w.heap.size + 2)), vc] 61 (0, 0)) :: LC : List (Nat × Obj))) W (show Kn (keys (((w.heap.size + 3), .cells #[.map (some (w.heap.size + 2)), vc] 61 (0, 0)) :: LC : List (Nat × Obj))) W W (((w.heap.size + 3), .cells #[.map (some (w.heap.size + 2)), vc] 61 (0, 0)) :: LC : List (Nat × Obj)) from (hL.sub (L' := (((w.heap.size + 3), .cells #[.map (some (w.heap.size + 2)), vc] 61 (0, 0)) :: LC : List (Nat × Obj))) (List.sublist_append_right ((bz, .cells #[.int .i64 m] 3 (0, 0)) :: ((w.heap.size + 2), .map es ck) :: (g, .cells cuk 64 (0, 0)) :: (gf, .cells #[.func (.func 33) #[] #[.pointer (some ⟨(w.heap.size + 4), 0, none⟩), .pointer (some ⟨bz, 0, none⟩)], .func (.func 35) #[.pointer (some ⟨(w.heap.size + 3), 0, none⟩)] #[]] 68 (0, 0)) :: ((w.heap.size + 4), .cells #[.pointer (some ⟨(w.heap.size + 3), 0, none⟩)] 58 (0, 0)) :: ((w.heap.size + 1), .cells #[.int .i64 0] 25 (0, 0)) :: (w.heap.size, .cells #[.string ⟨#[]⟩] 9 (0, 0)) :: [] : List (Nat × Obj)) _)).self0) hrc (hL.has _ (List.mem_cons_of_mem _ List.mem_cons_self)) (nd_far2 (A := keys ((bz, .cells #[.int .i64 m] 3 (0, 0)) :: ((w.heap.size + 2), .map es ck) :: (g, .cells cuk 64 (0, 0)) :: (gf, .cells #[.func (.func 33) #[] #[.pointer (some ⟨(w.heap.size + 4), 0, none⟩), .pointer (some ⟨bz, 0, none⟩)], .func (.func 35) #[.pointer (some ⟨(w.heap.size + 3), 0, none⟩)] #[]] 68 (0, 0)) :: ((w.heap.size + 4), .cells #[.pointer (some ⟨(w.heap.size + 3), 0, none⟩)] 58 (0, 0)) :: ((w.heap.size + 1), .cells #[.int .i64 0] 25 (0, 0)) :: (w.heap.size, .cells #[.string ⟨#[]⟩] 9 (0, 0)) :: [] : List (Nat × Obj))) (B := keys (((w.heap.size + 3), .cells #[.map (some (w.heap.size + 2)), vc] 61 (0, 0)) :: LC : List (Nat × Obj))) hL.nd _ (by simp)) hM HPP.out.labs (hL.has _ (List.mem_cons_of_mem _ (List.mem_cons_of_mem _ List.mem_cons_self))) (nd_far2 (A := keys ((bz, .cells #[.int .i64 m] 3 (0, 0)) :: ((w.heap.size + 2), .map es ck) :: (g, .cells cuk 64 (0, 0)) :: (gf, .cells #[.func (.func 33) #[] #[.pointer (some ⟨(w.heap.size + 4), 0, none⟩), .pointer (some ⟨bz, 0, none⟩)], .func (.func 35) #[.pointer (some ⟨(w.heap.size + 3), 0, none⟩)] #[]] 68 (0, 0)) :: ((w.heap.size + 4), .cells #[.pointer (some ⟨(w.heap.size + 3), 0, none⟩)] 58 (0, 0)) :: ((w.heap.size + 1), .cells #[.int .i64 0] 25 (0, 0)) :: (w.heap.size, .cells #[.string ⟨#[]⟩] 9 (0, 0)) :: [] : List (Nat × Obj))) (B := keys (((w.heap.size + 3), .cells #[.map (some (w.heap.size + 2)), vc] 61 (0, 0)) :: LC : List (Nat × Obj))) hL.nd _ (by simp)) (((hxm.next hL).sub (Y' := keys (((w.heap.size + 3), .cells #[.map (some (w.heap.size + 2)), vc] 61 (0, 0)) :: LC : List (Nat × Obj))) (fun y hy => List.mem_append_right (keys ((bz, .cells #[.int .i64 m] 3 (0, 0)) :: ((w.heap.size + 2), .map es ck) :: (g, .cells cuk 64 (0, 0)) :: (gf, .cells #[.func (.func 33) #[] #[.pointer (some ⟨(w.heap.size + 4), 0, none⟩), .pointer (some ⟨bz, 0, none⟩)], .func (.func 35) #[.pointer (some ⟨(w.heap.size + 3), 0, none⟩)] #[]] 68 (0, 0)) :: ((w.heap.size + 4), .cells #[.pointer (some ⟨(w.heap.size + 3), 0, none⟩)] 58 (0, 0)) :: ((w.heap.size + 1), .cells #[.int .i64 0] 25 (0, 0)) :: (w.heap.size, .cells #[.string ⟨#[]⟩] 9 (0, 0)) :: [] : List (Nat × Obj))) hy)).stem HCUK.out HXX.out HPR.out) (by omega) (by omega) (hT.kn (HBJ.out.tail0 hL) (by simp)) (fun y hy => Nat.le_trans hT.1.1 (by
        have own := (HBJ.out.tail0 hL).own
        obtain ⟨p, hp, rfl⟩ := List.mem_map.1 hy
        exact (own _ (List.mem_append_right ((bz, .cells #[.int .i64 m] 3 (0, 0)) :: ((w.heap.size + 2), .map es ck) :: (g, .cells cuk 64 (0, 0)) :: (gf, .cells #[.func (.func 33) #[] #[.pointer (some ⟨(w.heap.size + 4), 0, none⟩), .pointer (some ⟨bz, 0, none⟩)], .func (.func 35) #[.pointer (some ⟨(w.heap.size + 3), 0, none⟩)] #[]] 68 (0, 0)) :: ((w.heap.size + 4), .cells #[.pointer (some ⟨(w.heap.size + 3), 0, none⟩)] 58 (0, 0)) :: ((w.heap.size + 1), .cells #[.int .i64 0] 25 (0, 0)) :: (w.heap.size, .cells #[.string ⟨#[]⟩] 9 (0, 0)) :: [] : List (Nat × Obj)) hp)).resolve_right (by simp))) hpk)
       cases hem : emit OO L x.s a code with
       | bad e =>
        have hAA : A = .bad e (i + 1) := by rw [← HA.out]; unfold asm; rw [HP1.out]; exact pass2_fail HP2.out HPR.out hem
        rw [hem] at HMC
        have HAA := Lib.hid hAA
        clear hAA hem
        go_wp2_with ((go_at_call 35; refine kG ?_; clear hF hL; intro W hL hF; (with_reducible refine (HMC.out _ hL).mono ?_); rintro e W2 ⟨rfl, hb⟩; replace hL := Kn.joinS (P := (((w.heap.size + 3), .cells #[.map (some (w.heap.size + 2)), vc] 61 (0, 0)) :: LC : List (Nat × Obj))) ((bz, .cells #[.int .i64 m] 3 (0, 0)) :: ((w.heap.size + 2), .map es ck) :: (g, .cells cuk 64 (0, 0)) :: (gf, .cells #[.func (.func 33) #[] #[.pointer (some ⟨(w.heap.size + 4), 0, none⟩), .pointer (some ⟨bz, 0, none⟩)], .func (.func 35) #[.pointer (some ⟨(w.heap.size + 3), 0, none⟩)] #[]] 68 (0, 0)) :: ((w.heap.size + 4), .cells #[.pointer (some ⟨(w.heap.size + 3), 0, none⟩)] 58 (0, 0)) :: ((w.heap.size + 1), .cells #[.int .i64 0] 25 (0, 0)) :: (w.heap.size, .cells #[.string ⟨#[]⟩] 9 (0, 0)) :: [] : List (Nat × Obj)) hL hb; clear hb; simp only [List.cons_append, List.nil_append, List.append_nil] at hL; clear hF; have hF := hL.fx))
        refine leaves_cons (f := 31) (args := #[.pointer (some ⟨w.heap.size, 0, none⟩), .pointer (some ⟨(w.heap.size + 1), 0, none⟩)]) (by simp) (by simp [go_sem]) ?_
        refine (catch_panic w.heap.size (w.heap.size + 1) ⟨#[]⟩ 0 _ _ _ (kn_two hL (a := w.heap.size) (b := (w.heap.size + 1)) (by simp) (by simp) (by omega))).mono ?_
        rintro e u' w'' ⟨rfl, rfl, hK⟩
        have hF4 := hK.facts
        simp only [Facts, Dist, kd] at hF4
        simp [Leaves, settle, results, Tryz.results11, go_sem, hF4]
        refine ⟨(HBJ.out.tail0 hL).far hK (by simp), ?_⟩
        rw [HAA.out]
        exact rfl
       | ok code2 =>
        rw [hem] at HMC
        have HMS := Lib.hid hem
        clear hem
        go_wp2_with ((go_at_call 35; refine kG ?_; clear hF hL; intro W hL hF; (with_reducible refine (HMC.out _ hL).mono ?_); rintro e W2 ⟨rfl, LCn, vcn, hrn, hb⟩; replace hL := Kn.joinS (P := (((w.heap.size + 3), .cells #[.map (some (w.heap.size + 2)), vc] 61 (0, 0)) :: LC : List (Nat × Obj))) ((bz, .cells #[.int .i64 m] 3 (0, 0)) :: ((w.heap.size + 2), .map es ck) :: (g, .cells cuk 64 (0, 0)) :: (gf, .cells #[.func (.func 33) #[] #[.pointer (some ⟨(w.heap.size + 4), 0, none⟩), .pointer (some ⟨bz, 0, none⟩)], .func (.func 35) #[.pointer (some ⟨(w.heap.size + 3), 0, none⟩)] #[]] 68 (0, 0)) :: ((w.heap.size + 4), .cells #[.pointer (some ⟨(w.heap.size + 3), 0, none⟩)] 58 (0, 0)) :: ((w.heap.size + 1), .cells #[.int .i64 0] 25 (0, 0)) :: (w.heap.size, .cells #[.string ⟨#[]⟩] 9 (0, 0)) :: [] : List (Nat × Obj)) hL hb; clear hb; simp only [List.cons_append, List.nil_append, List.append_nil] at hL; clear hF; have hF := hL.fx))
        exact ⟨⟨i + 1, code2, vcn, LCn, by omega, by go_num, Lib.hid (pass2_next HP2.out HPR.out HMS.out), hrn, Lib.hid (fun y hy => (HXI.out y hy).next hL), HBJ.out.tail0 hL⟩, by simp [intOf]; omega⟩
      ·obtain rfl : i = k := by omega
       have HAO := Lib.hid (show asm OO Ls = .ok code from by unfold asm; rw [HP1.out]; have := HP2.out; rwa [List.take_of_length_le (by rw [HRL.out, List.length_map, HN.out]; omega)] at this)
       go_wp2
       exact ⟨.inr (.inr ⟨by go_num, r, m, L, es, ck, cuk, code, vc, LC, HAO, hrc, HCUK, HXI, HBJ.out⟩), by simp [intOf]⟩
    ·rcases hrc with ⟨rfl, rfl, hr3, hr4⟩ | ⟨gc, capc, curc, rfl, rfl, hrb⟩
     ·have hrc : RowL 1 5 [] (.slice none 0 0) code.length (bc code) := .inl ⟨rfl, rfl, hr3, hr4⟩
      have hF := hL.fx
      have hcv := conv_rowL (LP := []) (R := []) (hL.sub (L' := [] ++ []) (by rw [List.append_nil]; (repeat (first | exact List.Sublist.refl _ | apply List.Sublist.cons)))) hrc ⟨code.toArray⟩ (by simp)
      go_wp2
      refine kn_bodyD ?_; clear hF hL; intro W hL; simp only [kfb] at hL; have hF := hL.fx
      refine leaves_cons (f := 31) (args := #[.pointer (some ⟨w.heap.size, 0, none⟩), .pointer (some ⟨(w.heap.size + 1), 0, none⟩)]) (by simp) (by simp [go_sem]) ?_
      refine (catch_idle w.heap.size (w.heap.size + 1) _).mono ?_
      rintro e u' w'' ⟨rfl, rfl, rfl⟩
      simp [Leaves, settle, results, Tryz.results11, go_sem, hF]
      have hAA : A = .ok code := by rw [← HA.out]; exact HAO.out
      rw [hAA]
      exact ⟨hL.below0, rfl⟩
     ·have hrc := RowL.of_blk (e := 5) (g := gc) hrb
      have hF := hL.fx
      have hcv := conv_rowL (LP := [(gc, .cells curc 5 (0, 0))]) (R := []) (hL.sub (L' := [(gc, .cells curc 5 (0, 0))] ++ []) (by rw [List.append_nil]; (repeat (first | exact List.Sublist.refl _ | apply List.Sublist.cons)))) hrc ⟨code.toArray⟩ (by simp)
      go_wp2
      refine kn_bodyD ?_; clear hF hL; intro W hL; simp only [kfb] at hL; have hF := hL.fx
      refine leaves_cons (f := 31) (args := #[.pointer (some ⟨w.heap.size, 0, none⟩), .pointer (some ⟨(w.heap.size + 1), 0, none⟩)]) (by simp) (by simp [go_sem]) ?_
      refine (catch_idle w.heap.size (w.heap.size + 1) _).mono ?_
      rintro e u' w'' ⟨rfl, rfl, rfl⟩
      simp [Leaves, settle, results, Tryz.results11, go_sem, hF]
      have hAA : A = .ok code := by rw [← HA.out]; exact HAO.out
      rw [hAA]
      exact ⟨hL.below0, rfl⟩
theorem Assemble_none (src : ByteArray) (hne : src.size = 0) (w : World) (hT : TabA w) : Calls Tryz.prog 11 #[.string src] w (AsmP (asm OO (linesB src.data.toList)) w) := by
 have hmf : ∀ (fn : Fn) (first cap : Array Value) (w : World), (Instr.makeFunc fn first cap).run Tryz.prog w = .ok (.func fn first cap) w := fun _ _ _ _ => rfl
 have hmm := @run_makeMap Tryz.prog
 have hsl : src.data.toList = [] := List.eq_nil_of_length_eq_zero (by rw [szl]; exact hne)
 have HA := Lib.hid (show asm OO (linesB src.data.toList) = .ok [] from by rw [hsl]; rfl)
 have HLN := Lib.hid (fun W => Lines_none src hne W)
 rw [HA.out]
 have q0 : ¬ ((20000 : Int) < (src.size : Int)) := by omega
 clear hsl
 have hcv := fun W => run_convert_bytes_nil (P := Tryz.prog) W 47 5 Tryz.underlying47 Tryz.underlying5 0 0 9 Tryz.underlying9
 have hL : Kn [] w w [] := Kn.refl [] w
 have hF := hL.fx
 go_enter_defers Tryz.func11, Tryz.ntmps11
 go_wp2_with ((go_at_call 16; refine kc (fun W hL => HLN.out _) ?_; clear hF hL; intro W hL hF))
 go_loopw [6, 23] (fun o6 c wr => o6 = .slice none 0 0 ∧ c = .int .i64 0 ∧ Kn [] w wr (((w.heap.size + 4), .cells #[.pointer (some ⟨(w.heap.size + 3), 0, none⟩)] 58 (0, 0)) :: ((w.heap.size + 3), .cells #[.map (some (w.heap.size + 2)), .slice none 0 0] 61 (0, 0)) :: ((w.heap.size + 2), .map #[] 0) :: ((w.heap.size + 1), .cells #[.int .i64 0] 25 (0, 0)) :: (w.heap.size, .cells #[.string ⟨#[]⟩] 9 (0, 0)) :: [])) (fun _ _ _ => 0)
 case atStart => exact ⟨rfl, rfl, hL⟩
 case round =>
  clear hL
  obtain ⟨rfl, rfl, hL⟩ := hrel
  have hF := hL.fx
  go_upto_region 12 with (first | ((with_reducible refine ks ?_); clear hL; intro W hL hF))
  refine kn_wp ?_; clear hF hL; intro W12 hL; have hF := hL.fx
  go_wp2
  refine kn_wp ?_; clear hF hL; intro W13 hL; have hF := hL.fx
  obtain ⟨bz, hbz⟩ : ∃ b, wr.heap.size = b := ⟨_, rfl⟩
  obtain ⟨gf, hgf⟩ : ∃ b, W12.heap.size = b := ⟨_, rfl⟩
  rw [hbz, hgf] at hL ⊢
  clear hF hbz hgf
  have hF := hL.fx
  go_loopw [38] (fun c wq => (c = .int .i64 0 ∨ c = .int .i64 1 ∨ c = .int .i64 2) ∧ Kn [] w wq ((gf, .cells #[.func (.func 33) #[] #[.pointer (some ⟨(w.heap.size + 4), 0, none⟩), .pointer (some ⟨bz, 0, none⟩)], .func (.func 35) #[.pointer (some ⟨(w.heap.size + 3), 0, none⟩)] #[]] 68 (0, 0)) :: (bz, .cells #[.int .i64 0] 3 (0, 0)) :: ((w.heap.size + 4), .cells #[.pointer (some ⟨(w.heap.size + 3), 0, none⟩)] 58 (0, 0)) :: ((w.heap.size + 3), .cells #[.map (some (w.heap.size + 2)), .slice none 0 0] 61 (0, 0)) :: ((w.heap.size + 2), .map #[] 0) :: ((w.heap.size + 1), .cells #[.int .i64 0] 25 (0, 0)) :: (w.heap.size, .cells #[.string ⟨#[]⟩] 9 (0, 0)) :: [])) (fun c _ => 2 - (intOf c).toNat)
  case atStart => exact ⟨.inl rfl, hL⟩
  case round =>
   clear hL
   obtain ⟨hc, hL⟩ := hrel
   have hF := hL.fx
   rcases hc with rfl | rfl | rfl
   ·go_wp2
    go_loopw [44] (fun c wi => c = .int .i64 0 ∧ Kn [] w wi ((gf, .cells #[.func (.func 33) #[] #[.pointer (some ⟨(w.heap.size + 4), 0, none⟩), .pointer (some ⟨bz, 0, none⟩)], .func (.func 35) #[.pointer (some ⟨(w.heap.size + 3), 0, none⟩)] #[]] 68 (0, 0)) :: (bz, .cells #[.int .i64 0] 3 (0, 0)) :: ((w.heap.size + 4), .cells #[.pointer (some ⟨(w.heap.size + 3), 0, none⟩)] 58 (0, 0)) :: ((w.heap.size + 3), .cells #[.map (some (w.heap.size + 2)), .slice none 0 0] 61 (0, 0)) :: ((w.heap.size + 2), .map #[] 0) :: ((w.heap.size + 1), .cells #[.int .i64 0] 25 (0, 0)) :: (w.heap.size, .cells #[.string ⟨#[]⟩] 9 (0, 0)) :: [])) (fun _ _ => 0)
    case atStart => exact ⟨rfl, hL⟩
    case round =>
     clear hL
     obtain ⟨rfl, hL⟩ := hrel
     have hF := hL.fx
     go_wp2
     exact ⟨⟨.inr (.inl rfl), hL⟩, by simp [intOf]⟩
   ·go_wp2
    go_loopw [44] (fun c wi => c = .int .i64 0 ∧ Kn [] w wi ((gf, .cells #[.func (.func 33) #[] #[.pointer (some ⟨(w.heap.size + 4), 0, none⟩), .pointer (some ⟨bz, 0, none⟩)], .func (.func 35) #[.pointer (some ⟨(w.heap.size + 3), 0, none⟩)] #[]] 68 (0, 0)) :: (bz, .cells #[.int .i64 0] 3 (0, 0)) :: ((w.heap.size + 4), .cells #[.pointer (some ⟨(w.heap.size + 3), 0, none⟩)] 58 (0, 0)) :: ((w.heap.size + 3), .cells #[.map (some (w.heap.size + 2)), .slice none 0 0] 61 (0, 0)) :: ((w.heap.size + 2), .map #[] 0) :: ((w.heap.size + 1), .cells #[.int .i64 0] 25 (0, 0)) :: (w.heap.size, .cells #[.string ⟨#[]⟩] 9 (0, 0)) :: [])) (fun _ _ => 0)
    case atStart => exact ⟨rfl, hL⟩
    case round =>
     clear hL
     obtain ⟨rfl, hL⟩ := hrel
     have hF := hL.fx
     go_wp2
     exact ⟨⟨.inr (.inr rfl), hL⟩, by simp [intOf]⟩
   ·go_wp2
    refine kn_bodyD ?_; clear hF hL; intro W hL; simp only [kfb] at hL; have hF := hL.fx
    refine leaves_cons (f := 31) (args := #[.pointer (some ⟨w.heap.size, 0, none⟩), .pointer (some ⟨(w.heap.size + 1), 0, none⟩)]) (by simp) (by simp [go_sem]) ?_
    refine (catch_idle w.heap.size (w.heap.size + 1) _).mono ?_
    rintro e u' w'' ⟨rfl, rfl, rfl⟩
    simp [Leaves, settle, results, Tryz.results11, go_sem, hF]
    exact ⟨hL.below0, rfl⟩
theorem Assemble_is (hIA : Hid IAny) (src : ByteArray) (hs : src.size ≤ 20000) (w : World) (hT : TabA w) : Calls Tryz.prog 11 #[.string src] w (AsmP (asm OO (linesB src.data.toList)) w) := by
 by_cases h : src.size = 0
 ·exact Assemble_none src h w hT
 ·exact Assemble_some hIA src hs h w hT
end Go.Proofs.YtfdlifhkeicnnaaGreatDoor
