/- Lemmas and walks for the law of this seat (part 13). -/
import Derived.Test.YtgboffbbpmileaaGreatDoorPj12
import Derived.Test.YtgboffbbpmileaaGreatDoorProg
import Derived.WalkKit
import Derived.Handy
import Derived.Deep.Light
import Derived.WalkSmall
import Derived.StillTailTactics
import Derived.Lib.Hide
import Derived.Lib.AppendStr
set_option linter.unusedVariables false
set_option linter.unusedSimpArgs false
namespace Go.Proofs.YtgboffbbpmileaaGreatDoor
open Go Go.RowKit
theorem PEnv.tok {W0 : World} {g o cap : Nat} {tvs : List (Tok × Value)} (E : PEnv W0 g o cap tvs) {i : Nat} {v : Value} (hv : AtV g o cap tvs i v) : ∃ x pa pn pc, tvs[i]? = some x ∧ x.2 = .slice pa pn pc := by
 obtain ⟨x, hx⟩ : ∃ x, tvs[i]? = some x := ⟨_, List.getElem?_eq_getElem hv.1⟩
 obtain ⟨pa, pn, pc, h, _⟩ := (E.parts x (List.mem_of_getElem? hx)).2
 exact ⟨x, pa, pn, pc, hx, h⟩
theorem kn_bw {W0 w W : World} {X : List Nat} {L : List (Nat × Obj)} (hB : Below W0.heap.size W0 w) (hL : Kn X w W L) (hX : ∀ x ∈ X, W0.heap.size ≤ x) : Below W0.heap.size W0 W :=
 ⟨hL.os.trans hB.os, hL.tape.trans hB.tape, hL.output.trans hB.output, Nat.le_trans hB.size hL.size, fun k hk => (hL.block k (Nat.lt_of_lt_of_le hk hB.size) (fun hm => by have := hX k hm; omega)).trans (hB.block k hk)⟩
theorem pass_c {W0 : World} {g o cap : Nat} {tvs : List (Tok × Value)} (E : PEnv W0 g o cap tvs) (b i : Nat) (v : Value) (d : Int) (w : World) (hB : Below W0.heap.size W0 w) (hbb : W0.heap.size ≤ b) (hv : Hid (AtV g o cap tvs i v)) (hb : w.heap[b]? = some (.cells #[v, .int .i64 d] 73 (0, 0))) (hne : (TT tvs).drop i ≠ []) : Calls Tryz.prog 53 #[.pointer (some ⟨b, 0, none⟩)] w fun e w' => ∃ x pa pn pc vj, e = .returned (.agg #[.int .i64 (x.1.kind : Int), .string ⟨x.1.text.toArray⟩, .string ⟨x.1.plain.toArray⟩, .slice pa pn pc, .int .i64 x.1.fd, .int .i64 (x.1.line : Int)]) ∧ Hid (tvs[i]? = some x ∧ x.2 = .slice pa pn pc) ∧ Hid (AtV g o cap tvs (i + 1) vj) ∧ Kn [b] w w' [(b, .cells #[vj, .int .i64 d] 73 (0, 0))] := by
 obtain ⟨x, pa, pn, pc, hx, hx2⟩ := E.tok hv.out
 have h4 : x.1.kind ≠ 4 := by rcases drop_at E hx with h | h; exact absurd h.1 hne; exact h.2.1
 exact (pass_i E b i v d w hB hbb hv hb hx pa pn pc hx2 h4).mono fun e w' h => by
  obtain ⟨h1, vj, h2, h3⟩ := h
  exact ⟨x, pa, pn, pc, vj, h1, Lib.hid ⟨hx, hx2⟩, h2, h3⟩
theorem fail_c {W0 : World} {g o cap : Nat} {tvs : List (Tok × Value)} (E : PEnv W0 g o cap tvs) (b i : Nat) (v : Value) (d : Int) (w : World) (hB : Below W0.heap.size W0 w) (hbb : W0.heap.size ≤ b) (hv : Hid (AtV g o cap tvs i v)) (hb : w.heap[b]? = some (.cells #[v, .int .i64 d] 73 (0, 0))) (k : Int) (dd : Nat) (er : Nat) (her : Hid (ecode er = (k : Int))) (m : Nat) (hm : Hid (m = ((TT tvs).drop i).length)) : Calls Tryz.prog 28 #[.pointer (some ⟨b, 0, none⟩), .int .i64 k] w fun e w' => POut b dd g o cap tvs w (α := Unit) (fun _ _ _ => False) (.bad er m) e w' := by
 obtain ⟨x, pa, pn, pc, hx, hx2⟩ := E.tok hv.out
 exact fail_i E b i v d w hB hbb hv hb hx pa pn pc hx2 er k dd her m hm
theorem op_c {W0 : World} {g o cap : Nat} {tvs : List (Tok × Value)} (E : PEnv W0 g o cap tvs) (b i : Nat) (v : Value) (d : Int) (w : World) (hB : Below W0.heap.size W0 w) (hbb : W0.heap.size ≤ b) (hv : Hid (AtV g o cap tvs i v)) (hb : w.heap[b]? = some (.cells #[v, .int .i64 d] 73 (0, 0))) (s : ByteArray) (r : Bool) (hr : Hid (isOp s.data.toList ((TT tvs).drop i) = r)) : Calls Tryz.prog 52 #[.pointer (some ⟨b, 0, none⟩), .string s] w fun e w' => e = .returned (.bool r) ∧ Below w.heap.size w w' := by
 obtain ⟨x, pa, pn, pc, hx, hx2⟩ := E.tok hv.out
 rw [← hr.out]
 exact op_i E b i v d w hB hbb hv hb hx pa pn pc hx2 s
theorem key_c {W0 : World} {g o cap : Nat} {tvs : List (Tok × Value)} (E : PEnv W0 g o cap tvs) (b i : Nat) (v : Value) (d : Int) (w : World) (hB : Below W0.heap.size W0 w) (hbb : W0.heap.size ≤ b) (hv : Hid (AtV g o cap tvs i v)) (hb : w.heap[b]? = some (.cells #[v, .int .i64 d] 73 (0, 0))) (zb zo m zc : Nat) (zs : List ByteArray) (r : Bool) (hr : Hid (isKw (zs.map fun z => z.data.toList) ((TT tvs).drop i) = r)) (hm : Hid (m = zs.length)) (hm2 : m ≤ 100) (hz : ∀ j, j < zs.length → w.cell? ⟨zb, zo + j, none⟩ = some (.string (zs.getD j ByteArray.empty))) (hzb : zb ≠ b) :
  Calls Tryz.prog 86 #[.pointer (some ⟨b, 0, none⟩), .slice (some ⟨zb, zo, none⟩) m zc] w fun e w' => e = .returned (.bool r) ∧ Below w.heap.size w w' := by
 obtain ⟨x, pa, pn, pc, hx, hx2⟩ := E.tok hv.out
 rw [← hr.out]
 exact key_i E b i v d w hB hbb hv hb hx pa pn pc hx2 zb zo m zc zs _ (Lib.hid rfl) hm hm2 hz hzb
theorem kn_cell {X : List Nat} {w0 W : World} {L : List (Nat × Obj)} {g : Nat} {c : Array Value} {t : TypeId} (hL : Kn X w0 W L) (hm : (g, Obj.cells c t (0, 0)) ∈ L) (o : Nat) : W.cell? ⟨g, o, none⟩ = c[o]? := by
 rw [World.cell?, hL.has _ hm]
 simp
theorem kn_c0 {X : List Nat} {w0 W : World} {L : List (Nat × Obj)} {g : Nat} {x : Value} {t : TypeId} (hL : Kn X w0 W L) (hm : (g, Obj.cells #[x] t (0, 0)) ∈ L) : W.cell? ⟨g, 0, none⟩ = some x := kn_cell hL hm 0
theorem kn_ne {X : List Nat} {w0 W : World} {L : List (Nat × Obj)} {z b : Nat} {o o' : Obj} (hL : Kn X w0 W ((z, o) :: L)) (hm : (b, o') ∈ L) : z ≠ b := by
 have h := hL.nd
 rw [List.map_cons, List.nodup_cons] at h
 rintro rfl
 exact h.1 (List.mem_map.2 ⟨_, hm, rfl⟩)
theorem Kn.ofPerm {X : List Nat} {w0 w : World} {L L' : List (Nat × Obj)} (h : Kn X w0 w L) (p : L.Perm L') : Kn X w0 w L' :=
 ⟨h.os, h.tape, h.output, h.size, h.block, fun q hq => h.own q (p.mem_iff.2 hq), fun q hq => h.has q (p.mem_iff.2 hq), (p.map (·.1)).nodup_iff.1 h.nd⟩
theorem one_word {w : World} {zb zo : Nat} {z : ByteArray} (h : w.cell? ⟨zb, zo, none⟩ = some (.string z)) : ∀ j, j < [z].length → w.cell? ⟨zb, zo + j, none⟩ = some (.string ([z].getD j ByteArray.empty)) := fun j hj => by
 simp only [List.length_singleton] at hj
 obtain rfl : j = 0 := by omega
 exact h
end Go.Proofs.YtgboffbbpmileaaGreatDoor
set_option maxRecDepth 20000
set_option maxHeartbeats 4000000
set_option linter.unusedVariables false
set_option linter.unusedSimpArgs false
namespace Go.Proofs.YtgboffbbpmileaaGreatDoor
open Go Go.RowKit
theorem conv_sb (u : ByteArray) (W : World) : (convert 9 119 (.string u)).run Tryz.prog W = .ok (.slice (some ⟨W.heap.size, 0, none⟩) u.size (grownCap W u.size 0 5)) (Lib.bytesWorld W 5 u) :=
 Lib.run_convert_string_bytes W _ _ _ u Tryz.underlying9 Tryz.underlying119 Tryz.underlying5
theorem or32 (c : UInt8) : bits BinOp.or IntKind.u8 (c.toNat : Int) 32 = ((c ||| 32).toNat : Int) := by
 have key : ∀ k : _root_.Fin 256, bits BinOp.or IntKind.u8 (k.val : Int) 32 = ((UInt8.ofNat k.val ||| 32).toNat : Int) := by decide +kernel
 have := key ⟨c.toNat, c.toNat_lt⟩
 simpa using this
theorem alpha32 (c : UInt8) : alpha c = ((c.toNat == 95) || (decide (97 ≤ (c ||| 32).toNat) && decide ((c ||| 32).toNat ≤ 122))) := by
 have key : ∀ k : _root_.Fin 256, alpha (UInt8.ofNat k.val) = (((UInt8.ofNat k.val).toNat == 95) || (decide (97 ≤ (UInt8.ofNat k.val ||| 32).toNat) && decide ((UInt8.ofNat k.val ||| 32).toNat ≤ 122))) := by decide +kernel
 have := key ⟨c.toNat, c.toNat_lt⟩
 simpa using this
/-- The first k bytes belong to the name. -/
def NLI (l : Bytes) (k : Nat) : Prop := named l = if k = 0 then named l else k + namedT (l.drop k)
theorem NLI.zero (l : Bytes) : NLI l 0 := rfl
theorem namedT_step {l : Bytes} {k : Nat} {c : UInt8} (h : l[k]? = some c) : namedT (l.drop k) = if alpha c || digit c then namedT (l.drop (k + 1)) + 1 else 0 := by
 obtain ⟨h1, h2⟩ := List.getElem?_eq_some_iff.1 h
 rw [List.drop_eq_getElem_cons h1, h2]
 rfl
theorem named_step {l : Bytes} {c : UInt8} (h : l[0]? = some c) : named l = if alpha c then namedT (l.drop 1) + 1 else 0 := by
 cases l with
 | nil => simp at h
 | cons a t => simp at h; subst h; rfl
theorem NLI.next {l : Bytes} {k : Nat} {c : UInt8} (h : NLI l k) (hc : l[k]? = some c) (ha : alpha c = true ∨ ((k == 0) = false ∧ digit c = true)) : NLI l (k + 1) := by
 unfold NLI at h ⊢
 rw [if_neg (by omega)]
 by_cases hk : k = 0
 ·subst hk
  rcases ha with ha | ⟨ha, _⟩
  ·rw [named_step hc, ha, if_pos rfl, Nat.add_comm]
  ·cases ha
 ·rw [if_neg hk, namedT_step hc, if_pos (by rcases ha with ha | ⟨_, ha⟩ <;> rw [ha] <;> simp)] at h
  omega
theorem NLI.stop {l : Bytes} {k : Nat} {c : UInt8} (h : NLI l k) (hc : l[k]? = some c) (ha : alpha c = false) (hd : (k == 0) = true ∨ digit c = false) : named l = k := by
 unfold NLI at h
 by_cases hk : k = 0
 ·subst hk
  rw [named_step hc, ha, if_neg (by decide)]
 ·have hno : ¬ (alpha c || digit c) = true := by
   rcases hd with hd | hd
   ·rw [beq_iff_eq] at hd; exact absurd hd hk
   ·rw [ha, hd]; decide
  rw [if_neg hk, namedT_step hc, if_neg hno] at h
  exact h
theorem NLI.fin {s : ByteArray} (h : NLI s.data.toList s.size) : named s.data.toList = s.size := by
 unfold NLI at h
 split at h
 ·rename_i h0
  have : s.data.toList = [] := List.eq_nil_of_length_eq_zero (by rw [szl]; exact h0)
  rw [this, h0]; rfl
 ·rw [h, List.drop_eq_nil_of_le (by rw [szl]; exact Nat.le_refl _)]; rfl
theorem namedT_all : ∀ t : Bytes, (namedT t == t.length) = t.all fun c => alpha c || digit c
 | [] => rfl
 | c :: t => by
  have h := namedT_le t
  rw [namedT, List.all_cons, ← namedT_all t]
  split
  ·rename_i hc
   rw [hc, Bool.true_and, List.length_cons, Bool.eq_iff_iff, beq_iff_eq, beq_iff_eq]; omega
  ·rename_i hc
   rw [Bool.eq_false_iff.2 hc, Bool.false_and, List.length_cons]
   exact beq_false_of_ne (by omega)
theorem isName_eq (l : Bytes) : isName l = ((l != []) && (named l == l.length)) := by
 cases l with
 | nil => rfl
 | cons c t =>
  show (alpha c && _) = (true && (named (c :: t) == (c :: t).length))
  rw [Bool.true_and, named]
  split
  ·rename_i hc
   rw [hc, Bool.true_and, ← namedT_all, List.length_cons, Bool.eq_iff_iff, beq_iff_eq, beq_iff_eq]; omega
  ·rename_i hc
   rw [Bool.eq_false_iff.2 hc, Bool.false_and, List.length_cons]
   exact (beq_false_of_ne (by omega)).symm
theorem nameLength_is (s : ByteArray) (hs : s.size ≤ 1000000) (w : World) : Calls Tryz.prog 146 #[.string s] w fun e w' => e = .returned (.int .i64 (named s.data.toList)) ∧ Below w.heap.size w w' := by
  have hcv := conv_sb s w
  obtain ⟨W1, hW1⟩ : ∃ W1, Lib.bytesWorld w 5 s = W1 := ⟨_, rfl⟩
  have HB1 : Hid (Below w.heap.size w W1) := Lib.hid (by rw [← hW1]; exact Lib.bytesWorld_below _ _ _)
  have HC1 : Hid (∀ j, j < s.size → W1.cell? ⟨w.heap.size, j, none⟩ = some (.int .u8 (s.data.toList.getD j 0).toNat)) := Lib.hid (by rw [← hW1]; exact fun j hj => Lib.bytesWorld_cell w _ s j hj)
  rw [hW1] at hcv
  clear hW1
  have hL : Kn [] w w [] := Kn.refl [] w; have hF := hL.fx; go_enter Tryz.func146, Tryz.ntmps146
  go_wp2
  clear hL hF
  obtain ⟨gb, hgb⟩ : ∃ gb, w.heap.size = gb := ⟨_, rfl⟩
  go_loopw [9] (fun o wr => ∃ k : Nat, k ≤ s.size ∧ o = .int .i64 k ∧ Hid (NLI s.data.toList k) ∧ Kn [] W1 wr []) (fun o _ => s.size - (intOf o).toNat)
  case atStart => exact ⟨0, by omega, rfl, Lib.hid (NLI.zero _), Kn.refl [] W1⟩
  case round =>
    obtain ⟨k, hk, rfl, HI, hL⟩ := hrel
    have hF := hL.fx
    by_cases hlt : k < s.size
    · obtain ⟨c, hc⟩ : ∃ c, s.data.toList[k]? = some c := ⟨_, List.getElem?_eq_getElem (by rw [szl]; exact hlt)⟩
      have hcell := kn_o0 hL (HC1.out k hlt)
      rw [List.getD_eq_getElem?_getD, hc, Option.getD_some] at hcell
      rw [hgb] at hcell
      have hgl := cell_lt hcell
      obtain ⟨v, hv⟩ : ∃ v, (c ||| 32).toNat = v := ⟨_, rfl⟩
      have h32 := or32 c
      rw [hv] at h32
      have hal : alpha c = ((c.toNat == 95) || (decide (97 ≤ v) && decide (v ≤ 122))) := by rw [← hv]; exact alpha32 c
      have hdi : digit c = (decide (48 ≤ c.toNat) && decide (c.toNat ≤ 57)) := rfl
      obtain ⟨k1, hk1⟩ : ∃ k : Bool, (c.toNat == 95) = k := ⟨_, rfl⟩
      obtain ⟨k2, hk2⟩ : ∃ k : Bool, decide (97 ≤ v) = k := ⟨_, rfl⟩
      obtain ⟨k3, hk3⟩ : ∃ k : Bool, decide (v ≤ 122) = k := ⟨_, rfl⟩
      obtain ⟨k4, hk4⟩ : ∃ k : Bool, decide (c.toNat < 48) = k := ⟨_, rfl⟩
      obtain ⟨k5, hk5⟩ : ∃ k : Bool, decide (57 < c.toNat) = k := ⟨_, rfl⟩
      obtain ⟨k6, hk6⟩ : ∃ z : Bool, (k == 0) = z := ⟨_, rfl⟩
      have j1 : ((c.toNat : Int) == 95) = k1 := by rw [← hk1, Bool.eq_iff_iff, beq_iff_eq, beq_iff_eq]; omega
      have j2 : decide ((97 : Int) ≤ (v : Int)) = k2 := by rw [← hk2]; exact decide_eq_decide.2 (by omega)
      have j3 : decide ((v : Int) ≤ (122 : Int)) = k3 := by rw [← hk3]; exact decide_eq_decide.2 (by omega)
      have j4 : decide ((c.toNat : Int) < (48 : Int)) = k4 := by rw [← hk4]; exact decide_eq_decide.2 (by omega)
      have j5 : decide ((57 : Int) < (c.toNat : Int)) = k5 := by rw [← hk5]; exact decide_eq_decide.2 (by omega)
      have j6 : ((k : Int) == 0) = k6 := by rw [← hk6, Bool.eq_iff_iff, beq_iff_eq, beq_iff_eq]; omega
      have hdi2 : digit c = (!k4 && !k5) := by
        rw [hdi, ← hk4, ← hk5, Bool.eq_iff_iff]
        simp only [Bool.and_eq_true, decide_eq_true_eq, Bool.not_eq_true', decide_eq_false_iff_not]
        omega
      rw [hk1, hk2, hk3] at hal
      have HAL := Lib.hid hal
      have HDI := Lib.hid hdi2
      have HC := Lib.hid hc
      have HK6 := Lib.hid hk6
      have HND : Hid (NLI s.data.toList k) := Lib.hid HI.out
      clear hal hdi hdi2 hc hv hk1 hk6
      cases k1 <;> cases k2 <;> cases k3 <;> cases k4 <;> cases k5 <;> cases k6 <;> (first
        | (exfalso; have h1 := HAL.out; omega)
        | (go_wp2
           first
           | exact ⟨⟨k + 1, by omega, by go_num, Lib.hid (HND.out.next HC.out (by first | exact .inl HAL.out | exact .inr ⟨HK6.out, HDI.out⟩)), hL⟩, by simp [intOf]; omega⟩
           | (refine bodyPost_ret (by simp [results, Tryz.results146, go_sem, *]; try rfl) rfl ?_
              exact ⟨by rw [HND.out.stop HC.out HAL.out (by first | exact .inl HK6.out | exact .inr HDI.out)], HB1.out.trans (hL.below0.mono HB1.out.size)⟩)))
    · obtain rfl : s.size = k := by omega
      go_wp2
      refine bodyPost_ret (by simp [results, Tryz.results146, go_sem, *]; try rfl) rfl ?_
      exact ⟨by rw [HI.out.fin], HB1.out.trans (hL.below0.mono HB1.out.size)⟩
theorem isName_is (s : ByteArray) (hs : s.size ≤ 1000000) (w : World) : Calls Tryz.prog 121 #[.string s] w fun e w' => e = .returned (.bool (isName s.data.toList)) ∧ Below w.heap.size w w' := by
 rw [isName_eq, szl]
 obtain ⟨n, hn⟩ : ∃ n, named s.data.toList = n := ⟨_, rfl⟩
 have HN := Lib.hid (fun W => nameLength_is s hs W)
 rw [hn] at HN ⊢
 obtain ⟨k1, hk1⟩ : ∃ k : Bool, (s.data.toList == []) = k := ⟨_, rfl⟩
 obtain ⟨k2, hk2⟩ : ∃ k : Bool, (n == s.size) = k := ⟨_, rfl⟩
 have j1 : (s.toList == []) = k1 := by rw [Lib.toList_data]; exact hk1
 have j2 : ((n : Int) == (s.size : Int)) = k2 := by rw [← hk2, Bool.eq_iff_iff, beq_iff_eq, beq_iff_eq]; omega
 rw [show (s.data.toList != []) = !k1 by rw [← hk1]; rfl, hk2]
 clear hn
 cases k1 <;> cases k2 <;> (
  have hL : Kn [] w w [] := Kn.refl [] w; have hF := hL.fx; go_enter Tryz.func121, Tryz.ntmps121
  go_wp2_with ((go_at_call 146; refine zC (fun W hL => HN.out _) ?_; clear hF hL; intro W hL hF))
  refine bodyPost_ret (by simp [results, Tryz.results121, go_sem, *]; try rfl) rfl ?_
  exact ⟨rfl, hL.below0⟩)
end Go.Proofs.YtgboffbbpmileaaGreatDoor
set_option maxRecDepth 20000
set_option maxHeartbeats 4000000
set_option linter.unusedVariables false
set_option linter.unusedSimpArgs false
namespace Go.Proofs.YtgboffbbpmileaaGreatDoor
open Go Go.RowKit
theorem want_c {W0 : World} {g o cap : Nat} {tvs : List (Tok × Value)} (E : PEnv W0 g o cap tvs) (b i : Nat) (v : Value) (d : Nat) (w : World) (hB : Below W0.heap.size W0 w) (hbb : W0.heap.size ≤ b) (hv : Hid (AtV g o cap tvs i v)) (hb : w.heap[b]? = some (.cells #[v, .int .i64 (d : Int)] 73 (0, 0))) (s : ByteArray) :
    Calls Tryz.prog 144 #[.pointer (some ⟨b, 0, none⟩), .string s] w fun e w' => POut b d g o cap tvs w (fun _ v0 _ => v0 = .tuple #[]) (want s.data.toList ((TT tvs).drop i)) e w' := by
  obtain ⟨k1, hk1⟩ : ∃ k, isOp s.data.toList ((TT tvs).drop i) = k := ⟨_, rfl⟩
  obtain ⟨k2, hk2⟩ : ∃ k, isKw [s.data.toList] ((TT tvs).drop i) = k := ⟨_, rfl⟩
  have HK1 := Lib.hid hk1
  have HK2 : Hid (isKw ([s].map fun z => z.data.toList) ((TT tvs).drop i) = k2) := Lib.hid hk2
  have hw : want s.data.toList ((TT tvs).drop i) = if k1 || k2 then .ok () ((TT tvs).drop i).tail else syn ((TT tvs).drop i) := by unfold want; rw [hk1, hk2]
  rw [hw]
  have hne : Hid ((k1 || k2) = true → (TT tvs).drop i ≠ []) := Lib.hid fun h e => by rw [e] at hk1 hk2; cases hk1; cases hk2; cases h
  clear hk1 hk2 hw
  obtain ⟨m, hm⟩ : ∃ m, m = ((TT tvs).drop i).length := ⟨_, rfl⟩
  have Hm := Lib.hid hm
  clear hm
  have HB0 := Lib.hid hB
  have HXB := Lib.hid (show ∀ y ∈ [b], W0.heap.size ≤ y from by simpa using hbb)
  have hL : Kn [b] w w [(b, .cells #[v, .int .i64 (d : Int)] 73 (0, 0))] := Kn.one hb
  have HBS := Lib.hid hb
  clear hB hb
  have hF := hL.fx
  cases k1 <;> cases k2 <;> (
    go_enter Tryz.func144, Tryz.ntmps144
    go_wp2_with (first | ((with_reducible refine zS ?_); clear hL; intro W hL hF) | (go_at_call 52; refine zC (fun W hL => op_c E b i v d _ (kn_bw HB0.out hL HXB.out) hbb hv (by (exact hL.has _ List.mem_cons_self)) s _ HK1) ?_; clear hF hL; intro W hL hF) | (go_at_call 86; refine zC (fun W hL => key_c E b i v d _ (kn_bw HB0.out hL HXB.out) hbb hv (by (exact hL.has _ (List.mem_cons_of_mem _ List.mem_cons_self))) _ 0 1 _ [s] _ HK2 (Lib.hid rfl) (by omega) (one_word (kn_c0 hL List.mem_cons_self)) (by (exact kn_ne hL List.mem_cons_self))) ?_; clear hF hL; intro W hL hF) | (go_at_call 53; refine zG ?_; clear hF hL; intro W hL hF; (with_reducible refine (pass_c E b i v d _ (kn_bw HB0.out hL HXB.out) hbb hv (by first | exact hL.has _ List.mem_cons_self | exact hL.has _ (List.mem_cons_of_mem _ List.mem_cons_self)) (hne.out rfl)).mono ?_); rintro e W ⟨x, pa, pn, pc, vj, rfl, HTX, HVJ, hb⟩; (first | (replace hL := hL.join1 0 rfl hb) | (replace hL := hL.join1 1 rfl hb)); clear hb hF; simp only [List.eraseIdx_cons_zero, List.eraseIdx_cons_succ, List.cons_append, List.nil_append] at hL; have hF := hL.fx) | (go_at_call 28; refine zG ?_; clear hF hL; intro W hL hF; (with_reducible refine (fail_c E b i v d _ (kn_bw HB0.out hL HXB.out) hbb hv (by (exact hL.has _ (List.mem_cons_of_mem _ List.mem_cons_self))) 27 d 1 (Lib.hid rfl) m Hm).mono ?_); rintro e W ⟨vj, dj, rfl, hb⟩; ((replace hL := hL.join1 1 rfl hb)); clear hb hF; simp only [List.eraseIdx_cons_zero, List.eraseIdx_cons_succ, List.cons_append, List.nil_append] at hL; have hF := hL.fx))
    first
    | (go_end0
       exact ⟨_, i + 1, vj, rfl, rfl, Lib.hid ⟨HVJ.out, by (rfl)⟩, hL.sub (by repeat' (first | exact List.Sublist.refl _ | apply List.Sublist.cons_cons | apply List.Sublist.cons))⟩)
    | (exact ⟨rfl, _, _, by rw [Hm.out] <;> rfl, hL.sub (by repeat' (first | exact List.Sublist.refl _ | apply List.Sublist.cons_cons | apply List.Sublist.cons))⟩))
end Go.Proofs.YtgboffbbpmileaaGreatDoor
set_option maxRecDepth 20000
set_option maxHeartbeats 4000000
set_option linter.unusedVariables false
set_option linter.unusedSimpArgs false
namespace Go.Proofs.YtgboffbbpmileaaGreatDoor
open Go Go.RowKit
theorem word_at {W0 : World} {g o cap : Nat} {tvs : List (Tok × Value)} (E : PEnv W0 g o cap tvs) {i : Nat} {x : Tok × Value} (hx : tvs[i]? = some x) : wordP ((TT tvs).drop i) = if ((x.1.kind : Int) == 0) = true then .ok x.1.parts ((TT tvs).drop (i + 1)) else syn ((TT tvs).drop i) := by
 rcases drop_at E hx with ⟨h1, h2, h3, h4⟩ | ⟨h1, h2, h3⟩
 ·rw [h1, h2]; rfl
 ·rw [h1]
  show (if x.1.kind = 0 then _ else _) = _
  by_cases h : x.1.kind = 0
  ·rw [if_pos h, if_pos (by rw [h]; rfl)]
  ·rw [if_neg h, if_neg (by rw [beq_iff_eq]; omega)]
theorem lines_at {W0 : World} {g o cap : Nat} {tvs : List (Tok × Value)} (E : PEnv W0 g o cap tvs) {i : Nat} {x : Tok × Value} (hx : tvs[i]? = some x) : lines ((TT tvs).drop i) = if ((x.1.kind : Int) == 3) = true then lines ((TT tvs).drop (i + 1)) else (TT tvs).drop i := by
 rcases drop_at E hx with ⟨h1, h2, h3, h4⟩ | ⟨h1, h2, h3⟩
 ·rw [h1, h2]; rfl
 ·rw [h1]
  unfold lines
  rw [List.dropWhile_cons]
  by_cases h : x.1.kind = 3
  ·rw [if_pos (by show (x.1.kind == 3) = true; rw [h]; rfl), if_pos (by rw [h]; rfl)]
  ·rw [if_neg (by show ¬ (x.1.kind == 3) = true; rw [beq_iff_eq]; exact h), if_neg (by rw [beq_iff_eq]; omega)]
/-- A word, as a token. -/
def WordV (tvs : List (Tok × Value)) (ps : List Prt) (v0 : Value) (_ : World) : Prop := ∃ x pa pn pc, x ∈ tvs ∧ x.2 = .slice pa pn pc ∧ v0 = .agg #[.int .i64 (x.1.kind : Int), .string ⟨x.1.text.toArray⟩, .string ⟨x.1.plain.toArray⟩, .slice pa pn pc, .int .i64 x.1.fd, .int .i64 (x.1.line : Int)] ∧ ps = x.1.parts
theorem word_c {W0 : World} {g o cap : Nat} {tvs : List (Tok × Value)} (E : PEnv W0 g o cap tvs) (b i : Nat) (v : Value) (d : Nat) (w : World) (hB : Below W0.heap.size W0 w) (hbb : W0.heap.size ≤ b) (hv : Hid (AtV g o cap tvs i v)) (hb : w.heap[b]? = some (.cells #[v, .int .i64 (d : Int)] 73 (0, 0))) : Calls Tryz.prog 164 #[.pointer (some ⟨b, 0, none⟩)] w fun e w' => POut b d g o cap tvs w (WordV tvs) (wordP ((TT tvs).drop i)) e w' := by
 obtain ⟨m, hm⟩ : ∃ m, m = ((TT tvs).drop i).length := ⟨_, rfl⟩
 have Hm := Lib.hid hm
 clear hm
 obtain ⟨x, pa, pn, pc, hx, hx2⟩ := E.tok hv.out
 have HX := Lib.hid hx
 have HX2 := Lib.hid hx2
 have f0 := tkf0 x.1.kind x.1.fd x.1.line ⟨x.1.text.toArray⟩ ⟨x.1.plain.toArray⟩ pa pn pc
 have f1 := tkf1 x.1.kind x.1.fd x.1.line ⟨x.1.text.toArray⟩ ⟨x.1.plain.toArray⟩ pa pn pc
 have f2 := tkf2 x.1.kind x.1.fd x.1.line ⟨x.1.text.toArray⟩ ⟨x.1.plain.toArray⟩ pa pn pc
 have f3 := tkf3 x.1.kind x.1.fd x.1.line ⟨x.1.text.toArray⟩ ⟨x.1.plain.toArray⟩ pa pn pc
 have f4 := tkf4 x.1.kind x.1.fd x.1.line ⟨x.1.text.toArray⟩ ⟨x.1.plain.toArray⟩ pa pn pc
 have f5 := tkf5 x.1.kind x.1.fd x.1.line ⟨x.1.text.toArray⟩ ⟨x.1.plain.toArray⟩ pa pn pc
 clear hx hx2
 rw [word_at E HX.out]
 obtain ⟨k1, hk1⟩ : ∃ k : Bool, ((x.1.kind : Int) == 0) = k := ⟨_, rfl⟩
 have hk2 : ((x.1.kind : Int) != 0) = !k1 := by rw [← hk1]; rfl
 have hne : Hid (k1 = true → (TT tvs).drop i ≠ []) := Lib.hid fun h => by
  rcases drop_at E HX.out with ⟨h1, h2, h3, h4⟩ | ⟨h1, h2, h3⟩
  ·rw [h2] at hk1; rw [← hk1] at h; cases h
  ·rw [h1]; simp
 rw [hk1]
 have hkd : Hid ((x.1.kind : Int) = 0 ∨ k1 = false) := Lib.hid (by cases k1; exact .inr rfl; exact .inl (beq_iff_eq.1 hk1))
 have HB0 := Lib.hid hB
 have HXB := Lib.hid (show ∀ y ∈ [b], W0.heap.size ≤ y from by simpa using hbb)
 have hL : Kn [b] w w [(b, .cells #[v, .int .i64 (d : Int)] 73 (0, 0))] := Kn.one hb
 have HBS := Lib.hid hb
 clear hB hb
 have hF := hL.fx
 cases k1
 ·go_enter Tryz.func164, Tryz.ntmps164
  go_wp2_with (first | ((with_reducible refine zS ?_); clear hL; intro W hL hF) | (go_at_call 27; refine zC (fun W hL => next_i E b i v d _ (kn_bw HB0.out hL HXB.out) hbb hv (by (exact hL.has _ (List.mem_cons_of_mem _ List.mem_cons_self))) HX.out pa pn pc HX2.out ) ?_; clear hF hL; intro W hL hF) | (go_at_call 28; refine zG ?_; clear hF hL; intro W hL hF; (with_reducible refine (fail_c E b i v d _ (kn_bw HB0.out hL HXB.out) hbb hv (by (exact hL.has _ (List.mem_cons_of_mem _ List.mem_cons_self))) 27 d 1 (Lib.hid rfl) m Hm).mono ?_); rintro e W ⟨vj, dj, rfl, hb⟩; ((replace hL := hL.join1 1 rfl hb)); clear hb hF; simp only [List.eraseIdx_cons_zero, List.eraseIdx_cons_succ, List.cons_append, List.nil_append] at hL; have hF := hL.fx))
  exact ⟨rfl, _, _, by rw [Hm.out] <;> rfl, hL.sub (by repeat' (first | exact List.Sublist.refl _ | apply List.Sublist.cons_cons | apply List.Sublist.cons))⟩
 ·have h4 : Hid (x.1.kind ≠ 4) := Lib.hid (fun e => by have := hkd.out; rw [e] at this; rcases this with h | h; exact absurd h (by decide); cases h)
  go_enter Tryz.func164, Tryz.ntmps164
  go_wp2_with (first | ((with_reducible refine zS ?_); clear hL; intro W hL hF) | (go_at_call 27; refine zC (fun W hL => next_i E b i v d _ (kn_bw HB0.out hL HXB.out) hbb hv (by (exact hL.has _ (List.mem_cons_of_mem _ List.mem_cons_self))) HX.out pa pn pc HX2.out ) ?_; clear hF hL; intro W hL hF) | (go_at_call 53; refine zG ?_; clear hF hL; intro W hL hF; (with_reducible refine (pass_i E b i v d _ (kn_bw HB0.out hL HXB.out) hbb hv (by (exact hL.has _ (List.mem_cons_of_mem _ List.mem_cons_self))) HX.out pa pn pc HX2.out h4.out).mono ?_); rintro e W ⟨rfl, vj, HVJ, hb⟩; ((replace hL := hL.join1 1 rfl hb)); clear hb hF; simp only [List.eraseIdx_cons_zero, List.eraseIdx_cons_succ, List.cons_append, List.nil_append] at hL; have hF := hL.fx))
  refine kn_body ?_; clear hF hL; intro W hL; simp only [kfb] at hL; have hF := hL.fx
  refine bodyPost_ret (by simp [results, Tryz.results164, go_sem, *]; try rfl) rfl ?_
  exact ⟨_, i + 1, vj, rfl, ⟨x, pa, pn, pc, List.mem_of_getElem? HX.out, HX2.out, rfl, rfl⟩, Lib.hid ⟨HVJ.out, rfl⟩, hL.sub (by repeat' (first | exact List.Sublist.refl _ | apply List.Sublist.cons_cons | apply List.Sublist.cons))⟩
theorem lines_c {W0 : World} {g o cap : Nat} {tvs : List (Tok × Value)} (E : PEnv W0 g o cap tvs) (b i : Nat) (v : Value) (d : Nat) (w : World) (hB : Below W0.heap.size W0 w) (hbb : W0.heap.size ≤ b) (hv : Hid (AtV g o cap tvs i v)) (hb : w.heap[b]? = some (.cells #[v, .int .i64 (d : Int)] 73 (0, 0))) : Calls Tryz.prog 49 #[.pointer (some ⟨b, 0, none⟩)] w fun e w' => ∃ j vj, e = .returned (.tuple #[]) ∧ Hid (i ≤ j ∧ AtV g o cap tvs j vj ∧ lines ((TT tvs).drop i) = (TT tvs).drop j) ∧ Kn [b] w w' [(b, .cells #[vj, .int .i64 (d : Int)] 73 (0, 0))] := by
 obtain ⟨ts, hts⟩ : ∃ ts, lines ((TT tvs).drop i) = ts := ⟨_, rfl⟩
 rw [hts]
 have HTS := Lib.hid hts
 clear hts
 have HB0 := Lib.hid hB
 have HXB := Lib.hid (show ∀ y ∈ [b], W0.heap.size ≤ y from by simpa using hbb)
 have hL : Kn [b] w w [(b, .cells #[v, .int .i64 (d : Int)] 73 (0, 0))] := Kn.one hb
 have HBS := Lib.hid hb
 clear hB hb
 have hF := hL.fx
 go_enter Tryz.func49, Tryz.ntmps49
 go_wp2
 go_loopg [] (tvs.length - i) (fun k wr => ∃ j vj, Hid (k = tvs.length - j ∧ i ≤ j ∧ AtV g o cap tvs j vj ∧ lines ((TT tvs).drop j) = ts) ∧ Kn [b] w wr [(b, .cells #[vj, .int .i64 (d : Int)] 73 (0, 0))])
 case atStart => exact ⟨i, v, Lib.hid ⟨rfl, Nat.le_refl _, hv.out, HTS.out⟩, kn_here⟩
 case round =>
  clear hL
  clear hF
  obtain ⟨j, vj, HJ, hL⟩ := hrel
  have hF := hL.fx
  have Hvj := Lib.hid HJ.out.2.2.1
  obtain ⟨x, pa, pn, pc, hx, hx2⟩ := E.tok Hvj.out
  have HX := Lib.hid hx
  have HX2 := Lib.hid hx2
  have f0 := tkf0 x.1.kind x.1.fd x.1.line ⟨x.1.text.toArray⟩ ⟨x.1.plain.toArray⟩ pa pn pc
  have f1 := tkf1 x.1.kind x.1.fd x.1.line ⟨x.1.text.toArray⟩ ⟨x.1.plain.toArray⟩ pa pn pc
  have f2 := tkf2 x.1.kind x.1.fd x.1.line ⟨x.1.text.toArray⟩ ⟨x.1.plain.toArray⟩ pa pn pc
  have f3 := tkf3 x.1.kind x.1.fd x.1.line ⟨x.1.text.toArray⟩ ⟨x.1.plain.toArray⟩ pa pn pc
  have f4 := tkf4 x.1.kind x.1.fd x.1.line ⟨x.1.text.toArray⟩ ⟨x.1.plain.toArray⟩ pa pn pc
  have f5 := tkf5 x.1.kind x.1.fd x.1.line ⟨x.1.text.toArray⟩ ⟨x.1.plain.toArray⟩ pa pn pc
  clear hx hx2
  obtain ⟨k1, hk1⟩ : ∃ k : Bool, ((x.1.kind : Int) == 3) = k := ⟨_, rfl⟩
  have HK1 := Lib.hid hk1
  have h4 : Hid (k1 = true → x.1.kind ≠ 4) := Lib.hid (fun h e4 => by have h9 := HK1.out; rw [e4, h] at h9; cases h9)
  cases k1
  ·go_wp2_with (first | ((with_reducible refine zS ?_); clear hL; intro W hL hF) | (go_at_call 27; refine zC (fun W hL => next_i E b j vj (d : Int) _ (kn_bw HB0.out hL HXB.out) hbb Hvj (by (exact hL.has _ List.mem_cons_self)) HX.out pa pn pc HX2.out ) ?_; clear hF hL; intro W hL hF))
   go_end0
   refine ⟨j, vj, rfl, Lib.hid ⟨HJ.out.2.1, Hvj.out, ?_⟩, hL⟩
   have h3 := lines_at E HX.out
   rw [HK1.out, if_neg (by decide)] at h3
   rw [← HJ.out.2.2.2]
   exact h3
  ·have h5 := Lib.hid (h4.out rfl)
   clear h4
   go_wp2_with (first | ((with_reducible refine zS ?_); clear hL; intro W hL hF) | (go_at_call 27; refine zC (fun W hL => next_i E b j vj (d : Int) _ (kn_bw HB0.out hL HXB.out) hbb Hvj (by (exact hL.has _ List.mem_cons_self)) HX.out pa pn pc HX2.out ) ?_; clear hF hL; intro W hL hF) | (go_at_call 53; refine zG ?_; clear hF hL; intro W hL hF; (with_reducible refine (pass_i E b j vj (d : Int) _ (kn_bw HB0.out hL HXB.out) hbb Hvj (by (exact hL.has _ List.mem_cons_self)) HX.out pa pn pc HX2.out h5.out).mono ?_); rintro e W ⟨rfl, v2, HV2, hb⟩; ((replace hL := hL.join1 0 rfl hb)); clear hb hF; simp only [List.eraseIdx_cons_zero, List.eraseIdx_cons_succ, List.cons_append, List.nil_append] at hL; have hF := hL.fx))
   go_roundg (tvs.length - (j + 1))
   case measure => have := HJ.out.1; have := Hvj.out.1; omega
   case rel => exact ⟨j + 1, v2, Lib.hid ⟨rfl, by have := HJ.out.2.1; omega, HV2.out, by have h3 := lines_at E HX.out; rw [HK1.out, if_pos rfl] at h3; rw [← h3]; exact HJ.out.2.2.2⟩, hL⟩
end Go.Proofs.YtgboffbbpmileaaGreatDoor
/- Append, of elements of a slice or of a string's bytes, onto the row that stands at the end of the known blocks (nil, or one block). -/
set_option linter.unusedVariables false
set_option linter.unusedSimpArgs false
namespace Go.Proofs.YtgboffbbpmileaaGreatDoor
open Go Go.RowKit
section
variable {P : Program} {w : World} {e : TypeId} {z n : Nat} {v : Value} {xs : List Value} {X : List Nat} {w0 : World} {A LP : List (Nat × Obj)}
theorem rowL_owns (hk : Kn X w0 w (A ++ LP)) (hr : RowL z e LP v n xs) : w.ownsRow 0 e z v n xs := by
 rcases hr with ⟨rfl, rfl, rfl, rfl⟩ | ⟨g, cap, cur, rfl, rfl, hb⟩
 ·exact ⟨by simp, .inl ⟨rfl, rfl⟩⟩
 ·exact ⟨hb.len, .inr ⟨g, cap, cur, rfl, Nat.zero_le _, hk.has (g, .cells cur e (0, 0)) (by simp), hb.le, hb.capm, hb.size, hb.take⟩⟩
theorem wpList_append_end {ops : Array Oper} {rest : List Oper} {o : Oper} {a : Act} {Q : Exit → Act → World → Prop} (hgd : o.guard = none) (s x : Operand) (t u : TypeId)
  (ho : o.op = .call { callee := .builtin .append, args := #[s, x], argTypes := #[t, u] })
  (A LP : List (Nat × Obj)) (hk : Kn X w0 w (A ++ LP)) (n m : Nat) (xs news : List Value) (v xv : Value) (hr : RowL z e LP v n xs) (hs : a.eval s = v) (hx : a.eval x = xv)
  (hrun : w.ownsRow 0 e z v n xs → ∃ v' w', (Builtin.append_ #[t, u] o.type #[v, xv]).run P w = .ok v' w' ∧ w'.ownsRow 0 e z v' (n + m) (xs ++ news) ∧ w.grownBy w' v.ownBlock ∧ (v'.ownBlock = v.ownBlock ∨ v'.ownBlock = some w.heap.size))
  (h : ∀ LP' ao' c' w', Kn X w0 w' (A ++ LP') → RowL z e LP' (.slice ao' (n + m) c') (n + m) (xs ++ news) → wpList P ops Q rest (a.put o.dst (.slice ao' (n + m) c')) w') : wpList P ops Q (o :: rest) a w := by
 refine wpList_plain hgd fun K hK => ?_
 obtain ⟨v', w', hrun, h2, h3, h4⟩ := hrun (rowL_owns hk hr)
 have nd := hk.nd
 rw [List.map_append, List.nodup_append] at nd
 obtain ⟨ndA, _, hd⟩ := nd
 have hvb : ∀ g, v.ownBlock = some g → ∃ o, LP = [(g, o)] := fun g hg => by
  rcases hr with ⟨_, rfl, _⟩ | ⟨g', cap, cur, rfl, rfl, _⟩
  ·cases hg
  ·obtain rfl : g' = g := Option.some.inj hg
   exact ⟨_, rfl⟩
 have hKA : Kn X w0 w' A := kn_grown (hk.sub (List.sublist_append_left A LP)) h3 fun g hg => by
  obtain ⟨ob, rfl⟩ := hvb g hg
  exact ⟨hk.own (g, ob) (by simp), fun hm => hd g hm g (by simp) rfl⟩
 unfold Oper.wp execOp
 simp only [ho, resolve, invoke, builtin, Sem.run_bind, Sem.run_pure, Result.andThen_ok, List.map_toArray, List.map_cons, List.map_nil, hs, hx, hrun]
 refine hK _ _ ?_
 obtain ⟨hl2, ⟨rfl, h0⟩ | ⟨g', cap', cur', rfl, _, hc, k1, k2, k3, k4⟩⟩ := h2
 ·have := h [] none 0 w' (by simpa using hKA) (.inl ⟨rfl, by rw [h0], h0, List.eq_nil_of_length_eq_zero (by rw [hl2, h0]; simp)⟩)
  rw [h0] at this; exact this
 ·have hgX : (w0.heap.size ≤ g' ∨ g' ∈ X) ∧ g' ∉ A.map (·.1) := by
   rcases h4 with h4 | h4
   ·obtain ⟨ob, rfl⟩ := hvb g' h4.symm
    exact ⟨hk.own (g', ob) (by simp), fun hm => hd g' hm g' (by simp) rfl⟩
   ·obtain rfl : g' = w.heap.size := Option.some.inj h4
    refine ⟨.inl hk.size, fun hm => ?_⟩
    obtain ⟨q, hq, e2⟩ := List.mem_map.1 hm
    have h5 := hk.lt (List.mem_append_left _ hq)
    have e3 : q.1 = w.heap.size := e2
    omega
  refine h [(g', .cells cur' e (0, 0))] _ _ w' ⟨hKA.os, hKA.tape, hKA.output, hKA.size, hKA.block, fun p hp => ?_, fun p hp => ?_, ?_⟩ (.inr ⟨g', cap', cur', rfl, rfl, k3, k1, k2, k4, hl2⟩)
  ·rcases List.mem_append.1 hp with hp | hp
   ·exact hKA.own p hp
   ·simp at hp; subst hp; exact hgX.1
  ·rcases List.mem_append.1 hp with hp | hp
   ·exact hKA.has p hp
   ·simp at hp; subst hp; exact hc
  ·rw [List.map_append, List.nodup_append]
   refine ⟨ndA, by simp, fun a ha b hb => ?_⟩
   simp at hb; subst hb
   rintro rfl; exact hgX.2 ha
end
end Go.Proofs.YtgboffbbpmileaaGreatDoor
set_option linter.unusedVariables false
set_option linter.unusedSimpArgs false
namespace Go.Proofs.YtgboffbbpmileaaGreatDoor
open Go Go.RowKit
/-- A row of elements of k cells: in known blocks, or in the elder world. -/
def RowM (k : Nat) (W0 : World) (L : List (Nat × Obj)) (v : Value) (xs : List (List Value)) : Prop :=
  ∃ ao cap, v = .slice ao xs.length cap ∧ xs.length ≤ cap ∧ ∀ (j : Nat) cs, xs[j]? = some cs → ∃ g o, ao = some ⟨g, o, none⟩ ∧
    ((∃ cells t, (g, Obj.cells cells t (0, 0)) ∈ L ∧ ∀ (c : Nat) x, cs[c]? = some x → cells[o + j * k + c]? = some x) ∨
     (g < W0.heap.size ∧ NoNd W0 g ∧ ∀ (c : Nat) x, cs[c]? = some x → W0.cell? ⟨g, o + j * k + c, none⟩ = some x))
section
variable {k : Nat} {W0 : World} {L L' : List (Nat × Obj)} {v : Value} {xs : List (List Value)}
theorem RowM.mono (h : RowM k W0 L v xs) (hs : ∀ p ∈ L, p ∈ L') : RowM k W0 L' v xs := by
 obtain ⟨ao, cap, h1, h2, h3⟩ := h
 refine ⟨ao, cap, h1, h2, fun j cs hj => ?_⟩
 obtain ⟨g, o, h4, h5⟩ := h3 j cs hj
 refine ⟨g, o, h4, h5.imp (fun h => ?_) id⟩
 obtain ⟨cells, t, hm, hc⟩ := h
 exact ⟨cells, t, hs _ hm, hc⟩
theorem RowM.nil : RowM k W0 L (.slice none 0 0) [] := ⟨none, 0, rfl, Nat.le_refl _, fun j cs h => by simp at h⟩
theorem RowM.rowY {X Y : List Nat} {w0 w : World} {K : List (Nat × Obj)} (h : RowM k W0 L v xs) (hne : ∀ cs ∈ xs, cs ≠ []) (hB : Below W0.heap.size W0 w) (hk : Kn X w0 w K) (hs : ∀ p ∈ L, p ∈ K) (hY : ∀ p ∈ L, p.1 ∉ Y) (hY0 : ∀ y ∈ Y, W0.heap.size ≤ y) : RowY k Y w v xs := by
 obtain ⟨ao, cap, h1, h2, h3⟩ := h
 refine ⟨ao, cap, h1, h2, fun j cs hj => ?_⟩
 obtain ⟨g, o, h4, h5⟩ := h3 j cs hj
 rcases h5 with ⟨cells, t, hm, hc⟩ | ⟨hg, _, hc⟩
 ·exact ⟨g, o, h4, hY _ hm, hk.lt (hs _ hm), fun c x hx => by rw [kn_cell hk (hs _ hm)]; exact hc c x hx⟩
 ·exact ⟨g, o, h4, fun hm => by have := hY0 _ hm; omega, Nat.lt_of_lt_of_le hg hB.size, fun c x hx => cell_ext (hc c x hx) hB⟩
theorem RowK.rowM (h : RowK k W0 v xs) (hc : CapK v) (hty : TyN W0 v) (hne : ∀ cs ∈ xs, cs ≠ []) : RowM k W0 L v xs := by
 obtain ⟨ao, cap, rfl, h2⟩ := h
 obtain ⟨_, _, _, e, hc⟩ := hc
 injection e with e1 e2 e3
 subst e1 e2 e3
 refine ⟨ao, cap, rfl, hc, fun j cs hj => ?_⟩
 obtain ⟨g, o, h3, h4⟩ := h2 j cs hj
 refine ⟨g, o, h3, .inr ⟨?_, hty _ _ _ (by rw [h3]), h4⟩⟩
 cases cs with
 | nil => exact absurd rfl (hne _ (List.mem_of_getElem? hj))
 | cons x r => exact cell_lt (h4 0 x rfl)
end
theorem RowL.rowM {α : Type} {f : α → List Value} {k : Nat} {e : TypeId} {LP L : List (Nat × Obj)} {W0 : World} {v : Value} {l : List α} (hf : ∀ a, (f a).length = k) (h : RowL k e LP v l.length (l.flatMap f)) (hs : ∀ p ∈ LP, p ∈ L) : RowM k W0 L v (l.map f) := by
 rcases h with ⟨_, rfl, h0, h1⟩ | ⟨g, cap, cur, rfl, rfl, hb⟩
 ·have : l = [] := List.eq_nil_of_length_eq_zero h0
  subst this
  exact RowM.nil
 ·refine ⟨some ⟨g, 0, none⟩, cap, by rw [List.length_map], by rw [List.length_map]; exact hb.le, fun j cs hj => ⟨g, 0, rfl, .inl ⟨cur, e, hs _ List.mem_cons_self, fun c x hx => ?_⟩⟩⟩
  rw [List.getElem?_map] at hj
  obtain ⟨a, ha, rfl⟩ := Option.map_eq_some_iff.1 hj
  rw [Nat.zero_add]
  exact hb.get (flat_get hf l j c a x ha hx)
def PRm (W0 : World) (L : List (Nat × Obj)) (v : Value) (ps : List Prt) : Prop := RowM 3 W0 L v (ps.map ptc)
theorem PRm.mono {W0 : World} {L L' : List (Nat × Obj)} {v : Value} {ps : List Prt} (h : PRm W0 L v ps) (hs : ∀ p ∈ L, p ∈ L') : PRm W0 L' v ps := RowM.mono h hs
theorem prm_tok {W0 : World} {g o cap : Nat} {tvs : List (Tok × Value)} (E : PEnv W0 g o cap tvs) {x : Tok × Value} (hx : x ∈ tvs) {L : List (Nat × Obj)} : PRm W0 L x.2 x.1.parts := by
 obtain ⟨h1, h2⟩ := E.parts x hx
 exact h1.rowM h2 (E.tyn x hx) (fun cs hcs => by obtain ⟨p, _, rfl⟩ := List.mem_map.1 hcs; simp [ptc])
/-- A node whose memory lies in known blocks and in the elder world. -/
inductive NodeL (W0 : World) (L : List (Nat × Obj)) : Nd → List Value → Prop
 | mk (kind : Nat) (name : Bytes) (neg : Bool) (al : List ((Bytes × List Prt) × Value)) (ws : List (List Prt × Value)) (rs : List ((Int × Nat × List Prt) × Value)) (ks : List (Nd × List Value)) (va vw vr vk : Value)
  (h1 : RowM 2 W0 L va (al.map asc)) (h2 : ∀ x ∈ al, PRm W0 L x.2 x.1.2) (h3 : RowM 1 W0 L vw (ws.map fun x => [x.2])) (h4 : ∀ x ∈ ws, PRm W0 L x.2 x.1)
  (h5 : RowM 3 W0 L vr (rs.map rsc)) (h6 : ∀ x ∈ rs, PRm W0 L x.2 x.1.2.2) (h7 : RowM 7 W0 L vk (ks.map (·.2))) (h8 : ∀ x ∈ ks, NodeL W0 L x.1 x.2) :
  NodeL W0 L (.mk kind name neg (al.map (·.1)) (ws.map (·.1)) (rs.map (·.1)) (ks.map (·.1))) [.int .i64 (kind : Int), bs name, .bool neg, va, vw, vr, vk]
theorem NodeL.mono {W0 : World} {L L' : List (Nat × Obj)} {n : Nd} {cs : List Value} (h : NodeL W0 L n cs) (hs : ∀ p ∈ L, p ∈ L') : NodeL W0 L' n cs := by
 induction h with
 | mk kind name neg al ws rs ks va vw vr vk h1 h2 h3 h4 h5 h6 h7 h8 ih =>
  exact .mk kind name neg al ws rs ks va vw vr vk (h1.mono hs) (fun x hx => (h2 x hx).mono hs) (h3.mono hs) (fun x hx => (h4 x hx).mono hs) (h5.mono hs) (fun x hx => (h6 x hx).mono hs) (h7.mono hs) ih
theorem NodeL.ne {W0 : World} {L : List (Nat × Obj)} {n : Nd} {cs : List Value} (h : NodeL W0 L n cs) : cs ≠ [] := by cases h; simp
theorem NodeL.len {W0 : World} {L : List (Nat × Obj)} {n : Nd} {cs : List Value} (h : NodeL W0 L n cs) : cs.length = 7 := by cases h; rfl
theorem NodeL.is {W0 : World} {L : List (Nat × Obj)} {n : Nd} {cs : List Value} (h : NodeL W0 L n cs) {X Y : List Nat} {w0 w : World} {K : List (Nat × Obj)} (hB : Below W0.heap.size W0 w) (hk : Kn X w0 w K) (hs : ∀ p ∈ L, p ∈ K) (hY : ∀ p ∈ L, p.1 ∉ Y) (hY0 : ∀ y ∈ Y, W0.heap.size ≤ y) : NodeIs Y w n cs := by
 induction h with
 | mk kind name neg al ws rs ks va vw vr vk h1 h2 h3 h4 h5 h6 h7 h8 ih =>
  have hp : ∀ (ps : List Prt) (cs : List Value), cs ∈ ps.map ptc → cs ≠ [] := fun ps cs hcs => by obtain ⟨p, _, rfl⟩ := List.mem_map.1 hcs; simp [ptc]
  exact .mk kind name neg al ws rs ks va vw vr vk (h1.rowY (fun cs hcs => by obtain ⟨p, _, rfl⟩ := List.mem_map.1 hcs; simp [asc]) hB hk hs hY hY0) (fun x hx => RowM.rowY (h2 x hx) (hp _) hB hk hs hY hY0)
   (h3.rowY (fun cs hcs => by obtain ⟨p, _, rfl⟩ := List.mem_map.1 hcs; simp) hB hk hs hY hY0) (fun x hx => RowM.rowY (h4 x hx) (hp _) hB hk hs hY hY0)
   (h5.rowY (fun cs hcs => by obtain ⟨p, _, rfl⟩ := List.mem_map.1 hcs; simp [rsc]) hB hk hs hY hY0) (fun x hx => RowM.rowY (h6 x hx) (hp _) hB hk hs hY hY0)
   (h7.rowY (fun cs hcs => by obtain ⟨p, hp, rfl⟩ := List.mem_map.1 hcs; exact (h8 p hp).ne) hB hk hs hY hY0) ih
/-- What a parser of a node answers: the node's memory is a list of known blocks. -/
def NOut (W0 : World) (b d : Nat) (g o cap : Nat) (tvs : List (Tok × Value)) (w : World) (p : PR Nd) (e : Ending) (w' : World) : Prop := match p with
 | .ok a r => ∃ (nm : ByteArray) (aa : Option Addr) (na : Nat) (ca : Nat) (aw : Option Addr) (nw : Nat) (cw : Nat) (ar : Option Addr) (nr : Nat) (cr : Nat) (ak : Option Addr) (nk : Nat) (ck : Nat) (LN : List (Nat × Obj)) (j : Nat) (vj : Value), e = .returned (.agg #[.int .i64 (a.kind : Int), .string nm, .bool a.neg, .slice aa na ca, .slice aw nw cw, .slice ar nr cr, .slice ak nk ck]) ∧ Hid (NodeL W0 LN a [.int .i64 (a.kind : Int), .string nm, .bool a.neg, .slice aa na ca, .slice aw nw cw, .slice ar nr cr, .slice ak nk ck]) ∧ Hid (AtV g o cap tvs j vj ∧ r = (TT tvs).drop j) ∧ Kn [b] w w' ((b, .cells #[vj, .int .i64 (d : Int)] 73 (0, 0)) :: LN)
 | .bad er m => ∃ vj dj, e = .panicked [{ v := .iface 70 (.agg #[.int .i64 (ecode er), .int .i64 (lineAt tvs m)]), recovered := false }] ∧ Kn [b] w w' [(b, .cells #[vj, .int .i64 dj] 73 (0, 0))]
theorem RowM.val {k : Nat} {W0 : World} {L : List (Nat × Obj)} {v : Value} {xs : List (List Value)} (h : RowM k W0 L v xs) : ∃ ao cap, v = .slice ao xs.length cap := by
 obtain ⟨ao, cap, h1, _⟩ := h; exact ⟨ao, cap, h1⟩
/-- Fewer blocks, in another order. -/
theorem Kn.perml {X : List Nat} {w0 W : World} {L L' : List (Nat × Obj)} (h : Kn X w0 W L) (hp : ∀ p : Nat × Obj → Bool, L'.countP p ≤ L.countP p) : Kn X w0 W L' := by
 classical
 refine h.pick (fun q hq => ?_) (List.nodup_iff_count.2 fun k => ?_)
 ·have h1 := hp (fun x => decide (x = q))
  have h2 : 0 < L'.countP (fun x => decide (x = q)) := List.countP_pos_iff.2 ⟨q, hq, by simp⟩
  obtain ⟨x, hx, e⟩ := List.countP_pos_iff.1 (Nat.lt_of_lt_of_le h2 h1)
  rw [← of_decide_eq_true e]; exact hx
 ·have h1 := hp (fun x => x.1 == k)
  have h2 : ∀ l : List (Nat × Obj), (keys l).count k = l.countP (fun x => x.1 == k) := fun l => by
   unfold List.count keys; rw [List.countP_map]; rfl
  have h3 := List.nodup_iff_count.1 h.nd k
  have h4 := h2 L
  have h5 := h2 L'
  unfold keys at h4 h5 ⊢
  omega
/-- A call that left more blocks: they go to the others. -/
theorem Kn.kid {X : List Nat} {w0 W : World} {LN M R : List (Nat × Obj)} (h : Kn X w0 W (LN ++ (M ++ R))) : Kn X w0 W (M ++ (LN ++ R)) := h.perm fun p => by simp only [List.countP_append]; omega
end Go.Proofs.YtgboffbbpmileaaGreatDoor
