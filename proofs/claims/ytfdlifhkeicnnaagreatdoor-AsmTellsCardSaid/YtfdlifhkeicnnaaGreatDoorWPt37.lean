/- Lemmas and walks for the law LawTells (part 37). -/
import Derived.Test.YtfdlifhkeicnnaaGreatDoorWPt36
import Derived.Test.YtfdlifhkeicnnaaGreatDoorProg
import Derived.WalkKit
import Derived.Handy
import Derived.Deep.Light
import Derived.WalkSmall
import Derived.StillTailTactics
import Derived.Lib.Hide
import Derived.Laws.BytesArg
import Derived.IntWalk
set_option maxRecDepth 20000
set_option maxHeartbeats 4000000
set_option linter.unusedVariables false
set_option linter.unusedSimpArgs false
namespace Go.Proofs.YtfdlifhkeicnnaaGreatDoor
open Go Go.RowKit
/-- The bytes that a statement adds. -/
noncomputable def oneR (L : Labs) (x : Stm) (at_ : Nat) : Rs Bytes := match OO.find x.op with
  | some op => (instr OO L x at_ op true).bind fun i => if OO.valid op i.1 i.2.1 i.2.2 then .ok (OO.enc op i.1 i.2.1 i.2.2) else .bad 3
  | none => if x.op = [] then .ok [] else direct OO L x true
def OneP (r : Rs Bytes) (w : World) (e : Ending) (w' : World) : Prop := e = (match r with
 | .ok b => Ending.returned (.tuple #[.string ⟨b.toArray⟩, .int .i64 0])
 | .bad m => Ending.returned (.tuple #[.string ⟨#[]⟩, .int .i64 (m : Int)])) ∧ Below w.heap.size w w'
theorem find_lt {s : Bytes} {op : Nat} (h : OO.find s = some op) : op < 32 ∧ findI ⟨s.toArray⟩ = (op : Int) := by
 have h2 : (if 0 ≤ findI ⟨s.toArray⟩ then some (findI ⟨s.toArray⟩).toNat else none) = some op := h
 split at h2
 ·rename_i h0
  injection h2 with h2
  have := findI_lt ⟨s.toArray⟩
  exact ⟨by omega, by omega⟩
 ·cases h2
theorem refFind_yes {s : ByteArray} {op : Nat} (h : OO.find s.data.toList = some op) (W : World) : Calls Tryz.prog 45 #[.string s] W fun e w' => e = .returned (.tuple #[.int .i64 (op : Int), .bool true]) ∧ Below W.heap.size W w' := by
 have h1 := (find_lt h).2
 rw [toList_mk] at h1
 refine (refFind_any s W).mono fun e w' h2 => ⟨?_, h2.2⟩
 rw [h2.1, h1]
 have e1 : max (op : Int) 0 = op := by omega
 have e2 : decide (0 ≤ (op : Int)) = true := by simp
 rw [e1, e2]
theorem refFind_no {s : ByteArray} (h : OO.find s.data.toList = none) (W : World) : Calls Tryz.prog 45 #[.string s] W fun e w' => e = .returned (.tuple #[.int .i64 0, .bool false]) ∧ Below W.heap.size W w' := by
 have h2 : (if 0 ≤ findI ⟨s.data.toList.toArray⟩ then some (findI ⟨s.data.toList.toArray⟩).toNat else none) = none := h
 rw [toList_mk] at h2
 have h3 : ¬ 0 ≤ findI s := by
  split at h2
  ·cases h2
  ·rename_i h0; exact h0
 refine (refFind_any s W).mono fun e w' h2 => ⟨?_, h2.2⟩
 rw [h2.1]
 have e1 : max (findI s) 0 = 0 := by omega
 have e2 : decide (0 ≤ findI s) = false := decide_eq_false h3
 rw [e1, e2]
theorem one_ins (vl vo v : Value) (sop : ByteArray) (ls ops : List Bytes) (at_ op : Nat) (L : Labs) (hf : OO.find sop.data.toList = some op) (hsz : ∀ p ∈ ops, p.length ≤ 90000) (hol : ops.length ≤ 100000) (hat : at_ ≤ 100000) (hn : L.length ≤ 100000) (hLn : Hid (∀ p ∈ L, p.2 ≤ 100000)) (w : World) (hvo : Row w vo (sv ops)) (hv : LRow w v L) : Calls Tryz.prog 49 #[.agg #[vl, .string sop, vo, .int .i64 (at_ : Int)], v] w (OneP (oneR L ⟨ls, sop.data.toList, ops⟩ at_) w) := by
 have HFI := Lib.hid (fun W => refFind_yes hf W)
 have HIN := Lib.hid (fun W (h1 : Row W vo (sv ops)) (h2 : LRow W v L) => refIns_is vl vo v sop ls ops at_ op L false (find_lt hf).1 hsz hol hat hn hLn W h1 h2)
 have HVO := Lib.hid hvo
 have HV := Lib.hid hv
 rw [show oneR L ⟨ls, sop.data.toList, ops⟩ at_ = ((instr OO L ⟨ls, sop.data.toList, ops⟩ at_ op true).bind fun i => if OO.valid op i.1 i.2.1 i.2.2 then .ok (OO.enc op i.1 i.2.1 i.2.2) else .bad 3) by unfold oneR; rw [hf]]
 unfold InsRP at HIN
 obtain ⟨oo, ho⟩ : ∃ o : Int, (op : Int) = o := ⟨_, rfl⟩
 cases hI : instr OO L ⟨ls, sop.data.toList, ops⟩ at_ op true with
 | bad m =>
  rw [Bool.not_false, hI] at HIN
  simp only [Rs.bind] at HIN ⊢
  rw [ho] at HFI HIN
  have hm0 : ((m : Int) != 0) = true := bne_iff_ne.2 (by have := pos_instr OO L _ at_ op true m hI; omega)
  clear hvo hv hsz hI ho hf
  have hL : Kn [] w w [] := Kn.refl [] w; have hF := hL.fx; go_enter Tryz.func49, Tryz.ntmps49
  go_wp2_with (first | (go_at_call 45; refine kc (fun W hL => HFI.out _) ?_; clear hF hL; intro W hL hF) | (go_at_call 48; refine kG ?_; clear hF hL; intro W hL hF; (with_reducible refine (HIN.out _ (HVO.out.kn hL (by simp)) (HV.out.kn hL)).mono ?_); rintro e W ⟨⟨va, vb, vc, vd, rfl⟩, hb⟩; replace hL := hL.below hb; clear hb hF; have hF := hL.fx))
  refine bodyPost_ret (by simp [results, Tryz.results49, go_sem, *]; try rfl) rfl ?_
  exact ⟨rfl, kn_here.below0⟩
 | ok i =>
  obtain ⟨a, b, c⟩ := i
  rw [Bool.not_false, hI] at HIN
  simp only [Rs.bind] at HIN ⊢
  have HIN2 := Lib.hid (fun W (h1 : Row W vo (sv ops)) (h2 : LRow W v L) => (HIN.out W h1 h2).mono (R' := fun e w' => e = .returned (.tuple #[.agg #[.int .i64 (op : Int), .int .i64 a, .int .i64 b, .int .i64 c], .int .i64 0]) ∧ Below W.heap.size W w') fun e w' ⟨⟨b', hb, he⟩, h3⟩ => ⟨by rw [he, show b' = b from by (exact hb trivial)], h3⟩)
  have HVA := Lib.hid (fun W => refValid_any (op : Int) a b c W)
  have HEN := Lib.hid (fun W => refEncode_any (op : Int) a b c W)
  have hvd : OO.valid op a b c = valid (op : Int) a b c := rfl
  have hen : OO.enc op a b c = (encS (op : Int) a b c).data.toList := rfl
  rw [hvd, hen]
  rw [ho] at HFI HIN2 HVA HEN ⊢
  clear HIN hvd hen hvo hv hsz hI ho hf
  cases hvv : valid oo a b c with
  | true =>
   rw [hvv] at HVA
   simp only [if_true]
   rw [show OneP (.ok (encS oo a b c).data.toList) w = fun e w' => e = .returned (.tuple #[.string (encS oo a b c), .int .i64 0]) ∧ Below w.heap.size w w' from by funext e w'; unfold OneP; simp only [toList_mk]]
   have hL : Kn [] w w [] := Kn.refl [] w; have hF := hL.fx; go_enter Tryz.func49, Tryz.ntmps49
   go_wp2_with (first | (go_at_call 45; refine kc (fun W hL => HFI.out _) ?_; clear hF hL; intro W hL hF) | (go_at_call 48; refine kc (fun W hL => HIN2.out _ (HVO.out.kn hL (by simp)) (HV.out.kn hL)) ?_; clear hF hL; intro W hL hF) | (go_at_call 79; refine kc (fun W hL => HVA.out _) ?_; clear hF hL; intro W hL hF) | (go_at_call 80; refine kc (fun W hL => HEN.out _) ?_; clear hF hL; intro W hL hF))
   refine bodyPost_ret (by simp [results, Tryz.results49, go_sem, *]; try rfl) rfl ?_
   exact ⟨rfl, kn_here.below0⟩
  | false =>
   rw [hvv] at HVA
   simp only [Bool.false_eq_true, if_false]
   have hL : Kn [] w w [] := Kn.refl [] w; have hF := hL.fx; go_enter Tryz.func49, Tryz.ntmps49
   go_wp2_with (first | (go_at_call 45; refine kc (fun W hL => HFI.out _) ?_; clear hF hL; intro W hL hF) | (go_at_call 48; refine kc (fun W hL => HIN2.out _ (HVO.out.kn hL (by simp)) (HV.out.kn hL)) ?_; clear hF hL; intro W hL hF) | (go_at_call 79; refine kc (fun W hL => HVA.out _) ?_; clear hF hL; intro W hL hF))
   refine bodyPost_ret (by simp [results, Tryz.results49, go_sem, *]; try rfl) rfl ?_
   exact ⟨rfl, kn_here.below0⟩
theorem conv_zeros (W : World) (n : Nat) : (convert 47 9 (.slice (some ⟨W.heap.size, 0, none⟩) n n)).run Tryz.prog (W.alloc (.cells (bc (List.replicate n 0)).toArray 5)) = .ok (.string ⟨(List.replicate n (0 : UInt8)).toArray⟩) (W.alloc (.cells (bc (List.replicate n 0)).toArray 5)) := by
 have h := run_convert_bytes_arg (P := Tryz.prog) (W.alloc (.cells (bc (List.replicate n 0)).toArray 5)) 47 5 Tryz.underlying47 Tryz.underlying5 W.heap.size 0 n n (List.replicate n 0) List.length_replicate (fun i hi => by
  rw [World.cell?_alloc_new, Nat.zero_add, List.getElem?_toArray]
  simp [bc, hi]) 9 Tryz.underlying9
 rw [h]
 have e : strOfNums (List.replicate n 0) = ⟨(List.replicate n (0 : UInt8)).toArray⟩ := by
  apply ba_ext
  simp [strOfNums]
 rw [e]
theorem one_t (vl vo v : Value) (sop : ByteArray) (ls ops : List Bytes) (at_ : Nat) (L : Labs) (hsz : ∀ p ∈ ops, p.length ≤ 90000) (hol : ops.length ≤ 20000) (hn : L.length ≤ 100000) (hLn : Hid (∀ p ∈ L, p.2 ≤ 100000)) (hLU : Hid (∀ (i j : Nat) (p q : Bytes × Nat), L[i]? = some p → L[j]? = some q → p.1 = q.1 → p = q)) (w : World) (hvo : Row w vo (sv ops)) (hv : LRow w v L) (hso : sop.data.toList = dText) (hok : ∃ b, direct OO [] ⟨ls, dText, ops⟩ false = .ok b) : Calls Tryz.prog 49 #[.agg #[vl, .string sop, vo, .int .i64 (at_ : Int)], v] w (OneP (oneR L ⟨ls, sop.data.toList, ops⟩ at_) w) := by
 obtain rfl : sop = ⟨#[46, 116, 101, 120, 116]⟩ := ba_ext hso
 have hop : (⟨#[46, 116, 101, 120, 116]⟩ : ByteArray).data.toList = dText := rfl
 rw [hop]
 have HFI := Lib.hid (fun W => refFind_no (s := ⟨#[46, 116, 101, 120, 116]⟩) (OO_fine.dir dText (by decide)) W)
 obtain ⟨b, hb⟩ := hok
 have hlen : ops.length = 1 := by
  unfold direct at hb
  rw [if_neg (show ¬ dText = dByte by decide), if_neg (show ¬ dText = dWord by decide), if_pos rfl] at hb
  split at hb
  ·rename_i s hs; simp only at hs; rw [hs]; rfl
  ·cases hb
 obtain ⟨o1, rfl⟩ : ∃ o1, ops = [o1] := by
  match ops, hlen with
  | [o1], _ => exact ⟨o1, rfl⟩
 obtain ⟨ao, cap, rfl, hc⟩ := row_open hvo
 obtain ⟨g, og, rfl, hg, _⟩ := hc 0 o1 rfl
 obtain ⟨s, rfl⟩ : ∃ s : ByteArray, o1 = s.data.toList := ⟨⟨o1.toArray⟩, by simp⟩
 obtain ⟨_, _, e1, _, c1⟩ := hc 0 s.data.toList rfl
 cases e1
 rw [toList_mk, Nat.add_zero] at c1
 have z1 := hsz s.data.toList (by simp)
 rw [szl] at z1
 have hd : direct OO L ⟨ls, dText, [s.data.toList]⟩ true = .ok b := by
  rw [← hb]; unfold direct
  rw [if_neg (show ¬ dText = dByte by decide), if_neg (show ¬ dText = dWord by decide), if_pos rfl]
  (rfl)
 rw [show oneR L ⟨ls, dText, [s.data.toList]⟩ at_ = .ok b from by unfold oneR; rw [show OO.find (⟨ls, dText, [s.data.toList]⟩ : Stm).op = none from OO_fine.dir dText (by decide)]; simp only; rw [if_neg (show ¬ dText = [] by decide)]; exact hd]
 clear hd hc hsz hso hlen hop hvo
 have hu : unqB s.data.toList = some b := by
  unfold direct at hb
  rw [if_neg (show ¬ dText = dByte by decide), if_neg (show ¬ dText = dWord by decide), if_pos rfl] at hb
  simp only at hb
  cases h : OO.unq s.data.toList with
  | none => rw [h] at hb; cases hb
  | some u => rw [h] at hb; cases hb; exact h
 obtain ⟨ub, hub⟩ := ba_of b
 subst hub
 have HU := Lib.hid (fun W => refUnq_some (s := s) (by omega) hu W)
 clear hb hu hv
 unfold OneP
 simp only [toList_mk]
 have hL : Kn [] w w [] := Kn.refl [] w; have hF := hL.fx; go_enter Tryz.func49, Tryz.ntmps49
 go_wp2_with (first | (go_at_call 45; refine kc (fun W hL => HFI.out _) ?_; clear hF hL; intro W hL hF) | (go_at_call 73; refine kc (fun W hL => HU.out _) ?_; clear hF hL; intro W hL hF))
 refine bodyPost_ret (by simp [results, Tryz.results49, go_sem, *]; try rfl) rfl ?_
 exact ⟨rfl, kn_here.below0⟩
theorem one_s (vl vo v : Value) (sop : ByteArray) (ls ops : List Bytes) (at_ : Nat) (L : Labs) (hsz : ∀ p ∈ ops, p.length ≤ 90000) (hol : ops.length ≤ 20000) (hn : L.length ≤ 100000) (hLn : Hid (∀ p ∈ L, p.2 ≤ 100000)) (hLU : Hid (∀ (i j : Nat) (p q : Bytes × Nat), L[i]? = some p → L[j]? = some q → p.1 = q.1 → p = q)) (w : World) (hvo : Row w vo (sv ops)) (hv : LRow w v L) (hso : sop.data.toList = dSpace) (hok : ∃ b, direct OO [] ⟨ls, dSpace, ops⟩ false = .ok b) : Calls Tryz.prog 49 #[.agg #[vl, .string sop, vo, .int .i64 (at_ : Int)], v] w (OneP (oneR L ⟨ls, sop.data.toList, ops⟩ at_) w) := by
 obtain rfl : sop = ⟨#[46, 115, 112, 97, 99, 101]⟩ := ba_ext hso
 have hop : (⟨#[46, 115, 112, 97, 99, 101]⟩ : ByteArray).data.toList = dSpace := rfl
 rw [hop]
 have HFI := Lib.hid (fun W => refFind_no (s := ⟨#[46, 115, 112, 97, 99, 101]⟩) (OO_fine.dir dSpace (by decide)) W)
 obtain ⟨b, hb⟩ := hok
 have hlen : ops.length = 1 := by
  unfold direct at hb
  rw [if_neg (show ¬ dSpace = dByte by decide), if_neg (show ¬ dSpace = dWord by decide), if_neg (show ¬ dSpace = dText by decide)] at hb
  split at hb
  ·rename_i s hs; simp only at hs; rw [hs]; rfl
  ·cases hb
 obtain ⟨o1, rfl⟩ : ∃ o1, ops = [o1] := by
  match ops, hlen with
  | [o1], _ => exact ⟨o1, rfl⟩
 obtain ⟨ao, cap, rfl, hc⟩ := row_open hvo
 obtain ⟨g, og, rfl, hg, _⟩ := hc 0 o1 rfl
 obtain ⟨s, rfl⟩ : ∃ s : ByteArray, o1 = s.data.toList := ⟨⟨o1.toArray⟩, by simp⟩
 obtain ⟨_, _, e1, _, c1⟩ := hc 0 s.data.toList rfl
 cases e1
 rw [toList_mk, Nat.add_zero] at c1
 have z1 := hsz s.data.toList (by simp)
 rw [szl] at z1
 have hd : direct OO L ⟨ls, dSpace, [s.data.toList]⟩ true = .ok b := by
  rw [← hb]; unfold direct
  rw [if_neg (show ¬ dSpace = dByte by decide), if_neg (show ¬ dSpace = dWord by decide), if_neg (show ¬ dSpace = dText by decide)]
  (rfl)
 rw [show oneR L ⟨ls, dSpace, [s.data.toList]⟩ at_ = .ok b from by unfold oneR; rw [show OO.find (⟨ls, dSpace, [s.data.toList]⟩ : Stm).op = none from OO_fine.dir dSpace (by decide)]; simp only; rw [if_neg (show ¬ dSpace = [] by decide)]; exact hd]
 clear hd hc hsz hso hlen hop hvo
 obtain ⟨n, hcn, hn0, hbn⟩ : ∃ n : Nat, canon s.data.toList = some (n : Int) ∧ n ≤ 4096 ∧ b = List.replicate n 0 := by
  unfold direct at hb
  rw [if_neg (show ¬ dSpace = dByte by decide), if_neg (show ¬ dSpace = dWord by decide), if_neg (show ¬ dSpace = dText by decide)] at hb
  simp only at hb
  unfold number at hb
  cases h : OO.int s.data.toList with
  | none => rw [h] at hb; cases hb
  | some z =>
   rw [h] at hb
   simp only at hb
   by_cases hz : 0 ≤ z ∧ z ≤ 4096
   ·rw [if_pos hz] at hb
    cases hb
    refine ⟨z.toNat, ?_, by omega, rfl⟩
    rw [Int.toNat_of_nonneg hz.1]; exact h
   ·rw [if_neg hz] at hb; cases hb
 have HNU := Lib.hid (fun W => refNum_some s (by omega) (n : Int) hcn W)
 have hmk := make_bytes n (by omega)
 have hcv := fun W => conv_zeros W n
 obtain ⟨zb, hzb⟩ := ba_of b
 rw [show (⟨(List.replicate n (0 : UInt8)).toArray⟩ : ByteArray) = zb from ba_ext (by rw [hzb, hbn])] at hcv
 subst hzb
 clear hb hcn hbn hv
 unfold OneP
 simp only [toList_mk]
 have hL : Kn [] w w [] := Kn.refl [] w; have hF := hL.fx; go_enter Tryz.func49, Tryz.ntmps49
 go_wp2_with (first | (go_at_call 45; refine kc (fun W hL => HFI.out _) ?_; clear hF hL; intro W hL hF) | (go_at_call 74; refine kc (fun W hL => HNU.out _) ?_; clear hF hL; intro W hL hF))
 refine bodyPost_ret (by simp [results, Tryz.results49, go_sem, *]; try rfl) rfl ?_
 exact ⟨rfl, kn_here.below0⟩
theorem u8_mod (n : Int) : IntKind.u8.wrap (n % 256) = ((byteOf n).toNat : Int) := by
 rw [u8_wrap]; unfold byteOf
 rw [Int.emod_emod_of_dvd _ (Int.dvd_refl 256)]
def valB (s : Bytes) : Int := (canon s).getD 0
def valW (L : Labs) (s : Bytes) : Int := if named s then (((look L s).getD 0 : Nat) : Int) else (canon s).getD 0
theorem flat_one (f : Bytes → UInt8) (l : List Bytes) : l.flatMap (fun s => [f s]) = l.map f := by
 induction l with
 | nil => rfl
 | cons a l ih => rw [List.flatMap_cons, ih]; rfl
theorem mapR_full {α : Type} {f : Bytes → Rs α} {v : Bytes → α} : ∀ {l : List Bytes}, (∀ (j : Nat) p, l[j]? = some p → f p = .ok (v p)) → mapR f l = .ok (l.map v)
 | [], _ => rfl
 | s :: l, h => by
  unfold mapR
  rw [h 0 s rfl, mapR_full (l := l) fun j p hp => h (j + 1) p (by simpa using hp)]
  rfl
theorem mapR_stop4 {α : Type} {f : Bytes → Rs α} : ∀ {l : List Bytes}, (∀ s ∈ l, f s = .bad 4 ∨ ∃ a, f s = .ok a) → ∀ {s : Bytes}, s ∈ l → f s = .bad 4 → mapR f l = .bad 4
 | [], _, _, hs, _ => by cases hs
 | a :: l, h, s, hs, hb => by
  unfold mapR
  rcases h a List.mem_cons_self with ha | ⟨z, ha⟩
  ·rw [ha]
  ·rw [ha]
   rcases List.mem_cons.1 hs with rfl | hs
   ·rw [ha] at hb; cases hb
   ·rw [mapR_stop4 (fun x hx => h x (List.mem_cons_of_mem _ hx)) hs hb]
theorem mapR_mem {α : Type} {f : Bytes → Rs α} : ∀ {l : List Bytes} {r : List α}, mapR f l = .ok r → ∀ s ∈ l, ∃ a, f s = .ok a
 | [], _, _, s, hs => by cases hs
 | a :: l, r, h, s, hs => by
  unfold mapR at h
  cases ha : f a with
  | bad e => rw [ha] at h; cases h
  | ok z =>
   rw [ha] at h
   simp only at h
   cases hl : mapR f l with
   | bad e => rw [hl] at h; cases h
   | ok bs =>
    rcases List.mem_cons.1 hs with rfl | hs
    ·exact ⟨z, ha⟩
    ·exact mapR_mem hl s hs
theorem look_ex {L : Labs} {s : Bytes} {n : Nat} (h : look L s = some n) : ∃ (j : Nat) (q : Bytes × Nat), L[j]? = some q ∧ q.1 = s ∧ q.2 = n := by
 unfold look at h
 obtain ⟨q, hq, h2⟩ := Option.map_eq_some_iff.1 h
 obtain ⟨j, hj⟩ := List.getElem?_of_mem (List.mem_of_find?_eq_some hq)
 have := List.find?_some hq
 exact ⟨j, q, hj, beq_iff_eq.1 this, h2⟩
theorem dirB_ok {ls ops : List Bytes} (h : ∃ b, direct OO [] ⟨ls, dByte, ops⟩ false = .ok b) : ops ≠ [] ∧ ∀ s ∈ ops, ∃ z, number OO s (-128) 255 = .ok z := by
 obtain ⟨b, h⟩ := h
 unfold direct at h
 rw [if_pos rfl] at h
 split at h
 ·cases h
 ·rename_i h0
  refine ⟨fun e => h0 (.inl e), ?_⟩
  cases hm : mapR (fun s => number OO s (-128) 255) ops with
  | bad e => simp only [hm] at h; cases h
  | ok l => exact mapR_mem hm
theorem dirW_ok {ls ops : List Bytes} (h : ∃ b, direct OO [] ⟨ls, dWord, ops⟩ false = .ok b) : ops ≠ [] ∧ ∀ s ∈ ops, ∃ z, wf [] false s = .ok z := by
 obtain ⟨b, h⟩ := h
 unfold direct at h
 rw [if_neg (show ¬ dWord = dByte by decide), if_pos rfl] at h
 split at h
 ·cases h
 ·rename_i h0
  refine ⟨fun e => h0 (.inl e), ?_⟩
  cases hm : mapR (wf [] false) ops with
  | bad e =>
   have h2 : (match mapR (wf [] false) ops with
    | .bad e => (.bad e : Rs Bytes)
    | .ok l => .ok (l.flatMap w4)) = .ok b := h
   rw [hm] at h2; cases h2
  | ok l => exact mapR_mem hm
theorem numB_ok {s : Bytes} {lo hi : Int} (h : ∃ z, number OO s lo hi = .ok z) : ∃ z, canon s = some z ∧ number OO s lo hi = .ok z := by
 obtain ⟨z, h⟩ := h
 have h2 := h
 unfold number at h
 cases hc : OO.int s with
 | none => rw [hc] at h; cases h
 | some m =>
  rw [hc] at h
  simp only at h
  split at h
  ·cases h; exact ⟨_, hc, h2⟩
  ·cases h
theorem wf_named {s : Bytes} (h : ∃ z, wf [] false s = .ok z) (hc : canon s = none) : named s = true := by
 obtain ⟨z, h⟩ := h
 cases hn : named s with
 | true => rfl
 | false =>
  unfold wf at h
  rw [hn, if_neg (by decide)] at h
  obtain ⟨y, hy, _⟩ := numB_ok ⟨z, h⟩
  rw [hc] at hy; cases hy
theorem wf_num {L : Labs} {s : Bytes} {z : Int} (h : ∃ z, wf [] false s = .ok z) (hc : canon s = some z) : valW L s = z ∧ wf L true s = .ok (valW L s) := by
 have hn : named s = false := by
  cases hn : named s with
  | false => rfl
  | true => have := named_int hn; rw [show OO.int s = canon s from rfl, hc] at this; cases this
 have e : valW L s = z := by unfold valW; rw [hn, if_neg (by decide), hc]; rfl
 refine ⟨e, ?_⟩
 obtain ⟨y, h⟩ := h
 unfold wf at h ⊢
 rw [hn, if_neg (by decide)] at h ⊢
 obtain ⟨y2, h1, h2⟩ := numB_ok ⟨y, h⟩
 rw [hc] at h1; cases h1
 rw [h2, e]
theorem wf_or (L : Labs) {s : Bytes} (h : ∃ z, wf [] false s = .ok z) : wf L true s = .bad 4 ∨ ∃ a, wf L true s = .ok a := by
 cases hn : named s with
 | true =>
  unfold wf; rw [hn, if_pos rfl]; unfold address; rw [hn, if_pos rfl]
  cases look L s with
  | none => exact .inl rfl
  | some n => exact .inr ⟨_, rfl⟩
 | false =>
  right
  obtain ⟨z, h⟩ := h
  unfold wf at h ⊢
  rw [hn, if_neg (by decide)] at h ⊢
  exact ⟨z, h⟩
theorem oneR_b {L : Labs} {ls ops : List Bytes} {at_ : Nat} (h0 : ops ≠ []) (h : ∀ s ∈ ops, ∃ z, number OO s (-128) 255 = .ok z) : oneR L ⟨ls, dByte, ops⟩ at_ = (match mapR (fun s => number OO s (-128) 255) ops with
  | .bad e => .bad e
  | .ok l => .ok (l.map byteOf)) := by
 unfold oneR
 rw [show OO.find (⟨ls, dByte, ops⟩ : Stm).op = none from OO_fine.dir dByte (by decide)]
 simp only
 rw [if_neg (show ¬ dByte = [] by decide)]
 unfold direct
 rw [if_pos rfl, if_neg (by
  rintro (h1 | h1)
  ·exact h0 h1
  ·obtain ⟨s, hs, hn⟩ := List.any_eq_true.1 h1
   obtain ⟨z, hz, _⟩ := numB_ok (h s hs)
   rw [show OO.int s = canon s from rfl, hz] at hn; cases hn)]
 rfl
theorem oneR_w {L : Labs} {ls ops : List Bytes} {at_ : Nat} (h0 : ops ≠ []) (h : ∀ s ∈ ops, ∃ z, wf [] false s = .ok z) : oneR L ⟨ls, dWord, ops⟩ at_ = (match mapR (wf L true) ops with
  | .bad e => .bad e
  | .ok l => .ok (l.flatMap w4)) := by
 unfold oneR
 rw [show OO.find (⟨ls, dWord, ops⟩ : Stm).op = none from OO_fine.dir dWord (by decide)]
 simp only
 rw [if_neg (show ¬ dWord = [] by decide)]
 unfold direct
 rw [if_neg (show ¬ dWord = dByte by decide), if_pos rfl, if_neg (by
  rintro (h1 | h1)
  ·exact h0 h1
  ·obtain ⟨s, hs, hn⟩ := List.any_eq_true.1 h1
   rw [Bool.and_eq_true, Bool.not_eq_true'] at hn
   have := wf_named (h s hs) (Option.isNone_iff_eq_none.1 hn.1)
   rw [hn.2] at this; cases this)]
 rfl
theorem cat_list (x y : ByteArray) : (x ++ y).data.toList = x.data.toList ++ y.data.toList := by rw [ByteArray.data_append, Array.toList_append]
theorem one_b (vl vo v : Value) (sop : ByteArray) (ls ops : List Bytes) (at_ : Nat) (L : Labs) (hsz : ∀ p ∈ ops, p.length ≤ 90000) (hol : ops.length ≤ 20000) (hn : L.length ≤ 100000) (hLn : Hid (∀ p ∈ L, p.2 ≤ 100000)) (hLU : Hid (∀ (i j : Nat) (p q : Bytes × Nat), L[i]? = some p → L[j]? = some q → p.1 = q.1 → p = q)) (w : World) (hvo : Row w vo (sv ops)) (hv : LRow w v L) (hso : sop.data.toList = dByte) (hok : ∃ b, direct OO [] ⟨ls, dByte, ops⟩ false = .ok b) : Calls Tryz.prog 49 #[.agg #[vl, .string sop, vo, .int .i64 (at_ : Int)], v] w (OneP (oneR L ⟨ls, sop.data.toList, ops⟩ at_) w) := by
 obtain rfl : sop = ⟨#[46, 98, 121, 116, 101]⟩ := ba_ext hso
 have hop : (⟨#[46, 98, 121, 116, 101]⟩ : ByteArray).data.toList = dByte := rfl
 rw [hop]
 have hcv1 := conv1
 have hcv4 := @conv4
 have HFI := Lib.hid (fun W => refFind_no (s := ⟨#[46, 98, 121, 116, 101]⟩) (OO_fine.dir dByte (by decide)) W)
 obtain ⟨hne0, hall⟩ := dirB_ok hok
 have hne : ops.length ≠ 0 := fun h => hne0 (List.eq_nil_of_length_eq_zero h)
 obtain ⟨R, hR⟩ : ∃ R, oneR L ⟨ls, dByte, ops⟩ at_ = R := ⟨_, rfl⟩
 have HR := Lib.hid (show (match mapR (fun s => number OO s (-128) 255) ops with
   | .bad e => (.bad e : Rs Bytes)
   | .ok l => .ok (l.map byteOf)) = R from by rw [← hR]; exact (oneR_b hne0 hall).symm)
 rw [hR]
 have HALL := Lib.hid hall
 obtain ⟨ao, cap, rfl, hc⟩ := row_open hvo
 obtain ⟨p0, hp0⟩ : ∃ p, ops[0]? = some p := ⟨_, List.getElem?_eq_getElem (by omega)⟩
 obtain ⟨g, o, rfl, hg1, _⟩ := hc 0 _ hp0
 have HC := Lib.hid (show ∀ (j : Nat) p, ops[j]? = some p → w.cell? ⟨g, o + j, none⟩ = some (.string ⟨p.toArray⟩) from fun j p hp => by
  obtain ⟨g', o', e, _, h2⟩ := hc j p hp
  cases e; exact h2)
 have HSZ := Lib.hid hsz
 obtain ⟨n, hln⟩ : ∃ n, ops.length = n := ⟨_, rfl⟩
 rw [hln] at hol hne ⊢
 have HLN := Lib.hid hln
 have HV := Lib.hid hv
 clear hc hvo hp0 hsz hln hop hso hok hall hR hne0 hv
 have hL : Kn [] w w [] := Kn.refl [] w; have hF := hL.fx; go_enter Tryz.func49, Tryz.ntmps49
 go_wp2_with ((go_at_call 45; refine kc (fun W hL => HFI.out _) ?_; clear hF hL; intro W hL hF))
 go_loopw [14, 15, 16, 17] (fun a i b c wr => ∃ (k : Nat) (zz : ByteArray), k ≤ n ∧ a = .string zz ∧ i = .int .i64 k ∧ zz.size = 1 * k ∧ Hid (zz.data.toList = (ops.take k).flatMap (fun s => [byteOf (valB s)])) ∧ Hid (∀ j, j < k → ∀ p, ops[j]? = some p → (fun s => number OO s (-128) 255) p = .ok (valB p)) ∧ Kn [] w wr [(w.heap.size, .cells #[vl, .string ⟨#[46, 98, 121, 116, 101]⟩, .slice (some ⟨g, o, none⟩) n cap, .int .i64 (at_ : Int)] 85 (0, 0))]) (fun _ i _ _ _ => n - (intOf i).toNat)
 case atStart => exact ⟨0, ⟨#[]⟩, by omega, rfl, rfl, rfl, Lib.hid rfl, Lib.hid (fun j hj => by omega), kn_here⟩
 case round =>
  clear hL
  clear hF
  obtain ⟨k, zz, hk, rfl, rfl, hzs, HZZ, HI, hL⟩ := hrel
  have hF := hL.fx
  by_cases hlt : k < n
  ·have hmax : IntKind.i64.max = 9223372036854775807 := by decide
   have mm1 : ∀ c : UInt8, ¬ IntKind.i64.max < ((zz.size + (⟨#[c]⟩ : ByteArray).size : Nat) : Int) := fun c => by rw [hmax, show (⟨#[c]⟩ : ByteArray).size = 1 from rfl]; omega
   have mm4 : ∀ c d e f : UInt8, ¬ IntKind.i64.max < ((zz.size + (⟨#[c, d, e, f]⟩ : ByteArray).size : Nat) : Int) := fun c d e f => by rw [hmax, show (⟨#[c, d, e, f]⟩ : ByteArray).size = 4 from rfl]; omega
   clear hmax
   obtain ⟨p, hp⟩ : ∃ p, ops[k]? = some p := ⟨_, List.getElem?_eq_getElem (by rw [HLN.out]; omega)⟩
   have hck := HC.out k p hp
   have hps := HSZ.out p (List.mem_of_getElem? hp)
   have HA := Lib.hid (HALL.out p (List.mem_of_getElem? hp))
   obtain ⟨s, rfl⟩ : ∃ s : ByteArray, p = s.data.toList := ⟨⟨p.toArray⟩, by simp⟩
   rw [toList_mk] at hck
   rw [szl] at hps
   have HP := Lib.hid hp
   clear hp
   obtain ⟨z, hcn, hz⟩ := numB_ok HA.out
   have HNU := Lib.hid (fun W => refNum_some s (by omega) z hcn W)
   have HVAL := Lib.hid (show valB s.data.toList = z from by unfold valB; rw [hcn]; rfl)
   have HOKS := Lib.hid (show number OO s.data.toList (-128) 255 = .ok (valB s.data.toList) from by rw [HVAL.out]; exact hz)
   clear hcn hz
   have ha0 := and255 z
   have ha1 := and255 (z / 256)
   have ha2 := and255 (z / 65536)
   have ha3 := and255 (z / 16777216)
   obtain ⟨b0, hb0⟩ : ∃ c, byteOf z = c := ⟨_, rfl⟩
   obtain ⟨b1, hb1⟩ : ∃ c, byteOf (z / 256) = c := ⟨_, rfl⟩
   obtain ⟨b2, hb2⟩ : ∃ c, byteOf (z / 65536) = c := ⟨_, rfl⟩
   obtain ⟨b3, hb3⟩ : ∃ c, byteOf (z / 16777216) = c := ⟨_, rfl⟩
   have hw0 := (u8_mod z).trans (show ((byteOf z).toNat : Int) = (b0.toNat : Int) by rw [hb0])
   have hw1 := (u8_mod (z / 256)).trans (show ((byteOf (z / 256)).toNat : Int) = (b1.toNat : Int) by rw [hb1])
   have hw2 := (u8_mod (z / 65536)).trans (show ((byteOf (z / 65536)).toNat : Int) = (b2.toNat : Int) by rw [hb2])
   have hw3 := (u8_mod (z / 16777216)).trans (show ((byteOf (z / 16777216)).toNat : Int) = (b3.toNat : Int) by rw [hb3])
   have HBY := Lib.hid (show (fun s => [byteOf (valB s)]) s.data.toList = [b0] from by simp only [HVAL.out]; rw [hb0])
   clear hb0 hb1 hb2 hb3
   go_wp2_with ((go_at_call 74; refine kc (fun W hL => HNU.out _) ?_; clear hF hL; intro W hL hF))
   go_roundw
   case measure => simp [intOf]; omega
   case rel => exact ⟨k + 1, zz ++ ⟨#[b0]⟩, by omega, by (rfl), by go_num, by rw [ByteArray.size_append, hzs]; rfl, Lib.hid (by rw [cat_list, HZZ.out, List.take_add_one, HP.out, Option.toList_some, List.flatMap_append, List.flatMap_cons, List.flatMap_nil, List.append_nil]; exact congrArg (fun z => _ ++ z) HBY.out.symm), Lib.hid (fun j hj p hp => by
    rcases Nat.lt_or_ge j k with h | h
    ·exact HI.out j h p hp
    ·obtain rfl : j = k := by omega
     rw [HP.out] at hp; cases hp; exact HOKS.out), Kn.sub kn_here (by repeat (first | exact List.Sublist.refl _ | apply List.Sublist.cons))⟩
  ·obtain rfl : k = n := by omega
   have hB := HR.out
   rw [mapR_full (fun j p hp => HI.out j (by rw [← HLN.out]; exact (List.getElem?_eq_some_iff.1 hp).1) p hp)] at hB
   have hz2 := HZZ.out
   rw [List.take_of_length_le (by rw [HLN.out]; exact Nat.le_refl _)] at hz2
   have hB2 : R = .ok zz.data.toList := by rw [← hB, hz2]; simp [List.map_map, flat_one]
   subst hB2
   clear hB hz2 HR
   unfold OneP
   simp only [toList_mk]
   go_wp2_with ((with_reducible refine ks ?_); clear hL; intro W hL hF)
   refine bodyPost_ret (by simp [results, Tryz.results49, go_sem, *]; try rfl) rfl ?_
   exact ⟨rfl, kn_here.below0⟩
end Go.Proofs.YtfdlifhkeicnnaaGreatDoor
