/- Lemmas and walks for the law LawTells (part 35). -/
import Derived.Test.YtfdlifhkeicnnaaGreatDoorWPt34
import Derived.Test.YtfdlifhkeicnnaaGreatDoorProg
import Derived.WalkKit
import Derived.Handy
import Derived.Deep.Light
import Derived.WalkSmall
import Derived.StillTailTactics
import Derived.Lib.Hide
set_option maxRecDepth 20000
set_option maxHeartbeats 4000000
set_option linter.unusedVariables false
set_option linter.unusedSimpArgs false
namespace Go.Proofs.YtfdlifhkeicnnaaGreatDoor
open Go Go.RowKit
theorem ins_6 (vl v : Value) (sop s1 : ByteArray) (ls : List Bytes) (at_ op : Nat) (L : Labs) (first : Bool) (g og cap : Nat) (hs1 : s1.size ≤ 90000) (hat : at_ ≤ 100000) (hn : L.length ≤ 100000) (hLn : Hid (∀ p ∈ L, p.2 ≤ 100000)) (hfo : OO.form op = 6) (HFM : Hid (∀ W, Calls Tryz.prog 75 #[.int .i64 (op : Int)] W fun e w' => e = .returned (.int .i64 6) ∧ W = w')) (HMN : Hid (∀ W, Calls Tryz.prog 76 #[.int .i64 6] W fun e w' => e = .returned (.int .i64 1) ∧ W = w')) (w : World) (hg : g < w.heap.size) (c1 : w.cell? ⟨g, og, none⟩ = some (.string s1)) (hv : Hid (LRow w v L)) : Calls Tryz.prog 48 #[.agg #[vl, .string sop, .slice (some ⟨g, og, none⟩) 1 cap, .int .i64 (at_ : Int)], .int .i64 (op : Int), v, .bool first] w (InsRP first (instr OO L ⟨ls, sop.data.toList, [s1.data.toList]⟩ at_ op (!first)) op w) := by
 have HLA0 := Lib.hid (fun W (h : LRow W v L) => refLast_is vl (.slice (some ⟨g, og, none⟩) 1 cap) v sop s1 at_ op L first (by omega) hat hn hLn W h)
 unfold LastP LastQ at HLA0
 cases hr1 : target OO L at_ op s1.data.toList (!first) with
 | bad m =>
  have HLA := HLA0
  rw [hr1] at HLA
  simp only at HLA
  rw [instrR_6 hfo rfl]
  simp only [Rs.bind, hr1]
  clear HLA0 hr1
  obtain ⟨oo, ho⟩ : ∃ o : Int, (op : Int) = o := ⟨_, rfl⟩
  unfold InsRP
  simp only [ho] at HFM HLA ⊢
  clear hfo ho
  have hL : Kn [] w w [] := Kn.refl [] w; have hF := hL.fx; go_enter Tryz.func48, Tryz.ntmps48
  go_wp2_with (first | ((with_reducible refine ks ?_); clear hF hL; intro W hL hF) | (go_at_call 75; (with_reducible refine (HFM.out _).mono ?_); rintro e w' ⟨rfl, rfl⟩) | (go_at_call 76; refine kp (fun W hL => HMN.out _) ?_; clear hF hL; intro W hL hF) | ((with_reducible refine at_region 9 ?_); refine kW [0, 1, 2, 3, 4, 5, 6, 7, 8, 9, 10, 11, 12] [0, 1, 2, 3, 4, 5, 6, 8, 9, 10, 11, 12] [7] [1, 2, 3, 5, 6, 8, 9, 10, 11, 12] ?_; clear hF hL; intro ι F hne hC hG; (repeat (first | (refine cS ?_) | (refine cF hC ?_; intro K hK; go_big_quiet_op; go_big_quiet_on) | (refine cP ?_; intro K hK; go_big_quiet_op; go_big_quiet_on) | (refine cC ?_; intro W hL; have hF := hL.fx; simp only [ka, Act.eval]; go_at_call 77; (with_reducible refine (HLA.out _ (hv.out.kn hL)).mono ?_); rintro e W ⟨rfl, hb⟩; replace hL := hL.below hb; clear hb hF; have hF := hL.fx; refine kb ?_; clear hL hF hC hG; intro ι F hne hC hG; simp only [Act.put, kT]) | (refine cN ?_; intro W hL; have hF := hL.facts; go_wp2; refine kb2 ?_; clear hL hC hG; intro ι F hne hC hG))); refine cwk_nil ?_; clear hC hG; intro W hL; have hF := hL.fx))
  refine bodyPost_ret (by simp [results, Tryz.results48, go_sem, *]; try rfl) rfl ?_
  exact ⟨⟨_, _, _, _, rfl⟩, kn_here.below0⟩
 | ok n1 =>
  have HLA := HLA0
  rw [hr1] at HLA
  simp only at HLA
  have HB := Lib.hid (show first = false → lastV L at_ op s1.data.toList = n1 from fun h => by subst h; exact lastV_eq hr1)
  rw [instrR_6 hfo rfl]
  simp only [Rs.bind, hr1]
  obtain ⟨lv, hlv⟩ : ∃ z, lastV L at_ op s1.data.toList = z := ⟨_, rfl⟩
  rw [hlv] at HLA HB
  clear HLA0 hlv hr1
  obtain ⟨oo, ho⟩ : ∃ o : Int, (op : Int) = o := ⟨_, rfl⟩
  unfold InsRP
  simp only [ho] at HFM HLA ⊢
  clear hfo ho
  have hL : Kn [] w w [] := Kn.refl [] w; have hF := hL.fx; go_enter Tryz.func48, Tryz.ntmps48
  go_wp2_with (first | ((with_reducible refine ks ?_); clear hF hL; intro W hL hF) | (go_at_call 75; (with_reducible refine (HFM.out _).mono ?_); rintro e w' ⟨rfl, rfl⟩) | (go_at_call 76; refine kp (fun W hL => HMN.out _) ?_; clear hF hL; intro W hL hF) | ((with_reducible refine at_region 9 ?_); refine kW [0, 1, 2, 3, 4, 5, 6, 7, 8, 9, 10, 11, 12] [0, 1, 2, 3, 4, 5, 6, 8, 9, 10, 11, 12] [7] [1, 2, 3, 5, 6, 8, 9, 10, 11, 12] ?_; clear hF hL; intro ι F hne hC hG; (repeat (first | (refine cS ?_) | (refine cF hC ?_; intro K hK; go_big_quiet_op; go_big_quiet_on) | (refine cP ?_; intro K hK; go_big_quiet_op; go_big_quiet_on) | (refine cC ?_; intro W hL; have hF := hL.fx; simp only [ka, Act.eval]; go_at_call 77; (with_reducible refine (HLA.out _ (hv.out.kn hL)).mono ?_); rintro e W ⟨rfl, hb⟩; replace hL := hL.below hb; clear hb hF; have hF := hL.fx; refine kb ?_; clear hL hF hC hG; intro ι F hne hC hG; simp only [Act.put, kT]) | (refine cN ?_; intro W hL; have hF := hL.facts; go_wp2; refine kb2 ?_; clear hL hC hG; intro ι F hne hC hG))); refine cwk_nil ?_; clear hC hG; intro W hL; have hF := hL.fx))
  refine bodyPost_ret (by simp [results, Tryz.results48, go_sem, *]; try rfl) rfl ?_
  exact ⟨⟨_, HB.out, rfl⟩, kn_here.below0⟩
theorem ins_5 (vl v : Value) (sop s1 s2 : ByteArray) (ls : List Bytes) (at_ op : Nat) (L : Labs) (first : Bool) (g og cap : Nat) (hs1 : s1.size ≤ 90000) (hs2 : s2.size ≤ 90000) (hat : at_ ≤ 100000) (hn : L.length ≤ 100000) (hLn : Hid (∀ p ∈ L, p.2 ≤ 100000)) (hfo : OO.form op = 5) (HFM : Hid (∀ W, Calls Tryz.prog 75 #[.int .i64 (op : Int)] W fun e w' => e = .returned (.int .i64 5) ∧ W = w')) (HMN : Hid (∀ W, Calls Tryz.prog 76 #[.int .i64 5] W fun e w' => e = .returned (.int .i64 2) ∧ W = w')) (w : World) (hg : g < w.heap.size) (c1 : w.cell? ⟨g, og, none⟩ = some (.string s1)) (c2 : w.cell? ⟨g, og + 1, none⟩ = some (.string s2)) (hv : Hid (LRow w v L)) : Calls Tryz.prog 48 #[.agg #[vl, .string sop, .slice (some ⟨g, og, none⟩) 2 cap, .int .i64 (at_ : Int)], .int .i64 (op : Int), v, .bool first] w (InsRP first (instr OO L ⟨ls, sop.data.toList, [s1.data.toList, s2.data.toList]⟩ at_ op (!first)) op w) := by
 cases hr1 : register s1.data.toList with
 | bad m =>
  obtain rfl := registerR_bad hr1
  have HRG1 := Lib.hid (fun W => refReg_bad hr1 (by omega) W)
  rw [instrR_5 hfo rfl, hr1]
  try simp only [Rs.bind]
  obtain ⟨rv, hrv⟩ : ∃ r, regV s1.data.toList = r := ⟨_, rfl⟩
  rw [hrv] at HRG1
  clear hrv hr1
  obtain ⟨oo, ho⟩ : ∃ o : Int, (op : Int) = o := ⟨_, rfl⟩
  unfold InsRP
  simp only [ho] at HFM  ⊢
  clear hfo ho
  have hL : Kn [] w w [] := Kn.refl [] w; have hF := hL.fx; go_enter Tryz.func48, Tryz.ntmps48
  go_wp2_with (first | ((with_reducible refine ks ?_); clear hL; intro W hL hF) | (go_at_call 75; (with_reducible refine (HFM.out _).mono ?_); rintro e w' ⟨rfl, rfl⟩) | (go_at_call 76; refine kp (fun W hL => HMN.out _) ?_; clear hF hL; intro W hL hF) | (go_at_call 78; refine kG ?_; clear hF hL; intro W hL hF; (((first | (with_reducible refine (HRG1.out _).mono ?_)))); rintro e W ⟨rfl, hb⟩; replace hL := hL.below hb; clear hb hF; have hF := hL.fx))
  refine bodyPost_ret (by simp [results, Tryz.results48, go_sem, *]; try rfl) rfl ?_
  exact ⟨⟨_, _, _, _, rfl⟩, kn_here.below0⟩
 | ok n1 =>
  have HRG1 := Lib.hid (fun W => refReg_ok hr1 (by omega) W)
  have HLA0 := Lib.hid (fun W (h : LRow W v L) => refLast_is vl (.slice (some ⟨g, og, none⟩) 2 cap) v sop s2 at_ op L first (by omega) hat hn hLn W h)
  unfold LastP LastQ at HLA0
  cases hr2 : target OO L at_ op s2.data.toList (!first) with
  | bad m =>
   have HLA := HLA0
   rw [hr2] at HLA
   simp only at HLA
   rw [instrR_5 hfo rfl, hr1]
   simp only [Rs.bind, hr2]
   clear HLA0 hr1 hr2
   obtain ⟨oo, ho⟩ : ∃ o : Int, (op : Int) = o := ⟨_, rfl⟩
   unfold InsRP
   simp only [ho] at HFM HLA ⊢
   clear hfo ho
   have hL : Kn [] w w [] := Kn.refl [] w; have hF := hL.fx; go_enter Tryz.func48, Tryz.ntmps48
   go_wp2_with (first | ((with_reducible refine ks ?_); clear hF hL; intro W hL hF) | (go_at_call 75; (with_reducible refine (HFM.out _).mono ?_); rintro e w' ⟨rfl, rfl⟩) | (go_at_call 76; refine kp (fun W hL => HMN.out _) ?_; clear hF hL; intro W hL hF) | (go_at_call 78; refine kG ?_; clear hF hL; intro W hL hF; (((first | (with_reducible refine (HRG1.out _).mono ?_)))); rintro e W ⟨rfl, hb⟩; replace hL := hL.below hb; clear hb hF; have hF := hL.fx) | ((with_reducible refine at_region 17 ?_); refine kW [0, 1, 2, 3, 4, 5, 6, 7, 8, 9, 10, 11, 12] [0, 1, 2, 3, 4, 5, 6, 8, 9, 10, 11, 12] [7] [1, 2, 3, 5, 6, 8, 9, 10, 11, 12] ?_; clear hF hL; intro ι F hne hC hG; (repeat (first | (refine cS ?_) | (refine cF hC ?_; intro K hK; go_big_quiet_op; go_big_quiet_on) | (refine cP ?_; intro K hK; go_big_quiet_op; go_big_quiet_on) | (refine cC ?_; intro W hL; have hF := hL.fx; simp only [ka, Act.eval]; go_at_call 77; (with_reducible refine (HLA.out _ (hv.out.kn hL)).mono ?_); rintro e W ⟨rfl, hb⟩; replace hL := hL.below hb; clear hb hF; have hF := hL.fx; refine kb ?_; clear hL hF hC hG; intro ι F hne hC hG; simp only [Act.put, kT]) | (refine cN ?_; intro W hL; have hF := hL.facts; go_wp2; refine kb2 ?_; clear hL hC hG; intro ι F hne hC hG))); refine cwk_nil ?_; clear hC hG; intro W hL; have hF := hL.fx))
   refine bodyPost_ret (by simp [results, Tryz.results48, go_sem, *]; try rfl) rfl ?_
   exact ⟨⟨_, _, _, _, rfl⟩, kn_here.below0⟩
  | ok n2 =>
   have HLA := HLA0
   rw [hr2] at HLA
   simp only at HLA
   have HB := Lib.hid (show first = false → lastV L at_ op s2.data.toList = n2 from fun h => by subst h; exact lastV_eq hr2)
   rw [instrR_5 hfo rfl, hr1]
   simp only [Rs.bind, hr2]
   obtain ⟨lv, hlv⟩ : ∃ z, lastV L at_ op s2.data.toList = z := ⟨_, rfl⟩
   rw [hlv] at HLA HB
   clear HLA0 hlv hr1 hr2
   obtain ⟨oo, ho⟩ : ∃ o : Int, (op : Int) = o := ⟨_, rfl⟩
   unfold InsRP
   simp only [ho] at HFM HLA ⊢
   clear hfo ho
   have hL : Kn [] w w [] := Kn.refl [] w; have hF := hL.fx; go_enter Tryz.func48, Tryz.ntmps48
   go_wp2_with (first | ((with_reducible refine ks ?_); clear hF hL; intro W hL hF) | (go_at_call 75; (with_reducible refine (HFM.out _).mono ?_); rintro e w' ⟨rfl, rfl⟩) | (go_at_call 76; refine kp (fun W hL => HMN.out _) ?_; clear hF hL; intro W hL hF) | (go_at_call 78; refine kG ?_; clear hF hL; intro W hL hF; (((first | (with_reducible refine (HRG1.out _).mono ?_)))); rintro e W ⟨rfl, hb⟩; replace hL := hL.below hb; clear hb hF; have hF := hL.fx) | ((with_reducible refine at_region 17 ?_); refine kW [0, 1, 2, 3, 4, 5, 6, 7, 8, 9, 10, 11, 12] [0, 1, 2, 3, 4, 5, 6, 8, 9, 10, 11, 12] [7] [1, 2, 3, 5, 6, 8, 9, 10, 11, 12] ?_; clear hF hL; intro ι F hne hC hG; (repeat (first | (refine cS ?_) | (refine cF hC ?_; intro K hK; go_big_quiet_op; go_big_quiet_on) | (refine cP ?_; intro K hK; go_big_quiet_op; go_big_quiet_on) | (refine cC ?_; intro W hL; have hF := hL.fx; simp only [ka, Act.eval]; go_at_call 77; (with_reducible refine (HLA.out _ (hv.out.kn hL)).mono ?_); rintro e W ⟨rfl, hb⟩; replace hL := hL.below hb; clear hb hF; have hF := hL.fx; refine kb ?_; clear hL hF hC hG; intro ι F hne hC hG; simp only [Act.put, kT]) | (refine cN ?_; intro W hL; have hF := hL.facts; go_wp2; refine kb2 ?_; clear hL hC hG; intro ι F hne hC hG))); refine cwk_nil ?_; clear hC hG; intro W hL; have hF := hL.fx))
   refine bodyPost_ret (by simp [results, Tryz.results48, go_sem, *]; try rfl) rfl ?_
   exact ⟨⟨_, HB.out, rfl⟩, kn_here.below0⟩
theorem ins_3 (vl v : Value) (sop s1 s2 s3 : ByteArray) (ls : List Bytes) (at_ op : Nat) (L : Labs) (first : Bool) (g og cap : Nat) (hs1 : s1.size ≤ 90000) (hs2 : s2.size ≤ 90000) (hs3 : s3.size ≤ 90000) (hat : at_ ≤ 100000) (hn : L.length ≤ 100000) (hLn : Hid (∀ p ∈ L, p.2 ≤ 100000)) (hfo : OO.form op = 3) (HFM : Hid (∀ W, Calls Tryz.prog 75 #[.int .i64 (op : Int)] W fun e w' => e = .returned (.int .i64 3) ∧ W = w')) (HMN : Hid (∀ W, Calls Tryz.prog 76 #[.int .i64 3] W fun e w' => e = .returned (.int .i64 3) ∧ W = w')) (w : World) (hg : g < w.heap.size) (c1 : w.cell? ⟨g, og, none⟩ = some (.string s1)) (c2 : w.cell? ⟨g, og + 1, none⟩ = some (.string s2)) (c3 : w.cell? ⟨g, og + 2, none⟩ = some (.string s3)) (hv : Hid (LRow w v L)) : Calls Tryz.prog 48 #[.agg #[vl, .string sop, .slice (some ⟨g, og, none⟩) 3 cap, .int .i64 (at_ : Int)], .int .i64 (op : Int), v, .bool first] w (InsRP first (instr OO L ⟨ls, sop.data.toList, [s1.data.toList, s2.data.toList, s3.data.toList]⟩ at_ op (!first)) op w) := by
 cases hr1 : register s1.data.toList with
 | bad m =>
  obtain rfl := registerR_bad hr1
  have HRG1 := Lib.hid (fun W => refReg_bad hr1 (by omega) W)
  rw [instrR_3 hfo rfl, hr1]
  try simp only [Rs.bind]
  obtain ⟨rv, hrv⟩ : ∃ r, regV s1.data.toList = r := ⟨_, rfl⟩
  rw [hrv] at HRG1
  clear hrv hr1
  obtain ⟨oo, ho⟩ : ∃ o : Int, (op : Int) = o := ⟨_, rfl⟩
  unfold InsRP
  simp only [ho] at HFM  ⊢
  clear hfo ho
  have hL : Kn [] w w [] := Kn.refl [] w; have hF := hL.fx; go_enter Tryz.func48, Tryz.ntmps48
  go_wp2_with (first | ((with_reducible refine ks ?_); clear hL; intro W hL hF) | (go_at_call 75; (with_reducible refine (HFM.out _).mono ?_); rintro e w' ⟨rfl, rfl⟩) | (go_at_call 76; refine kp (fun W hL => HMN.out _) ?_; clear hF hL; intro W hL hF) | (go_at_call 78; refine kG ?_; clear hF hL; intro W hL hF; (((first | (with_reducible refine (HRG1.out _).mono ?_)))); rintro e W ⟨rfl, hb⟩; replace hL := hL.below hb; clear hb hF; have hF := hL.fx))
  refine bodyPost_ret (by simp [results, Tryz.results48, go_sem, *]; try rfl) rfl ?_
  exact ⟨⟨_, _, _, _, rfl⟩, kn_here.below0⟩
 | ok n1 =>
  have HRG1 := Lib.hid (fun W => refReg_ok hr1 (by omega) W)
  cases hr2 : register s2.data.toList with
  | bad m =>
   obtain rfl := registerR_bad hr2
   have HRG2 := Lib.hid (fun W => refReg_bad hr2 (by omega) W)
   rw [instrR_3 hfo rfl, hr1, hr2]
   try simp only [Rs.bind]
   obtain ⟨rv, hrv⟩ : ∃ r, regV s2.data.toList = r := ⟨_, rfl⟩
   rw [hrv] at HRG2
   clear hrv hr1 hr2
   obtain ⟨oo, ho⟩ : ∃ o : Int, (op : Int) = o := ⟨_, rfl⟩
   unfold InsRP
   simp only [ho] at HFM  ⊢
   clear hfo ho
   have hL : Kn [] w w [] := Kn.refl [] w; have hF := hL.fx; go_enter Tryz.func48, Tryz.ntmps48
   go_wp2_with (first | ((with_reducible refine ks ?_); clear hF hL; intro W hL hF) | (go_at_call 75; (with_reducible refine (HFM.out _).mono ?_); rintro e w' ⟨rfl, rfl⟩) | (go_at_call 76; refine kp (fun W hL => HMN.out _) ?_; clear hF hL; intro W hL hF) | (go_at_call 78; refine kG ?_; clear hF hL; intro W hL hF; (((first | (with_reducible refine (HRG1.out _).mono ?_) | (with_reducible refine (HRG2.out _).mono ?_)))); rintro e W ⟨rfl, hb⟩; replace hL := hL.below hb; clear hb hF; have hF := hL.fx))
   refine bodyPost_ret (by simp [results, Tryz.results48, go_sem, *]; try rfl) rfl ?_
   exact ⟨⟨_, _, _, _, rfl⟩, kn_here.below0⟩
  | ok n2 =>
   have HRG2 := Lib.hid (fun W => refReg_ok hr2 (by omega) W)
   cases hr3 : register s3.data.toList with
   | bad m =>
    obtain rfl := registerR_bad hr3
    have HRG3 := Lib.hid (fun W => refReg_bad hr3 (by omega) W)
    rw [instrR_3 hfo rfl, hr1, hr2, hr3]
    try simp only [Rs.bind]
    obtain ⟨rv, hrv⟩ : ∃ r, regV s3.data.toList = r := ⟨_, rfl⟩
    rw [hrv] at HRG3
    clear hrv hr1 hr2 hr3
    obtain ⟨oo, ho⟩ : ∃ o : Int, (op : Int) = o := ⟨_, rfl⟩
    unfold InsRP
    simp only [ho] at HFM  ⊢
    clear hfo ho
    have hL : Kn [] w w [] := Kn.refl [] w; have hF := hL.fx; go_enter Tryz.func48, Tryz.ntmps48
    go_wp2_with (first | ((with_reducible refine ks ?_); clear hF hL; intro W hL hF) | (go_at_call 75; (with_reducible refine (HFM.out _).mono ?_); rintro e w' ⟨rfl, rfl⟩) | (go_at_call 76; refine kp (fun W hL => HMN.out _) ?_; clear hF hL; intro W hL hF) | (go_at_call 78; refine kG ?_; clear hF hL; intro W hL hF; (((first | (with_reducible refine (HRG1.out _).mono ?_) | (with_reducible refine (HRG2.out _).mono ?_) | (with_reducible refine (HRG3.out _).mono ?_)))); rintro e W ⟨rfl, hb⟩; replace hL := hL.below hb; clear hb hF; have hF := hL.fx))
    refine bodyPost_ret (by simp [results, Tryz.results48, go_sem, *]; try rfl) rfl ?_
    exact ⟨⟨_, _, _, _, rfl⟩, kn_here.below0⟩
   | ok n3 =>
    have HRG3 := Lib.hid (fun W => refReg_ok hr3 (by omega) W)
    rw [instrR_3 hfo rfl, hr1, hr2, hr3]
    try simp only [Rs.bind]
    obtain ⟨oo, ho⟩ : ∃ o : Int, (op : Int) = o := ⟨_, rfl⟩
    unfold InsRP
    simp only [ho] at HFM  ⊢
    clear hfo ho
    have hL : Kn [] w w [] := Kn.refl [] w; have hF := hL.fx; go_enter Tryz.func48, Tryz.ntmps48
    go_wp2_with (first | ((with_reducible refine ks ?_); clear hF hL; intro W hL hF) | (go_at_call 75; (with_reducible refine (HFM.out _).mono ?_); rintro e w' ⟨rfl, rfl⟩) | (go_at_call 76; refine kp (fun W hL => HMN.out _) ?_; clear hF hL; intro W hL hF) | (go_at_call 78; refine kG ?_; clear hF hL; intro W hL hF; (((first | (with_reducible refine (HRG1.out _).mono ?_) | (with_reducible refine (HRG2.out _).mono ?_) | (with_reducible refine (HRG3.out _).mono ?_)))); rintro e W ⟨rfl, hb⟩; replace hL := hL.below hb; clear hb hF; have hF := hL.fx))
    refine bodyPost_ret (by simp [results, Tryz.results48, go_sem, *]; try rfl) rfl ?_
    exact ⟨⟨_, (fun _ => rfl), rfl⟩, kn_here.below0⟩
theorem ins_4 (vl v : Value) (sop s1 s2 s3 : ByteArray) (ls : List Bytes) (at_ op : Nat) (L : Labs) (first : Bool) (g og cap : Nat) (hs1 : s1.size ≤ 90000) (hs2 : s2.size ≤ 90000) (hs3 : s3.size ≤ 90000) (hat : at_ ≤ 100000) (hn : L.length ≤ 100000) (hLn : Hid (∀ p ∈ L, p.2 ≤ 100000)) (hfo : OO.form op = 4) (HFM : Hid (∀ W, Calls Tryz.prog 75 #[.int .i64 (op : Int)] W fun e w' => e = .returned (.int .i64 4) ∧ W = w')) (HMN : Hid (∀ W, Calls Tryz.prog 76 #[.int .i64 4] W fun e w' => e = .returned (.int .i64 3) ∧ W = w')) (w : World) (hg : g < w.heap.size) (c1 : w.cell? ⟨g, og, none⟩ = some (.string s1)) (c2 : w.cell? ⟨g, og + 1, none⟩ = some (.string s2)) (c3 : w.cell? ⟨g, og + 2, none⟩ = some (.string s3)) (hv : Hid (LRow w v L)) : Calls Tryz.prog 48 #[.agg #[vl, .string sop, .slice (some ⟨g, og, none⟩) 3 cap, .int .i64 (at_ : Int)], .int .i64 (op : Int), v, .bool first] w (InsRP first (instr OO L ⟨ls, sop.data.toList, [s1.data.toList, s2.data.toList, s3.data.toList]⟩ at_ op (!first)) op w) := by
 cases hr1 : register s1.data.toList with
 | bad m =>
  obtain rfl := registerR_bad hr1
  have HRG1 := Lib.hid (fun W => refReg_bad hr1 (by omega) W)
  rw [instrR_4 hfo rfl, hr1]
  try simp only [Rs.bind]
  obtain ⟨rv, hrv⟩ : ∃ r, regV s1.data.toList = r := ⟨_, rfl⟩
  rw [hrv] at HRG1
  clear hrv hr1
  obtain ⟨oo, ho⟩ : ∃ o : Int, (op : Int) = o := ⟨_, rfl⟩
  unfold InsRP
  simp only [ho] at HFM  ⊢
  clear hfo ho
  have hL : Kn [] w w [] := Kn.refl [] w; have hF := hL.fx; go_enter Tryz.func48, Tryz.ntmps48
  go_wp2_with (first | ((with_reducible refine ks ?_); clear hL; intro W hL hF) | (go_at_call 75; (with_reducible refine (HFM.out _).mono ?_); rintro e w' ⟨rfl, rfl⟩) | (go_at_call 76; refine kp (fun W hL => HMN.out _) ?_; clear hF hL; intro W hL hF) | (go_at_call 78; refine kG ?_; clear hF hL; intro W hL hF; (((first | (with_reducible refine (HRG1.out _).mono ?_)))); rintro e W ⟨rfl, hb⟩; replace hL := hL.below hb; clear hb hF; have hF := hL.fx))
  refine bodyPost_ret (by simp [results, Tryz.results48, go_sem, *]; try rfl) rfl ?_
  exact ⟨⟨_, _, _, _, rfl⟩, kn_here.below0⟩
 | ok n1 =>
  have HRG1 := Lib.hid (fun W => refReg_ok hr1 (by omega) W)
  cases hr2 : register s2.data.toList with
  | bad m =>
   obtain rfl := registerR_bad hr2
   have HRG2 := Lib.hid (fun W => refReg_bad hr2 (by omega) W)
   rw [instrR_4 hfo rfl, hr1, hr2]
   try simp only [Rs.bind]
   obtain ⟨rv, hrv⟩ : ∃ r, regV s2.data.toList = r := ⟨_, rfl⟩
   rw [hrv] at HRG2
   clear hrv hr1 hr2
   obtain ⟨oo, ho⟩ : ∃ o : Int, (op : Int) = o := ⟨_, rfl⟩
   unfold InsRP
   simp only [ho] at HFM  ⊢
   clear hfo ho
   have hL : Kn [] w w [] := Kn.refl [] w; have hF := hL.fx; go_enter Tryz.func48, Tryz.ntmps48
   go_wp2_with (first | ((with_reducible refine ks ?_); clear hF hL; intro W hL hF) | (go_at_call 75; (with_reducible refine (HFM.out _).mono ?_); rintro e w' ⟨rfl, rfl⟩) | (go_at_call 76; refine kp (fun W hL => HMN.out _) ?_; clear hF hL; intro W hL hF) | (go_at_call 78; refine kG ?_; clear hF hL; intro W hL hF; (((first | (with_reducible refine (HRG1.out _).mono ?_) | (with_reducible refine (HRG2.out _).mono ?_)))); rintro e W ⟨rfl, hb⟩; replace hL := hL.below hb; clear hb hF; have hF := hL.fx))
   refine bodyPost_ret (by simp [results, Tryz.results48, go_sem, *]; try rfl) rfl ?_
   exact ⟨⟨_, _, _, _, rfl⟩, kn_here.below0⟩
  | ok n2 =>
   have HRG2 := Lib.hid (fun W => refReg_ok hr2 (by omega) W)
   cases hr3 : integer OO s3.data.toList with
   | bad m =>
    obtain ⟨rfl, hcn⟩ := integerR_bad hr3
    have HNU := Lib.hid (fun W => refNum_none s3 (by omega) hcn W)
    rw [instrR_4 hfo rfl, hr1, hr2]
    simp only [Rs.bind, hr3]
    clear hcn hr1 hr2 hr3
    obtain ⟨oo, ho⟩ : ∃ o : Int, (op : Int) = o := ⟨_, rfl⟩
    unfold InsRP
    simp only [ho] at HFM  ⊢
    clear hfo ho
    have hL : Kn [] w w [] := Kn.refl [] w; have hF := hL.fx; go_enter Tryz.func48, Tryz.ntmps48
    go_wp2_with (first | ((with_reducible refine ks ?_); clear hF hL; intro W hL hF) | (go_at_call 75; (with_reducible refine (HFM.out _).mono ?_); rintro e w' ⟨rfl, rfl⟩) | (go_at_call 76; refine kp (fun W hL => HMN.out _) ?_; clear hF hL; intro W hL hF) | (go_at_call 78; refine kG ?_; clear hF hL; intro W hL hF; (((first | (with_reducible refine (HRG1.out _).mono ?_) | (with_reducible refine (HRG2.out _).mono ?_)))); rintro e W ⟨rfl, hb⟩; replace hL := hL.below hb; clear hb hF; have hF := hL.fx) | (go_at_call 74; refine kc (fun W hL => HNU.out _) ?_; clear hF hL; intro W hL hF))
    refine bodyPost_ret (by simp [results, Tryz.results48, go_sem, *]; try rfl) rfl ?_
    exact ⟨⟨_, _, _, _, rfl⟩, kn_here.below0⟩
   | ok n3 =>
    have hcn := integerR_good hr3
    have HNU := Lib.hid (fun W => refNum_some s3 (by omega) _ hcn W)
    rw [instrR_4 hfo rfl, hr1, hr2]
    simp only [Rs.bind, hr3]
    clear hcn hr1 hr2 hr3
    obtain ⟨oo, ho⟩ : ∃ o : Int, (op : Int) = o := ⟨_, rfl⟩
    unfold InsRP
    simp only [ho] at HFM  ⊢
    clear hfo ho
    have hL : Kn [] w w [] := Kn.refl [] w; have hF := hL.fx; go_enter Tryz.func48, Tryz.ntmps48
    go_wp2_with (first | ((with_reducible refine ks ?_); clear hF hL; intro W hL hF) | (go_at_call 75; (with_reducible refine (HFM.out _).mono ?_); rintro e w' ⟨rfl, rfl⟩) | (go_at_call 76; refine kp (fun W hL => HMN.out _) ?_; clear hF hL; intro W hL hF) | (go_at_call 78; refine kG ?_; clear hF hL; intro W hL hF; (((first | (with_reducible refine (HRG1.out _).mono ?_) | (with_reducible refine (HRG2.out _).mono ?_)))); rintro e W ⟨rfl, hb⟩; replace hL := hL.below hb; clear hb hF; have hF := hL.fx) | (go_at_call 74; refine kc (fun W hL => HNU.out _) ?_; clear hF hL; intro W hL hF))
    refine bodyPost_ret (by simp [results, Tryz.results48, go_sem, *]; try rfl) rfl ?_
    exact ⟨⟨_, (fun _ => rfl), rfl⟩, kn_here.below0⟩
theorem ins_len (vl v : Value) (sop : ByteArray) (ls ops : List Bytes) (at_ op : Nat) (L : Labs) (first : Bool) (ad : Option Addr) (n cap f : Nat) (hln : ops.length = n) (hfo : OO.form op = f) (mf : Nat) (hm : many f = mf) (hne : n ≠ mf) (fi : Int) (hfi : (f : Int) = fi) (hn : n ≤ 100000) (HFM : Hid (∀ W, Calls Tryz.prog 75 #[.int .i64 (op : Int)] W fun e w' => e = .returned (.int .i64 fi) ∧ W = w')) (HMN : Hid (∀ W, Calls Tryz.prog 76 #[.int .i64 fi] W fun e w' => e = .returned (.int .i64 (mf : Int)) ∧ W = w')) (w : World) : Calls Tryz.prog 48 #[.agg #[vl, .string sop, .slice ad n cap, .int .i64 (at_ : Int)], .int .i64 (op : Int), v, .bool first] w (InsRP first (instr OO L ⟨ls, sop.data.toList, ops⟩ at_ op (!first)) op w) := by
 rw [instrR_len hfo (by show ops.length ≠ many f; rw [hln, hm]; exact hne)]
 have q1 : ((n : Int) != (mf : Int)) = true := bne_iff_ne.2 (by omega)
 obtain ⟨oo, ho⟩ : ∃ o : Int, (op : Int) = o := ⟨_, rfl⟩
 unfold InsRP
 simp only [ho] at HFM ⊢
 clear hfo ho hfi hm hln
 have hL : Kn [] w w [] := Kn.refl [] w; have hF := hL.fx; go_enter Tryz.func48, Tryz.ntmps48
 go_wp2_with (first | (go_at_call 75; (with_reducible refine (HFM.out _).mono ?_); rintro e w' ⟨rfl, rfl⟩) | (go_at_call 76; refine kp (fun W hL => HMN.out _) ?_; clear hF hL; intro W hL hF))
 refine bodyPost_ret (by simp [results, Tryz.results48, go_sem, *]; try rfl) rfl ?_
 exact ⟨⟨_, _, _, _, rfl⟩, kn_here.below0⟩
theorem form_small (op : Nat) (h : op < 32) : ∃ f : Nat, f ≤ 6 ∧ OO.form op = f ∧ form (op : Int) = (f : Int) := by
 have key : ∀ k : Fin 32, 0 ≤ form (k.val : Int) ∧ form (k.val : Int) ≤ 6 := by decide +kernel
 obtain ⟨h1, h2⟩ := key ⟨op, h⟩
 refine ⟨(form (op : Int)).toNat, by simp only at h1 h2; omega, rfl, ?_⟩
 simp only at h1
 omega
theorem refIns_is (vl vo v : Value) (sop : ByteArray) (ls ops : List Bytes) (at_ op : Nat) (L : Labs) (first : Bool) (hop : op < 32) (hsz : ∀ p ∈ ops, p.length ≤ 90000) (hol : ops.length ≤ 100000) (hat : at_ ≤ 100000) (hn : L.length ≤ 100000) (hLn : Hid (∀ p ∈ L, p.2 ≤ 100000)) (w : World) (hvo : Row w vo (sv ops)) (hv : LRow w v L) : Calls Tryz.prog 48 #[.agg #[vl, .string sop, vo, .int .i64 (at_ : Int)], .int .i64 (op : Int), v, .bool first] w (InsRP first (instr OO L ⟨ls, sop.data.toList, ops⟩ at_ op (!first)) op w) := by
 obtain ⟨f, hf6, hf, hfi⟩ := form_small op hop
 by_cases hlen : ops.length = many f
 ·have : f = 0 ∨ f = 1 ∨ f = 2 ∨ f = 3 ∨ f = 4 ∨ f = 5 ∨ f = 6 := by omega
  rcases this with rfl | rfl | rfl | rfl | rfl | rfl | rfl
  ·obtain rfl : ops = [] := List.eq_nil_of_length_eq_zero hlen
   obtain ⟨ao, cap, rfl, _⟩ := row_open hvo
   exact ins_0 vl v sop ls at_ op L first ao cap hat hn hLn hf (Lib.hid fun W => refForm_eq hfi W) (Lib.hid fun W => refMany_is 0 (by omega) 0 rfl W) w (Lib.hid hv)
  ·obtain ⟨o1, rfl⟩ : ∃ o1, ops = [o1] := by
    match ops, hlen with
    | [o1], _ => exact ⟨o1, rfl⟩
   obtain ⟨ao, cap, rfl, hc⟩ := row_open hvo
   obtain ⟨g, og, rfl, hg, _⟩ := hc 0 o1 rfl
   obtain ⟨s1, rfl⟩ : ∃ s : ByteArray, o1 = s.data.toList := ⟨⟨o1.toArray⟩, by simp⟩
   obtain ⟨_, _, e1, _, c1⟩ := hc 0 s1.data.toList rfl
   cases e1
   rw [toList_mk] at c1
   have z1 := hsz s1.data.toList (by simp)
   rw [szl] at z1
   exact ins_1 vl v sop s1 ls at_ op L first g og cap z1 hat hn hLn hf (Lib.hid fun W => refForm_eq hfi W) (Lib.hid fun W => refMany_is 1 (by omega) 1 rfl W) w hg c1 (Lib.hid hv)
  ·obtain ⟨o1, o2, rfl⟩ : ∃ o1 o2, ops = [o1, o2] := by
    match ops, hlen with
    | [o1, o2], _ => exact ⟨o1, o2, rfl⟩
   obtain ⟨ao, cap, rfl, hc⟩ := row_open hvo
   obtain ⟨g, og, rfl, hg, _⟩ := hc 0 o1 rfl
   obtain ⟨s1, rfl⟩ : ∃ s : ByteArray, o1 = s.data.toList := ⟨⟨o1.toArray⟩, by simp⟩
   obtain ⟨_, _, e1, _, c1⟩ := hc 0 s1.data.toList rfl
   cases e1
   rw [toList_mk] at c1
   have z1 := hsz s1.data.toList (by simp)
   rw [szl] at z1
   obtain ⟨s2, rfl⟩ : ∃ s : ByteArray, o2 = s.data.toList := ⟨⟨o2.toArray⟩, by simp⟩
   obtain ⟨_, _, e2, _, c2⟩ := hc 1 s2.data.toList rfl
   cases e2
   rw [toList_mk] at c2
   have z2 := hsz s2.data.toList (by simp)
   rw [szl] at z2
   exact ins_2 vl v sop s1 s2 ls at_ op L first g og cap z1 z2 hat hn hLn hf (Lib.hid fun W => refForm_eq hfi W) (Lib.hid fun W => refMany_is 2 (by omega) 2 rfl W) w hg c1 c2 (Lib.hid hv)
  ·obtain ⟨o1, o2, o3, rfl⟩ : ∃ o1 o2 o3, ops = [o1, o2, o3] := by
    match ops, hlen with
    | [o1, o2, o3], _ => exact ⟨o1, o2, o3, rfl⟩
   obtain ⟨ao, cap, rfl, hc⟩ := row_open hvo
   obtain ⟨g, og, rfl, hg, _⟩ := hc 0 o1 rfl
   obtain ⟨s1, rfl⟩ : ∃ s : ByteArray, o1 = s.data.toList := ⟨⟨o1.toArray⟩, by simp⟩
   obtain ⟨_, _, e1, _, c1⟩ := hc 0 s1.data.toList rfl
   cases e1
   rw [toList_mk] at c1
   have z1 := hsz s1.data.toList (by simp)
   rw [szl] at z1
   obtain ⟨s2, rfl⟩ : ∃ s : ByteArray, o2 = s.data.toList := ⟨⟨o2.toArray⟩, by simp⟩
   obtain ⟨_, _, e2, _, c2⟩ := hc 1 s2.data.toList rfl
   cases e2
   rw [toList_mk] at c2
   have z2 := hsz s2.data.toList (by simp)
   rw [szl] at z2
   obtain ⟨s3, rfl⟩ : ∃ s : ByteArray, o3 = s.data.toList := ⟨⟨o3.toArray⟩, by simp⟩
   obtain ⟨_, _, e3, _, c3⟩ := hc 2 s3.data.toList rfl
   cases e3
   rw [toList_mk] at c3
   have z3 := hsz s3.data.toList (by simp)
   rw [szl] at z3
   exact ins_3 vl v sop s1 s2 s3 ls at_ op L first g og cap z1 z2 z3 hat hn hLn hf (Lib.hid fun W => refForm_eq hfi W) (Lib.hid fun W => refMany_is 3 (by omega) 3 rfl W) w hg c1 c2 c3 (Lib.hid hv)
  ·obtain ⟨o1, o2, o3, rfl⟩ : ∃ o1 o2 o3, ops = [o1, o2, o3] := by
    match ops, hlen with
    | [o1, o2, o3], _ => exact ⟨o1, o2, o3, rfl⟩
   obtain ⟨ao, cap, rfl, hc⟩ := row_open hvo
   obtain ⟨g, og, rfl, hg, _⟩ := hc 0 o1 rfl
   obtain ⟨s1, rfl⟩ : ∃ s : ByteArray, o1 = s.data.toList := ⟨⟨o1.toArray⟩, by simp⟩
   obtain ⟨_, _, e1, _, c1⟩ := hc 0 s1.data.toList rfl
   cases e1
   rw [toList_mk] at c1
   have z1 := hsz s1.data.toList (by simp)
   rw [szl] at z1
   obtain ⟨s2, rfl⟩ : ∃ s : ByteArray, o2 = s.data.toList := ⟨⟨o2.toArray⟩, by simp⟩
   obtain ⟨_, _, e2, _, c2⟩ := hc 1 s2.data.toList rfl
   cases e2
   rw [toList_mk] at c2
   have z2 := hsz s2.data.toList (by simp)
   rw [szl] at z2
   obtain ⟨s3, rfl⟩ : ∃ s : ByteArray, o3 = s.data.toList := ⟨⟨o3.toArray⟩, by simp⟩
   obtain ⟨_, _, e3, _, c3⟩ := hc 2 s3.data.toList rfl
   cases e3
   rw [toList_mk] at c3
   have z3 := hsz s3.data.toList (by simp)
   rw [szl] at z3
   exact ins_4 vl v sop s1 s2 s3 ls at_ op L first g og cap z1 z2 z3 hat hn hLn hf (Lib.hid fun W => refForm_eq hfi W) (Lib.hid fun W => refMany_is 4 (by omega) 4 rfl W) w hg c1 c2 c3 (Lib.hid hv)
  ·obtain ⟨o1, o2, rfl⟩ : ∃ o1 o2, ops = [o1, o2] := by
    match ops, hlen with
    | [o1, o2], _ => exact ⟨o1, o2, rfl⟩
   obtain ⟨ao, cap, rfl, hc⟩ := row_open hvo
   obtain ⟨g, og, rfl, hg, _⟩ := hc 0 o1 rfl
   obtain ⟨s1, rfl⟩ : ∃ s : ByteArray, o1 = s.data.toList := ⟨⟨o1.toArray⟩, by simp⟩
   obtain ⟨_, _, e1, _, c1⟩ := hc 0 s1.data.toList rfl
   cases e1
   rw [toList_mk] at c1
   have z1 := hsz s1.data.toList (by simp)
   rw [szl] at z1
   obtain ⟨s2, rfl⟩ : ∃ s : ByteArray, o2 = s.data.toList := ⟨⟨o2.toArray⟩, by simp⟩
   obtain ⟨_, _, e2, _, c2⟩ := hc 1 s2.data.toList rfl
   cases e2
   rw [toList_mk] at c2
   have z2 := hsz s2.data.toList (by simp)
   rw [szl] at z2
   exact ins_5 vl v sop s1 s2 ls at_ op L first g og cap z1 z2 hat hn hLn hf (Lib.hid fun W => refForm_eq hfi W) (Lib.hid fun W => refMany_is 5 (by omega) 5 rfl W) w hg c1 c2 (Lib.hid hv)
  ·obtain ⟨o1, rfl⟩ : ∃ o1, ops = [o1] := by
    match ops, hlen with
    | [o1], _ => exact ⟨o1, rfl⟩
   obtain ⟨ao, cap, rfl, hc⟩ := row_open hvo
   obtain ⟨g, og, rfl, hg, _⟩ := hc 0 o1 rfl
   obtain ⟨s1, rfl⟩ : ∃ s : ByteArray, o1 = s.data.toList := ⟨⟨o1.toArray⟩, by simp⟩
   obtain ⟨_, _, e1, _, c1⟩ := hc 0 s1.data.toList rfl
   cases e1
   rw [toList_mk] at c1
   have z1 := hsz s1.data.toList (by simp)
   rw [szl] at z1
   exact ins_6 vl v sop s1 ls at_ op L first g og cap z1 hat hn hLn hf (Lib.hid fun W => refForm_eq hfi W) (Lib.hid fun W => refMany_is 6 (by omega) 6 rfl W) w hg c1 (Lib.hid hv)
 ·obtain ⟨ao, cap, rfl, _⟩ := row_open hvo
  exact ins_len vl v sop ls ops at_ op L first ao ops.length cap f rfl hf (many f) rfl hlen (f : Int) rfl hol (Lib.hid fun W => refForm_eq hfi W) (Lib.hid fun W => refMany_is f hf6 (f : Int) rfl W) w
def Pos {α : Type} (r : Rs α) : Prop := ∀ e, r = .bad e → 1 ≤ e
theorem pos_ok {α : Type} (a : α) : Pos (.ok a) := fun e h => by cases h
theorem pos_bad {α : Type} (n : Nat) (h : 1 ≤ n) : Pos (.bad n : Rs α) := fun e he => by cases he; exact h
theorem pos_bind {α β : Type} {r : Rs α} {f : α → Rs β} (h : Pos r) (hf : ∀ a, Pos (f a)) : Pos (r.bind f) := by
 cases r with
 | ok a => exact hf a
 | bad e => exact fun e' he => by cases he; exact h e rfl
theorem pos_mapR {α β : Type} {f : α → Rs β} (h : ∀ a, Pos (f a)) : ∀ l, Pos (mapR f l)
 | [] => pos_ok _
 | a :: l => by
  unfold mapR
  cases hf : f a with
  | bad e => exact pos_bad _ (h a e hf)
  | ok b =>
   simp only
   cases hm : mapR f l with
   | bad e => exact pos_bad _ (pos_mapR h l e hm)
   | ok bs => exact pos_ok _
variable (O : Oth)
theorem pos_number (s : Bytes) (lo hi : Int) : Pos (number O s lo hi) := by
 unfold number
 split
 ·exact pos_bad _ (by decide)
 ·split
  ·exact pos_ok _
  ·exact pos_bad _ (by decide)
theorem pos_address (L : Labs) (s : Bytes) (last : Bool) : Pos (address L s last) := by
 unfold address
 split
 ·split
  ·exact pos_ok _
  ·split
   ·exact pos_bad _ (by decide)
   ·exact pos_ok _
 ·exact pos_bad _ (by decide)
theorem pos_register (s : Bytes) : Pos (register s) := by
 unfold register
 split
 ·split
  ·exact pos_ok _
  ·exact pos_bad _ (by decide)
 ·exact pos_bad _ (by decide)
theorem pos_integer (s : Bytes) : Pos (integer O s) := by
 unfold integer
 split
 ·exact pos_ok _
 ·exact pos_bad _ (by decide)
theorem pos_target (L : Labs) (a op : Nat) (s : Bytes) (last : Bool) : Pos (target O L a op s last) := by
 unfold target
 split
 ·exact pos_ok _
 ·split
  ·cases h : address L s last with
   | bad e => exact pos_bad _ (pos_address L s last e h)
   | ok n => exact pos_ok _
  ·split
   ·cases h : address L s last with
    | bad e => exact pos_bad _ (pos_address L s last e h)
    | ok n => exact pos_ok _
   ·split
    ·split
     ·exact pos_ok _
     ·exact pos_bad _ (by decide)
    ·exact pos_bad _ (by decide)
theorem pos_direct (L : Labs) (x : Stm) (last : Bool) : Pos (direct O L x last) := by
 unfold direct
 split
 ·split
  ·exact pos_bad _ (by decide)
  ·have hp := pos_mapR (f := fun s => number O s (-128) 255) (fun s => pos_number O s _ _) x.ops
   split
   ·rename_i e h; exact pos_bad _ (hp e h)
   ·exact pos_ok _
 ·split
  ·split
   ·exact pos_bad _ (by decide)
   ·have hp := pos_mapR (f := fun s => if named s then (match address L s last with
     | .bad e => .bad e
     | .ok n => .ok (n : Int)) else number O s (-2147483648) 4294967295) (fun s => by
      show Pos (if named s then _ else _)
      split
      ·cases h : address L s last with
       | bad e => exact pos_bad _ (pos_address L s last e h)
       | ok n => exact pos_ok _
      ·exact pos_number O s _ _) x.ops
    split
    ·rename_i e h; exact pos_bad _ (hp e h)
    ·exact pos_ok _
  ·split
   ·split
    ·split
     ·exact pos_ok _
     ·exact pos_bad _ (by decide)
    ·exact pos_bad _ (by decide)
   ·split
    ·rename_i s _
     have hp := pos_number O s 0 4096
     split
     ·exact pos_ok _
     ·rename_i e h; exact pos_bad _ (hp e h)
    ·exact pos_bad _ (by decide)
theorem pos_instr (L : Labs) (x : Stm) (a op : Nat) (last : Bool) : Pos (instr O L x a op last) := by
 unfold instr
 split
 ·exact pos_bad _ (by decide)
 ·split <;> first | exact pos_ok _ | exact pos_bind (pos_register _) fun _ => pos_ok _ | exact pos_bind (pos_register _) fun _ => pos_bind (pos_register _) fun _ => pos_ok _ | exact pos_bind (pos_register _) fun _ => pos_bind (pos_register _) fun _ => pos_bind (pos_register _) fun _ => pos_ok _ | exact pos_bind (pos_register _) fun _ => pos_bind (pos_register _) fun _ => pos_bind (pos_integer O _) fun _ => pos_ok _ | exact pos_bind (pos_register _) fun _ => pos_bind (pos_target O _ _ _ _ _) fun _ => pos_ok _ | exact pos_bind (pos_target O _ _ _ _ _) fun _ => pos_ok _
theorem pos_emit (L : Labs) (x : Stm) (a : Nat) (code : Bytes) : Pos (emit O L x a code) := by
 unfold emit
 split
 ·exact pos_ok _
 ·simp only
  split
  ·exact pos_bind (pos_direct O _ _ _) fun _ => pos_ok _
  ·split
   ·exact pos_ok _
   ·refine pos_bind (pos_instr O _ _ _ _ _) fun i => ?_
    split
    ·exact pos_ok _
    ·exact pos_bad _ (by decide)
theorem pass2_pos (L : Labs) : ∀ (l : List (Stm × Nat)) (n : Nat) (code : Bytes) (e m : Nat), pass2 O L l n code = .bad e m → 1 ≤ e
 | [], n, code, e, m, h => by unfold pass2 at h; cases h
 | (x, a) :: l, n, code, e, m, h => by
  unfold pass2 at h
  split at h
  ·rename_i e' he; cases h; exact pos_emit O _ _ _ _ _ he
  ·exact pass2_pos L l _ _ _ _ h
theorem join_len (s : Bytes) : (join10 (linesB s)).length ≤ s.length + 1 := by
 rw [lines_lns, lns_join]
 split
 ·simp
 ·split
  ·omega
  ·simp
end Go.Proofs.YtfdlifhkeicnnaaGreatDoor
namespace Go.Proofs.YtfdlifhkeicnnaaGreatDoor
open Go Go.RowKit
theorem itoa_named (n : Int) : named (Lib.itoa n) = false := by
 have key : ∀ c : UInt8, ∀ t, (c = 45 ∨ (48 ≤ c.toNat ∧ c.toNat ≤ 57)) → named (c :: t) = false := by
  intro c t h
  have : nameC true c = false := by
   unfold nameC
   rcases h with rfl | h
   ·decide
   ·have h1 : (c == 95) = false := beq_false_of_ne (by rintro rfl; revert h; decide)
    rw [h1]
    simp only [Bool.false_or, Bool.not_true, Bool.false_and, Bool.or_false, Bool.or_eq_false_iff, Bool.and_eq_false_iff, decide_eq_false_iff_not]
    omega
  show (nameC true c && t.all (nameC false)) = false
  rw [this]; rfl
 by_cases h : 0 ≤ n
 ·obtain ⟨k, rfl⟩ : ∃ k : Nat, n = k := ⟨n.toNat, by omega⟩
  rw [Lib.itoa_nonneg]
  obtain ⟨h1, h2⟩ := digits_inA k
  cases hd : Lib.decDigits k with
  | nil => exact absurd hd h1
  | cons c t => exact key c t (.inr (h2 c (by rw [hd]; simp)))
 ·obtain ⟨k, rfl⟩ : ∃ k : Nat, n = -(k : Int) := ⟨n.natAbs, by omega⟩
  rw [Lib.itoa_neg k (by omega)]
  exact key _ _ (.inl rfl)
theorem named_int {s : Bytes} (h : named s = true) : OO.int s = none := by
 show canon s = none
 cases hc : canon s with
 | none => rfl
 | some n => rw [← (canon_some hc).1, itoa_named] at h; cases h
theorem find_ne {s : Bytes} {op : Nat} (hf : OO.find s = some op) : s ≠ [] ∧ isDir s = false := by
 constructor
 ·rintro rfl; rw [OO_fine.nil] at hf; cases hf
 ·cases hd : isDir s with
  | false => rfl
  | true => rw [OO_fine.dir _ hd] at hf; cases hf
theorem join_app (l m : List Bytes) : join10 (l ++ m) = join10 l ++ join10 m := by simp [join10]
end Go.Proofs.YtfdlifhkeicnnaaGreatDoor
