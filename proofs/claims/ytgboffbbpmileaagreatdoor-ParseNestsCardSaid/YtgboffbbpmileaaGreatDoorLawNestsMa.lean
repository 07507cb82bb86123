/- Lemmas and walks for the law VLawNests (part 28). -/
import Derived.Test.YtgboffbbpmileaaGreatDoorPj27
import Derived.Test.YtgboffbbpmileaaGreatDoorProg
import Derived.WalkKit
import Derived.Handy
import Derived.Deep.Light
import Derived.WalkSmall
import Derived.StillTailTactics
import Derived.Lib.Hide
import Derived.Defers
import Derived.Deep.DeepCutAuto
import Derived.Deep.AppendSrc
set_option maxRecDepth 20000
set_option maxHeartbeats 4000000
set_option linter.unusedVariables false
set_option linter.unusedSimpArgs false
namespace Go.Proofs.YtgboffbbpmileaaGreatDoor
open Go Go.RowKit
theorem Same_call {n : Nd} (hs : Sm 100000 n) (c1 c2 : List Value) (w : World) (h1 : NodeIs [] w n c1) (h2 : NodeIs [] w n c2) : Calls Tryz.prog 18 #[.agg c1.toArray, .agg c2.toArray] w fun e w' => e = .returned (.bool true) ∧ Below w.heap.size w w' := Same_is hs c1 c2 w h1 h2
theorem appl (x y : ByteArray) : (x ++ y).data.toList = x.data.toList ++ y.data.toList := by rw [ByteArray.data_append, Array.toList_append]
end Go.Proofs.YtgboffbbpmileaaGreatDoor
set_option maxRecDepth 20000
set_option maxHeartbeats 4000000
set_option linter.unusedVariables false
set_option linter.unusedSimpArgs false
namespace Go.Proofs.YtgboffbbpmileaaGreatDoor
open Go Go.RowKit
theorem open_is (s : ByteArray) (hs : s.size ≤ 2000) (z : Bool) (hz : (s.data.toList.getLast? == some 92) = z) (w : World) : Calls Tryz.prog 17 #[.string s] w fun e w' => e = .returned (.bool z) ∧ Below w.heap.size w w' := by
 by_cases h0 : s.size = 0
 ·have hn : s.data.toList = [] := List.eq_nil_of_length_eq_zero (by rw [szl, h0])
  rw [hn] at hz
  obtain rfl : z = false := hz.symm
  have p0 : decide ((0 : Int) < (s.size : Int)) = false := decide_eq_false (by omega)
  have p1 : ¬ 0 < s.size := by omega
  clear hn h0
  have hL : Kn [] w w [] := Kn.refl [] w; have hF := hL.fx; go_enter Tryz.func17, Tryz.ntmps17
  go_wp2
  refine kn_body ?_; clear hF hL; intro W hL; have hF := hL.fx
  refine bodyPost_ret (by simp [results, Tryz.results17, go_sem, *]; try rfl) rfl ?_
  exact ⟨rfl, hL.below0⟩
 ·obtain ⟨n, hn⟩ : ∃ n, s.size = n + 1 := ⟨s.size - 1, by omega⟩
  obtain ⟨c0, hc0⟩ : ∃ c, s.data.toList[n]? = some c := ⟨_, List.getElem?_eq_getElem (by rw [szl]; omega)⟩
  have eb0 := byte_at hc0 (by omega)
  have hd0 : s.data.toList.drop (n) = c0 :: s.data.toList.drop (n + 1) := by
   obtain ⟨h1, h2⟩ := List.getElem?_eq_some_iff.1 hc0
   rw [List.drop_eq_getElem_cons h1, h2]
  have hl : s.data.toList.getLast? = some c0 := by
   rw [List.getLast?_eq_getElem?, szl, hn]; exact hc0
  rw [hl] at hz
  have p3 : ((c0.toNat : Int) == 92) = z := by
   rw [← hz]
   by_cases h : c0 = 92
   ·subst h; rfl
   ·have h2 : (some c0 == some (92 : UInt8)) = false := by simpa using h
    have h3 : c0.toNat ≠ 92 := fun e => h (UInt8.toNat_inj.1 e)
    rw [h2]; exact beq_false_of_ne (by omega)
  have p0 : decide ((0 : Int) < (s.size : Int)) = true := decide_eq_true (by omega)
  have p1 : 0 < s.size := by omega
  have p2 : wrap64 ((s.size : Int) - 1) = (n : Int) := by rw [IntWalk.wrap64_in _ (by omega)]; omega
  clear hl hd0 h0 hz
  have hL : Kn [] w w [] := Kn.refl [] w; have hF := hL.fx; go_enter Tryz.func17, Tryz.ntmps17
  go_wp2
  refine kn_body ?_; clear hF hL; intro W hL; have hF := hL.fx
  refine bodyPost_ret (by simp [results, Tryz.results17, go_sem, *]; try rfl) rfl ?_
  exact ⟨rfl, hL.below0⟩
end Go.Proofs.YtgboffbbpmileaaGreatDoor
set_option maxRecDepth 20000
set_option maxHeartbeats 4000000
set_option linter.unusedVariables false
set_option linter.unusedSimpArgs false
namespace Go.Proofs.YtgboffbbpmileaaGreatDoor
open Go Go.RowKit
theorem Lex_big (src : ByteArray) (hs : 8000 < src.size) (w : World) : Calls Tryz.prog 24 #[.string src] w fun e w' => e = .returned (.tuple #[.slice none 0 0, .int .i64 6, .int .i64 ((0 : Nat) : Int)]) ∧ Below w.heap.size w w' := by
 have p0 : decide ((8000 : Int) < (src.size : Int)) = true := decide_eq_true (by omega)
 have p1 : decide (8000 < src.size) = true := decide_eq_true (by omega)
 have hL : Kn [] w w [] := Kn.refl [] w
 have hF := hL.fx
 go_enter_defers Tryz.func24, Tryz.ntmps24
 go_wp2
 refine kn_bodyD ?_; clear hF hL; intro W hL; have hF := hL.fx; simp only [bodyPostD]; simp [Leaves, settle, results, Tryz.results24, go_sem, hF]
 exact hL.below0
theorem Parse_big (src : ByteArray) (hs : 8000 < src.size) (w : World) : Calls Tryz.prog 13 #[.string src] w fun e w' => e = .returned (.tuple #[.agg #[.int .i64 0, .string ⟨#[]⟩, .bool false, .slice none 0 0, .slice none 0 0, .slice none 0 0, .slice none 0 0], .int .i64 6, .int .i64 ((0 : Nat) : Int)]) ∧ Below w.heap.size w w' := by
 have hmf : ∀ (fn : Fn) (first cap : Array Value) (w : World), (Instr.makeFunc fn first cap).run Tryz.prog w = .ok (.func fn first cap) w := fun _ _ _ _ => rfl
 obtain ⟨ec, hec⟩ : ∃ z : Int, (6 : Int) = z := ⟨_, rfl⟩
 have hec2 : (ec != 0) = true := by rw [← hec]; rfl
 have HEC := Lib.hid hec
 obtain ⟨m, hm⟩ : ∃ z : Nat, 0 = z := ⟨_, rfl⟩
 have HM := Lib.hid hm
 have HLX := Lib.hid (fun W => Lex_big src hs W)
 rw [hec, hm] at HLX
 clear hec hm
 have hL : Kn [] w w [] := Kn.refl [] w
 have hF := hL.fx
 go_enter_defers Tryz.func13, Tryz.ntmps13
 go_upto_region 3 with ((go_at_call 24; refine zC (fun W hL => HLX.out _) ?_; clear hF hL; intro W hL hF))
 refine kn_wp ?_; clear hF hL; intro W hL; simp only [kfb] at hL; have hF := hL.fx
 have hL2 : Kn [] w W ((w.heap.size, .cells #[.int .i64 0, .string ⟨#[]⟩, .bool false, .slice none 0 0, .slice none 0 0, .slice none 0 0, .slice none 0 0] 41 (0, 0)) :: (w.heap.size + 1, .cells #[.int .i64 ec] 26 (0, 0)) :: (w.heap.size + 1 + 1, .cells #[.int .i64 (m : Int)] 3 (0, 0)) :: []) := (hL.perml fun p => by simp only [List.countP_cons, List.countP_nil, List.countP_append, List.append_nil, List.nil_append, List.length_nil]; omega); clear hL hF; have hL := hL2; clear hL2; have hF := hL.fx
 go_wp2_with ((with_reducible refine at_region 3 ?_); refine kn_wp ?_; clear hF hL; intro W hL; have hF := hL.fx; refine kn_region [0, 1, 2, 3, 4, 5] [0, 1, 2] [5] [0] (by kernel_rfl) (by kernel_rfl) (List.Sublist.cons _ (List.Sublist.refl _)) ?_; clear hF hL; intro ι F hne hC hFF; have hG := fun n => (hFF n).fx; clear hFF; (repeat (first | (refine cF hC ?_; intro K hK; go_big_quiet_op; go_big_quiet_on) | (refine cP ?_; intro K hK; go_big_quiet_op; go_big_quiet_on) | (refine cN ?_; intro W hL; (try simp only [kfb] at hL); have hF := hL.fx; go_wp2; refine anchQ_normal ?_; (first | (refine owedB _ (by rfl) ?_; clear hL hF hC hG; intro ι F hne hC hFF; have hG := fun n => (hFF n).fx; clear hFF) | (refine owed0 _ (by repeat' (first | exact List.Sublist.refl _ | (with_reducible apply List.Sublist.cons))) ?_; clear hL hF))))); refine cwk_nil ?_; clear hC hG; intro W hL; simp only [kfb] at hL; have hF := hL.fx)
 refine kn_bodyD ?_; clear hF hL; intro W hL; have hF := hL.fx; simp only [bodyPostD]; simp [Leaves, settle, results, Tryz.results13, go_sem, hF]
 exact ⟨⟨HEC.out.symm, by rw [HM.out]⟩, hL.below0⟩
end Go.Proofs.YtgboffbbpmileaaGreatDoor
set_option maxRecDepth 20000
set_option maxHeartbeats 4000000
set_option linter.unusedVariables false
set_option linter.unusedSimpArgs false
namespace Go.Proofs.YtgboffbbpmileaaGreatDoor
open Go Go.RowKit
theorem nests_err (a : ByteArray) (ec : Int) (m : Nat) (hz : (ec != 0) = true) (HPa : Hid (∀ W, TabP W → Calls Tryz.prog 13 #[.string a] W fun e w' => e = .returned (.tuple #[.agg #[.int .i64 0, .string ⟨#[]⟩, .bool false, .slice none 0 0, .slice none 0 0, .slice none 0 0, .slice none 0 0], .int .i64 ec, .int .i64 (m : Int)]) ∧ Below W.heap.size W w')) (w : World) (hT : TabP w) : Calls Tryz.prog 6 #[.string a] w fun e w' => e = .returned (.bool true) ∧ Below w.heap.size w w' := by
 have HT := Lib.hid hT
 clear hT
 obtain ⟨k1, hk1⟩ : ∃ z : Bool, decide ((1000 : Int) < (a.size : Int)) = z := ⟨_, rfl⟩
 cases k1 <;> (
 have HWB : Hid (Kn [] w w []) := Lib.hid (Kn.refl [] w)
 have hL := HWB.out.self0
 have hF := hL.fx
 go_enter Tryz.func6, Tryz.ntmps6
 go_wp2_with (first | (go_at_call 16; refine zC (fun W hL => small35 _ (HT.out.ext (HWB.out.tail0 hL).below0)) ?_; clear hF hL; intro W hL hF) | (go_at_call 13; refine zG ?_; clear hF hL; intro W hL hF; (with_reducible refine (HPa.out _ (HT.out.ext (HWB.out.tail0 hL).below0)).mono ?_); rintro e W2 ⟨rfl, hb⟩; replace hL := hL.below hb; clear hb hF; have hF := hL.fx; have HWB2 := Lib.hid (HWB.out.tail0 hL); clear hL; clear HWB; have HWB := HWB2; clear HWB2; have hL := HWB.out.self0; clear hF; have hF := hL.fx))
 refine kn_body ?_; clear hF hL; intro W hL; have hF := hL.fx
 refine bodyPost_ret (by simp [results, Tryz.results6, go_sem, *]; try rfl) rfl ?_
 exact ⟨rfl, (HWB.out.tail0 hL).below0⟩)
theorem nests_big (a : ByteArray) (hs : 1000 < a.size) (l : List Nd) (hp : parseB a.data.toList = .ok l) (hs8 : a.size ≤ 8000) (w : World) (hT : TabP w) : Calls Tryz.prog 6 #[.string a] w fun e w' => e = .returned (.bool true) ∧ Below w.heap.size w w' := by
 have HT := Lib.hid hT
 have q0 : decide ((1000 : Int) < (a.size : Int)) = true := decide_eq_true (by omega)
 have HPa := Lib.hid (fun W => parse_ok_c a hs8 l l.length hp rfl W)
 clear hT hp
 have HWB : Hid (Kn [] w w []) := Lib.hid (Kn.refl [] w)
 have hL := HWB.out.self0
 have hF := hL.fx
 go_enter Tryz.func6, Tryz.ntmps6
 go_wp2_with (first | (go_at_call 16; refine zC (fun W hL => small35 _ (HT.out.ext (HWB.out.tail0 hL).below0)) ?_; clear hF hL; intro W hL hF) | (go_at_call 13; refine zG ?_; clear hF hL; intro W hL hF; (with_reducible refine (HPa.out _ (HT.out.ext (HWB.out.tail0 hL).below0)).mono ?_); rintro e W2 ⟨aaa, caa, awa, cwa, ara, cra, aka, cka, rfl, HNY, hb⟩; have HNa := Lib.hid (HNY.out _ (keys_typed hL (by simp))); clear HNY; replace hL := hL.below hb; clear hb hF; have hF := hL.fx; have HWB2 := Lib.hid (HWB.out.tail0 hL); clear hL; clear HWB; have HWB := HWB2; clear HWB2; have hL := HWB.out.self0; clear hF; have hF := hL.fx))
 refine kn_body ?_; clear hF hL; intro W hL; have hF := hL.fx
 refine bodyPost_ret (by simp [results, Tryz.results6, go_sem, *]; try rfl) rfl ?_
 exact ⟨rfl, (HWB.out.tail0 hL).below0⟩
theorem nests_nil (a : ByteArray) (hs : a.size ≤ 1000) (hp : parseB a.data.toList = .ok []) (w : World) (hT : TabP w) : Calls Tryz.prog 6 #[.string a] w fun e w' => e = .returned (.bool true) ∧ Below w.heap.size w w' := by
 have HT := Lib.hid hT
 have q0 : decide ((1000 : Int) < (a.size : Int)) = false := decide_eq_false (by omega)
 have HPa := Lib.hid (fun W => parse_ok_c a (by omega) [] 0 hp rfl W)
 clear hT hp
 have HWB : Hid (Kn [] w w []) := Lib.hid (Kn.refl [] w)
 have hL := HWB.out.self0
 have hF := hL.fx
 go_enter Tryz.func6, Tryz.ntmps6
 go_wp2_with (first | (go_at_call 16; refine zC (fun W hL => small35 _ (HT.out.ext (HWB.out.tail0 hL).below0)) ?_; clear hF hL; intro W hL hF) | (go_at_call 13; refine zG ?_; clear hF hL; intro W hL hF; (with_reducible refine (HPa.out _ (HT.out.ext (HWB.out.tail0 hL).below0)).mono ?_); rintro e W2 ⟨aaa, caa, awa, cwa, ara, cra, aka, cka, rfl, HNY, hb⟩; have HNa := Lib.hid (HNY.out _ (keys_typed hL (by simp))); clear HNY; replace hL := hL.below hb; clear hb hF; have hF := hL.fx; have HWB2 := Lib.hid (HWB.out.tail0 hL); clear hL; clear HWB; have HWB := HWB2; clear HWB2; have hL := HWB.out.self0; clear hF; have hF := hL.fx))
 refine kn_body ?_; clear hF hL; intro W hL; have hF := hL.fx
 refine bodyPost_ret (by simp [results, Tryz.results6, go_sem, *]; try rfl) rfl ?_
 exact ⟨rfl, (HWB.out.tail0 hL).below0⟩
theorem nests_open (a : ByteArray) (hs : a.size ≤ 1000) (ho : (a.data.toList.getLast? == some 92) = true) (l : List Nd) (n : Nat) (hn : l.length = n) (hz : ((n : Int) == 0) = false) (hp : parseB a.data.toList = .ok l) (w : World) (hT : TabP w) : Calls Tryz.prog 6 #[.string a] w fun e w' => e = .returned (.bool true) ∧ Below w.heap.size w w' := by
 have HT := Lib.hid hT
 have q0 : decide ((1000 : Int) < (a.size : Int)) = false := decide_eq_false (by omega)
 have HPa := Lib.hid (fun W => parse_ok_c a (by omega) l n hp hn W)
 have HO := Lib.hid ho
 clear hT hp ho hn
 have HWB : Hid (Kn [] w w []) := Lib.hid (Kn.refl [] w)
 have hL := HWB.out.self0
 have hF := hL.fx
 go_enter Tryz.func6, Tryz.ntmps6
 go_wp2_with (first | (go_at_call 16; refine zC (fun W hL => small35 _ (HT.out.ext (HWB.out.tail0 hL).below0)) ?_; clear hF hL; intro W hL hF) | (go_at_call 13; refine zG ?_; clear hF hL; intro W hL hF; (with_reducible refine (HPa.out _ (HT.out.ext (HWB.out.tail0 hL).below0)).mono ?_); rintro e W2 ⟨aaa, caa, awa, cwa, ara, cra, aka, cka, rfl, HNY, hb⟩; have HNa := Lib.hid (HNY.out _ (keys_typed hL (by simp))); clear HNY; replace hL := hL.below hb; clear hb hF; have hF := hL.fx; have HWB2 := Lib.hid (HWB.out.tail0 hL); clear hL; clear HWB; have HWB := HWB2; clear HWB2; have hL := HWB.out.self0; clear hF; have hF := hL.fx) | (go_at_call 17; refine zC (fun W hL => open_is a (by omega) true HO.out _) ?_; clear hF hL; intro W hL hF))
 refine kn_body ?_; clear hF hL; intro W hL; have hF := hL.fx
 refine bodyPost_ret (by simp [results, Tryz.results6, go_sem, *]; try rfl) rfl ?_
 exact ⟨rfl, (HWB.out.tail0 hL).below0⟩
end Go.Proofs.YtgboffbbpmileaaGreatDoor
set_option linter.unusedVariables false
set_option linter.unusedSimpArgs false
namespace Go.Proofs.YtgboffbbpmileaaGreatDoor
open Go Go.RowKit
/-- The eight scripts. -/
def nestS (a : ByteArray) : List ByteArray := [(((⟨#[40, 32]⟩ : ByteArray) ++ a) ++ (⟨#[10, 41]⟩ : ByteArray)), (((⟨#[123, 32]⟩ : ByteArray) ++ a) ++ (⟨#[10, 125]⟩ : ByteArray)), (((((⟨#[105, 102, 32]⟩ : ByteArray) ++ a) ++ (⟨#[10, 116, 104, 101, 110, 32]⟩ : ByteArray)) ++ a) ++ (⟨#[10, 102, 105]⟩ : ByteArray)), (((((⟨#[119, 104, 105, 108, 101, 32]⟩ : ByteArray) ++ a) ++ (⟨#[10, 100, 111, 32]⟩ : ByteArray)) ++ a) ++ (⟨#[10, 100, 111, 110, 101]⟩ : ByteArray)), (((((⟨#[117, 110, 116, 105, 108, 32]⟩ : ByteArray) ++ a) ++ (⟨#[10, 100, 111, 32]⟩ : ByteArray)) ++ a) ++ (⟨#[10, 100, 111, 110, 101]⟩ : ByteArray)), (((⟨#[102, 111, 114, 32, 105, 32, 105, 110, 32, 49, 32, 50, 10, 100, 111, 32]⟩ : ByteArray) ++ a) ++ (⟨#[10, 100, 111, 110, 101]⟩ : ByteArray)), (((⟨#[99, 97, 115, 101, 32, 120, 32, 105, 110, 10, 40, 120, 41, 32]⟩ : ByteArray) ++ a) ++ (⟨#[10, 59, 59, 10, 101, 115, 97, 99]⟩ : ByteArray)), (((⟨#[102, 40, 41, 32, 123, 32]⟩ : ByteArray) ++ a) ++ (⟨#[10, 125]⟩ : ByteArray))]
def nestZ : List Nat := [6, 7, 8, 9, 10, 11, 12, 14]
theorem nestS_sz (a : ByteArray) (h : a.size ≤ 1000) : ∀ s ∈ nestS a, s.size ≤ 8000 := by
 intro s hs
 simp only [nestS, List.mem_cons, List.not_mem_nil, or_false] at hs
 rcases hs with rfl | rfl | rfl | rfl | rfl | rfl | rfl | rfl <;> (simp only [ByteArray.size_append, show (⟨#[10, 100, 111, 110, 101]⟩ : ByteArray).size = 5 from rfl, show (⟨#[10, 100, 111, 32]⟩ : ByteArray).size = 4 from rfl, show (⟨#[10, 102, 105]⟩ : ByteArray).size = 3 from rfl, show (⟨#[10, 116, 104, 101, 110, 32]⟩ : ByteArray).size = 6 from rfl, show (⟨#[10, 125]⟩ : ByteArray).size = 2 from rfl, show (⟨#[10, 41]⟩ : ByteArray).size = 2 from rfl, show (⟨#[10, 59, 59, 10, 101, 115, 97, 99]⟩ : ByteArray).size = 8 from rfl, show (⟨#[102, 111, 114, 32, 105, 32, 105, 110, 32, 49, 32, 50, 10, 100, 111, 32]⟩ : ByteArray).size = 16 from rfl, show (⟨#[102, 40, 41, 32, 123, 32]⟩ : ByteArray).size = 6 from rfl, show (⟨#[105, 102, 32]⟩ : ByteArray).size = 3 from rfl, show (⟨#[117, 110, 116, 105, 108, 32]⟩ : ByteArray).size = 6 from rfl, show (⟨#[119, 104, 105, 108, 101, 32]⟩ : ByteArray).size = 6 from rfl, show (⟨#[123, 32]⟩ : ByteArray).size = 2 from rfl, show (⟨#[40, 32]⟩ : ByteArray).size = 2 from rfl, show (⟨#[99, 97, 115, 101, 32, 120, 32, 105, 110, 10, 40, 120, 41, 32]⟩ : ByteArray).size = 14 from rfl]; omega)
theorem nestS_B (a : ByteArray) (k : Nat) (s : ByteArray) (h : (nestS a)[k]? = some s) : (nestB a.data.toList)[k]? = some s.data.toList := by
 have e : nestB a.data.toList = (nestS a).map fun s => s.data.toList := by
  simp only [nestS, nestB, List.map_cons, List.map_nil, appl, kIf, kThen, kFi, kWhile, kUntil, kDo, kDone, kFor, kIn, kCase, kEsac]
  simp
 rw [e, List.getElem?_map, h]; rfl
/-- Of each of the trees: its kind, and the node whose kids are the script's list. -/
theorem nest_kind {x : List Nd} {k : Nat} (hk : k < 8) : ∃ (N I : Nd) (z : Nat), (nestN x)[k]? = some N ∧ nestZ[k]? = some z ∧ N.kind = z ∧ ((((z : Int) == 14) = false ∧ ((z : Int) == 12) = false ∧ I = N) ∨ ((((z : Int) == 14) = true ∨ (((z : Int) == 14) = false ∧ ((z : Int) == 12) = true)) ∧ N.kids[0]? = some I)) ∧ I.kids ≠ [] ∧ I.kids.length ≤ 2 ∧ ∀ y ∈ I.kids, y = .mk 4 [] false [] [] [] x := by
 rcases (show k = 0 ∨ k = 1 ∨ k = 2 ∨ k = 3 ∨ k = 4 ∨ k = 5 ∨ k = 6 ∨ k = 7 by omega) with rfl | rfl | rfl | rfl | rfl | rfl | rfl | rfl
 ·exact ⟨_, _, _, rfl, rfl, rfl, .inl ⟨rfl, rfl, rfl⟩, List.cons_ne_nil _ _, by simp [Nd.kids], fun y hy => by simpa [Nd.kids, ndL] using hy⟩
 ·exact ⟨_, _, _, rfl, rfl, rfl, .inl ⟨rfl, rfl, rfl⟩, List.cons_ne_nil _ _, by simp [Nd.kids], fun y hy => by simpa [Nd.kids, ndL] using hy⟩
 ·exact ⟨_, _, _, rfl, rfl, rfl, .inl ⟨rfl, rfl, rfl⟩, List.cons_ne_nil _ _, by simp [Nd.kids], fun y hy => by simpa [Nd.kids, ndL] using hy⟩
 ·exact ⟨_, _, _, rfl, rfl, rfl, .inl ⟨rfl, rfl, rfl⟩, List.cons_ne_nil _ _, by simp [Nd.kids], fun y hy => by simpa [Nd.kids, ndL] using hy⟩
 ·exact ⟨_, _, _, rfl, rfl, rfl, .inl ⟨rfl, rfl, rfl⟩, List.cons_ne_nil _ _, by simp [Nd.kids], fun y hy => by simpa [Nd.kids, ndL] using hy⟩
 ·exact ⟨_, _, _, rfl, rfl, rfl, .inl ⟨rfl, rfl, rfl⟩, List.cons_ne_nil _ _, by simp [Nd.kids], fun y hy => by simpa [Nd.kids, ndL] using hy⟩
 ·exact ⟨_, _, _, rfl, rfl, rfl, .inr ⟨.inr ⟨rfl, rfl⟩, rfl⟩, List.cons_ne_nil _ _, by simp [Nd.kids], fun y hy => by simpa [Nd.kids, ndL] using hy⟩
 ·exact ⟨_, _, _, rfl, rfl, rfl, .inr ⟨.inl rfl, rfl⟩, List.cons_ne_nil _ _, by simp [Nd.kids], fun y hy => by simpa [Nd.kids, ndL] using hy⟩
theorem nestS_len (a : ByteArray) : (nestS a).length = 8 := rfl
theorem ncell_s {a : ByteArray} {j : Nat} {s : ByteArray} (h : (nestS a)[j]? = some s) : (((nestS a).map Value.string).toArray)[j]? = some (.string s) := by
 rw [List.getElem?_toArray, List.getElem?_map, h]; rfl
theorem ncell_z {j z : Nat} (h : nestZ[j]? = some z) : ((nestZ.map fun (n : Nat) => Value.int .i64 (n : Int)).toArray)[j]? = some (.int .i64 z) := by
 rw [List.getElem?_toArray, List.getElem?_map, h]; rfl
/-- A cell of an elder block, which is none of those that may change. -/
def KCell (F : List (Nat × Obj)) (W : World) (b k : Nat) (v : Value) : Prop := b ∉ keys F ∧ W.cell? ⟨b, k, none⟩ = some v
theorem KCell.next {F F' : List (Nat × Obj)} {wb wc w : World} {b k : Nat} {v : Value} (h : KCell F wb b k v) (hk : Kn (keys F) wb wc F') (hb : Below wc.heap.size wc w) : KCell F' w b k v := by
 have hl := cell_lt h.2
 refine ⟨fun hm => ?_, cell_ext ((cell_same (hk.block b hl h.1)).trans h.2) hb⟩
 obtain ⟨p, hp, rfl⟩ := List.mem_map.1 hm
 rcases hk.own p hp with e | e
 ·omega
 ·exact h.1 e
/-- The scripts and the kinds, in their blocks. -/
def NCs (a : ByteArray) (F : List (Nat × Obj)) (W : World) (sb kb : Nat) : Prop := (∀ (j : Nat) s, (nestS a)[j]? = some s → KCell F W sb j (.string s)) ∧ ∀ (j z : Nat), nestZ[j]? = some z → KCell F W kb j (.int .i64 z)
theorem NCs.next {a : ByteArray} {F F' : List (Nat × Obj)} {wb wc w : World} {sb kb : Nat} (h : NCs a F wb sb kb) (hk : Kn (keys F) wb wc F') (hb : Below wc.heap.size wc w) : NCs a F' w sb kb := ⟨fun j s hj => (h.1 j s hj).next hk hb, fun j z hj => (h.2 j z hj).next hk hb⟩
theorem NCs.sub {a : ByteArray} {F F' : List (Nat × Obj)} {w : World} {sb kb : Nat} (h : NCs a F w sb kb) (hs : ∀ p ∈ F', p ∈ F) : NCs a F' w sb kb := ⟨fun j s hj => ⟨fun hm => (h.1 j s hj).1 (by obtain ⟨p, hp, e⟩ := List.mem_map.1 hm; exact List.mem_map.2 ⟨p, hs p hp, e⟩), (h.1 j s hj).2⟩, fun j z hj => ⟨fun hm => (h.2 j z hj).1 (by obtain ⟨p, hp, e⟩ := List.mem_map.1 hm; exact List.mem_map.2 ⟨p, hs p hp, e⟩), (h.2 j z hj).2⟩⟩
theorem rowy_atY {k : Nat} {Y : List Nat} {w : World} {a : Option Addr} {n cap : Nat} {xs : List (List Value)} (h : RowY k Y w (.slice a n cap) xs) {j : Nat} {cs : List Value} (hj : xs[j]? = some cs) : ∃ g o, a = some ⟨g, o, none⟩ ∧ g ∉ Y ∧ g < w.heap.size ∧ ∀ (c : Nat) x, cs[c]? = some x → w.cell? ⟨g, o + j * k + c, none⟩ = some x := by
 obtain ⟨ao, c, hv, _, h2⟩ := h
 injection hv with e1 e2 e3
 subst e1
 obtain ⟨g, o, h3, h3b, h4, h5⟩ := h2 j cs hj
 exact ⟨g, o, h3, h3b, h4, h5⟩
end Go.Proofs.YtgboffbbpmileaaGreatDoor
set_option maxRecDepth 20000
set_option maxHeartbeats 4000000
set_option linter.unusedVariables false
set_option linter.unusedSimpArgs false
namespace Go.Proofs.YtgboffbbpmileaaGreatDoor
open Go Go.RowKit
theorem kids_open {Y : List Nat} {w : World} {n : Nd} {v0 v1 v2 v3 v4 v5 : Value} {ak : Option Addr} {nk ck : Nat} (h : NodeIs Y w n [v0, v1, v2, v3, v4, v5, .slice ak nk ck]) : ∃ ks : List (Nd × List Value), n.kids = ks.map (·.1) ∧ ks.length = nk ∧ (∀ p ∈ ks, NodeIs Y w p.1 p.2) ∧ RowY 7 Y w (.slice ak nk ck) (ks.map (·.2)) := by
 obtain ⟨al, ws, rs, ks, va, vw, vr, vk, hn, hcs, h1, _, h3, _, h5, _, h7, h8⟩ := h.open
 simp only [List.cons.injEq, and_true] at hcs
 obtain ⟨_, _, _, _, _, _, rfl⟩ := hcs
 obtain ⟨a9, c9, hv⟩ := rowy_len h7
 injection hv with _ hv _
 rw [List.length_map] at hv
 exact ⟨ks, by rw [hn]; rfl, hv.symm, h8, h7⟩
end Go.Proofs.YtgboffbbpmileaaGreatDoor
