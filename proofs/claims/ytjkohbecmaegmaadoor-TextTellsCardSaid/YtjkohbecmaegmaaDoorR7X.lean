import Derived.Test.YtjkohbecmaegmaaDoorProg
import Derived.WalkKit
import Derived.Handy
import Derived.Deep.Light
import Derived.WalkSmall
import Derived.StillTailTactics
import Derived.Lib.Hide
import Derived.Test.YtjkohbecmaegmaaDoorT0
import Derived.Test.YtjkohbecmaegmaaDoorIt
import Derived.Test.YtjkohbecmaegmaaDoorRcM
namespace Go.Proofs.YtjkohbecmaegmaaDoor
open Go Go.RowKit
set_option linter.unusedSimpArgs false
set_option linter.unusedVariables false
set_option maxRecDepth 20000 in
set_option maxHeartbeats 4000000 in
theorem refIn_is (s : ByteArray) (hs : s.size ≤ 100000000) (c : UInt8) (w : World) :
    Calls Tryd.prog 59 #[.string s, .int .u8 c.toNat] w fun e w' => e = .returned (.bool (inSet s.data.toList c)) ∧ Below w.heap.size w w' := by
  have hsl := szl s
  obtain ⟨v, hv⟩ : ∃ v, inSet s.data.toList c = v := ⟨_, rfl⟩
  rw [hv]
  have hv := Lib.hid hv
  have hL : Kn [] w w [] := Kn.refl [] w; (try simp only [List.setIfInBounds_toArray, List.set_cons_zero, List.set_cons_succ, List.cons_append, List.nil_append] at hL); have hF := hL.facts; (try simp only [Facts, Dist, List.map_cons, List.map_nil, List.forall_mem_cons, false_implies, ne_eq, not_false_eq_true, List.not_mem_nil, not_false_eq_true, true_implies, forall_const, List.mem_cons, or_false, implies_true, and_true, true_and, Nat.le_refl, List.setIfInBounds_toArray, List.set_cons_zero, List.set_cons_succ] at hF); go_enter Tryd.func59, Tryd.ntmps59
  go_wp2
  go_loopw [5] (fun i wr => ∃ k : Nat, k ≤ s.size ∧ i = .int .i64 k ∧ Kn [] w wr [] ∧ Hid (inSet (s.data.toList.drop k) c = v)) (fun i _ => s.size - (intOf i).toNat)
  case atStart => exact ⟨0, by omega, rfl, hL, Lib.hid hv.out⟩
  case round =>
    obtain ⟨k, hk, rfl, hK, hinv⟩ := hrel
    clear hL hF
    have hL := hK
    clear hK
    (try simp only [List.setIfInBounds_toArray, List.set_cons_zero, List.set_cons_succ, List.cons_append, List.nil_append] at hL); have hF := hL.facts; (try simp only [Facts, Dist, List.map_cons, List.map_nil, List.forall_mem_cons, false_implies, ne_eq, not_false_eq_true, List.not_mem_nil, not_false_eq_true, true_implies, forall_const, List.mem_cons, or_false, implies_true, and_true, true_and, Nat.le_refl, List.setIfInBounds_toArray, List.set_cons_zero, List.set_cons_succ] at hF)
    by_cases hlt : k < s.size
    · obtain ⟨a, hka⟩ : ∃ a, s.data.toList[k]? = some a := ⟨_, List.getElem?_eq_getElem (by omega)⟩
      have e0 := byte_at hka hlt
      have hd : s.data.toList.drop k = a :: s.data.toList.drop (k + 1) := by
        obtain ⟨h1, h2⟩ := List.getElem?_eq_some_iff.1 hka
        rw [List.drop_eq_getElem_cons h1, h2]
      have hc256 := c.toNat_lt
      by_cases hr : ∃ b, k + 2 < s.size ∧ s.data.toList[k + 1]? = some 45 ∧ s.data.toList[k + 2]? = some b
      · obtain ⟨b, hk2, h45, hkb⟩ := hr
        have e1 := byte_at h45 (by omega)
        have e2 := byte_at hkb hk2
        have hd3 : s.data.toList.drop k = a :: 45 :: b :: s.data.toList.drop (k + 3) := by
          rw [hd]
          obtain ⟨h1, h2⟩ := List.getElem?_eq_some_iff.1 h45
          obtain ⟨h3, h4⟩ := List.getElem?_eq_some_iff.1 hkb
          rw [List.drop_eq_getElem_cons h1, h2, List.drop_eq_getElem_cons h3, h4]
        have hk2i : (k : Int) + 2 < s.size := by omega
        have hin := hinv.out
        rw [hd3, in_range] at hin
        by_cases h1 : (a.toNat : Int) ≤ c.toNat
        · by_cases h2 : (c.toNat : Int) ≤ b.toNat
          · have hvt : v = true := by rw [← hin]; simp; left; omega
            go_wp2
            (try simp only [Exit.inBlock, Exit.then]); refine bodyPost_ret (by simp [results, Tryd.results59, go_sem, *]; try rfl) rfl ?_
            exact ⟨by first | rfl | rw [hvt], hL.below0⟩
          · have hin2 : Hid (inSet (s.data.toList.drop (k + 3)) c = v) := Lib.hid (by rw [← hin, decide_eq_false (p := c.toNat ≤ b.toNat) (by omega)]; simp)
            clear hin hinv
            go_wp2
            go_roundw
            case rel => exact ⟨k + 3, by omega, by go_num, hL, hin2⟩
            case measure => simp [intOf]; omega
        · have hin2 : Hid (inSet (s.data.toList.drop (k + 3)) c = v) := Lib.hid (by rw [← hin, decide_eq_false (p := a.toNat ≤ c.toNat) (by omega)]; simp)
          clear hin hinv
          go_wp2
          go_roundw
          case rel => exact ⟨k + 3, by omega, by go_num, hL, hin2⟩
          case measure => simp [intOf]; omega
      · have hpl : (s.data.toList.drop (k + 1)).length < 2 ∨ (s.data.toList.drop (k + 1)).head? ≠ some 45 := by
          by_cases hk2 : k + 2 < s.size
          · right
            rw [List.head?_drop]
            intro h45
            obtain ⟨b, hkb⟩ : ∃ b, s.data.toList[k + 2]? = some b := ⟨_, List.getElem?_eq_getElem (by omega)⟩
            exact hr ⟨b, hk2, h45, hkb⟩
          · left; rw [List.length_drop]; omega
        have hin := hinv.out
        rw [hd, in_plain a c _ hpl] at hin
        by_cases hk2 : k + 2 < s.size
        · obtain ⟨d, hkd⟩ : ∃ d, s.data.toList[k + 1]? = some d := ⟨_, List.getElem?_eq_getElem (by omega)⟩
          have e1 := byte_at hkd (by omega)
          have hd45 : ((d.toNat : Int) == 45) = false := beq_false_of_ne fun h => by
            have : d = 45 := UInt8.toNat_inj.1 (show d.toNat = 45 by omega)
            subst this
            obtain ⟨b, hkb⟩ : ∃ b, s.data.toList[k + 2]? = some b := ⟨_, List.getElem?_eq_getElem (by omega)⟩
            exact hr ⟨b, hk2, hkd, hkb⟩
          have hk2i : (k : Int) + 2 < s.size := by omega
          by_cases hac : a = c
          · have hvt : v = true := by rw [← hin, hac]; simp
            subst hac
            clear hr hin hinv hpl
            go_wp2
            (try simp only [Exit.inBlock, Exit.then]); refine bodyPost_ret (by simp [results, Tryd.results59, go_sem, *]; try rfl) rfl ?_
            exact ⟨by first | rfl | rw [hvt], hL.below0⟩
          · have hin2 : Hid (inSet (s.data.toList.drop (k + 1)) c = v) := Lib.hid (by rw [← hin, beq_false_of_ne hac]; simp)
            have hacn : ((a.toNat : Int) == (c.toNat : Int)) = false := beq_false_of_ne fun h => hac (UInt8.toNat_inj.1 (by omega))
            clear hr hin hinv hpl hac
            go_wp2
            go_roundw
            case rel => exact ⟨k + 1, by omega, by go_num, hL, hin2⟩
            case measure => simp [intOf]; omega
        · have hk2i : ¬ (k : Int) + 2 < s.size := by omega
          by_cases hac : a = c
          · have hvt : v = true := by rw [← hin, hac]; simp
            subst hac
            clear hr hin hinv hpl
            go_wp2
            (try simp only [Exit.inBlock, Exit.then]); refine bodyPost_ret (by simp [results, Tryd.results59, go_sem, *]; try rfl) rfl ?_
            exact ⟨by first | rfl | rw [hvt], hL.below0⟩
          · have hin2 : Hid (inSet (s.data.toList.drop (k + 1)) c = v) := Lib.hid (by rw [← hin, beq_false_of_ne hac]; simp)
            have hacn : ((a.toNat : Int) == (c.toNat : Int)) = false := beq_false_of_ne fun h => hac (UInt8.toNat_inj.1 (by omega))
            clear hr hin hinv hpl hac
            go_wp2
            go_roundw
            case rel => exact ⟨k + 1, by omega, by go_num, hL, hin2⟩
            case measure => simp [intOf]; omega
    · obtain rfl : k = s.size := by omega
      have hvf : v = false := by rw [← hinv.out, List.drop_eq_nil_of_le (by omega)]; rfl
      go_wp2
      (try simp only [Exit.inBlock, Exit.then]); refine bodyPost_ret (by simp [results, Tryd.results59, go_sem, *]; try rfl) rfl ?_
      exact ⟨by rw [hvf], hL.below0⟩

def closeV (p : Bytes) (first : Nat) : Int := match setOf (p.drop first) with | some (a, _) => (first : Int) + a.length | none => -1
theorem refClosing_is (p : ByteArray) (first : Nat) (hp : p.size ≤ 100000000) (hf : first ≤ 100000002) (n : Int) (hn : (first : Int) = n) (w : World) :
    Calls Tryd.prog 58 #[.string p, .int .i64 n] w fun e w' => e = .returned (.int .i64 (closeV p.data.toList first)) ∧ w' = w := by
  subst hn
  have hpl := szl p
  obtain ⟨v, hv0⟩ : ∃ v, closeV p.data.toList first = v := ⟨_, rfl⟩
  rw [hv0]
  have hv := Lib.hid hv0
  clear hv0
  go_enter Tryd.func58, Tryd.ntmps58
  go_wp2
  go_loop [5] (fun i => ∃ k : Nat, first + 1 ≤ k ∧ (k ≤ p.size ∨ k = first + 1) ∧ i = .int .i64 k ∧ Hid (∀ j, first + 1 ≤ j → j < k → p.data.toList[j]? ≠ some 93)) (fun i => p.size - (intOf i).toNat)
  case atStart => exact ⟨first + 1, by omega, .inr rfl, by go_num, Lib.hid fun j h1 h2 => by omega⟩
  case round =>
    obtain ⟨k, hk0, hk, rfl, hno⟩ := hrel
    by_cases hlt : k < p.size
    · obtain ⟨c, hck⟩ : ∃ c, p.data.toList[k]? = some c := ⟨_, List.getElem?_eq_getElem (by omega)⟩
      have eb := byte_at hck hlt
      by_cases h93 : c = 93
      · subst h93
        have hvk : Hid (v = (k : Int)) := Lib.hid (by
          have hi : Lib.indexByte ((p.data.toList.drop first).drop 1) 93 = ((k - (first + 1) : Nat) : Int) := by
            refine index_of _ _ _ ?_ ?_
            · rw [List.drop_drop, List.getElem?_drop, show first + 1 + (k - (first + 1)) = k by omega]; exact hck
            · intro j hj
              rw [List.drop_drop, List.getElem?_drop]
              exact hno.out _ (by omega) (by omega)
          have hne : p.data.toList.drop first ≠ [] := fun e => by
            have := congrArg List.length e
            rw [List.length_drop] at this
            simp only [List.length_nil] at this; omega
          rw [← hv.out]
          unfold closeV setOf
          rw [if_neg hne, if_neg (by rw [hi]; omega), hi]
          simp only [Int.toNat_natCast, List.length_take, List.length_drop]
          omega)
        clear hck
        go_wp2
        (try simp only [Exit.inBlock, Exit.then]); refine bodyPost_ret (by simp [results, Tryd.results58, go_sem, *]; try rfl) rfl ?_
        exact ⟨by rw [hvk.out], rfl⟩
      · have f93 : ((c.toNat : Int) == 93) = false := beq_false_of_ne fun h => h93 (UInt8.toNat_inj.1 (show c.toNat = 93 by omega))
        have hno2 : Hid (∀ j, first + 1 ≤ j → j < k + 1 → p.data.toList[j]? ≠ some 93) := Lib.hid fun j h1 h2 => by
          by_cases hjk : j = k
          · subst hjk; rw [hck]; simpa using h93
          · exact hno.out j h1 (by omega)
        clear hck h93
        go_wp2
        go_round
        case rel => exact ⟨k + 1, by omega, .inl (by omega), by go_num, hno2⟩
        case measure => simp [intOf]; omega
    · have hvk : Hid (v = -1) := Lib.hid (by
        rw [← hv.out]
        unfold closeV setOf
        by_cases hne : p.data.toList.drop first = []
        · rw [if_pos hne]
        · rw [if_neg hne]
          have hi := index_not ((p.data.toList.drop first).drop 1) 93 (fun j => by
            rw [List.drop_drop, List.getElem?_drop]
            by_cases hj : first + 1 + j < p.size
            · exact hno.out _ (by omega) (by omega)
            · rw [List.getElem?_eq_none (by omega)]; simp)
          rw [hi, if_pos (by decide)])
      go_wp2
      (try simp only [Exit.inBlock, Exit.then]); refine bodyPost_ret (by simp [results, Tryd.results58, go_sem, *]; try rfl) rfl ?_
      exact ⟨by rw [hvk.out], rfl⟩
def kindP : Pt → Int
  | .byte _ => 0
  | .star => 1
  | .any => 2
  | .cls _ _ => 3
def byteP : Pt → UInt8
  | .byte d => d
  | .star => 42
  | .any => 63
  | .cls _ _ => 0
def setP : Pt → Bytes
  | .cls _ s => s
  | _ => []
def notP : Pt → Bool
  | .cls n _ => n
  | _ => false
/-- The cells of a part. -/
def pcells (x : Pt × Bytes) : List Value := [.int .i64 (kindP x.1), .int .u8 ((byteP x.1).toNat : Int), .string ⟨(setP x.1).toArray⟩, .bool (notP x.1), .string ⟨x.2.toArray⟩]
set_option maxRecDepth 20000 in
set_option maxHeartbeats 4000000 in
theorem fits_is (x : Pt × Bytes) (hx : x.1 ≠ .star) (hz : (setP x.1).length ≤ 1000000) (c : UInt8) (w : World) :
    Calls Tryd.prog 47 #[.agg (pcells x).toArray, .int .u8 c.toNat] w fun e w' => e = .returned (.bool (fit x.1 c)) ∧ Below w.heap.size w w' := by
  obtain ⟨x, t⟩ := x
  simp only at hx hz
  cases x with
  | star => exact absurd rfl hx
  | any =>
    simp only [pcells, kindP, byteP, setP, notP]
    obtain ⟨ts, hts⟩ : ∃ ts : ByteArray, (⟨t.toArray⟩ : ByteArray) = ts := ⟨_, rfl⟩
    rw [hts]
    have hL : Kn [] w w [] := Kn.refl [] w; (try simp only [List.setIfInBounds_toArray, List.set_cons_zero, List.set_cons_succ, List.cons_append, List.nil_append] at hL); have hF := hL.facts; (try simp only [Facts, Dist, List.map_cons, List.map_nil, List.forall_mem_cons, false_implies, ne_eq, not_false_eq_true, List.not_mem_nil, not_false_eq_true, true_implies, forall_const, List.mem_cons, or_false, implies_true, and_true, true_and, Nat.le_refl, List.setIfInBounds_toArray, List.set_cons_zero, List.set_cons_succ] at hF); go_enter Tryd.func47, Tryd.ntmps47
    go_wp2
    (try simp only [Exit.inBlock, Exit.then]); refine bodyPost_ret (by simp [results, Tryd.results47, go_sem, *]; try rfl) rfl ?_
    exact ⟨rfl, kn_here.below0⟩
  | byte d =>
    simp only [pcells, kindP, byteP, setP, notP]
    obtain ⟨ts, hts⟩ : ∃ ts : ByteArray, (⟨t.toArray⟩ : ByteArray) = ts := ⟨_, rfl⟩
    rw [hts]
    obtain ⟨v, hv⟩ : ∃ v, fit (.byte d) c = v := ⟨_, rfl⟩
    have hb : ((d.toNat : Int) == (c.toNat : Int)) = v := by rw [beq_bytes, ← hv]; rfl
    rw [hv]
    clear hv
    have hL : Kn [] w w [] := Kn.refl [] w; (try simp only [List.setIfInBounds_toArray, List.set_cons_zero, List.set_cons_succ, List.cons_append, List.nil_append] at hL); have hF := hL.facts; (try simp only [Facts, Dist, List.map_cons, List.map_nil, List.forall_mem_cons, false_implies, ne_eq, not_false_eq_true, List.not_mem_nil, not_false_eq_true, true_implies, forall_const, List.mem_cons, or_false, implies_true, and_true, true_and, Nat.le_refl, List.setIfInBounds_toArray, List.set_cons_zero, List.set_cons_succ] at hF); go_enter Tryd.func47, Tryd.ntmps47
    go_wp2
    (try simp only [Exit.inBlock, Exit.then]); refine bodyPost_ret (by simp [results, Tryd.results47, go_sem, *]; try rfl) rfl ?_
    exact ⟨rfl, kn_here.below0⟩
  | cls n s =>
    simp only [pcells, kindP, byteP, setP, notP] at hz ⊢
    obtain ⟨ts, hts⟩ : ∃ ts : ByteArray, (⟨t.toArray⟩ : ByteArray) = ts := ⟨_, rfl⟩
    rw [hts]
    obtain ⟨ss, hss⟩ : ∃ ts : ByteArray, (⟨s.toArray⟩ : ByteArray) = ts := ⟨_, rfl⟩
    rw [hss]
    have hs2 : ss.data.toList = s := by rw [← hss]
    have hsz : ss.size ≤ 100000000 := by rw [← szl, hs2]; omega
    obtain ⟨b, hb⟩ : ∃ b, inSet ss.data.toList c = b := ⟨_, rfl⟩
    have IN : Hid (∀ W, Calls Tryd.prog 59 #[.string ss, .int .u8 c.toNat] W fun e w' => e = .returned (.bool b) ∧ Below W.heap.size W w') := Lib.hid fun W => by
      have := refIn_is ss hsz c W
      rw [hb] at this; exact this
    have hv : Hid (fit (.cls n s) c = (b != n)) := Lib.hid (by rw [← hb, hs2]; rfl)
    rw [hv.out]
    clear hv hb hts hss hs2
    have hL : Kn [] w w [] := Kn.refl [] w; (try simp only [List.setIfInBounds_toArray, List.set_cons_zero, List.set_cons_succ, List.cons_append, List.nil_append] at hL); have hF := hL.facts; (try simp only [Facts, Dist, List.map_cons, List.map_nil, List.forall_mem_cons, false_implies, ne_eq, not_false_eq_true, List.not_mem_nil, not_false_eq_true, true_implies, forall_const, List.mem_cons, or_false, implies_true, and_true, true_and, Nat.le_refl, List.setIfInBounds_toArray, List.set_cons_zero, List.set_cons_succ] at hF); go_enter Tryd.func47, Tryd.ntmps47
    go_wp2_with (first | ((with_reducible refine kn_list_set ?_); (try clear hF); clear hL; intro W hL; (try simp only [List.setIfInBounds_toArray, List.set_cons_zero, List.set_cons_succ, List.cons_append, List.nil_append] at hL); have hF := hL.facts; (try simp only [Facts, Dist, List.map_cons, List.map_nil, List.forall_mem_cons, false_implies, ne_eq, not_false_eq_true, List.not_mem_nil, not_false_eq_true, true_implies, forall_const, List.mem_cons, or_false, implies_true, and_true, true_and, Nat.le_refl, List.setIfInBounds_toArray, List.set_cons_zero, List.set_cons_succ] at hF)) | ((with_reducible refine at_region 4 ?_); refine kn_wp ?_; (try clear hF); clear hL; intro W hL; (try simp only [List.setIfInBounds_toArray, List.set_cons_zero, List.set_cons_succ, List.cons_append, List.nil_append] at hL); have hF := hL.facts; (try simp only [Facts, Dist, List.map_cons, List.map_nil, List.forall_mem_cons, false_implies, ne_eq, not_false_eq_true, List.not_mem_nil, not_false_eq_true, true_implies, forall_const, List.mem_cons, or_false, implies_true, and_true, true_and, Nat.le_refl, List.setIfInBounds_toArray, List.set_cons_zero, List.set_cons_succ] at hF); refine kn_region [0, 1, 2, 4, 5, 3, 6, 7] [0, 1, 2, 4, 5, 6, 7] [] [0, 2, 4, 6, 7] (by kernel_rfl) (by kernel_rfl) (List.Sublist.refl _) ?_; (try clear hF); clear hL; intro ι F hne hC hFF; have hG := fun n => (hFF n).facts; clear hFF; (try simp only [Facts, Dist, List.map_cons, List.map_nil, List.forall_mem_cons, false_implies, ne_eq, not_false_eq_true, List.not_mem_nil, not_false_eq_true, true_implies, forall_const, List.mem_cons, or_false, implies_true, and_true, true_and, Nat.le_refl, List.setIfInBounds_toArray, List.set_cons_zero, List.set_cons_succ] at hG); (repeat (first | (refine cwk_skip rfl (by rfl) ?_; (try simp only [Act.put, List.setIfInBounds_toArray, List.set_cons_zero, List.set_cons_succ])) | (refine cwk_float rfl rfl (by rfl) (by rfl) (by rfl) hC ?_; intro K hK; go_big_quiet_op; go_big_quiet_on) | (refine cwk_pure rfl rfl (by rfl) (by rfl) ?_; intro K hK; go_big_quiet_op; go_big_quiet_on) | (refine cwk_call rfl (by rfl) (by rfl) (fun _ => rfl) ?_; intro W hL; (try simp only [List.setIfInBounds_toArray, List.set_cons_zero, List.set_cons_succ, List.cons_append, List.nil_append] at hL); have hF := hL.facts; (try simp only [Facts, Dist, List.map_cons, List.map_nil, List.forall_mem_cons, false_implies, ne_eq, not_false_eq_true, List.not_mem_nil, not_false_eq_true, true_implies, forall_const, List.mem_cons, or_false, implies_true, and_true, true_and, Nat.le_refl, List.setIfInBounds_toArray, List.set_cons_zero, List.set_cons_succ] at hF); simp only [List.map_toArray, List.map_cons, List.map_nil, Array.empty_append, Array.append_empty, Act.eval, Array.getD_eq_getD_getElem?, List.getElem?_toArray, List.getElem?_cons_zero, List.getElem?_cons_succ, Option.getD_some]; go_at_call 59; (with_reducible refine (IN.out _).mono ?_); rintro e W ⟨rfl, hb⟩; replace hL := hL.below hb; clear hb; (try clear hF); (try simp only [List.setIfInBounds_toArray, List.set_cons_zero, List.set_cons_succ, List.cons_append, List.nil_append] at hL); have hF := hL.facts; (try simp only [Facts, Dist, List.map_cons, List.map_nil, List.forall_mem_cons, false_implies, ne_eq, not_false_eq_true, List.not_mem_nil, not_false_eq_true, true_implies, forall_const, List.mem_cons, or_false, implies_true, and_true, true_and, Nat.le_refl, List.setIfInBounds_toArray, List.set_cons_zero, List.set_cons_succ] at hF); refine owed_ret ?_; (first | (refine owedB _ (by rfl) ?_; clear hL; (try clear hF); clear hC hG; intro ι F hne hC hFF; have hG := fun n => (hFF n).facts; clear hFF; (try simp only [Facts, Dist, List.map_cons, List.map_nil, List.forall_mem_cons, false_implies, ne_eq, not_false_eq_true, List.not_mem_nil, not_false_eq_true, true_implies, forall_const, List.mem_cons, or_false, implies_true, and_true, true_and, Nat.le_refl, List.setIfInBounds_toArray, List.set_cons_zero, List.set_cons_succ] at hG)) | (refine owed0 _ (by repeat' (first | (with_reducible exact List.Sublist.refl _) | (with_reducible apply List.Sublist.cons_cons) | (with_reducible apply List.Sublist.cons))) ?_; clear hL; (try clear hF))); (try simp only [Act.put, List.setIfInBounds_toArray, List.set_cons_zero, List.set_cons_succ])) | (refine cwk_anch rfl rfl (by rfl) (by rfl) ?_; intro W hL; (try simp only [List.setIfInBounds_toArray, List.set_cons_zero, List.set_cons_succ, List.cons_append, List.nil_append] at hL); have hF := hL.facts; (try simp only [Facts, Dist, List.map_cons, List.map_nil, List.forall_mem_cons, false_implies, ne_eq, not_false_eq_true, List.not_mem_nil, not_false_eq_true, true_implies, forall_const, List.mem_cons, or_false, implies_true, and_true, true_and, Nat.le_refl, List.setIfInBounds_toArray, List.set_cons_zero, List.set_cons_succ] at hF); go_wp2; refine anchQ_normal ?_; (first | (refine owedB _ (by rfl) ?_; clear hL; (try clear hF); clear hC hG; intro ι F hne hC hFF; have hG := fun n => (hFF n).facts; clear hFF; (try simp only [Facts, Dist, List.map_cons, List.map_nil, List.forall_mem_cons, false_implies, ne_eq, not_false_eq_true, List.not_mem_nil, not_false_eq_true, true_implies, forall_const, List.mem_cons, or_false, implies_true, and_true, true_and, Nat.le_refl, List.setIfInBounds_toArray, List.set_cons_zero, List.set_cons_succ] at hG)) | (refine owed0 _ (by repeat' (first | (with_reducible exact List.Sublist.refl _) | (with_reducible apply List.Sublist.cons_cons) | (with_reducible apply List.Sublist.cons))) ?_; clear hL; (try clear hF)))))); refine cwk_nil ?_; clear hC hG; intro W hL; (try simp only [List.setIfInBounds_toArray, List.set_cons_zero, List.set_cons_succ, List.cons_append, List.nil_append] at hL); have hF := hL.facts; (try simp only [Facts, Dist, List.map_cons, List.map_nil, List.forall_mem_cons, false_implies, ne_eq, not_false_eq_true, List.not_mem_nil, not_false_eq_true, true_implies, forall_const, List.mem_cons, or_false, implies_true, and_true, true_and, Nat.le_refl, List.setIfInBounds_toArray, List.set_cons_zero, List.set_cons_succ] at hF)))
    (try simp only [Exit.inBlock, Exit.then]); refine bodyPost_ret (by simp [results, Tryd.results47, go_sem, *]; try rfl) rfl ?_
    exact ⟨rfl, hL.below0⟩

end Go.Proofs.YtjkohbecmaegmaaDoor

