import Derived.Test.YtflfaobbfhjmmaaDoorProg
import Derived.WalkKit
import Derived.Handy
import Derived.Deep.Light
import Derived.WalkSmall
import Derived.StillTailTactics
import Derived.Lib.Hide
import Derived.Test.YtflfaobbfhjmmaaDoorT0
import Derived.Test.YtflfaobbfhjmmaaDoorIt
import Derived.Test.YtflfaobbfhjmmaaDoorL20
import Derived.Test.YtflfaobbfhjmmaaDoorLxE
import Derived.Deep.LoopGhost
import Derived.Deep.DeepCutAuto
namespace Go.Proofs.YtflfaobbfhjmmaaDoor
open Go Go.RowKit
set_option linter.unusedSimpArgs false
set_option linter.unusedVariables false

theorem Kn.selfS {X : List Nat} {w0 W : World} {b : Nat} {o : Obj} {A LO : List (Nat × Obj)} (h : Kn X w0 W (A ++ ((b, o) :: LO))) : Kn (b :: keys LO) W W ((b, o) :: LO) := (h.sub (List.sublist_append_right A _)).self0
theorem Kn.joinS {X : List Nat} {w0 W W' : World} {b : Nat} {o : Obj} {A LO L' : List (Nat × Obj)} (h : Kn X w0 W (A ++ ((b, o) :: LO))) (k : Kn (b :: keys LO) W W' L') : Kn X w0 W' (A ++ L') := by
  have := Kn.joinA (P := (b, o) :: LO) (P' := L') A [] (by simpa using h) k
  simpa using this
theorem ioS_tok (l : Bytes) (fd : Int) (n0 n : Nat) : ∃ t r m, ioS l fd n0 n = .tok t r m := by
  unfold ioS; split <;> exact ⟨_, _, _, rfl⟩
theorem plainOf_len (ps : List Prt) : (plainOf ps).length ≤ tot ps := by
  match ps with
  | [] => exact Nat.zero_le _
  | [x] => simp only [plainOf]; split <;> simp [tot]
  | _ :: _ :: _ => exact Nat.zero_le _
theorem TPost.lift {src : ByteArray} {b : Nat} {X : List Nat} {w W w' : World} {o : Obj} {v : Value} {A LO : List (Nat × Obj)} {tvs : List (Tok × Value)} {s : Step} {e : Ending} (h : Kn X w W (A ++ ((b, o) :: LO))) (k : TPost src b (b :: keys LO) W v LO tvs s e w') : TPost src b X w v LO tvs s e w' := by
  have up : ∀ L', Kn (b :: keys LO) W w' L' → Kn X w w' L' := fun L' k => (h.joinS k).sub (List.sublist_append_right A _)
  unfold TPost at k ⊢
  split at k
  · obtain ⟨h1, at2, h2, h3, h4⟩ := k
    exact ⟨h1, at2, h2, h3, up _ h4⟩
  · exact ⟨k.1, up _ k.2⟩
  · split at k
    · rename_i hf
      rw [if_pos hf]
      obtain ⟨h1, at2, v2, LO2, pv, LP, h2, h3, h4, h5, h6⟩ := k
      exact ⟨h1, at2, v2, LO2, pv, LP, h2, h3, h4, h5, up _ h6⟩
    · rename_i hf
      rw [if_neg hf]
      exact ⟨k.1, up _ k.2⟩
set_option maxRecDepth 20000 in
set_option maxHeartbeats 4000000 in
theorem word_is (src : ByteArray) (hs0 : src.size ≤ 10000) (v : Value) (b : Nat) (at0 ln0 : Nat) (w : World) (LO : List (Nat × Obj)) (tvs : List (Tok × Value)) (hL : Kn (b :: keys LO) w w ((b, .cells #[.string src, .int .i64 (at0), .int .i64 (ln0), v] 43 (0, 0)) :: LO)) (hO : OutL LO v tvs) (hz : ln0 ≤ at0 + 1) (hat : at0 ≤ src.size) :
    Calls Tryd.prog 21 #[.pointer (some ⟨b, 0, none⟩)] w (TPost src b (b :: keys LO) w v LO tvs (wordS ln0 (wrd ([], src.data.toList.drop at0, ln0)))) := by
  have hsl := szl src
  have hs : src.size ≤ 100000 := by omega
  obtain ⟨V, hV⟩ : ∃ V, wrd ([], src.data.toList.drop at0, ln0) = V := ⟨_, rfl⟩
  rw [hV]
  have HV := Lib.hid hV
  clear hV
  (try simp only [kfb] at hL); have hF := hL.facts; (try simp only [Facts, Dist, kfa, implies_true, forall_const] at hF)
  go_enter Tryd.func21, Tryd.ntmps21
  go_wp2
  refine kn_wp ?_; (try clear hF); clear hL; intro W hL; (try simp only [kfb] at hL); have hF := hL.facts; (try simp only [Facts, Dist, kfa, implies_true, forall_const] at hF)
  clear hF
  generalize hq : w.heap.size + 1 = q at hL ⊢
  generalize hkt : w.heap.size = kt at hL ⊢
  have hqk : q = kt + 1 := by omega
  have HQK := Lib.hid hqk
  clear hq hkt hqk
  go_loopg [] (src.size - at0) (fun k wr => ∃ (at_ ln : Nat) (pv : Value) (LP : List (Nat × Obj)) (ps : List Prt), Hid (k = src.size - at_) ∧ at_ ≤ src.size ∧ Hid (Sz at_ ln ps) ∧ PtL LP pv ps ∧ Kn (b :: keys LO) w wr ((b, .cells #[.string src, .int .i64 (at_), .int .i64 (ln), v] 43 (0, 0)) :: (q, .cells #[pv] 51 (0, 0)) :: (LP ++ (kt, .cells #[.int .i64 0, .string ⟨#[]⟩, .string ⟨#[]⟩, .slice none 0 0, .int .i64 (-1), .int .i64 ln0] 31 (0, 0)) :: LO)) ∧ Hid (wrd (ps, src.data.toList.drop at_, ln) = V))
  case atStart =>
    refine ⟨at0, ln0, .slice none 0 0, [], [], Lib.hid rfl, hat, Lib.hid ⟨by simp [sz, tot], hz⟩, .inl ⟨rfl, rfl, rfl⟩, hL.perm fun p => ?_, HV⟩
    simp only [List.countP_cons, List.countP_append, List.countP_nil]; omega
  case round =>
    clear hL HV
    obtain ⟨at_, ln, pv, LP, ps, HK, hle, HZ, hP, hL, HV⟩ := hrel
    obtain ⟨b1, b2, b3⟩ := HZ.out.le hle hs0
    obtain ⟨l, hl⟩ : ∃ l, src.data.toList.drop at_ = l := ⟨_, rfl⟩
    have hll : l.length = src.size - at_ := by rw [← hl, List.length_drop, hsl]
    obtain ⟨cont, hcont⟩ : ∃ cont : Bool, contB l = cont := ⟨_, rfl⟩
    have HC := Lib.hid hcont
    have HLL := Lib.hid hl
    rw [hl] at HV
    clear hcont
    (try simp only [kfb] at hL); have hF := hL.facts; (try simp only [Facts, Dist, kfa, implies_true, forall_const] at hF)
    go_upto_region 2 with fail
    go_cut [33] (fun s wc => s = .bool cont ∧ Kn (b :: keys LO) w wc ((b, .cells #[.string src, .int .i64 (at_), .int .i64 (ln), v] 43 (0, 0)) :: (q, .cells #[pv] 51 (0, 0)) :: (LP ++ (kt, .cells #[.int .i64 0, .string ⟨#[]⟩, .string ⟨#[]⟩, .slice none 0 0, .int .i64 (-1), .int .i64 ln0] 31 (0, 0)) :: LO)))
    case first =>
      cases l with
      | nil =>
        have hae : ¬ (at_ : Int) < src.size := by simp at hll; omega
        obtain rfl : false = cont := HC.out
        go_wp2_with (first | ((with_reducible refine kn_list_set ?_); (try clear hF); clear hL; intro W hL; (try simp only [kfb] at hL); have hF := hL.facts; (try simp only [Facts, Dist, kfa, implies_true, forall_const] at hF)) | ((with_reducible refine at_region 2 ?_); refine kn_wp ?_; (try clear hF); clear hL; intro W hL; (try simp only [kfb] at hL); have hF := hL.facts; (try simp only [Facts, Dist, kfa, implies_true, forall_const] at hF); refine kn_region [0, 1, 2, 3, 4, 5, 6, 7, 8, 9, 10, 11, 12, 13, 14, 15, 16, 17, 18, 19, 20, 21, 22] [0, 1, 2, 3, 4, 5, 6, 7, 8, 9, 10, 11, 12, 13, 14, 15, 16, 17, 18, 19, 21, 22] [20] [0, 1, 2, 4, 5, 6, 8, 9, 10, 11, 12, 13, 15, 16, 17, 19, 21, 22] (by kernel_rfl) (by kernel_rfl) (List.Sublist.refl _) ?_; (try clear hF); clear hL; intro ι F hne hC hFF; have hG := fun n => (hFF n).facts; clear hFF; (try simp only [Facts, Dist, kfa, implies_true, forall_const] at hG); (repeat (first | (refine cwk_skip rfl (by rfl) ?_; (try simp only [Act.put, List.setIfInBounds_toArray, List.set_cons_zero, List.set_cons_succ])) | (refine cwk_float rfl rfl (by rfl) (by rfl) (by rfl) hC ?_; intro K hK; go_big_quiet_op; go_big_quiet_on) | (refine cwk_pure rfl rfl (by rfl) (by rfl) ?_; intro K hK; go_big_quiet_op; go_big_quiet_on) | (refine cwk_anch rfl rfl (by rfl) (by rfl) ?_; intro W hL; (try simp only [kfb] at hL); have hF := hL.facts; (try simp only [Facts, Dist, kfa, implies_true, forall_const] at hF); go_wp2; refine anchQ_normal ?_; (first | (refine owedB _ (by rfl) ?_; clear hL; (try clear hF); clear hC hG; intro ι F hne hC hFF; have hG := fun n => (hFF n).facts; clear hFF; (try simp only [Facts, Dist, kfa, implies_true, forall_const] at hG)) | (refine owed0 _ (by repeat' (first | (with_reducible exact List.Sublist.refl _) | (with_reducible apply List.Sublist.cons_cons) | (with_reducible apply List.Sublist.cons))) ?_; clear hL; (try clear hF)))))); refine cwk_nil ?_; clear hC hG; intro W hL; (try simp only [kfb] at hL); have hF := hL.facts; (try simp only [Facts, Dist, kfa, implies_true, forall_const] at hF)))
        go_meet
        case rel => exact ⟨rfl, hL⟩
      | cons c0 t =>
        obtain ⟨d1, d2, d3⟩ := one_parts hl
        rw [hsl] at d3
        have hlt := d3
        have eb0 := byte_at d1 d3
        obtain ⟨r, hr⟩ : ∃ r, Lib.indexByte [32, 9, 10, 124, 38, 59, 40, 41, 60, 62] c0 = r := ⟨_, rfl⟩
        have hI : Hid (∀ W, Calls Tryd.prog 17 #[.string ⟨#[32, 9, 10, 124, 38, 59, 40, 41, 60, 62]⟩, .int .u8 c0.toNat] W fun x w' => x = .returned (.int .i64 r) ∧ w' = W) := Lib.hid fun W => Index_any _ c0 r hr _ rfl W
        have hsp := ends_ix c0
        rw [hr] at hsp
        by_cases h0 : r < 0
        · obtain rfl : true = cont := by rw [← HC.out]; simpa [h0, contB] using hsp.symm
          clear hsp hr d1 d2 hl hll
          go_wp2_with (first | ((with_reducible refine kn_list_set ?_); (try clear hF); clear hL; intro W hL; (try simp only [kfb] at hL); have hF := hL.facts; (try simp only [Facts, Dist, kfa, implies_true, forall_const] at hF)) | ((with_reducible refine at_region 2 ?_); refine kn_wp ?_; (try clear hF); clear hL; intro W hL; (try simp only [kfb] at hL); have hF := hL.facts; (try simp only [Facts, Dist, kfa, implies_true, forall_const] at hF); refine kn_region [0, 1, 2, 3, 4, 5, 6, 7, 8, 9, 10, 11, 12, 13, 14, 15, 16, 17, 18, 19, 20, 21, 22] [0, 1, 2, 3, 4, 5, 6, 7, 8, 9, 10, 11, 12, 13, 14, 15, 16, 17, 18, 19, 21, 22] [20] [0, 1, 2, 4, 5, 6, 8, 9, 10, 11, 12, 13, 15, 16, 17, 19, 21, 22] (by kernel_rfl) (by kernel_rfl) (List.Sublist.refl _) ?_; (try clear hF); clear hL; intro ι F hne hC hFF; have hG := fun n => (hFF n).facts; clear hFF; (try simp only [Facts, Dist, kfa, implies_true, forall_const] at hG); (repeat (first | (refine cwk_skip rfl (by rfl) ?_; (try simp only [Act.put, List.setIfInBounds_toArray, List.set_cons_zero, List.set_cons_succ])) | (refine cwk_float rfl rfl (by rfl) (by rfl) (by rfl) hC ?_; intro K hK; go_big_quiet_op; go_big_quiet_on) | (refine cwk_pure rfl rfl (by rfl) (by rfl) ?_; intro K hK; go_big_quiet_op; go_big_quiet_on) | (refine cwk_call rfl (by rfl) (by rfl) (fun _ => rfl) ?_; intro W hL; (try simp only [kfb] at hL); have hF := hL.facts; (try simp only [Facts, Dist, kfa, implies_true, forall_const] at hF); simp only [List.map_toArray, List.map_cons, List.map_nil, Array.empty_append, Array.append_empty, Act.eval, Array.getD_eq_getD_getElem?, List.getElem?_toArray, List.getElem?_cons_zero, List.getElem?_cons_succ, Option.getD_some]; go_at_call 17; (((with_reducible refine (hI.out _).mono ?_))); rintro e W' ⟨rfl, rfl⟩; refine owed_ret ?_; (first | (refine owedB _ (by rfl) ?_; clear hL; (try clear hF); clear hC hG; intro ι F hne hC hFF; have hG := fun n => (hFF n).facts; clear hFF; (try simp only [Facts, Dist, kfa, implies_true, forall_const] at hG)) | (refine owed0 _ (by repeat' (first | (with_reducible exact List.Sublist.refl _) | (with_reducible apply List.Sublist.cons_cons) | (with_reducible apply List.Sublist.cons))) ?_; clear hL; (try clear hF))); (try simp only [Act.put, List.setIfInBounds_toArray, List.set_cons_zero, List.set_cons_succ])) | (refine cwk_anch rfl rfl (by rfl) (by rfl) ?_; intro W hL; (try simp only [kfb] at hL); have hF := hL.facts; (try simp only [Facts, Dist, kfa, implies_true, forall_const] at hF); go_wp2; refine anchQ_normal ?_; (first | (refine owedB _ (by rfl) ?_; clear hL; (try clear hF); clear hC hG; intro ι F hne hC hFF; have hG := fun n => (hFF n).facts; clear hFF; (try simp only [Facts, Dist, kfa, implies_true, forall_const] at hG)) | (refine owed0 _ (by repeat' (first | (with_reducible exact List.Sublist.refl _) | (with_reducible apply List.Sublist.cons_cons) | (with_reducible apply List.Sublist.cons))) ?_; clear hL; (try clear hF)))))); refine cwk_nil ?_; clear hC hG; intro W hL; (try simp only [kfb] at hL); have hF := hL.facts; (try simp only [Facts, Dist, kfa, implies_true, forall_const] at hF)))
          go_meet
          case rel => exact ⟨rfl, hL⟩
        · obtain rfl : false = cont := by rw [← HC.out]; simpa [h0, contB] using hsp.symm
          clear hsp hr d1 d2 hl hll
          go_wp2_with (first | ((with_reducible refine kn_list_set ?_); (try clear hF); clear hL; intro W hL; (try simp only [kfb] at hL); have hF := hL.facts; (try simp only [Facts, Dist, kfa, implies_true, forall_const] at hF)) | ((with_reducible refine at_region 2 ?_); refine kn_wp ?_; (try clear hF); clear hL; intro W hL; (try simp only [kfb] at hL); have hF := hL.facts; (try simp only [Facts, Dist, kfa, implies_true, forall_const] at hF); refine kn_region [0, 1, 2, 3, 4, 5, 6, 7, 8, 9, 10, 11, 12, 13, 14, 15, 16, 17, 18, 19, 20, 21, 22] [0, 1, 2, 3, 4, 5, 6, 7, 8, 9, 10, 11, 12, 13, 14, 15, 16, 17, 18, 19, 21, 22] [20] [0, 1, 2, 4, 5, 6, 8, 9, 10, 11, 12, 13, 15, 16, 17, 19, 21, 22] (by kernel_rfl) (by kernel_rfl) (List.Sublist.refl _) ?_; (try clear hF); clear hL; intro ι F hne hC hFF; have hG := fun n => (hFF n).facts; clear hFF; (try simp only [Facts, Dist, kfa, implies_true, forall_const] at hG); (repeat (first | (refine cwk_skip rfl (by rfl) ?_; (try simp only [Act.put, List.setIfInBounds_toArray, List.set_cons_zero, List.set_cons_succ])) | (refine cwk_float rfl rfl (by rfl) (by rfl) (by rfl) hC ?_; intro K hK; go_big_quiet_op; go_big_quiet_on) | (refine cwk_pure rfl rfl (by rfl) (by rfl) ?_; intro K hK; go_big_quiet_op; go_big_quiet_on) | (refine cwk_call rfl (by rfl) (by rfl) (fun _ => rfl) ?_; intro W hL; (try simp only [kfb] at hL); have hF := hL.facts; (try simp only [Facts, Dist, kfa, implies_true, forall_const] at hF); simp only [List.map_toArray, List.map_cons, List.map_nil, Array.empty_append, Array.append_empty, Act.eval, Array.getD_eq_getD_getElem?, List.getElem?_toArray, List.getElem?_cons_zero, List.getElem?_cons_succ, Option.getD_some]; go_at_call 17; (((with_reducible refine (hI.out _).mono ?_))); rintro e W' ⟨rfl, rfl⟩; refine owed_ret ?_; (first | (refine owedB _ (by rfl) ?_; clear hL; (try clear hF); clear hC hG; intro ι F hne hC hFF; have hG := fun n => (hFF n).facts; clear hFF; (try simp only [Facts, Dist, kfa, implies_true, forall_const] at hG)) | (refine owed0 _ (by repeat' (first | (with_reducible exact List.Sublist.refl _) | (with_reducible apply List.Sublist.cons_cons) | (with_reducible apply List.Sublist.cons))) ?_; clear hL; (try clear hF))); (try simp only [Act.put, List.setIfInBounds_toArray, List.set_cons_zero, List.set_cons_succ])) | (refine cwk_anch rfl rfl (by rfl) (by rfl) ?_; intro W hL; (try simp only [kfb] at hL); have hF := hL.facts; (try simp only [Facts, Dist, kfa, implies_true, forall_const] at hF); go_wp2; refine anchQ_normal ?_; (first | (refine owedB _ (by rfl) ?_; clear hL; (try clear hF); clear hC hG; intro ι F hne hC hFF; have hG := fun n => (hFF n).facts; clear hFF; (try simp only [Facts, Dist, kfa, implies_true, forall_const] at hG)) | (refine owed0 _ (by repeat' (first | (with_reducible exact List.Sublist.refl _) | (with_reducible apply List.Sublist.cons_cons) | (with_reducible apply List.Sublist.cons))) ?_; clear hL; (try clear hF)))))); refine cwk_nil ?_; clear hC hG; intro W hL; (try simp only [kfb] at hL); have hF := hL.facts; (try simp only [Facts, Dist, kfa, implies_true, forall_const] at hF)))
          go_meet
          case rel => exact ⟨rfl, hL⟩
    case rest =>
    clear hL
    obtain ⟨rfl, hL⟩ := hcut
    (try simp only [kfb] at hL); have hF := hL.facts; (try simp only [Facts, Dist, kfa, implies_true, forall_const] at hF)
    cases cont with
    | true =>
      obtain ⟨c0, t, hd0, hs1⟩ : ∃ c0 t, l = c0 :: t ∧ ends c0 = false := by
        have := HC.out
        cases l with
        | nil => cases this
        | cons c0 t => exact ⟨c0, t, rfl, by simpa [contB] using this⟩
      subst hd0
      have hst := wrd_step ps c0 t ln hs1
      rw [HV.out] at hst
      cases hpc : piece ps c0 t ln with
      | bad m =>
        have HD : Hid (∀ W, Kn (b :: q :: keys LP) W W ((b, .cells #[.string src, .int .i64 (at_), .int .i64 (ln), v] 43 (0, 0)) :: (q, .cells #[pv] 51 (0, 0)) :: LP) → Calls Tryd.prog 26 #[.pointer (some ⟨b, 0, none⟩), .pointer (some ⟨q, 0, none⟩)] W fun e w' => e = .panicked [{ v := .iface 39 (.agg #[.int .i64 27, .int .i64 m]), recovered := false }] ∧ Kn (b :: q :: keys LP) W w' []) := Lib.hid fun W hK => by
          have := piece_is src hs0 v b q at_ ln pv LP ps W hK hP HZ.out c0 _ hl hs1
          rw [hpc] at this; exact this
        rw [hpc] at hst
        have HVV := Lib.hid hst
        clear hst hpc hl
        go_wp2_with (first | ((with_reducible refine kn_list_set ?_); (try clear hF); clear hL; intro W hL; (try simp only [kfb] at hL); have hF := hL.facts; (try simp only [Facts, Dist, kfa, implies_true, forall_const] at hF)) | (go_at_call 26; refine kn_calls ?_; (try clear hF); clear hL; intro W hL; (try simp only [kfb] at hL); have hF := hL.facts; (try simp only [Facts, Dist, kfa, implies_true, forall_const] at hF); (((with_reducible refine (HD.out _ hL.selfbqR).mono ?_))); rintro e W2 ⟨rfl, hb⟩; replace hL := hL.joinbqR hb; clear hb hF hP; (try simp only [kfb] at hL); have hF := hL.facts; (try simp only [Facts, Dist, kfa, implies_true, forall_const] at hF)))
        rw [HVV.out]
        exact ⟨rfl, rfl, hL.sub (List.nil_sublist _)⟩
      | ok x =>
        obtain ⟨ps2, r2, ln2⟩ := x
        have hdz := piece_sz hpc
        have HD : Hid (∀ W, Kn (b :: q :: keys LP) W W ((b, .cells #[.string src, .int .i64 (at_), .int .i64 (ln), v] 43 (0, 0)) :: (q, .cells #[pv] 51 (0, 0)) :: LP) → Calls Tryd.prog 26 #[.pointer (some ⟨b, 0, none⟩), .pointer (some ⟨q, 0, none⟩)] W fun e w' => e = .returned (.tuple #[]) ∧ ∃ (at2 : Nat) (pv2 : Value) (LP2 : List (Nat × Obj)), at2 ≤ src.size ∧ Hid (src.data.toList.drop at2 = r2) ∧ PtL LP2 pv2 ps2 ∧ Kn (b :: q :: keys LP) W w' ((b, .cells #[.string src, .int .i64 (at2), .int .i64 (ln2), v] 43 (0, 0)) :: (q, .cells #[pv2] 51 (0, 0)) :: LP2)) := Lib.hid fun W hK => by
          have := piece_is src hs0 v b q at_ ln pv LP ps W hK hP HZ.out c0 _ hl hs1
          rw [hpc] at this; exact this
        rw [hpc] at hst
        have HVV := Lib.hid hst.symm
        have HDZ := Lib.hid hdz
        have HL2 := Lib.hid hll
        clear hst hpc hl hdz hll
        go_wp2_with (first | ((with_reducible refine kn_list_set ?_); (try clear hF); clear hL; intro W hL; (try simp only [kfb] at hL); have hF := hL.facts; (try simp only [Facts, Dist, kfa, implies_true, forall_const] at hF)) | (go_at_call 26; refine kn_calls ?_; (try clear hF); clear hL; intro W hL; (try simp only [kfb] at hL); have hF := hL.facts; (try simp only [Facts, Dist, kfa, implies_true, forall_const] at hF); (((with_reducible refine (HD.out _ hL.selfbqR).mono ?_))); rintro e W2 ⟨rfl, at2, pv2, LP2, ha2, hr2, hP2, hb⟩; replace hL := hL.joinbqR hb; clear hb hF hP; have hP := hP2; clear hP2; (try simp only [List.cons_append] at hL); (try simp only [kfb] at hL); have hF := hL.facts; (try simp only [Facts, Dist, kfa, implies_true, forall_const] at hF)))
        have hlen : r2.length = src.size - at2 := by rw [← hr2.out, List.length_drop, hsl]
        have hdz := HDZ.out
        have hll := HL2.out
        simp only [List.length_cons] at hll
        simp only [hlen] at hdz
        go_roundg (src.size - (at2))
        case measure => have := HK.out; omega
        case rel => exact ⟨at2, ln2, pv2, LP2, _, Lib.hid rfl, by omega, Lib.hid (by obtain ⟨h2, h3⟩ := HZ.out; exact ⟨by omega, by omega⟩), hP, hL, Lib.hid (by rw [hr2.out]; exact HVV.out)⟩
    | false =>
      have hVe : V = .ok (ps, l, ln) := by
        have := HC.out
        cases l with
        | nil => rw [← HV.out, wrd_nil]
        | cons c0 t => rw [← HV.out, wrd_end _ _ _ _ (by simpa [contB] using this)]
      have HVE := Lib.hid hVe
      clear hVe hl
      replace hL := hL.perm (L' := (kt, .cells #[.int .i64 0, .string ⟨#[]⟩, .string ⟨#[]⟩, .slice none 0 0, .int .i64 (-1), .int .i64 ln0] 31 (0, 0)) :: (q, .cells #[pv] 51 (0, 0)) :: (b, .cells #[.string src, .int .i64 (at_), .int .i64 (ln), v] 43 (0, 0)) :: (LP ++ LO)) (fun p => by simp only [List.countP_cons, List.countP_append, List.countP_nil]; omega)
      go_upto_region 4 with fail
      go_cut [] (fun wc => Kn (b :: keys LO) w wc ((kt, .cells #[.int .i64 0, .string ⟨#[]⟩, .string ⟨#[]⟩, pv, .int .i64 (-1), .int .i64 ln0] 31 (0, 0)) :: (q, .cells #[pv] 51 (0, 0)) :: (b, .cells #[.string src, .int .i64 (at_), .int .i64 (ln), v] 43 (0, 0)) :: (LP ++ LO)))
      case first =>
        rcases hP with ⟨rfl, rfl, rfl⟩ | ⟨g, cap, cur, rfl, rfl, hr⟩
        · (try simp only [kfb] at hL); have hF := hL.facts; (try simp only [Facts, Dist, kfa, implies_true, forall_const] at hF)
          go_wp2
          go_meet
          case rel => exact kn_eq rfl
        · (try simp only [kfb] at hL); have hF := hL.facts; (try simp only [Facts, Dist, kfa, implies_true, forall_const] at hF)
          go_wp2
          go_meet
          case rel => exact kn_eq rfl
      case rest =>
      clear hL
      have hL := hcut
      clear hcut
      (try simp only [kfb] at hL); have hF := hL.facts; (try simp only [Facts, Dist, kfa, implies_true, forall_const] at hF)
      go_upto_region 5 with fail
      obtain ⟨pb, hpb⟩ : ∃ pb, plainB ps = pb := ⟨_, rfl⟩
      have HPB := Lib.hid hpb
      clear hpb
      go_cut [54] (fun s wc => s = .bool pb ∧ Kn (b :: keys LO) w wc ((kt, .cells #[.int .i64 0, .string ⟨#[]⟩, .string ⟨#[]⟩, pv, .int .i64 (-1), .int .i64 ln0] 31 (0, 0)) :: (q, .cells #[pv] 51 (0, 0)) :: (b, .cells #[.string src, .int .i64 (at_), .int .i64 (ln), v] 43 (0, 0)) :: (LP ++ LO)))
      case first =>
        have hP1 := hP
        rcases hP with ⟨rfl, rfl, rfl⟩ | ⟨g, cap, cur, rfl, rfl, hr⟩
        · obtain rfl : false = pb := HPB.out
          (try simp only [kfb] at hL); have hF := hL.facts; (try simp only [Facts, Dist, kfa, implies_true, forall_const] at hF)
          go_wp2
          go_meet
          case rel => exact ⟨rfl, hL⟩
        · clear hP1
          match ps, hr, hL, HPB with
          | [], hr, hL, HPB =>
            obtain rfl : false = pb := HPB.out
            (try simp only [kfb] at hL); have hF := hL.facts; (try simp only [Facts, Dist, kfa, implies_true, forall_const] at hF)
            go_wp2
            go_meet
            case rel => exact ⟨rfl, hL⟩
          | [x], hr, hL, HPB =>
            have c0 : cur[0]? = some (.int .i64 x.k) := hr.get rfl
            have c1 : cur[1]? = some (bs x.t) := hr.get rfl
            have c2 : cur[2]? = some (.bool x.q) := hr.get rfl
            by_cases hk : x.k = 0
            · have b0 : ((x.k : Int) == 0) = true := by simp [hk]
              cases hq : x.q with
              | false =>
                obtain rfl : true = pb := by rw [← HPB.out]; simp [plainB, hk, hq]
                rw [hq] at c2
                (try simp only [kfb] at hL); have hF := hL.facts; (try simp only [Facts, Dist, kfa, implies_true, forall_const] at hF)
                go_wp2
                go_meet
                case rel => exact ⟨rfl, hL⟩
              | true =>
                obtain rfl : false = pb := by rw [← HPB.out]; simp [plainB, hk, hq]
                rw [hq] at c2
                (try simp only [kfb] at hL); have hF := hL.facts; (try simp only [Facts, Dist, kfa, implies_true, forall_const] at hF)
                go_wp2
                go_meet
                case rel => exact ⟨rfl, hL⟩
            · have b0 : ((x.k : Int) == 0) = false := beq_false_of_ne (by omega)
              obtain rfl : false = pb := by rw [← HPB.out]; simp [plainB, hk]
              (try simp only [kfb] at hL); have hF := hL.facts; (try simp only [Facts, Dist, kfa, implies_true, forall_const] at hF)
              go_wp2
              go_meet
              case rel => exact ⟨rfl, hL⟩
          | x :: y :: z, hr, hL, HPB =>
            obtain rfl : false = pb := HPB.out
            have hn2 : (((x :: y :: z).length : Int) == 1) = false := beq_false_of_ne (by simp; omega)
            have hn3 : ((z.length : Int) + 1 + 1 == 1) = false := beq_false_of_ne (by omega)
            (try simp only [kfb] at hL); have hF := hL.facts; (try simp only [Facts, Dist, kfa, implies_true, forall_const] at hF)
            go_wp2
            go_meet
            case rel => exact ⟨rfl, hL⟩
      case rest =>
      clear hL
      obtain ⟨rfl, hL⟩ := hcut
      (try simp only [kfb] at hL); have hF := hL.facts; (try simp only [Facts, Dist, kfa, implies_true, forall_const] at hF)
      go_upto_if 54 with fail
      go_cut [] (fun wc => ∃ P : ByteArray, Hid (P.data.toList = plainOf ps) ∧ Kn (b :: keys LO) w wc ((kt, .cells #[.int .i64 0, .string ⟨#[]⟩, .string P, pv, .int .i64 (-1), .int .i64 ln0] 31 (0, 0)) :: (q, .cells #[pv] 51 (0, 0)) :: (b, .cells #[.string src, .int .i64 (at_), .int .i64 (ln), v] 43 (0, 0)) :: (LP ++ LO)))
      case first =>
        cases pb with
        | false =>
          have HPL := plainB_false HPB.out
          have HPL2 := Lib.hid HPL
          clear HPL
          go_wp2
          go_meet
          case rel => exact ⟨⟨#[]⟩, Lib.hid HPL2.out.symm, hL⟩
        | true =>
          obtain ⟨x, rfl, hk, hq, hpl⟩ := plainB_true HPB.out
          rcases hP with ⟨_, _, h⟩ | ⟨g, cap, cur, rfl, rfl, hr⟩
          · cases h
          obtain ⟨u, hu⟩ : ∃ u : ByteArray, bs x.t = .string u := ⟨_, rfl⟩
          have c1 : cur[1]? = some (bs x.t) := hr.get rfl
          rw [hu] at c1
          have HPL : Hid (u.data.toList = plainOf [x]) := Lib.hid (by
            rw [hpl]
            simp only [bs, Value.string.injEq] at hu
            rw [← hu])
          clear hu hpl hk hq
          (try simp only [kfb] at hL); have hF := hL.facts; (try simp only [Facts, Dist, kfa, implies_true, forall_const] at hF)
          go_wp2
          go_meet
          case rel => exact ⟨u, HPL, kn_eq rfl⟩
      case rest =>
      clear hL
      obtain ⟨P, HPL, hL⟩ := hcut
      have hPs : P.size ≤ 1000000 := by
        have := plainOf_len ps
        rw [← szl, HPL.out]; omega
      have hln : ln ≤ 100000 := b1
      have hpv := hP.one
      (try simp only [kfb] at hL); have hF := hL.facts; (try simp only [Facts, Dist, kfa, implies_true, forall_const] at hF)
      cases hnum : number P.data.toList with
      | none =>
        have hN : Hid (∀ (kd : Int) (tx : ByteArray) (fd ln : Int) W, Calls Tryd.prog 27 #[.agg #[.int .i64 kd, .string tx, .string P, pv, .int .i64 fd, .int .i64 ln]] W fun e w' => e = .returned (.tuple #[.int .i64 0, .bool false]) ∧ Below W.heap.size W w') := Lib.hid fun kd tx fd ln W => by
          have := number_is kd tx P pv fd ln hPs W
          rw [hnum] at this; exact this
        have hst : wordS ln0 V = .tok ⟨0, [], plainOf ps, ps, -1, ln0⟩ l ln := by
          rw [HVE.out]
          show (match number (plainOf ps) with | some fd => _ | none => _) = _
          rw [← HPL.out, hnum]
        have HST := Lib.hid hst
        clear hst hnum
        by_cases hf : tvs.length < 2000
        · go_wp2_with (first | ((with_reducible refine kn_list_set ?_); (try clear hF); clear hL; intro W hL; (try simp only [kfb] at hL); have hF := hL.facts; (try simp only [Facts, Dist, kfa, implies_true, forall_const] at hF)) | (go_at_call 27; refine kn_calls ?_; (try clear hF); clear hL; intro W hL; (try simp only [kfb] at hL); have hF := hL.facts; (try simp only [Facts, Dist, kfa, implies_true, forall_const] at hF); (((with_reducible refine (hN.out _ _ _ _ _).mono ?_))); rintro e W ⟨rfl, hb⟩; replace hL := hL.below hb; clear hb; (try clear hF); (try simp only [kfb] at hL); have hF := hL.facts; (try simp only [Facts, Dist, kfa, implies_true, forall_const] at hF)) | (go_at_call 24; refine kn_calls ?_; (try clear hF); clear hL; intro W hL; (try simp only [kfb] at hL); have hF := hL.facts; (try simp only [Facts, Dist, kfa, implies_true, forall_const] at hF); have hL3 := hL.perm (L' := ((kt, .cells #[.int .i64 0, .string ⟨#[]⟩, .string P, pv, .int .i64 (-1), .int .i64 ln0] 31 (0, 0)) :: (q, .cells #[pv] 51 (0, 0)) :: LP) ++ ((b, .cells #[.string src, .int .i64 (at_), .int .i64 (ln), v] 43 (0, 0)) :: LO)) (fun p => by simp only [List.countP_cons, List.countP_append, List.countP_nil]; omega); (((with_reducible refine (add_any src hs0 v b at_ ln _ LO tvs hL3.selfS hO hln 0 ⟨#[]⟩ P pv hpv ps (-1) ln0 _ _ (by omega) (by omega) hf).mono ?_))); rintro e W2 ⟨rfl, v2, LO2, hO2, hb⟩; replace hL := hL3.joinS hb; clear hL3 hb hF; (try simp only [kfb] at hL); have hF := hL.facts; (try simp only [Facts, Dist, kfa, implies_true, forall_const] at hF)))
          go_end0
          rw [HST.out]
          unfold TPost
          simp only [if_pos hf]
          refine ⟨trivial, at_, v2, LO2, pv, LP, hle, HLL.out, ?_, hP, ?_⟩
          · rw [← HPL.out]; exact hO2
          · have hL4 := hL.perm (L' := (kt, .cells #[.int .i64 0, .string ⟨#[]⟩, .string P, pv, .int .i64 (-1), .int .i64 ln0] 31 (0, 0)) :: (q, .cells #[pv] 51 (0, 0)) :: (b, .cells #[.string src, .int .i64 (at_), .int .i64 (ln), v2] 43 (0, 0)) :: (LO2 ++ LP)) (fun p => by simp only [List.countP_cons, List.countP_append, List.countP_nil]; omega)
            exact hL4.drop1.drop1
        · go_wp2_with (first | ((with_reducible refine kn_list_set ?_); (try clear hF); clear hL; intro W hL; (try simp only [kfb] at hL); have hF := hL.facts; (try simp only [Facts, Dist, kfa, implies_true, forall_const] at hF)) | (go_at_call 27; refine kn_calls ?_; (try clear hF); clear hL; intro W hL; (try simp only [kfb] at hL); have hF := hL.facts; (try simp only [Facts, Dist, kfa, implies_true, forall_const] at hF); (((with_reducible refine (hN.out _ _ _ _ _).mono ?_))); rintro e W ⟨rfl, hb⟩; replace hL := hL.below hb; clear hb; (try clear hF); (try simp only [kfb] at hL); have hF := hL.facts; (try simp only [Facts, Dist, kfa, implies_true, forall_const] at hF)) | (go_at_call 24; refine kn_calls ?_; (try clear hF); clear hL; intro W hL; (try simp only [kfb] at hL); have hF := hL.facts; (try simp only [Facts, Dist, kfa, implies_true, forall_const] at hF); have hL3 := hL.perm (L' := ((kt, .cells #[.int .i64 0, .string ⟨#[]⟩, .string P, pv, .int .i64 (-1), .int .i64 ln0] 31 (0, 0)) :: (q, .cells #[pv] 51 (0, 0)) :: LP) ++ ((b, .cells #[.string src, .int .i64 (at_), .int .i64 (ln), v] 43 (0, 0)) :: LO)) (fun p => by simp only [List.countP_cons, List.countP_append, List.countP_nil]; omega); (((with_reducible refine (add_not src hs0 v b at_ ln _ LO tvs hL3.selfS hO hln 0 ⟨#[]⟩ P pv (-1) ln0 _ _ (by omega) (by omega) hf).mono ?_))); rintro e W2 ⟨rfl, hb⟩; replace hL := hL3.joinS hb; clear hL3 hb hF; (try simp only [kfb] at hL); have hF := hL.facts; (try simp only [Facts, Dist, kfa, implies_true, forall_const] at hF)))
          refine ⟨rfl, ?_⟩
          rw [HST.out]
          unfold TPost
          simp only [if_neg hf]
          exact ⟨trivial, hL.sub (List.nil_sublist _)⟩
      | some fd =>
        have hN : Hid (∀ (kd : Int) (tx : ByteArray) (fd0 ln : Int) W, Calls Tryd.prog 27 #[.agg #[.int .i64 kd, .string tx, .string P, pv, .int .i64 fd0, .int .i64 ln]] W fun e w' => e = .returned (.tuple #[.int .i64 fd, .bool true]) ∧ Below W.heap.size W w') := Lib.hid fun kd tx fd0 ln W => by
          have := number_is kd tx P pv fd0 ln hPs W
          rw [hnum] at this; exact this
        have hst : wordS ln0 V = if l.head? = some 60 ∨ l.head? = some 62 then ioS l fd ln0 ln else .tok ⟨0, [], plainOf ps, ps, -1, ln0⟩ l ln := by
          rw [HVE.out]
          show (match number (plainOf ps) with | some fd => _ | none => _) = _
          rw [← HPL.out, hnum]
        clear hnum
        have hA0 : Lib.hasPrefix (src.data.toList.drop at_) (⟨#[60]⟩ : ByteArray).data.toList = decide (l.head? = some 60) := by rw [HLL.out]; exact hp1 l 60
        have hB0 : Lib.hasPrefix (src.data.toList.drop at_) (⟨#[62]⟩ : ByteArray).data.toList = decide (l.head? = some 62) := by rw [HLL.out]; exact hp1 l 62
        by_cases hA1 : l.head? = some 60
        · rw [decide_eq_true hA1] at hA0
          have hA := Lib.hid hA0
          rw [if_pos (.inl hA1)] at hst
          have HC1 : Hid (l.head? = some 60 ∨ l.head? = some 62) := Lib.hid (.inl hA1)
          clear hA0 hB0 hA1
          obtain ⟨tk, r2, m2, hio⟩ := ioS_tok l fd ln0 ln
          rw [hio] at hst
          have HST := Lib.hid hst
          have HIO : Hid (∀ W, Kn (b :: keys LO) W W ((b, .cells #[.string src, .int .i64 (at_), .int .i64 (ln), v] 43 (0, 0)) :: LO) → Calls Tryd.prog 20 #[.pointer (some ⟨b, 0, none⟩), .int .i64 fd, .int .i64 ln0] W (TPost src b (b :: keys LO) W v LO tvs (.tok tk r2 m2))) := Lib.hid fun W hK => by
            have := io_is src hs0 v b at_ ln W LO tvs hK hO hln l HLL.out HC1.out fd ln0
            rw [hio] at this; exact this
          clear hst hio
          by_cases hf : tvs.length < 2000
          · go_wp2_with (first | ((with_reducible refine kn_list_set ?_); (try clear hF); clear hL; intro W hL; (try simp only [kfb] at hL); have hF := hL.facts; (try simp only [Facts, Dist, kfa, implies_true, forall_const] at hF)) | (go_at_call 27; refine kn_calls ?_; (try clear hF); clear hL; intro W hL; (try simp only [kfb] at hL); have hF := hL.facts; (try simp only [Facts, Dist, kfa, implies_true, forall_const] at hF); (((with_reducible refine (hN.out _ _ _ _ _).mono ?_))); rintro e W ⟨rfl, hb⟩; replace hL := hL.below hb; clear hb; (try clear hF); (try simp only [kfb] at hL); have hF := hL.facts; (try simp only [Facts, Dist, kfa, implies_true, forall_const] at hF)) | (go_at_call 19; refine kn_calls ?_; (try clear hF); clear hL; intro W hL; (try simp only [kfb] at hL); have hF := hL.facts; (try simp only [Facts, Dist, kfa, implies_true, forall_const] at hF); (((first | (with_reducible refine (rest_is src ⟨#[60]⟩ at_ ln v b _ (by first | exact hL.has _ List.mem_cons_self | exact hL.has _ (List.mem_cons_of_mem _ List.mem_cons_self) | exact hL.has _ (List.mem_cons_of_mem _ (List.mem_cons_of_mem _ List.mem_cons_self)) | exact hL.has _ (List.mem_cons_of_mem _ (List.mem_cons_of_mem _ (List.mem_cons_of_mem _ List.mem_cons_self))) | exact hL.has _ (List.mem_cons_of_mem _ (List.mem_cons_of_mem _ (List.mem_cons_of_mem _ (List.mem_cons_of_mem _ List.mem_cons_self)))) | exact hL.has _ (List.mem_cons_of_mem _ (List.mem_cons_of_mem _ (List.mem_cons_of_mem _ (List.mem_cons_of_mem _ (List.mem_cons_of_mem _ List.mem_cons_self)))))) (by omega) hs true hA.out).mono ?_)))); rintro e W ⟨rfl, hb⟩; replace hL := hL.below hb; clear hb; (try clear hF); (try simp only [kfb] at hL); have hF := hL.facts; (try simp only [Facts, Dist, kfa, implies_true, forall_const] at hF)) | (go_at_call 20; refine kn_calls ?_; (try clear hF); clear hL; intro W hL; (try simp only [kfb] at hL); have hF := hL.facts; (try simp only [Facts, Dist, kfa, implies_true, forall_const] at hF); have hL3 := hL.perm (L' := ((kt, .cells #[.int .i64 0, .string ⟨#[]⟩, .string P, pv, .int .i64 (-1), .int .i64 ln0] 31 (0, 0)) :: (q, .cells #[pv] 51 (0, 0)) :: LP) ++ ((b, .cells #[.string src, .int .i64 (at_), .int .i64 (ln), v] 43 (0, 0)) :: LO)) (fun p => by simp only [List.countP_cons, List.countP_append, List.countP_nil]; omega); (((with_reducible refine (HIO.out _ hL3.selfS).mono ?_))); rintro e W2 hb; replace hb := TPost.lift hL3 hb; (simp only [TPost, if_pos hf] at hb); obtain ⟨rfl, hb⟩ := hb; clear hF))
            (try simp only [Exit.inBlock, Exit.then]); refine bodyPost_ret (by simp [results, Tryd.results21, go_sem, *]; try rfl) rfl ?_
            rw [HST.out]
            unfold TPost
            simp only [if_pos hf]
            exact ⟨trivial, hb⟩
          · go_wp2_with (first | ((with_reducible refine kn_list_set ?_); (try clear hF); clear hL; intro W hL; (try simp only [kfb] at hL); have hF := hL.facts; (try simp only [Facts, Dist, kfa, implies_true, forall_const] at hF)) | (go_at_call 27; refine kn_calls ?_; (try clear hF); clear hL; intro W hL; (try simp only [kfb] at hL); have hF := hL.facts; (try simp only [Facts, Dist, kfa, implies_true, forall_const] at hF); (((with_reducible refine (hN.out _ _ _ _ _).mono ?_))); rintro e W ⟨rfl, hb⟩; replace hL := hL.below hb; clear hb; (try clear hF); (try simp only [kfb] at hL); have hF := hL.facts; (try simp only [Facts, Dist, kfa, implies_true, forall_const] at hF)) | (go_at_call 19; refine kn_calls ?_; (try clear hF); clear hL; intro W hL; (try simp only [kfb] at hL); have hF := hL.facts; (try simp only [Facts, Dist, kfa, implies_true, forall_const] at hF); (((first | (with_reducible refine (rest_is src ⟨#[60]⟩ at_ ln v b _ (by first | exact hL.has _ List.mem_cons_self | exact hL.has _ (List.mem_cons_of_mem _ List.mem_cons_self) | exact hL.has _ (List.mem_cons_of_mem _ (List.mem_cons_of_mem _ List.mem_cons_self)) | exact hL.has _ (List.mem_cons_of_mem _ (List.mem_cons_of_mem _ (List.mem_cons_of_mem _ List.mem_cons_self))) | exact hL.has _ (List.mem_cons_of_mem _ (List.mem_cons_of_mem _ (List.mem_cons_of_mem _ (List.mem_cons_of_mem _ List.mem_cons_self)))) | exact hL.has _ (List.mem_cons_of_mem _ (List.mem_cons_of_mem _ (List.mem_cons_of_mem _ (List.mem_cons_of_mem _ (List.mem_cons_of_mem _ List.mem_cons_self)))))) (by omega) hs true hA.out).mono ?_)))); rintro e W ⟨rfl, hb⟩; replace hL := hL.below hb; clear hb; (try clear hF); (try simp only [kfb] at hL); have hF := hL.facts; (try simp only [Facts, Dist, kfa, implies_true, forall_const] at hF)) | (go_at_call 20; refine kn_calls ?_; (try clear hF); clear hL; intro W hL; (try simp only [kfb] at hL); have hF := hL.facts; (try simp only [Facts, Dist, kfa, implies_true, forall_const] at hF); have hL3 := hL.perm (L' := ((kt, .cells #[.int .i64 0, .string ⟨#[]⟩, .string P, pv, .int .i64 (-1), .int .i64 ln0] 31 (0, 0)) :: (q, .cells #[pv] 51 (0, 0)) :: LP) ++ ((b, .cells #[.string src, .int .i64 (at_), .int .i64 (ln), v] 43 (0, 0)) :: LO)) (fun p => by simp only [List.countP_cons, List.countP_append, List.countP_nil]; omega); (((with_reducible refine (HIO.out _ hL3.selfS).mono ?_))); rintro e W2 hb; replace hb := TPost.lift hL3 hb; (simp only [TPost, if_neg hf] at hb); obtain ⟨rfl, hb⟩ := hb; clear hF))
            refine ⟨rfl, ?_⟩
            rw [HST.out]
            unfold TPost
            simp only [if_neg hf]
            exact ⟨trivial, hb⟩
        rw [decide_eq_false hA1] at hA0
        have hA := Lib.hid hA0
        by_cases hB1 : l.head? = some 62
        · rw [decide_eq_true hB1] at hB0
          have hB := Lib.hid hB0
          rw [if_pos (.inr hB1)] at hst
          have HC1 : Hid (l.head? = some 60 ∨ l.head? = some 62) := Lib.hid (.inr hB1)
          clear hA0 hB0 hA1 hB1
          obtain ⟨tk, r2, m2, hio⟩ := ioS_tok l fd ln0 ln
          rw [hio] at hst
          have HST := Lib.hid hst
          have HIO : Hid (∀ W, Kn (b :: keys LO) W W ((b, .cells #[.string src, .int .i64 (at_), .int .i64 (ln), v] 43 (0, 0)) :: LO) → Calls Tryd.prog 20 #[.pointer (some ⟨b, 0, none⟩), .int .i64 fd, .int .i64 ln0] W (TPost src b (b :: keys LO) W v LO tvs (.tok tk r2 m2))) := Lib.hid fun W hK => by
            have := io_is src hs0 v b at_ ln W LO tvs hK hO hln l HLL.out HC1.out fd ln0
            rw [hio] at this; exact this
          clear hst hio
          by_cases hf : tvs.length < 2000
          · go_wp2_with (first | ((with_reducible refine kn_list_set ?_); (try clear hF); clear hL; intro W hL; (try simp only [kfb] at hL); have hF := hL.facts; (try simp only [Facts, Dist, kfa, implies_true, forall_const] at hF)) | (go_at_call 27; refine kn_calls ?_; (try clear hF); clear hL; intro W hL; (try simp only [kfb] at hL); have hF := hL.facts; (try simp only [Facts, Dist, kfa, implies_true, forall_const] at hF); (((with_reducible refine (hN.out _ _ _ _ _).mono ?_))); rintro e W ⟨rfl, hb⟩; replace hL := hL.below hb; clear hb; (try clear hF); (try simp only [kfb] at hL); have hF := hL.facts; (try simp only [Facts, Dist, kfa, implies_true, forall_const] at hF)) | (go_at_call 19; refine kn_calls ?_; (try clear hF); clear hL; intro W hL; (try simp only [kfb] at hL); have hF := hL.facts; (try simp only [Facts, Dist, kfa, implies_true, forall_const] at hF); (((first | (with_reducible refine (rest_is src ⟨#[60]⟩ at_ ln v b _ (by first | exact hL.has _ List.mem_cons_self | exact hL.has _ (List.mem_cons_of_mem _ List.mem_cons_self) | exact hL.has _ (List.mem_cons_of_mem _ (List.mem_cons_of_mem _ List.mem_cons_self)) | exact hL.has _ (List.mem_cons_of_mem _ (List.mem_cons_of_mem _ (List.mem_cons_of_mem _ List.mem_cons_self))) | exact hL.has _ (List.mem_cons_of_mem _ (List.mem_cons_of_mem _ (List.mem_cons_of_mem _ (List.mem_cons_of_mem _ List.mem_cons_self)))) | exact hL.has _ (List.mem_cons_of_mem _ (List.mem_cons_of_mem _ (List.mem_cons_of_mem _ (List.mem_cons_of_mem _ (List.mem_cons_of_mem _ List.mem_cons_self)))))) (by omega) hs false hA.out).mono ?_) | (with_reducible refine (rest_is src ⟨#[62]⟩ at_ ln v b _ (by first | exact hL.has _ List.mem_cons_self | exact hL.has _ (List.mem_cons_of_mem _ List.mem_cons_self) | exact hL.has _ (List.mem_cons_of_mem _ (List.mem_cons_of_mem _ List.mem_cons_self)) | exact hL.has _ (List.mem_cons_of_mem _ (List.mem_cons_of_mem _ (List.mem_cons_of_mem _ List.mem_cons_self))) | exact hL.has _ (List.mem_cons_of_mem _ (List.mem_cons_of_mem _ (List.mem_cons_of_mem _ (List.mem_cons_of_mem _ List.mem_cons_self)))) | exact hL.has _ (List.mem_cons_of_mem _ (List.mem_cons_of_mem _ (List.mem_cons_of_mem _ (List.mem_cons_of_mem _ (List.mem_cons_of_mem _ List.mem_cons_self)))))) (by omega) hs true hB.out).mono ?_)))); rintro e W ⟨rfl, hb⟩; replace hL := hL.below hb; clear hb; (try clear hF); (try simp only [kfb] at hL); have hF := hL.facts; (try simp only [Facts, Dist, kfa, implies_true, forall_const] at hF)) | (go_at_call 20; refine kn_calls ?_; (try clear hF); clear hL; intro W hL; (try simp only [kfb] at hL); have hF := hL.facts; (try simp only [Facts, Dist, kfa, implies_true, forall_const] at hF); have hL3 := hL.perm (L' := ((kt, .cells #[.int .i64 0, .string ⟨#[]⟩, .string P, pv, .int .i64 (-1), .int .i64 ln0] 31 (0, 0)) :: (q, .cells #[pv] 51 (0, 0)) :: LP) ++ ((b, .cells #[.string src, .int .i64 (at_), .int .i64 (ln), v] 43 (0, 0)) :: LO)) (fun p => by simp only [List.countP_cons, List.countP_append, List.countP_nil]; omega); (((with_reducible refine (HIO.out _ hL3.selfS).mono ?_))); rintro e W2 hb; replace hb := TPost.lift hL3 hb; (simp only [TPost, if_pos hf] at hb); obtain ⟨rfl, hb⟩ := hb; clear hF))
            (try simp only [Exit.inBlock, Exit.then]); refine bodyPost_ret (by simp [results, Tryd.results21, go_sem, *]; try rfl) rfl ?_
            rw [HST.out]
            unfold TPost
            simp only [if_pos hf]
            exact ⟨trivial, hb⟩
          · go_wp2_with (first | ((with_reducible refine kn_list_set ?_); (try clear hF); clear hL; intro W hL; (try simp only [kfb] at hL); have hF := hL.facts; (try simp only [Facts, Dist, kfa, implies_true, forall_const] at hF)) | (go_at_call 27; refine kn_calls ?_; (try clear hF); clear hL; intro W hL; (try simp only [kfb] at hL); have hF := hL.facts; (try simp only [Facts, Dist, kfa, implies_true, forall_const] at hF); (((with_reducible refine (hN.out _ _ _ _ _).mono ?_))); rintro e W ⟨rfl, hb⟩; replace hL := hL.below hb; clear hb; (try clear hF); (try simp only [kfb] at hL); have hF := hL.facts; (try simp only [Facts, Dist, kfa, implies_true, forall_const] at hF)) | (go_at_call 19; refine kn_calls ?_; (try clear hF); clear hL; intro W hL; (try simp only [kfb] at hL); have hF := hL.facts; (try simp only [Facts, Dist, kfa, implies_true, forall_const] at hF); (((first | (with_reducible refine (rest_is src ⟨#[60]⟩ at_ ln v b _ (by first | exact hL.has _ List.mem_cons_self | exact hL.has _ (List.mem_cons_of_mem _ List.mem_cons_self) | exact hL.has _ (List.mem_cons_of_mem _ (List.mem_cons_of_mem _ List.mem_cons_self)) | exact hL.has _ (List.mem_cons_of_mem _ (List.mem_cons_of_mem _ (List.mem_cons_of_mem _ List.mem_cons_self))) | exact hL.has _ (List.mem_cons_of_mem _ (List.mem_cons_of_mem _ (List.mem_cons_of_mem _ (List.mem_cons_of_mem _ List.mem_cons_self)))) | exact hL.has _ (List.mem_cons_of_mem _ (List.mem_cons_of_mem _ (List.mem_cons_of_mem _ (List.mem_cons_of_mem _ (List.mem_cons_of_mem _ List.mem_cons_self)))))) (by omega) hs false hA.out).mono ?_) | (with_reducible refine (rest_is src ⟨#[62]⟩ at_ ln v b _ (by first | exact hL.has _ List.mem_cons_self | exact hL.has _ (List.mem_cons_of_mem _ List.mem_cons_self) | exact hL.has _ (List.mem_cons_of_mem _ (List.mem_cons_of_mem _ List.mem_cons_self)) | exact hL.has _ (List.mem_cons_of_mem _ (List.mem_cons_of_mem _ (List.mem_cons_of_mem _ List.mem_cons_self))) | exact hL.has _ (List.mem_cons_of_mem _ (List.mem_cons_of_mem _ (List.mem_cons_of_mem _ (List.mem_cons_of_mem _ List.mem_cons_self)))) | exact hL.has _ (List.mem_cons_of_mem _ (List.mem_cons_of_mem _ (List.mem_cons_of_mem _ (List.mem_cons_of_mem _ (List.mem_cons_of_mem _ List.mem_cons_self)))))) (by omega) hs true hB.out).mono ?_)))); rintro e W ⟨rfl, hb⟩; replace hL := hL.below hb; clear hb; (try clear hF); (try simp only [kfb] at hL); have hF := hL.facts; (try simp only [Facts, Dist, kfa, implies_true, forall_const] at hF)) | (go_at_call 20; refine kn_calls ?_; (try clear hF); clear hL; intro W hL; (try simp only [kfb] at hL); have hF := hL.facts; (try simp only [Facts, Dist, kfa, implies_true, forall_const] at hF); have hL3 := hL.perm (L' := ((kt, .cells #[.int .i64 0, .string ⟨#[]⟩, .string P, pv, .int .i64 (-1), .int .i64 ln0] 31 (0, 0)) :: (q, .cells #[pv] 51 (0, 0)) :: LP) ++ ((b, .cells #[.string src, .int .i64 (at_), .int .i64 (ln), v] 43 (0, 0)) :: LO)) (fun p => by simp only [List.countP_cons, List.countP_append, List.countP_nil]; omega); (((with_reducible refine (HIO.out _ hL3.selfS).mono ?_))); rintro e W2 hb; replace hb := TPost.lift hL3 hb; (simp only [TPost, if_neg hf] at hb); obtain ⟨rfl, hb⟩ := hb; clear hF))
            refine ⟨rfl, ?_⟩
            rw [HST.out]
            unfold TPost
            simp only [if_neg hf]
            exact ⟨trivial, hb⟩
        rw [decide_eq_false hB1] at hB0
        have hB := Lib.hid hB0
        rw [if_neg (fun h => h.elim hA1 hB1)] at hst
        have HST := Lib.hid hst
        clear hst hA0 hB0 hA1 hB1
        by_cases hf : tvs.length < 2000
        · go_wp2_with (first | ((with_reducible refine kn_list_set ?_); (try clear hF); clear hL; intro W hL; (try simp only [kfb] at hL); have hF := hL.facts; (try simp only [Facts, Dist, kfa, implies_true, forall_const] at hF)) | (go_at_call 27; refine kn_calls ?_; (try clear hF); clear hL; intro W hL; (try simp only [kfb] at hL); have hF := hL.facts; (try simp only [Facts, Dist, kfa, implies_true, forall_const] at hF); (((with_reducible refine (hN.out _ _ _ _ _).mono ?_))); rintro e W ⟨rfl, hb⟩; replace hL := hL.below hb; clear hb; (try clear hF); (try simp only [kfb] at hL); have hF := hL.facts; (try simp only [Facts, Dist, kfa, implies_true, forall_const] at hF)) | (go_at_call 19; refine kn_calls ?_; (try clear hF); clear hL; intro W hL; (try simp only [kfb] at hL); have hF := hL.facts; (try simp only [Facts, Dist, kfa, implies_true, forall_const] at hF); (((first | (with_reducible refine (rest_is src ⟨#[60]⟩ at_ ln v b _ (by first | exact hL.has _ List.mem_cons_self | exact hL.has _ (List.mem_cons_of_mem _ List.mem_cons_self) | exact hL.has _ (List.mem_cons_of_mem _ (List.mem_cons_of_mem _ List.mem_cons_self)) | exact hL.has _ (List.mem_cons_of_mem _ (List.mem_cons_of_mem _ (List.mem_cons_of_mem _ List.mem_cons_self))) | exact hL.has _ (List.mem_cons_of_mem _ (List.mem_cons_of_mem _ (List.mem_cons_of_mem _ (List.mem_cons_of_mem _ List.mem_cons_self)))) | exact hL.has _ (List.mem_cons_of_mem _ (List.mem_cons_of_mem _ (List.mem_cons_of_mem _ (List.mem_cons_of_mem _ (List.mem_cons_of_mem _ List.mem_cons_self)))))) (by omega) hs false hA.out).mono ?_) | (with_reducible refine (rest_is src ⟨#[62]⟩ at_ ln v b _ (by first | exact hL.has _ List.mem_cons_self | exact hL.has _ (List.mem_cons_of_mem _ List.mem_cons_self) | exact hL.has _ (List.mem_cons_of_mem _ (List.mem_cons_of_mem _ List.mem_cons_self)) | exact hL.has _ (List.mem_cons_of_mem _ (List.mem_cons_of_mem _ (List.mem_cons_of_mem _ List.mem_cons_self))) | exact hL.has _ (List.mem_cons_of_mem _ (List.mem_cons_of_mem _ (List.mem_cons_of_mem _ (List.mem_cons_of_mem _ List.mem_cons_self)))) | exact hL.has _ (List.mem_cons_of_mem _ (List.mem_cons_of_mem _ (List.mem_cons_of_mem _ (List.mem_cons_of_mem _ (List.mem_cons_of_mem _ List.mem_cons_self)))))) (by omega) hs false hB.out).mono ?_)))); rintro e W ⟨rfl, hb⟩; replace hL := hL.below hb; clear hb; (try clear hF); (try simp only [kfb] at hL); have hF := hL.facts; (try simp only [Facts, Dist, kfa, implies_true, forall_const] at hF)) | (go_at_call 24; refine kn_calls ?_; (try clear hF); clear hL; intro W hL; (try simp only [kfb] at hL); have hF := hL.facts; (try simp only [Facts, Dist, kfa, implies_true, forall_const] at hF); have hL3 := hL.perm (L' := ((kt, .cells #[.int .i64 0, .string ⟨#[]⟩, .string P, pv, .int .i64 (-1), .int .i64 ln0] 31 (0, 0)) :: (q, .cells #[pv] 51 (0, 0)) :: LP) ++ ((b, .cells #[.string src, .int .i64 (at_), .int .i64 (ln), v] 43 (0, 0)) :: LO)) (fun p => by simp only [List.countP_cons, List.countP_append, List.countP_nil]; omega); (((with_reducible refine (add_any src hs0 v b at_ ln _ LO tvs hL3.selfS hO hln 0 ⟨#[]⟩ P pv hpv ps (-1) ln0 _ _ (by omega) (by omega) hf).mono ?_))); rintro e W2 ⟨rfl, v2, LO2, hO2, hb⟩; replace hL := hL3.joinS hb; clear hL3 hb hF; (try simp only [kfb] at hL); have hF := hL.facts; (try simp only [Facts, Dist, kfa, implies_true, forall_const] at hF)))
          go_end0
          rw [HST.out]
          unfold TPost
          simp only [if_pos hf]
          refine ⟨trivial, at_, v2, LO2, pv, LP, hle, HLL.out, ?_, hP, ?_⟩
          · rw [← HPL.out]; exact hO2
          · have hL4 := hL.perm (L' := (kt, .cells #[.int .i64 0, .string ⟨#[]⟩, .string P, pv, .int .i64 (-1), .int .i64 ln0] 31 (0, 0)) :: (q, .cells #[pv] 51 (0, 0)) :: (b, .cells #[.string src, .int .i64 (at_), .int .i64 (ln), v2] 43 (0, 0)) :: (LO2 ++ LP)) (fun p => by simp only [List.countP_cons, List.countP_append, List.countP_nil]; omega)
            exact hL4.drop1.drop1
        · go_wp2_with (first | ((with_reducible refine kn_list_set ?_); (try clear hF); clear hL; intro W hL; (try simp only [kfb] at hL); have hF := hL.facts; (try simp only [Facts, Dist, kfa, implies_true, forall_const] at hF)) | (go_at_call 27; refine kn_calls ?_; (try clear hF); clear hL; intro W hL; (try simp only [kfb] at hL); have hF := hL.facts; (try simp only [Facts, Dist, kfa, implies_true, forall_const] at hF); (((with_reducible refine (hN.out _ _ _ _ _).mono ?_))); rintro e W ⟨rfl, hb⟩; replace hL := hL.below hb; clear hb; (try clear hF); (try simp only [kfb] at hL); have hF := hL.facts; (try simp only [Facts, Dist, kfa, implies_true, forall_const] at hF)) | (go_at_call 19; refine kn_calls ?_; (try clear hF); clear hL; intro W hL; (try simp only [kfb] at hL); have hF := hL.facts; (try simp only [Facts, Dist, kfa, implies_true, forall_const] at hF); (((first | (with_reducible refine (rest_is src ⟨#[60]⟩ at_ ln v b _ (by first | exact hL.has _ List.mem_cons_self | exact hL.has _ (List.mem_cons_of_mem _ List.mem_cons_self) | exact hL.has _ (List.mem_cons_of_mem _ (List.mem_cons_of_mem _ List.mem_cons_self)) | exact hL.has _ (List.mem_cons_of_mem _ (List.mem_cons_of_mem _ (List.mem_cons_of_mem _ List.mem_cons_self))) | exact hL.has _ (List.mem_cons_of_mem _ (List.mem_cons_of_mem _ (List.mem_cons_of_mem _ (List.mem_cons_of_mem _ List.mem_cons_self)))) | exact hL.has _ (List.mem_cons_of_mem _ (List.mem_cons_of_mem _ (List.mem_cons_of_mem _ (List.mem_cons_of_mem _ (List.mem_cons_of_mem _ List.mem_cons_self)))))) (by omega) hs false hA.out).mono ?_) | (with_reducible refine (rest_is src ⟨#[62]⟩ at_ ln v b _ (by first | exact hL.has _ List.mem_cons_self | exact hL.has _ (List.mem_cons_of_mem _ List.mem_cons_self) | exact hL.has _ (List.mem_cons_of_mem _ (List.mem_cons_of_mem _ List.mem_cons_self)) | exact hL.has _ (List.mem_cons_of_mem _ (List.mem_cons_of_mem _ (List.mem_cons_of_mem _ List.mem_cons_self))) | exact hL.has _ (List.mem_cons_of_mem _ (List.mem_cons_of_mem _ (List.mem_cons_of_mem _ (List.mem_cons_of_mem _ List.mem_cons_self)))) | exact hL.has _ (List.mem_cons_of_mem _ (List.mem_cons_of_mem _ (List.mem_cons_of_mem _ (List.mem_cons_of_mem _ (List.mem_cons_of_mem _ List.mem_cons_self)))))) (by omega) hs false hB.out).mono ?_)))); rintro e W ⟨rfl, hb⟩; replace hL := hL.below hb; clear hb; (try clear hF); (try simp only [kfb] at hL); have hF := hL.facts; (try simp only [Facts, Dist, kfa, implies_true, forall_const] at hF)) | (go_at_call 24; refine kn_calls ?_; (try clear hF); clear hL; intro W hL; (try simp only [kfb] at hL); have hF := hL.facts; (try simp only [Facts, Dist, kfa, implies_true, forall_const] at hF); have hL3 := hL.perm (L' := ((kt, .cells #[.int .i64 0, .string ⟨#[]⟩, .string P, pv, .int .i64 (-1), .int .i64 ln0] 31 (0, 0)) :: (q, .cells #[pv] 51 (0, 0)) :: LP) ++ ((b, .cells #[.string src, .int .i64 (at_), .int .i64 (ln), v] 43 (0, 0)) :: LO)) (fun p => by simp only [List.countP_cons, List.countP_append, List.countP_nil]; omega); (((with_reducible refine (add_not src hs0 v b at_ ln _ LO tvs hL3.selfS hO hln 0 ⟨#[]⟩ P pv (-1) ln0 _ _ (by omega) (by omega) hf).mono ?_))); rintro e W2 ⟨rfl, hb⟩; replace hL := hL3.joinS hb; clear hL3 hb hF; (try simp only [kfb] at hL); have hF := hL.facts; (try simp only [Facts, Dist, kfa, implies_true, forall_const] at hF)))
          refine ⟨rfl, ?_⟩
          rw [HST.out]
          unfold TPost
          simp only [if_neg hf]
          exact ⟨trivial, hL.sub (List.nil_sublist _)⟩

end Go.Proofs.YtflfaobbfhjmmaaDoor
