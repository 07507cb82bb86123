/- Lemmas and walks for the law LawBack (part 28). -/
import Derived.Test.YtfdlifhkeicnnaaGreatDoorPb27
import Derived.Test.YtfdlifhkeicnnaaGreatDoorProg
import Derived.WalkKit
import Derived.Handy
import Derived.Deep.Light
import Derived.WalkSmall
import Derived.StillTailTactics
import Derived.Lib.Hide
namespace Go.Proofs.YtfdlifhkeicnnaaGreatDoor
open Go Go.RowKit
set_option linter.unusedSimpArgs false
set_option linter.unusedVariables false

theorem itoa_no (n : Int) : (10 : UInt8) ∉ Lib.itoa n := by
  by_cases h : 0 ≤ n
  · obtain ⟨k, rfl⟩ : ∃ k : Nat, n = k := ⟨n.toNat, by omega⟩
    rw [Lib.itoa_nonneg]
    intro hc
    have := ((digits_inA k).2 _ hc).1
    exact absurd this (by decide)
  · obtain ⟨k, rfl⟩ : ∃ k : Nat, n = -(k : Int) := ⟨n.natAbs, by omega⟩
    rw [Lib.itoa_neg k (by omega)]
    intro hc
    rcases List.mem_cons.1 hc with hc | hc
    · exact absurd hc (by decide)
    · have := ((digits_inA k).2 _ hc).1
      exact absurd this (by decide)
theorem joinC_no : ∀ l : List Bytes, (∀ x ∈ l, (10 : UInt8) ∉ x) → (10 : UInt8) ∉ joinC l
  | [], _ => by simp [joinC]
  | [x], h => h x (by simp)
  | x :: y :: r, h => by
    have h1 := h x (by simp)
    have h2 := joinC_no (y :: r) (fun z hz => h z (List.mem_cons_of_mem _ hz))
    simp only [joinC] at h2 ⊢
    intro hc
    simp at hc
    rcases hc with hc | hc
    · exact h1 hc
    · exact h2 hc
theorem printed_no (name : Bytes) (l : List Bytes) (hn : (10 : UInt8) ∉ name) (h : ∀ x ∈ l, (10 : UInt8) ∉ x) : (10 : UInt8) ∉ printed name l := by
  unfold printed
  split
  · exact hn
  · have := joinC_no l h
    intro hc
    simp at hc
    rcases hc with hc | hc
    · exact hn hc
    · exact this hc
theorem names_no : ∀ k : Fin 32, (10 : UInt8) ∉ nmB k.val := by decide +kernel
theorem reg_no (n : Int) : (10 : UInt8) ∉ (114 :: Lib.itoa n : Bytes) := by
  intro hc
  rcases List.mem_cons.1 hc with hc | hc
  · exact absurd hc (by decide)
  · exact itoa_no n hc
theorem lineB_no (p : Bytes) : (10 : UInt8) ∉ lineB p := by
  unfold lineB
  cases hd : decB p with
  | none =>
    exact printed_no _ _ (by decide) (fun x hx => by
      obtain ⟨b, _, rfl⟩ := List.mem_map.1 hx
      exact itoa_no _)
  | some z =>
    obtain ⟨op, a, b, c⟩ := z
    obtain ⟨b1, b2, b3, b4⟩ := OO_back.ok p op a b c hd
    refine printed_no _ _ (names_no ⟨op, b1⟩) (fun x hx => ?_)
    unfold opsOf at hx
    split at hx <;> simp at hx
    all_goals (repeat' (first | (rcases hx with rfl | hx) | subst hx)) <;> first | exact reg_no _ | exact itoa_no _
theorem linesB_dis (s : Bytes) : linesB (disB s) = (chunks s.length s).map lineB := by
  rw [lines_lns]
  exact lns_lines _ (fun y hy => by obtain ⟨p, _, rfl⟩ := List.mem_map.1 hy; exact lineB_no p)
theorem chunks_len : ∀ (f : Nat) (s : Bytes), s.length ≤ f → (chunks f s).length = (s.length + 3) / 4 := by
  intro f
  induction f with
  | zero => intro s h; obtain rfl := List.eq_nil_of_length_eq_zero (Nat.le_zero.1 h); rfl
  | succ f ih =>
    intro s h
    cases s with
    | nil => rfl
    | cons c t =>
      show (if (c :: t) = [] then [] else (c :: t).take 4 :: chunks f ((c :: t).drop 4)).length = _
      rw [if_neg (by simp), List.length_cons, ih _ (by rw [List.length_drop]; simp only [List.length_cons] at h ⊢; omega), List.length_drop]
      simp only [List.length_cons]; omega
theorem chunks_get : ∀ (f : Nat) (s : Bytes) (i : Nat), s.length ≤ f → 4 * i < s.length → (chunks f s)[i]? = some ((s.drop (4 * i)).take 4) := by
  intro f
  induction f with
  | zero => intro s i h hi; omega
  | succ f ih =>
    intro s i h hi
    cases s with
    | nil => simp at hi
    | cons c t =>
      show (if (c :: t) = [] then [] else (c :: t).take 4 :: chunks f ((c :: t).drop 4))[i]? = _
      rw [if_neg (by simp)]
      cases i with
      | zero => rfl
      | succ i =>
        rw [List.getElem?_cons_succ, ih _ i (by rw [List.length_drop]; simp only [List.length_cons] at h ⊢; omega) (by rw [List.length_drop]; omega), List.drop_drop]
        rw [show 4 * (i + 1) = 4 + 4 * i by omega]

end Go.Proofs.YtfdlifhkeicnnaaGreatDoor
namespace Go.Proofs.YtfdlifhkeicnnaaGreatDoor
open Go Go.RowKit
set_option linter.unusedSimpArgs false
set_option linter.unusedVariables false

theorem byte_len : ∀ k : Fin 256, (Lib.itoa (k.val : Int)).length ≤ 3 := by decide +kernel
theorem joinC_len3 : ∀ l : List Bytes, (∀ x ∈ l, x.length ≤ 3) → (joinC l).length ≤ 5 * l.length
  | [], _ => by simp [joinC]
  | [x], h => by have := h x (by simp); simp [joinC]; omega
  | x :: y :: r, h => by
    have h1 := h x (by simp)
    have h2 := joinC_len3 (y :: r) (fun z hz => h z (List.mem_cons_of_mem _ hz))
    simp only [joinC, List.length_append, List.length_cons] at h2 ⊢
    omega
theorem lineB_len99 (p : Bytes) (hp : p.length ≤ 4) : (lineB p).length ≤ 99 := by
  unfold lineB
  cases hd : decB p with
  | none =>
    have := joinC_len3 (p.map fun b => Lib.itoa (b.toNat : Int)) (fun x hx => by
      obtain ⟨b, _, rfl⟩ := List.mem_map.1 hx
      exact byte_len ⟨b.toNat, b.toNat_lt⟩)
    rw [List.length_map] at this
    show (printed dByte (p.map fun b => Lib.itoa (b.toNat : Int))).length ≤ 99
    unfold printed
    have e : dByte.length = 5 := rfl
    split
    · omega
    · rw [List.length_append, List.length_cons]; omega
  | some z =>
    obtain ⟨op, a, b, c⟩ := z
    obtain ⟨b1, b2, b3, b4⟩ := OO_back.ok p op a b c hd
    have hn := names_len ⟨op, b1⟩
    have hi : ∀ n : Int, num n → (Lib.itoa n).length ≤ 21 := fun n h => Lib.itoa_length_le n h.1 h.2
    have hr : ∀ n : Int, reg n → (114 :: Lib.itoa n).length ≤ 22 := fun n h => by
      have h1 := h.1
      have h2 := h.2
      have := Lib.itoa_length_le n (by omega) (by omega)
      simp only [List.length_cons]; omega
    have hk : Kinds (form op).toNat a b c := b2
    have hb : ∀ x ∈ opsOf Lib.itoa (form op).toNat a b c, x.length ≤ 22 := by
      intro x hx
      unfold opsOf at hx
      unfold Kinds at hk
      split at hx <;> rename_i he <;> first | (rw [he] at hk; simp at hx hk) | (simp at hx; done)
      · subst hx; exact hr _ hk.1
      · rcases hx with rfl | rfl
        · exact hr _ hk.1
        · exact hr _ hk.2.1
      · rcases hx with rfl | rfl | rfl
        · exact hr _ hk.1
        · exact hr _ hk.2.1
        · exact hr _ hk.2.2
      · rcases hx with rfl | rfl | rfl
        · exact hr _ hk.1
        · exact hr _ hk.2.1
        · have := hi _ hk.2.2; omega
      · rcases hx with rfl | rfl
        · exact hr _ hk.1
        · have := hi _ hk.2.1; omega
      · subst hx; have := hi _ hk.1; omega
    have hl : (opsOf Lib.itoa (form op).toNat a b c).length ≤ 3 := by unfold opsOf; split <;> simp
    have := printed_len (nmB op) _ hb
    simp only
    have hn2 : (nmB op).length ≤ 10 := hn
    omega
theorem disB_len : ∀ (k : Nat) (s : Bytes), s.length ≤ k → (disB s).length ≤ 100 * ((s.length + 3) / 4) := by
  intro k
  induction k using Nat.strongRecOn with
  | _ k ih =>
    intro s hs
    by_cases h : s = []
    · subst h; exact Nat.zero_le _
    · have hl : 0 < s.length := List.length_pos_iff.2 h
      rw [disB_step h, List.length_append, List.length_append]
      have h1 := lineB_len99 (s.take 4) (by rw [List.length_take]; omega)
      have h2 := ih (k - 1) (by omega) (s.drop 4) (by rw [List.length_drop]; omega)
      rw [List.length_drop] at h2
      have e : ([10] : Bytes).length = 1 := rfl
      rw [e]
      omega

end Go.Proofs.YtfdlifhkeicnnaaGreatDoor
namespace Go.Proofs.YtfdlifhkeicnnaaGreatDoor
open Go Go.RowKit
set_option linter.unusedSimpArgs false
set_option linter.unusedVariables false
set_option maxRecDepth 20000 in
set_option maxHeartbeats 4000000 in
theorem back_long (code : ByteArray) (h8 : 800 < code.size) (w : World) (hT : TabA w) : Calls Tryz.prog 7 #[.string code] w fun e w' => e = .returned (.bool true) ∧ Below w.heap.size w w' := by
  have hL : Kn [] w w [] := Kn.refl [] w; (try simp only [kfb] at hL); have hF := hL.facts; (try simp only [Facts, Dist, kfa, implies_true, forall_const] at hF); go_enter Tryz.func7, Tryz.ntmps7
  go_wp2_with (first | ((with_reducible refine kn_list_set ?_); (try clear hF); clear hL; intro W hL; (try simp only [kfb] at hL); have hF := hL.facts; (try simp only [Facts, Dist, kfa, implies_true, forall_const] at hF)) | (go_at_call 8; refine kn_calls ?_; (try clear hF); clear hL; intro W hL; (try simp only [kfb] at hL); have hF := hL.facts; (try simp only [Facts, Dist, kfa, implies_true, forall_const] at hF); (((with_reducible refine (small_is _ (hT.kn hL (by simp))).mono ?_))); rintro e W ⟨rfl, hb⟩; replace hL := hL.below hb; clear hb; (try clear hF); (try simp only [kfb] at hL); have hF := hL.facts; (try simp only [Facts, Dist, kfa, implies_true, forall_const] at hF)))
  (try simp only [Exit.inBlock, Exit.then]); refine bodyPost_ret (by simp [results, Tryz.results7, go_sem, *]; try rfl) rfl ?_
  exact ⟨rfl, hL.below0⟩
theorem back_asm (code src : ByteArray) (h8 : code.size ≤ 800) (hsrc : src.data.toList = disB code.data.toList) (w : World) (hT : TabA w) : Calls Tryz.prog 11 #[.string src] w fun e w' => e = .returned (.tuple #[.string code, .int .i64 0, .int .i64 0]) ∧ Below w.heap.size w w' := by
  have hl := disB_len code.size code.data.toList (by rw [szl]; omega)
  rw [← hsrc, szl, szl] at hl
  refine (Assemble_is (Lib.hid iany) src (by omega) w hT).mono ?_
  intro e w' h
  have hb : asm OO (linesB src.data.toList) = .ok code.data.toList := by
    rw [hsrc, linesB_dis]
    exact asm_back OO OO_fine OO_dec OO_back code.data.toList (by rw [szl]; omega)
  unfold AsmP at h
  rw [hb] at h
  exact ⟨h.2, h.1⟩
set_option maxRecDepth 20000 in
set_option maxHeartbeats 4000000 in
theorem back_none (code : ByteArray) (h0 : code.size = 0) (w : World) (hT : TabA w) : Calls Tryz.prog 7 #[.string code] w fun e w' => e = .returned (.bool true) ∧ Below w.heap.size w w' := by
  have hd : disB code.data.toList = [] := by rw [List.eq_nil_of_length_eq_zero (show code.data.toList.length = 0 by rw [szl]; exact h0)]; rfl
  have HDI := Lib.hid (fun W (h : TabA W) => by have := Disassemble_is code (by omega) W h; rw [hd] at this; exact this)
  have HAS := Lib.hid (fun W (h : TabA W) => back_asm code ⟨#[]⟩ (by omega) hd.symm W h)
  clear hd
  have hL : Kn [] w w [] := Kn.refl [] w; (try simp only [kfb] at hL); have hF := hL.facts; (try simp only [Facts, Dist, kfa, implies_true, forall_const] at hF); go_enter Tryz.func7, Tryz.ntmps7
  go_wp2_with (first | ((with_reducible refine kn_list_set ?_); (try clear hF); clear hL; intro W hL; (try simp only [kfb] at hL); have hF := hL.facts; (try simp only [Facts, Dist, kfa, implies_true, forall_const] at hF)) | (go_at_call 8; refine kn_calls ?_; (try clear hF); clear hL; intro W hL; (try simp only [kfb] at hL); have hF := hL.facts; (try simp only [Facts, Dist, kfa, implies_true, forall_const] at hF); (((with_reducible refine (small_is _ (hT.kn hL (by simp))).mono ?_))); rintro e W ⟨rfl, hb⟩; replace hL := hL.below hb; clear hb; (try clear hF); (try simp only [kfb] at hL); have hF := hL.facts; (try simp only [Facts, Dist, kfa, implies_true, forall_const] at hF)) | (go_at_call 24; refine kn_calls ?_; (try clear hF); clear hL; intro W hL; (try simp only [kfb] at hL); have hF := hL.facts; (try simp only [Facts, Dist, kfa, implies_true, forall_const] at hF); (((with_reducible refine (HDI.out _ (hT.kn hL (by simp))).mono ?_))); rintro e W ⟨rfl, hb⟩; replace hL := hL.below hb; clear hb; (try clear hF); (try simp only [kfb] at hL); have hF := hL.facts; (try simp only [Facts, Dist, kfa, implies_true, forall_const] at hF)) | (go_at_call 11; refine kn_calls ?_; (try clear hF); clear hL; intro W hL; (try simp only [kfb] at hL); have hF := hL.facts; (try simp only [Facts, Dist, kfa, implies_true, forall_const] at hF); (((with_reducible refine (HAS.out _ (hT.kn hL (by simp))).mono ?_))); rintro e W ⟨rfl, hb⟩; replace hL := hL.below hb; clear hb; (try clear hF); (try simp only [kfb] at hL); have hF := hL.facts; (try simp only [Facts, Dist, kfa, implies_true, forall_const] at hF)) | (go_at_call 16; refine kn_calls ?_; (try clear hF); clear hL; intro W hL; (try simp only [kfb] at hL); have hF := hL.facts; (try simp only [Facts, Dist, kfa, implies_true, forall_const] at hF); (((with_reducible refine (Lines_none ⟨#[]⟩ rfl _).mono ?_))); rintro e W ⟨rfl, hb⟩; replace hL := hL.below hb; clear hb; (try clear hF); (try simp only [kfb] at hL); have hF := hL.facts; (try simp only [Facts, Dist, kfa, implies_true, forall_const] at hF)))
  go_loopw [9] (fun x wr => x = .int .i64 0 ∧ Kn [] w wr []) (fun _ _ => 0)
  case atStart => exact ⟨rfl, hL⟩
  case round =>
    clear hL
    (try clear hF)
    obtain ⟨rfl, hL⟩ := hrel
    (try simp only [kfb] at hL); have hF := hL.facts; (try simp only [Facts, Dist, kfa, implies_true, forall_const] at hF)
    go_wp2
    (try simp only [Exit.inBlock, Exit.then]); refine bodyPost_ret (by simp [results, Tryz.results7, go_sem, *]; try rfl) rfl ?_
    exact ⟨rfl, hL.below0⟩
set_option maxRecDepth 20000 in
set_option maxHeartbeats 4000000 in
theorem back_some (code : ByteArray) (h8 : code.size ≤ 800) (h0 : 0 < code.size) (w : World) (hT : TabA w) : Calls Tryz.prog 7 #[.string code] w fun e w' => e = .returned (.bool true) ∧ Below w.heap.size w w' := by
  obtain ⟨src, hsrc⟩ := ba_of (disB code.data.toList)
  have HDI := Lib.hid (fun W (h : TabA W) => by have := Disassemble_is code (by omega) W h; rw [← hsrc, toList_mk] at this; exact this)
  have HAS := Lib.hid (fun W (h : TabA W) => back_asm code src h8 hsrc W h)
  have hlen : (linesB src.data.toList).length = (code.size + 3) / 4 := by rw [hsrc, linesB_dis, List.length_map, chunks_len _ _ (Nat.le_refl _), szl]
  have hl := disB_len code.size code.data.toList (by rw [szl]; omega)
  rw [← hsrc, szl, szl] at hl
  have hsz : src.size ≠ 0 := by
    intro h
    have : src.data.toList = [] := List.eq_nil_of_length_eq_zero (by rw [szl]; exact h)
    rw [this] at hlen
    have e : (linesB []).length = 0 := rfl
    omega
  obtain ⟨n, hn⟩ : ∃ n, (code.size + 3) / 4 = n := ⟨_, rfl⟩
  obtain ⟨CL, hCL⟩ : ∃ CL, (strs (linesB src.data.toList)).toArray = CL := ⟨_, rfl⟩
  have HLI := Lib.hid (fun W (h : TabA W) => Lines_eq src (by omega) hsz n CL (hlen.trans hn) hCL W h.t)
  have HC := Lib.hid (show ∀ i, 4 * i < code.size → CL[i]? = some (.string ⟨(lineB ((code.data.toList.drop (4 * i)).take 4)).toArray⟩) from fun i hi => by
    have h1 := chunks_get code.data.toList.length code.data.toList i (Nat.le_refl _) (by rw [szl]; exact hi)
    rw [← hCL, hsrc, linesB_dis, List.getElem?_toArray]
    unfold strs
    rw [List.getElem?_map, List.getElem?_map, h1]; rfl)
  clear hCL hlen hsrc hl
  have e45 : ((n : Int) != ((code.size : Int) + 3) / 4) = false := bne_eq_false_iff_eq.2 (by omega)
  have hL : Kn [] w w [] := Kn.refl [] w; (try simp only [kfb] at hL); have hF := hL.facts; (try simp only [Facts, Dist, kfa, implies_true, forall_const] at hF); go_enter Tryz.func7, Tryz.ntmps7
  go_wp2_with (first | ((with_reducible refine kn_list_set ?_); (try clear hF); clear hL; intro W hL; (try simp only [kfb] at hL); have hF := hL.facts; (try simp only [Facts, Dist, kfa, implies_true, forall_const] at hF)) | (go_at_call 8; refine kn_calls ?_; (try clear hF); clear hL; intro W hL; (try simp only [kfb] at hL); have hF := hL.facts; (try simp only [Facts, Dist, kfa, implies_true, forall_const] at hF); (((with_reducible refine (small_is _ (hT.kn hL (by simp))).mono ?_))); rintro e W ⟨rfl, hb⟩; replace hL := hL.below hb; clear hb; (try clear hF); (try simp only [kfb] at hL); have hF := hL.facts; (try simp only [Facts, Dist, kfa, implies_true, forall_const] at hF)) | (go_at_call 24; refine kn_calls ?_; (try clear hF); clear hL; intro W hL; (try simp only [kfb] at hL); have hF := hL.facts; (try simp only [Facts, Dist, kfa, implies_true, forall_const] at hF); (((with_reducible refine (HDI.out _ (hT.kn hL (by simp))).mono ?_))); rintro e W ⟨rfl, hb⟩; replace hL := hL.below hb; clear hb; (try clear hF); (try simp only [kfb] at hL); have hF := hL.facts; (try simp only [Facts, Dist, kfa, implies_true, forall_const] at hF)) | (go_at_call 11; refine kn_calls ?_; (try clear hF); clear hL; intro W hL; (try simp only [kfb] at hL); have hF := hL.facts; (try simp only [Facts, Dist, kfa, implies_true, forall_const] at hF); (((with_reducible refine (HAS.out _ (hT.kn hL (by simp))).mono ?_))); rintro e W ⟨rfl, hb⟩; replace hL := hL.below hb; clear hb; (try clear hF); (try simp only [kfb] at hL); have hF := hL.facts; (try simp only [Facts, Dist, kfa, implies_true, forall_const] at hF)) | (go_at_call 16; refine kn_calls ?_; (try clear hF); clear hL; intro W hL; (try simp only [kfb] at hL); have hF := hL.facts; (try simp only [Facts, Dist, kfa, implies_true, forall_const] at hF); (((with_reducible refine (HLI.out _ (hT.kn hL (by simp))).mono ?_))); rintro e W ⟨g, rfl, hb⟩; replace hL := hL.join hb; clear hb; (try clear hF); (try simp only [kfb] at hL); have hF := hL.facts; (try simp only [Facts, Dist, kfa, implies_true, forall_const] at hF)))
  go_loopw [9] (fun x wr => ∃ i : Nat, i ≤ n ∧ x = .int .i64 i ∧ Kn [] w wr [(g, .cells CL 9 (0, 0))]) (fun x _ => n - (intOf x).toNat)
  case atStart => exact ⟨0, by omega, rfl, hL⟩
  case round =>
    clear hL
    (try clear hF)
    obtain ⟨i, hi, rfl, hL⟩ := hrel
    (try simp only [kfb] at hL); have hF := hL.facts; (try simp only [Facts, Dist, kfa, implies_true, forall_const] at hF)
    by_cases hlt : i < n
    · have hlt4 : 4 * i < code.size := by omega
      obtain ⟨p, hp⟩ : ∃ p : ByteArray, code.extract (4 * i) (min (code.size : Int) (4 * (i : Int) + 4)).toNat = p := ⟨_, rfl⟩
      have hpl : p.data.toList = (code.data.toList.drop (4 * i)).take 4 := by
        rw [← hp]
        have := szl code
        simp only [ByteArray.data_extract, Array.toList_extract, List.extract_eq_take_drop]
        rcases Nat.lt_or_ge (4 * i + 4) code.size with h | h
        · rw [show (min (code.size : Int) (4 * (i : Int) + 4)).toNat - 4 * i = 4 by omega]
        · rw [List.take_of_length_le (by rw [List.length_drop]; omega), List.take_of_length_le (by rw [List.length_drop]; omega)]
      have cA := HC.out i hlt4
      rw [← hpl] at cA
      have hm1 : min code.size (4 * i + 4) ≤ code.size := Nat.min_le_left _ _
      have hm2 : 4 * i ≤ min code.size (4 * i + 4) := by omega
      cases hd : decB p.data.toList with
      | some z =>
        obtain ⟨op, a, b, c⟩ := z
        have hline : (⟨(lineB p.data.toList).toArray⟩ : ByteArray) = printS op a b c := by
          obtain ⟨b1, b2, b3, b4⟩ := OO_back.ok p.data.toList op a b c hd
          have hv : valid op a b c = true := b3
          apply ba_ext
          rw [printS_line hv op rfl]
          unfold lineB
          rw [hd]
        rw [hline] at cA
        have HDC := Lib.hid (fun W (h : TabI W) => Decode_some p op a b c hd W h)
        clear hd hpl hline
        go_wp2_with (first | ((with_reducible refine kn_list_set ?_); (try clear hF); clear hL; intro W hL; (try simp only [kfb] at hL); have hF := hL.facts; (try simp only [Facts, Dist, kfa, implies_true, forall_const] at hF)) | (go_at_call 26; refine kn_calls ?_; (try clear hF); clear hL; intro W hL; (try simp only [kfb] at hL); have hF := hL.facts; (try simp only [Facts, Dist, kfa, implies_true, forall_const] at hF); (((with_reducible refine (HDC.out _ ((hT.kn hL (by simp)).i)).mono ?_))); rintro e W ⟨rfl, hb⟩; replace hL := hL.below hb; clear hb; (try clear hF); (try simp only [kfb] at hL); have hF := hL.facts; (try simp only [Facts, Dist, kfa, implies_true, forall_const] at hF)) | ((with_reducible refine at_region 13 ?_); refine kn_wp ?_; (try clear hF); clear hL; intro W hL; (try simp only [kfb] at hL); have hF := hL.facts; (try simp only [Facts, Dist, kfa, implies_true, forall_const] at hF); refine kn_region [0, 1, 2, 3, 4, 5, 6, 7, 8, 9] [0, 1, 2, 3, 4, 5, 6, 8, 9] [] [0, 1, 2, 3, 4, 8, 9] (by kernel_rfl) (by kernel_rfl) (List.Sublist.refl _) ?_; (try clear hF); clear hL; intro ι F hne hC hFF; have hG := fun n => (hFF n).facts; clear hFF; (try simp only [Facts, Dist, kfa, implies_true, forall_const] at hG); (repeat (first | (refine cwk_skip rfl (by rfl) ?_; (try simp only [Act.put, List.setIfInBounds_toArray, List.set_cons_zero, List.set_cons_succ])) | (refine cwk_float rfl rfl (by rfl) (by rfl) (by rfl) hC ?_; intro K hK; go_big_quiet_op; go_big_quiet_on) | (refine cwk_pure rfl rfl (by rfl) (by rfl) ?_; intro K hK; go_big_quiet_op; go_big_quiet_on) | (refine cwk_call rfl (by rfl) (by rfl) (fun _ => rfl) ?_; intro W hL; (try simp only [kfb] at hL); have hF := hL.facts; (try simp only [Facts, Dist, kfa, implies_true, forall_const] at hF); simp only [List.map_toArray, List.map_cons, List.map_nil, Array.empty_append, Array.append_empty, Act.eval, Array.getD_eq_getD_getElem?, List.getElem?_toArray, List.getElem?_cons_zero, List.getElem?_cons_succ, Option.getD_some]; go_at_call 19; (((with_reducible refine (Print_any _ _ _ _ _ ((hT.kn hL (by simp)).i)).mono ?_))); rintro e W ⟨rfl, hb⟩; replace hL := hL.below hb; clear hb; (try clear hF); (try simp only [kfb] at hL); have hF := hL.facts; (try simp only [Facts, Dist, kfa, implies_true, forall_const] at hF); refine owed_ret ?_; (first | (refine owedB _ (by rfl) ?_; clear hL; (try clear hF); clear hC hG; intro ι F hne hC hFF; have hG := fun n => (hFF n).facts; clear hFF; (try simp only [Facts, Dist, kfa, implies_true, forall_const] at hG)) | (refine owed0 _ (by repeat' (first | (with_reducible exact List.Sublist.refl _) | (with_reducible apply List.Sublist.cons_cons) | (with_reducible apply List.Sublist.cons))) ?_; clear hL; (try clear hF))); (try simp only [Act.put, List.setIfInBounds_toArray, List.set_cons_zero, List.set_cons_succ])) | (refine cwk_anch rfl rfl (by rfl) (by rfl) ?_; intro W hL; (try simp only [kfb] at hL); have hF := hL.facts; (try simp only [Facts, Dist, kfa, implies_true, forall_const] at hF); go_wp2; refine anchQ_normal ?_; (first | (refine owedB _ (by rfl) ?_; clear hL; (try clear hF); clear hC hG; intro ι F hne hC hFF; have hG := fun n => (hFF n).facts; clear hFF; (try simp only [Facts, Dist, kfa, implies_true, forall_const] at hG)) | (refine owed0 _ (by repeat' (first | (with_reducible exact List.Sublist.refl _) | (with_reducible apply List.Sublist.cons_cons) | (with_reducible apply List.Sublist.cons))) ?_; clear hL; (try clear hF)))))); refine cwk_nil ?_; clear hC hG; intro W hL; (try simp only [kfb] at hL); have hF := hL.facts; (try simp only [Facts, Dist, kfa, implies_true, forall_const] at hF)))
        have hRL : Kn [] w _ [(g, .cells CL 9 (0, 0))] := hL.sub (by (repeat (first | exact List.Sublist.refl _ | apply List.Sublist.cons)))
        go_roundw
        case measure => simp [intOf]; omega
        case rel => exact ⟨i + 1, by omega, by go_num, hRL⟩
      | none =>
        have HDC := Lib.hid (fun W (h : TabI W) => Decode_none p hd W h)
        clear hd hpl
        go_wp2_with (first | ((with_reducible refine kn_list_set ?_); (try clear hF); clear hL; intro W hL; (try simp only [kfb] at hL); have hF := hL.facts; (try simp only [Facts, Dist, kfa, implies_true, forall_const] at hF)) | (go_at_call 26; refine kn_calls ?_; (try clear hF); clear hL; intro W hL; (try simp only [kfb] at hL); have hF := hL.facts; (try simp only [Facts, Dist, kfa, implies_true, forall_const] at hF); (((with_reducible refine (HDC.out _ ((hT.kn hL (by simp)).i)).mono ?_))); rintro e W ⟨rfl, hb⟩; replace hL := hL.below hb; clear hb; (try clear hF); (try simp only [kfb] at hL); have hF := hL.facts; (try simp only [Facts, Dist, kfa, implies_true, forall_const] at hF)) | ((with_reducible refine at_region 13 ?_); refine kn_wp ?_; (try clear hF); clear hL; intro W hL; (try simp only [kfb] at hL); have hF := hL.facts; (try simp only [Facts, Dist, kfa, implies_true, forall_const] at hF); refine kn_region [0, 1, 2, 3, 4, 5, 6, 7, 8, 9] [0, 1, 2, 3, 4, 5, 6, 8, 9] [] [0, 1, 2, 3, 4, 8, 9] (by kernel_rfl) (by kernel_rfl) (List.Sublist.refl _) ?_; (try clear hF); clear hL; intro ι F hne hC hFF; have hG := fun n => (hFF n).facts; clear hFF; (try simp only [Facts, Dist, kfa, implies_true, forall_const] at hG); (repeat (first | (refine cwk_skip rfl (by rfl) ?_; (try simp only [Act.put, List.setIfInBounds_toArray, List.set_cons_zero, List.set_cons_succ])) | (refine cwk_float rfl rfl (by rfl) (by rfl) (by rfl) hC ?_; intro K hK; go_big_quiet_op; go_big_quiet_on) | (refine cwk_pure rfl rfl (by rfl) (by rfl) ?_; intro K hK; go_big_quiet_op; go_big_quiet_on) | (refine cwk_call rfl (by rfl) (by rfl) (fun _ => rfl) ?_; intro W hL; (try simp only [kfb] at hL); have hF := hL.facts; (try simp only [Facts, Dist, kfa, implies_true, forall_const] at hF); simp only [List.map_toArray, List.map_cons, List.map_nil, Array.empty_append, Array.append_empty, Act.eval, Array.getD_eq_getD_getElem?, List.getElem?_toArray, List.getElem?_cons_zero, List.getElem?_cons_succ, Option.getD_some]; go_at_call 19; (((with_reducible refine (Print_any _ _ _ _ _ ((hT.kn hL (by simp)).i)).mono ?_))); rintro e W ⟨rfl, hb⟩; replace hL := hL.below hb; clear hb; (try clear hF); (try simp only [kfb] at hL); have hF := hL.facts; (try simp only [Facts, Dist, kfa, implies_true, forall_const] at hF); refine owed_ret ?_; (first | (refine owedB _ (by rfl) ?_; clear hL; (try clear hF); clear hC hG; intro ι F hne hC hFF; have hG := fun n => (hFF n).facts; clear hFF; (try simp only [Facts, Dist, kfa, implies_true, forall_const] at hG)) | (refine owed0 _ (by repeat' (first | (with_reducible exact List.Sublist.refl _) | (with_reducible apply List.Sublist.cons_cons) | (with_reducible apply List.Sublist.cons))) ?_; clear hL; (try clear hF))); (try simp only [Act.put, List.setIfInBounds_toArray, List.set_cons_zero, List.set_cons_succ])) | (refine cwk_anch rfl rfl (by rfl) (by rfl) ?_; intro W hL; (try simp only [kfb] at hL); have hF := hL.facts; (try simp only [Facts, Dist, kfa, implies_true, forall_const] at hF); go_wp2; refine anchQ_normal ?_; (first | (refine owedB _ (by rfl) ?_; clear hL; (try clear hF); clear hC hG; intro ι F hne hC hFF; have hG := fun n => (hFF n).facts; clear hFF; (try simp only [Facts, Dist, kfa, implies_true, forall_const] at hG)) | (refine owed0 _ (by repeat' (first | (with_reducible exact List.Sublist.refl _) | (with_reducible apply List.Sublist.cons_cons) | (with_reducible apply List.Sublist.cons))) ?_; clear hL; (try clear hF)))))); refine cwk_nil ?_; clear hC hG; intro W hL; (try simp only [kfb] at hL); have hF := hL.facts; (try simp only [Facts, Dist, kfa, implies_true, forall_const] at hF)))
        have hRL : Kn [] w _ [(g, .cells CL 9 (0, 0))] := hL.sub (by (repeat (first | exact List.Sublist.refl _ | apply List.Sublist.cons)))
        go_roundw
        case measure => simp [intOf]; omega
        case rel => exact ⟨i + 1, by omega, by go_num, hRL⟩
    · obtain rfl : i = n := by omega
      go_wp2
      (try simp only [Exit.inBlock, Exit.then]); refine bodyPost_ret (by simp [results, Tryz.results7, go_sem, *]; try rfl) rfl ?_
      exact ⟨rfl, hL.below0⟩
theorem asmBack_any (code : ByteArray) (w : World) (hT : TabA w) : Calls Tryz.prog 7 #[.string code] w fun e w' => e = .returned (.bool true) ∧ Below w.heap.size w w' := by
  by_cases h8 : 800 < code.size
  · exact back_long code h8 w hT
  · by_cases h0 : code.size = 0
    · exact back_none code h0 w hT
    · exact back_some code (by omega) (by omega) w hT

end Go.Proofs.YtfdlifhkeicnnaaGreatDoor
