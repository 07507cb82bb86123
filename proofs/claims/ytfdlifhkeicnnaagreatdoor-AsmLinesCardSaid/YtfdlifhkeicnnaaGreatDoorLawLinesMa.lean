/- Lemmas and walks for the law LawLines (part 29). -/
import Derived.Test.YtfdlifhkeicnnaaGreatDoorPc28
import Derived.Test.YtfdlifhkeicnnaaGreatDoorProg
import Derived.WalkKit
import Derived.Handy
import Derived.Deep.Light
import Derived.WalkSmall
import Derived.StillTailTactics
import Derived.Lib.Hide
namespace Go.Proofs.YtfdlifhkeicnnaaGreatDoor
open Go Go.RowKit
set_option linter.unusedSimpArgs false
set_option linter.unusedVariables false

def Pos {α : Type} (r : Rs α) : Prop := ∀ e, r = .bad e → 1 ≤ e
theorem pos_ok {α : Type} (a : α) : Pos (.ok a) := fun e h => by cases h
theorem pos_bad {α : Type} (n : Nat) (h : 1 ≤ n) : Pos (.bad n : Rs α) := fun e he => by cases he; exact h
theorem pos_bind {α β : Type} {r : Rs α} {f : α → Rs β} (h : Pos r) (hf : ∀ a, Pos (f a)) : Pos (r.bind f) := by
  cases r with
  | ok a => exact hf a
  | bad e => exact fun e' he => by cases he; exact h e rfl
theorem pos_ite {α : Type} {c : Prop} [Decidable c] {a b : Rs α} (ha : Pos a) (hb : Pos b) : Pos (if c then a else b) := by
  split
  · exact ha
  · exact hb
theorem pos_mapR {α β : Type} {f : α → Rs β} (h : ∀ a, Pos (f a)) : ∀ l, Pos (mapR f l)
  | [] => pos_ok _
  | a :: l => by
    unfold mapR
    cases hf : f a with
    | bad e => exact pos_bad _ (h a e hf)
    | ok b =>
      simp only
      cases hm : mapR f l with
      | bad e => exact pos_bad _ (pos_mapR h l e hm)
      | ok bs => exact pos_ok _
variable (O : Oth)
theorem pos_number (s : Bytes) (lo hi : Int) : Pos (number O s lo hi) := by
  unfold number
  split
  · exact pos_bad _ (by decide)
  · split
    · exact pos_ok _
    · exact pos_bad _ (by decide)
theorem pos_address (L : Labs) (s : Bytes) (last : Bool) : Pos (address L s last) := by
  unfold address
  split
  · split
    · exact pos_ok _
    · split
      · exact pos_bad _ (by decide)
      · exact pos_ok _
  · exact pos_bad _ (by decide)
theorem pos_register (s : Bytes) : Pos (register s) := by
  unfold register
  split
  · split
    · exact pos_ok _
    · exact pos_bad _ (by decide)
  · exact pos_bad _ (by decide)
theorem pos_integer (s : Bytes) : Pos (integer O s) := by
  unfold integer
  split
  · exact pos_ok _
  · exact pos_bad _ (by decide)
theorem pos_target (L : Labs) (a op : Nat) (s : Bytes) (last : Bool) : Pos (target O L a op s last) := by
  unfold target
  split
  · exact pos_ok _
  · split
    · cases h : address L s last with
      | bad e => exact pos_bad _ (pos_address L s last e h)
      | ok n => exact pos_ok _
    · split
      · cases h : address L s last with
        | bad e => exact pos_bad _ (pos_address L s last e h)
        | ok n => exact pos_ok _
      · split
        · split
          · exact pos_ok _
          · exact pos_bad _ (by decide)
        · exact pos_bad _ (by decide)
theorem pos_direct (L : Labs) (x : Stm) (last : Bool) : Pos (direct O L x last) := by
  unfold direct
  split
  · split
    · exact pos_bad _ (by decide)
    · have hp := pos_mapR (f := fun s => number O s (-128) 255) (fun s => pos_number O s _ _) x.ops
      split
      · rename_i e h; exact pos_bad _ (hp e h)
      · exact pos_ok _
  · split
    · split
      · exact pos_bad _ (by decide)
      · have hp := pos_mapR (f := fun s => if named s then (match address L s last with
          | .bad e => .bad e
          | .ok n => .ok (n : Int)) else number O s (-2147483648) 4294967295) (fun s => by
            show Pos (if named s then _ else _)
            split
            · cases h : address L s last with
              | bad e => exact pos_bad _ (pos_address L s last e h)
              | ok n => exact pos_ok _
            · exact pos_number O s _ _) x.ops
        split
        · rename_i e h; exact pos_bad _ (hp e h)
        · exact pos_ok _
    · split
      · split
        · split
          · exact pos_ok _
          · exact pos_bad _ (by decide)
        · exact pos_bad _ (by decide)
      · split
        · rename_i s _
          have hp := pos_number O s 0 4096
          split
          · exact pos_ok _
          · rename_i e h; exact pos_bad _ (hp e h)
        · exact pos_bad _ (by decide)
theorem pos_instr (L : Labs) (x : Stm) (a op : Nat) (last : Bool) : Pos (instr O L x a op last) := by
  unfold instr
  split
  · exact pos_bad _ (by decide)
  · split <;> first | exact pos_ok _ | exact pos_bind (pos_register _) fun _ => pos_ok _ | exact pos_bind (pos_register _) fun _ => pos_bind (pos_register _) fun _ => pos_ok _ | exact pos_bind (pos_register _) fun _ => pos_bind (pos_register _) fun _ => pos_bind (pos_register _) fun _ => pos_ok _ | exact pos_bind (pos_register _) fun _ => pos_bind (pos_register _) fun _ => pos_bind (pos_integer O _) fun _ => pos_ok _ | exact pos_bind (pos_register _) fun _ => pos_bind (pos_target O _ _ _ _ _) fun _ => pos_ok _ | exact pos_bind (pos_target O _ _ _ _ _) fun _ => pos_ok _
theorem pos_addL (a : Nat) : ∀ (l : List Bytes) (L : Labs), Pos (addL L a l)
  | [], L => pos_ok _
  | s :: l, L => by
    unfold addL
    split
    · exact pos_bad _ (by decide)
    · exact pos_addL a l _
theorem pos_measure (x : Stm) (size : Nat) (L : Labs) : Pos (measure O x size L) := by
  unfold measure
  simp only
  refine pos_ite (pos_bad _ (by decide)) (pos_ite (pos_bad _ (by decide)) (pos_bind (pos_addL _ _ _) fun L => pos_ite (pos_bad _ (by decide)) (pos_bind ?_ fun n => pos_ite (pos_bad _ (by decide)) (pos_ok _))))
  split
  · exact pos_bind (pos_instr O _ _ _ _ _) fun _ => pos_ok _
  · exact pos_ite (pos_ok _) (pos_bind (pos_direct O _ _ _) fun _ => pos_ok _)
theorem pos_emit (L : Labs) (x : Stm) (a : Nat) (code : Bytes) : Pos (emit O L x a code) := by
  unfold emit
  split
  · exact pos_ok _
  · simp only
    split
    · exact pos_bind (pos_direct O _ _ _) fun _ => pos_ok _
    · split
      · exact pos_ok _
      · refine pos_bind (pos_instr O _ _ _ _ _) fun i => ?_
        split
        · exact pos_ok _
        · exact pos_bad _ (by decide)
theorem pass1_pos : ∀ (l : List Stm) (n size : Nat) (L : Labs) (e m : Nat), pass1 O l n size L = .bad e m → 1 ≤ e
  | [], n, size, L, e, m, h => by unfold pass1 at h; cases h
  | x :: l, n, size, L, e, m, h => by
    unfold pass1 at h
    split at h
    · rename_i e' he; cases h; exact pos_measure O _ _ _ _ he
    · split at h
      · rename_i e' m' he; cases h; exact pass1_pos l _ _ _ _ _ he
      · cases h
theorem pass2_pos (L : Labs) : ∀ (l : List (Stm × Nat)) (n : Nat) (code : Bytes) (e m : Nat), pass2 O L l n code = .bad e m → 1 ≤ e
  | [], n, code, e, m, h => by unfold pass2 at h; cases h
  | (x, a) :: l, n, code, e, m, h => by
    unfold pass2 at h
    split at h
    · rename_i e' he; cases h; exact pos_emit O _ _ _ _ _ he
    · exact pass2_pos L l _ _ _ _ h
theorem asm_bad_pos {ls : List Bytes} {e m : Nat} (h : asm O ls = .bad e m) : 1 ≤ e := by
  unfold asm at h
  split at h
  · rename_i e' m' he; cases h; exact pass1_pos O _ _ _ _ _ _ he
  · exact pass2_pos O _ _ _ _ _ _ h
theorem lns_end {t : Bytes} (hne : t ≠ []) (hl : t.getLast? ≠ some 10) : lns (t ++ [10]) = lns t := by
  have e : trim10 (t ++ [10]) = trim10 t := by
    rcases trim_or t with ⟨h2, h3⟩ | ⟨h2, _⟩
    · exact absurd h3 hl
    · rcases trim_or (t ++ [10]) with ⟨h4, h5⟩ | ⟨h4, h5⟩
      · exact (List.append_cancel_right h4).symm.trans h2.symm
      · exact absurd (by simp) h5
  unfold lns
  rw [if_neg (by simp), if_neg hne, e]
theorem pass1_size (F : O.Fine) : ∀ (l : List Stm) (n size : Nat) (L : Labs) (r : List (Stm × Nat)) (s : Nat) (L' : Labs), pass1 O l n size L = .ok (r, s, L') → size ≤ 4096 → s ≤ 4096
  | [], n, size, L, r, s, L', h, hs => by unfold pass1 at h; cases h; exact hs
  | x :: l, n, size, L, r, s, L', h, hs => by
    unfold pass1 at h
    split at h
    · cases h
    · rename_i s1 a1 L1 hm
      have h1 := (measure_at O F hm).2.1
      split at h
      · cases h
      · rename_i r2 s2 L2 h2
        cases h
        exact pass1_size F l _ _ _ _ _ _ h2 h1
theorem asm_size {ls : List Bytes} {cl : Bytes} (h : asm OO ls = .ok cl) : cl.length ≤ 4096 := by
  unfold asm at h
  split at h
  · cases h
  · rename_i r s L h1
    have h2 := pass1_size OO OO_fine _ _ _ _ _ _ _ h1 (by omega)
    have h3 := (pass_len OO OO_fine _ _ _ _ _ _ _ _ _ _ _ h1 rfl h).1
    omega
theorem linesB_more (s x : Bytes) (hx : x ≠ []) (h10 : (10 : UInt8) ∉ x) : linesB (join10 (linesB s) ++ x) = linesB s ++ [x] := by
  rw [lines_lns, lines_lns]
  have h1 : lns (join10 (lns s ++ [x])) = lns s ++ [x] := lns_lines _ (fun y hy => by
    rcases List.mem_append.1 hy with hy | hy
    · exact lns_in s y hy
    · rw [List.mem_singleton] at hy; subst hy; exact h10)
  rw [← h1]
  have e : join10 (lns s ++ [x]) = (join10 (lns s) ++ x) ++ [10] := by simp [join10]
  rw [e]
  refine (lns_end (by simp [hx]) ?_).symm
  rw [last_app _ _ hx]
  intro h
  exact h10 (List.mem_of_getLast? h)
theorem join_len (s : Bytes) : (join10 (linesB s)).length ≤ s.length + 1 := by
  rw [lines_lns, lns_join]
  split
  · simp
  · split
    · omega
    · simp
theorem kinds_of {op a b c : Int} (hv : valid op a b c = true) : ∃ n : Nat, op = n ∧ n < 32 ∧ Kinds (form n).toNat a b c ∧ (encS op a b c).data.toList.length = 4 ∧ lineB (encS op a b c).data.toList = printed (nmB n) (opsOf Lib.itoa (form n).toNat a b c) := by
  obtain ⟨x, y, z, t, h1, h2, h3, h4, h5, h6⟩ := enc_dec hv
  have hd : decB (encS op a b c).data.toList = some (x.toNat, a, b, c) := by
    rw [h1]
    show (if decOk x y z t then some (x.toNat, (y.toNat : Int), dB x z t, dC x t) else none) = _
    rw [if_pos h2, h4, h5, h6]
  obtain ⟨b1, b2, b3, b4⟩ := OO_back.ok _ _ _ _ _ hd
  refine ⟨x.toNat, h3.symm, b1, b2, by rw [h1]; rfl, ?_⟩
  unfold lineB
  rw [hd]
theorem more_plain {src : Bytes} {code : Bytes} {op a b c : Int} (h : asm OO (linesB src) = .ok code) (hv : valid op a b c = true) (hsz : (code.length + 3) / 4 * 4 + 4 ≤ 4096) :
    asm OO (linesB (join10 (linesB src) ++ (printS op a b c).data.toList)) = .ok (code ++ List.replicate ((code.length + 3) / 4 * 4 - code.length) 0 ++ (encS op a b c).data.toList) ∧ (printS op a b c).data.toList.length ≤ 99 ∧ (encS op a b c).data.toList.length = 4 := by
  obtain ⟨n, rfl, hn, hk, h4, hl⟩ := kinds_of hv
  have hp : (printS n a b c).data.toList = lineB (encS n a b c).data.toList := by rw [printS_line hv n rfl, hl]
  have hne : (printS n a b c).data.toList ≠ [] := by
    rw [printS_line hv n rfl]
    have := (OO_dec.name n hn).1.1
    unfold printed
    split
    · exact this
    · simp
  refine ⟨?_, by rw [hp]; exact lineB_len99 _ (by omega), h4⟩
  rw [linesB_more _ _ hne (by rw [hp]; exact lineB_no _), printS_line hv n rfl]
  exact asm_printed OO OO_fine OO_dec h n hn a b c hk hv hsz
theorem wrong_plain {src : Bytes} {code : Bytes} (h : asm OO (linesB src) = .ok code) : asm OO (linesB (join10 (linesB src) ++ noSuch)) = .bad 2 ((linesB src).length + 1) := by
  rw [linesB_more _ _ (by decide) (by decide)]
  exact asm_noSuch OO (by kernel_rfl) h

end Go.Proofs.YtfdlifhkeicnnaaGreatDoor
namespace Go.Proofs.YtfdlifhkeicnnaaGreatDoor
open Go Go.RowKit
set_option linter.unusedSimpArgs false
set_option linter.unusedVariables false
set_option maxRecDepth 20000 in
set_option maxHeartbeats 4000000 in
theorem lines_long (src : ByteArray) (op a b c : Int) (hs : 1000 < src.size) (w : World) (hT : TabA w) : Calls Tryz.prog 5 #[.string src, .agg #[.int .i64 op, .int .i64 a, .int .i64 b, .int .i64 c]] w fun e w' => e = .returned (.bool true) ∧ Below w.heap.size w w' := by
  have hL : Kn [] w w [] := Kn.refl [] w; (try simp only [kfb] at hL); have hF := hL.facts; (try simp only [Facts, Dist, kd] at hF); go_enter Tryz.func5, Tryz.ntmps5
  go_wp2_with (first | ((with_reducible refine kn_list_set ?_); (try clear hF); clear hL; intro W hL; (try simp only [kfb] at hL); have hF := hL.facts; (try simp only [Facts, Dist, kd] at hF)) | (go_at_call 8; refine kn_calls ?_; (try clear hF); clear hL; intro W hL; (try simp only [kfb] at hL); have hF := hL.facts; (try simp only [Facts, Dist, kd] at hF); (((with_reducible refine (small_is _ (hT.kn hL (by simp))).mono ?_))); rintro e W ⟨rfl, hb⟩; replace hL := hL.below hb; clear hb; (try clear hF); (try simp only [kfb] at hL); have hF := hL.facts; (try simp only [Facts, Dist, kd] at hF)))
  (try simp only [Exit.inBlock, Exit.then]); refine bodyPost_ret (by simp [results, Tryz.results5, go_sem, *]; try rfl) rfl ?_
  exact ⟨rfl, hL.below0⟩
set_option maxRecDepth 20000 in
set_option maxHeartbeats 4000000 in
theorem lines_bad (src : ByteArray) (op a b c : Int) (hs : src.size ≤ 1000) (L : List Bytes) (n er m : Nat) (hn : n ≤ 1001) (t0 : ((er : Int) != 0) = true) (t1 : decide ((1 : Int) ≤ (m : Int)) = true) (t2 : decide (m ≤ n) = true) (HAS : Hid (∀ W, TabA W → Calls Tryz.prog 11 #[.string src] W fun e w' => e = .returned (.tuple #[.string ⟨#[]⟩, .int .i64 er, .int .i64 m]) ∧ Below W.heap.size W w')) (HLI : Hid (∀ W, TabA W → Calls Tryz.prog 16 #[.string src] W fun e w' => ∃ ao cap, e = .returned (.slice ao n cap) ∧ Hid (Row w' (.slice ao n cap) (strs L)) ∧ Below W.heap.size W w')) (w : World) (hT : TabA w) : Calls Tryz.prog 5 #[.string src, .agg #[.int .i64 op, .int .i64 a, .int .i64 b, .int .i64 c]] w fun e w' => e = .returned (.bool true) ∧ Below w.heap.size w w' := by
  have hL : Kn [] w w [] := Kn.refl [] w; (try simp only [kfb] at hL); have hF := hL.facts; (try simp only [Facts, Dist, kd] at hF); go_enter Tryz.func5, Tryz.ntmps5
  go_wp2_with (first | ((with_reducible refine kn_list_set ?_); (try clear hF); clear hL; intro W hL; (try simp only [kfb] at hL); have hF := hL.facts; (try simp only [Facts, Dist, kd] at hF)) | (go_at_call 8; refine kn_calls ?_; (try clear hF); clear hL; intro W hL; (try simp only [kfb] at hL); have hF := hL.facts; (try simp only [Facts, Dist, kd] at hF); (((with_reducible refine (small_is _ (hT.kn hL (by simp))).mono ?_))); rintro e W ⟨rfl, hb⟩; replace hL := hL.below hb; clear hb; (try clear hF); (try simp only [kfb] at hL); have hF := hL.facts; (try simp only [Facts, Dist, kd] at hF)) | (go_at_call 11; refine kn_calls ?_; (try clear hF); clear hL; intro W hL; (try simp only [kfb] at hL); have hF := hL.facts; (try simp only [Facts, Dist, kd] at hF); (((with_reducible refine (HAS.out _ (hT.kn hL (by simp))).mono ?_))); rintro e W ⟨rfl, hb⟩; replace hL := hL.below hb; clear hb; (try clear hF); (try simp only [kfb] at hL); have hF := hL.facts; (try simp only [Facts, Dist, kd] at hF)) | (go_at_call 16; refine kn_calls ?_; (try clear hF); clear hL; intro W hL; (try simp only [kfb] at hL); have hF := hL.facts; (try simp only [Facts, Dist, kd] at hF); (((with_reducible refine (HLI.out _ (hT.kn hL (by simp))).mono ?_))); rintro e W ⟨ao, cap, rfl, HR, hb⟩; replace hL := hL.below hb; clear hb; (try clear hF); (try simp only [kfb] at hL); have hF := hL.facts; (try simp only [Facts, Dist, kd] at hF)))
  (try simp only [Exit.inBlock, Exit.then]); refine bodyPost_ret (by simp [results, Tryz.results5, go_sem, *]; try rfl) rfl ?_
  exact ⟨rfl, hL.below0⟩

end Go.Proofs.YtfdlifhkeicnnaaGreatDoor
namespace Go.Proofs.YtfdlifhkeicnnaaGreatDoor
open Go Go.RowKit
set_option linter.unusedSimpArgs false
set_option linter.unusedVariables false
set_option maxRecDepth 20000 in
set_option maxHeartbeats 4000000 in
theorem lines_inv (src : ByteArray) (op a b c : Int) (code whole : ByteArray) (L : List Bytes) (n at_ : Nat) (hs : src.size ≤ 1000) (hcl : code.size ≤ 4096) (hn : n ≤ 1001) (hwh : whole.size ≤ 1001) (HAS : Hid (∀ W, TabA W → Calls Tryz.prog 11 #[.string src] W fun e w' => e = .returned (.tuple #[.string code, .int .i64 0, .int .i64 0]) ∧ Below W.heap.size W w')) (HLI : Hid (∀ W, TabA W → Calls Tryz.prog 16 #[.string src] W fun e w' => ∃ ao cap, e = .returned (.slice ao n cap) ∧ Hid (Row w' (.slice ao n cap) (strs L)) ∧ Below W.heap.size W w')) (HUL : Hid (∀ ao cap W, Hid (Row W (.slice ao n cap) (strs L)) → Calls Tryz.prog 17 #[.slice ao n cap] W fun e w' => e = .returned (.string whole) ∧ Below W.heap.size W w')) (HA3 : Hid (∀ W, TabA W → Calls Tryz.prog 11 #[.string (whole ++ ⟨#[110, 111, 32, 115, 117, 99, 104, 32, 111, 112, 101, 114, 97, 116, 105, 111, 110]⟩)] W fun e w' => e = .returned (.tuple #[.string ⟨#[]⟩, .int .i64 2, .int .i64 ((n : Int) + 1)]) ∧ Below W.heap.size W w')) (hat : ((code.size : Int) + 3) / 4 * 4 = (at_ : Int)) (hat2 : at_ ≤ 4100) (HVA : Hid (∀ W, TabA W → Calls Tryz.prog 18 #[.agg #[.int .i64 op, .int .i64 a, .int .i64 b, .int .i64 c]] W fun e w' => e = .returned (.bool false) ∧ Below W.heap.size W w')) (w : World) (hT : TabA w) : Calls Tryz.prog 5 #[.string src, .agg #[.int .i64 op, .int .i64 a, .int .i64 b, .int .i64 c]] w fun e w' => e = .returned (.bool true) ∧ Below w.heap.size w w' := by
  have hL : Kn [] w w [] := Kn.refl [] w; (try simp only [kfb] at hL); have hF := hL.facts; (try simp only [Facts, Dist, kd] at hF); go_enter Tryz.func5, Tryz.ntmps5
  go_wp2_with (first | ((with_reducible refine kn_list_set ?_); (try clear hF); clear hL; intro W hL; (try simp only [kfb] at hL); have hF := hL.facts; (try simp only [Facts, Dist, kd] at hF)) | (go_at_call 8; refine kn_calls ?_; (try clear hF); clear hL; intro W hL; (try simp only [kfb] at hL); have hF := hL.facts; (try simp only [Facts, Dist, kd] at hF); (((with_reducible refine (small_is _ (hT.kn hL (by simp))).mono ?_))); rintro e W ⟨rfl, hb⟩; replace hL := hL.below hb; clear hb; (try clear hF); (try simp only [kfb] at hL); have hF := hL.facts; (try simp only [Facts, Dist, kd] at hF)) | (go_at_call 11; refine kn_calls ?_; (try clear hF); clear hL; intro W hL; (try simp only [kfb] at hL); have hF := hL.facts; (try simp only [Facts, Dist, kd] at hF); (((first | (with_reducible refine (HAS.out _ (hT.kn hL (by simp))).mono ?_) | (with_reducible refine (HA3.out _ (hT.kn hL (by simp))).mono ?_)))); rintro e W ⟨rfl, hb⟩; replace hL := hL.below hb; clear hb; (try clear hF); (try simp only [kfb] at hL); have hF := hL.facts; (try simp only [Facts, Dist, kd] at hF)) | (go_at_call 16; refine kn_calls ?_; (try clear hF); clear hL; intro W hL; (try simp only [kfb] at hL); have hF := hL.facts; (try simp only [Facts, Dist, kd] at hF); (((with_reducible refine (HLI.out _ (hT.kn hL (by simp))).mono ?_))); rintro e W ⟨ao, cap, rfl, HR, hb⟩; replace hL := hL.below hb; clear hb; (try clear hF); (try simp only [kfb] at hL); have hF := hL.facts; (try simp only [Facts, Dist, kd] at hF)) | (go_at_call 17; (((with_reducible refine (HUL.out _ _ _ HR).mono ?_))); rintro e W ⟨rfl, hb⟩; replace hL := hL.below hb; clear hb; (try clear hF); (try simp only [kfb] at hL); have hF := hL.facts; (try simp only [Facts, Dist, kd] at hF)) | (go_at_call 18; refine kn_calls ?_; (try clear hF); clear hL; intro W hL; (try simp only [kfb] at hL); have hF := hL.facts; (try simp only [Facts, Dist, kd] at hF); (((with_reducible refine (HVA.out _ (hT.kn hL (by simp))).mono ?_))); rintro e W ⟨rfl, hb⟩; replace hL := hL.below hb; clear hb; (try clear hF); (try simp only [kfb] at hL); have hF := hL.facts; (try simp only [Facts, Dist, kd] at hF)))
  (try simp only [Exit.inBlock, Exit.then]); refine bodyPost_ret (by simp [results, Tryz.results5, go_sem, *]; try rfl) rfl ?_
  exact ⟨rfl, hL.below0⟩
set_option maxRecDepth 20000 in
set_option maxHeartbeats 4000000 in
theorem lines_full (src : ByteArray) (op a b c : Int) (code whole : ByteArray) (L : List Bytes) (n at_ : Nat) (hs : src.size ≤ 1000) (hcl : code.size ≤ 4096) (hn : n ≤ 1001) (hwh : whole.size ≤ 1001) (HAS : Hid (∀ W, TabA W → Calls Tryz.prog 11 #[.string src] W fun e w' => e = .returned (.tuple #[.string code, .int .i64 0, .int .i64 0]) ∧ Below W.heap.size W w')) (HLI : Hid (∀ W, TabA W → Calls Tryz.prog 16 #[.string src] W fun e w' => ∃ ao cap, e = .returned (.slice ao n cap) ∧ Hid (Row w' (.slice ao n cap) (strs L)) ∧ Below W.heap.size W w')) (HUL : Hid (∀ ao cap W, Hid (Row W (.slice ao n cap) (strs L)) → Calls Tryz.prog 17 #[.slice ao n cap] W fun e w' => e = .returned (.string whole) ∧ Below W.heap.size W w')) (HA3 : Hid (∀ W, TabA W → Calls Tryz.prog 11 #[.string (whole ++ ⟨#[110, 111, 32, 115, 117, 99, 104, 32, 111, 112, 101, 114, 97, 116, 105, 111, 110]⟩)] W fun e w' => e = .returned (.tuple #[.string ⟨#[]⟩, .int .i64 2, .int .i64 ((n : Int) + 1)]) ∧ Below W.heap.size W w')) (hat : ((code.size : Int) + 3) / 4 * 4 = (at_ : Int)) (hat2 : at_ ≤ 4100) (HVA : Hid (∀ W, TabA W → Calls Tryz.prog 18 #[.agg #[.int .i64 op, .int .i64 a, .int .i64 b, .int .i64 c]] W fun e w' => e = .returned (.bool true) ∧ Below W.heap.size W w')) (t3 : decide ((at_ : Int) + 4 ≤ 4096) = false) (w : World) (hT : TabA w) : Calls Tryz.prog 5 #[.string src, .agg #[.int .i64 op, .int .i64 a, .int .i64 b, .int .i64 c]] w fun e w' => e = .returned (.bool true) ∧ Below w.heap.size w w' := by
  have hL : Kn [] w w [] := Kn.refl [] w; (try simp only [kfb] at hL); have hF := hL.facts; (try simp only [Facts, Dist, kd] at hF); go_enter Tryz.func5, Tryz.ntmps5
  go_wp2_with (first | ((with_reducible refine kn_list_set ?_); (try clear hF); clear hL; intro W hL; (try simp only [kfb] at hL); have hF := hL.facts; (try simp only [Facts, Dist, kd] at hF)) | (go_at_call 8; refine kn_calls ?_; (try clear hF); clear hL; intro W hL; (try simp only [kfb] at hL); have hF := hL.facts; (try simp only [Facts, Dist, kd] at hF); (((with_reducible refine (small_is _ (hT.kn hL (by simp))).mono ?_))); rintro e W ⟨rfl, hb⟩; replace hL := hL.below hb; clear hb; (try clear hF); (try simp only [kfb] at hL); have hF := hL.facts; (try simp only [Facts, Dist, kd] at hF)) | (go_at_call 11; refine kn_calls ?_; (try clear hF); clear hL; intro W hL; (try simp only [kfb] at hL); have hF := hL.facts; (try simp only [Facts, Dist, kd] at hF); (((first | (with_reducible refine (HAS.out _ (hT.kn hL (by simp))).mono ?_) | (with_reducible refine (HA3.out _ (hT.kn hL (by simp))).mono ?_)))); rintro e W ⟨rfl, hb⟩; replace hL := hL.below hb; clear hb; (try clear hF); (try simp only [kfb] at hL); have hF := hL.facts; (try simp only [Facts, Dist, kd] at hF)) | (go_at_call 16; refine kn_calls ?_; (try clear hF); clear hL; intro W hL; (try simp only [kfb] at hL); have hF := hL.facts; (try simp only [Facts, Dist, kd] at hF); (((with_reducible refine (HLI.out _ (hT.kn hL (by simp))).mono ?_))); rintro e W ⟨ao, cap, rfl, HR, hb⟩; replace hL := hL.below hb; clear hb; (try clear hF); (try simp only [kfb] at hL); have hF := hL.facts; (try simp only [Facts, Dist, kd] at hF)) | (go_at_call 17; (((with_reducible refine (HUL.out _ _ _ HR).mono ?_))); rintro e W ⟨rfl, hb⟩; replace hL := hL.below hb; clear hb; (try clear hF); (try simp only [kfb] at hL); have hF := hL.facts; (try simp only [Facts, Dist, kd] at hF)) | (go_at_call 18; refine kn_calls ?_; (try clear hF); clear hL; intro W hL; (try simp only [kfb] at hL); have hF := hL.facts; (try simp only [Facts, Dist, kd] at hF); (((with_reducible refine (HVA.out _ (hT.kn hL (by simp))).mono ?_))); rintro e W ⟨rfl, hb⟩; replace hL := hL.below hb; clear hb; (try clear hF); (try simp only [kfb] at hL); have hF := hL.facts; (try simp only [Facts, Dist, kd] at hF)))
  (try simp only [Exit.inBlock, Exit.then]); refine bodyPost_ret (by simp [results, Tryz.results5, go_sem, *]; try rfl) rfl ?_
  exact ⟨rfl, hL.below0⟩

end Go.Proofs.YtfdlifhkeicnnaaGreatDoor
namespace Go.Proofs.YtfdlifhkeicnnaaGreatDoor
open Go Go.RowKit
set_option linter.unusedSimpArgs false
set_option linter.unusedVariables false
set_option maxRecDepth 20000 in
set_option maxHeartbeats 4000000 in
theorem lines_more (src : ByteArray) (op a b c : Int) (pr en more : ByteArray) (code whole : ByteArray) (L : List Bytes) (n at_ : Nat) (hs : src.size ≤ 1000) (hcl : code.size ≤ 4096) (hn : n ≤ 1001) (hwh : whole.size ≤ 1001) (HAS : Hid (∀ W, TabA W → Calls Tryz.prog 11 #[.string src] W fun e w' => e = .returned (.tuple #[.string code, .int .i64 0, .int .i64 0]) ∧ Below W.heap.size W w')) (HLI : Hid (∀ W, TabA W → Calls Tryz.prog 16 #[.string src] W fun e w' => ∃ ao cap, e = .returned (.slice ao n cap) ∧ Hid (Row w' (.slice ao n cap) (strs L)) ∧ Below W.heap.size W w')) (HUL : Hid (∀ ao cap W, Hid (Row W (.slice ao n cap) (strs L)) → Calls Tryz.prog 17 #[.slice ao n cap] W fun e w' => e = .returned (.string whole) ∧ Below W.heap.size W w')) (HA3 : Hid (∀ W, TabA W → Calls Tryz.prog 11 #[.string (whole ++ ⟨#[110, 111, 32, 115, 117, 99, 104, 32, 111, 112, 101, 114, 97, 116, 105, 111, 110]⟩)] W fun e w' => e = .returned (.tuple #[.string ⟨#[]⟩, .int .i64 2, .int .i64 ((n : Int) + 1)]) ∧ Below W.heap.size W w')) (hat : ((code.size : Int) + 3) / 4 * 4 = (at_ : Int)) (hat2 : at_ ≤ 4100) (HVA : Hid (∀ W, TabA W → Calls Tryz.prog 18 #[.agg #[.int .i64 op, .int .i64 a, .int .i64 b, .int .i64 c]] W fun e w' => e = .returned (.bool true) ∧ Below W.heap.size W w')) (t3 : decide ((at_ : Int) + 4 ≤ 4096) = true) (hpr : pr.size ≤ 99) (hms : more.size = at_ + 4) (t4 : ((more.size : Int) != (at_ : Int) + 4) = false) (hca : code.size ≤ at_) (t5 : (more.extract 0 code.size).toList == code.toList) (t6 : ((more.extract at_ (at_ + 4)).toList == en.toList) = true) (HPR : Hid (∀ W, TabA W → Calls Tryz.prog 19 #[.agg #[.int .i64 op, .int .i64 a, .int .i64 b, .int .i64 c]] W fun e w' => e = .returned (.string pr) ∧ Below W.heap.size W w')) (HEN : Hid (∀ W, TabA W → Calls Tryz.prog 20 #[.agg #[.int .i64 op, .int .i64 a, .int .i64 b, .int .i64 c]] W fun e w' => e = .returned (.string en) ∧ Below W.heap.size W w')) (HA2 : Hid (∀ W, TabA W → Calls Tryz.prog 11 #[.string (whole ++ pr)] W fun e w' => e = .returned (.tuple #[.string more, .int .i64 0, .int .i64 0]) ∧ Below W.heap.size W w')) (w : World) (hT : TabA w) : Calls Tryz.prog 5 #[.string src, .agg #[.int .i64 op, .int .i64 a, .int .i64 b, .int .i64 c]] w fun e w' => e = .returned (.bool true) ∧ Below w.heap.size w w' := by
  have hL : Kn [] w w [] := Kn.refl [] w; (try simp only [kfb] at hL); have hF := hL.facts; (try simp only [Facts, Dist, kd] at hF); go_enter Tryz.func5, Tryz.ntmps5
  go_wp2_with (first | ((with_reducible refine kn_list_set ?_); (try clear hF); clear hL; intro W hL; (try simp only [kfb] at hL); have hF := hL.facts; (try simp only [Facts, Dist, kd] at hF)) | (go_at_call 8; refine kn_calls ?_; (try clear hF); clear hL; intro W hL; (try simp only [kfb] at hL); have hF := hL.facts; (try simp only [Facts, Dist, kd] at hF); (((with_reducible refine (small_is _ (hT.kn hL (by simp))).mono ?_))); rintro e W ⟨rfl, hb⟩; replace hL := hL.below hb; clear hb; (try clear hF); (try simp only [kfb] at hL); have hF := hL.facts; (try simp only [Facts, Dist, kd] at hF)) | (go_at_call 11; refine kn_calls ?_; (try clear hF); clear hL; intro W hL; (try simp only [kfb] at hL); have hF := hL.facts; (try simp only [Facts, Dist, kd] at hF); (((first | (with_reducible refine (HAS.out _ (hT.kn hL (by simp))).mono ?_) | (with_reducible refine (HA2.out _ (hT.kn hL (by simp))).mono ?_) | (with_reducible refine (HA3.out _ (hT.kn hL (by simp))).mono ?_)))); rintro e W ⟨rfl, hb⟩; replace hL := hL.below hb; clear hb; (try clear hF); (try simp only [kfb] at hL); have hF := hL.facts; (try simp only [Facts, Dist, kd] at hF)) | (go_at_call 16; refine kn_calls ?_; (try clear hF); clear hL; intro W hL; (try simp only [kfb] at hL); have hF := hL.facts; (try simp only [Facts, Dist, kd] at hF); (((with_reducible refine (HLI.out _ (hT.kn hL (by simp))).mono ?_))); rintro e W ⟨ao, cap, rfl, HR, hb⟩; replace hL := hL.below hb; clear hb; (try clear hF); (try simp only [kfb] at hL); have hF := hL.facts; (try simp only [Facts, Dist, kd] at hF)) | (go_at_call 17; (((with_reducible refine (HUL.out _ _ _ HR).mono ?_))); rintro e W ⟨rfl, hb⟩; replace hL := hL.below hb; clear hb; (try clear hF); (try simp only [kfb] at hL); have hF := hL.facts; (try simp only [Facts, Dist, kd] at hF)) | (go_at_call 18; refine kn_calls ?_; (try clear hF); clear hL; intro W hL; (try simp only [kfb] at hL); have hF := hL.facts; (try simp only [Facts, Dist, kd] at hF); (((with_reducible refine (HVA.out _ (hT.kn hL (by simp))).mono ?_))); rintro e W ⟨rfl, hb⟩; replace hL := hL.below hb; clear hb; (try clear hF); (try simp only [kfb] at hL); have hF := hL.facts; (try simp only [Facts, Dist, kd] at hF)) | (go_at_call 19; refine kn_calls ?_; (try clear hF); clear hL; intro W hL; (try simp only [kfb] at hL); have hF := hL.facts; (try simp only [Facts, Dist, kd] at hF); (((with_reducible refine (HPR.out _ (hT.kn hL (by simp))).mono ?_))); rintro e W ⟨rfl, hb⟩; replace hL := hL.below hb; clear hb; (try clear hF); (try simp only [kfb] at hL); have hF := hL.facts; (try simp only [Facts, Dist, kd] at hF)) | ((with_reducible refine at_region 14 ?_); refine kn_wp ?_; (try clear hF); clear hL; intro W hL; (try simp only [kfb] at hL); have hF := hL.facts; (try simp only [Facts, Dist, kd] at hF); refine kn_region [0, 1, 2, 3, 4, 5, 6, 7, 8, 9, 10, 11, 12, 13] [0, 1, 2, 3, 4, 5, 6, 7, 8, 9, 10, 12, 13] [11] [0, 1, 2, 3, 4, 5, 6, 7, 8, 9, 12, 13] (by kernel_rfl) (by kernel_rfl) (List.Sublist.refl _) ?_; (try clear hF); clear hL; intro ι F hne hC hFF; have hG := fun n => (hFF n).facts; clear hFF; (try simp only [Facts, Dist, kd] at hG); (repeat (first | (refine cwk_skip rfl (by rfl) ?_; (try simp only [Act.put, List.setIfInBounds_toArray, List.set_cons_zero, List.set_cons_succ])) | (refine cwk_float rfl rfl (by rfl) (by rfl) (by rfl) hC ?_; intro K hK; go_big_quiet_op; go_big_quiet_on) | (refine cwk_pure rfl rfl (by rfl) (by rfl) ?_; intro K hK; go_big_quiet_op; go_big_quiet_on) | (refine cwk_call rfl (by rfl) (by rfl) (fun _ => rfl) ?_; intro W hL; (try simp only [kfb] at hL); have hF := hL.facts; (try simp only [Facts, Dist, kd] at hF); simp only [List.map_toArray, List.map_cons, List.map_nil, Array.empty_append, Array.append_empty, Act.eval, Array.getD_eq_getD_getElem?, List.getElem?_toArray, List.getElem?_cons_zero, List.getElem?_cons_succ, Option.getD_some]; go_at_call 20; (((with_reducible refine (HEN.out _ (hT.kn hL (by simp))).mono ?_))); rintro e W ⟨rfl, hb⟩; replace hL := hL.below hb; clear hb; (try clear hF); (try simp only [kfb] at hL); have hF := hL.facts; (try simp only [Facts, Dist, kd] at hF); refine owed_ret ?_; (first | (refine owedB _ (by rfl) ?_; clear hL; (try clear hF); clear hC hG; intro ι F hne hC hFF; have hG := fun n => (hFF n).facts; clear hFF; (try simp only [Facts, Dist, kd] at hG)) | (refine owed0 _ (by repeat' (first | (with_reducible exact List.Sublist.refl _) | (with_reducible apply List.Sublist.cons_cons) | (with_reducible apply List.Sublist.cons))) ?_; clear hL; (try clear hF))); (try simp only [Act.put, List.setIfInBounds_toArray, List.set_cons_zero, List.set_cons_succ])) | (refine cwk_anch rfl rfl (by rfl) (by rfl) ?_; intro W hL; (try simp only [kfb] at hL); have hF := hL.facts; (try simp only [Facts, Dist, kd] at hF); go_wp2; refine anchQ_normal ?_; (first | (refine owedB _ (by rfl) ?_; clear hL; (try clear hF); clear hC hG; intro ι F hne hC hFF; have hG := fun n => (hFF n).facts; clear hFF; (try simp only [Facts, Dist, kd] at hG)) | (refine owed0 _ (by repeat' (first | (with_reducible exact List.Sublist.refl _) | (with_reducible apply List.Sublist.cons_cons) | (with_reducible apply List.Sublist.cons))) ?_; clear hL; (try clear hF)))))); refine cwk_nil ?_; clear hC hG; intro W hL; (try simp only [kfb] at hL); have hF := hL.facts; (try simp only [Facts, Dist, kd] at hF)))
  (try simp only [Exit.inBlock, Exit.then]); refine bodyPost_ret (by simp [results, Tryz.results5, go_sem, *]; try rfl) rfl ?_
  exact ⟨rfl, hL.below0⟩

end Go.Proofs.YtfdlifhkeicnnaaGreatDoor
namespace Go.Proofs.YtfdlifhkeicnnaaGreatDoor
open Go Go.RowKit
set_option linter.unusedSimpArgs false
set_option linter.unusedVariables false
theorem app_list (x y : ByteArray) : (x ++ y).data.toList = x.data.toList ++ y.data.toList := by rw [ByteArray.data_append, Array.toList_append]
theorem lines_any (src : ByteArray) (op a b c : Int) (w : World) (hT : TabA w) : Calls Tryz.prog 5 #[.string src, .agg #[.int .i64 op, .int .i64 a, .int .i64 b, .int .i64 c]] w fun e w' => e = .returned (.bool true) ∧ Below w.heap.size w w' := by
  by_cases h1 : 1000 < src.size
  · exact lines_long src op a b c h1 w hT
  obtain ⟨L, hL⟩ : ∃ L, linesB src.data.toList = L := ⟨_, rfl⟩
  have hlen := (lines_len src.data.toList).1
  rw [hL, szl] at hlen
  obtain ⟨n, hn⟩ : ∃ n, L.length = n := ⟨_, rfl⟩
  have HLI : Hid (∀ W, TabA W → Calls Tryz.prog 16 #[.string src] W fun e w' => ∃ ao cap, e = .returned (.slice ao n cap) ∧ Hid (Row w' (.slice ao n cap) (strs L)) ∧ Below W.heap.size W w') := Lib.hid fun W h => by
    have hsl : (strs L).length = n := by rw [← hn]; unfold strs; rw [List.length_map]
    by_cases h0 : src.size = 0
    · have hz : L = [] := by rw [← hL, List.eq_nil_of_length_eq_zero (show src.data.toList.length = 0 by rw [szl]; exact h0)]; rfl
      subst hz
      obtain rfl : n = 0 := hn.symm
      exact (Lines_none src h0 W).mono fun e w' ⟨he, hb⟩ => ⟨none, 0, he, Lib.hid ⟨none, 0, rfl, fun j x hx => by simp [strs] at hx⟩, hb⟩
    · refine (Lines_some src (by omega) h0 W h.t).mono fun e w' ⟨g, he, hk⟩ => ?_
      rw [hL, hn] at he
      refine ⟨some ⟨g, 0, none⟩, n, he, Lib.hid ⟨some ⟨g, 0, none⟩, n, by rw [hsl], fun j x hx => ⟨g, 0, rfl, ?_⟩⟩, hk.below0⟩
      have := hk.has _ List.mem_cons_self
      rw [Nat.zero_add]
      simp only [World.cell?, this]
      rw [hL]
      simpa using hx
  cases hA : asm OO (linesB src.data.toList) with
  | bad er m =>
    have hp := asm_bad_pos OO hA
    have hm := asm_line OO _ er m hA
    rw [hL, hn] at hm
    refine lines_bad src op a b c (by omega) L n er m (by omega) (bne_iff_ne.2 (by omega)) (decide_eq_true (by omega)) (decide_eq_true hm.2) (Lib.hid fun W h => ?_) HLI w hT
    refine (Assemble_is (Lib.hid iany) src (by omega) W h).mono fun e w' h => ?_
    unfold AsmP at h
    rw [hA] at h
    exact ⟨h.2, h.1⟩
  | ok cl =>
    obtain ⟨code, hc⟩ := ba_of cl
    subst hc
    have HAS : Hid (∀ W, TabA W → Calls Tryz.prog 11 #[.string src] W fun e w' => e = .returned (.tuple #[.string code, .int .i64 0, .int .i64 0]) ∧ Below W.heap.size W w') := Lib.hid fun W h => by
      refine (Assemble_is (Lib.hid iany) src (by omega) W h).mono fun e w' h => ?_
      unfold AsmP at h
      rw [hA] at h
      exact ⟨h.2, h.1⟩
    have hcl := asm_size hA
    rw [szl] at hcl
    obtain ⟨whole, hw⟩ := ba_of (join10 L)
    have hwl : whole.size ≤ 1001 := by
      have := join_len src.data.toList
      rw [hL, ← hw, szl, szl] at this
      omega
    have HUL : Hid (∀ ao cap W, Hid (Row W (.slice ao n cap) (strs L)) → Calls Tryz.prog 17 #[.slice ao n cap] W fun e w' => e = .returned (.string whole) ∧ Below W.heap.size W w') := Lib.hid fun ao cap W hr => by
      have hr2 : Row W (.slice ao n cap) ((L.map fun x => (⟨x.toArray⟩ : ByteArray)).map fun s => Value.string s) := by
        have : (L.map fun x => (⟨x.toArray⟩ : ByteArray)).map (fun s => Value.string s) = strs L := by rw [List.map_map]; rfl
        rw [this]; exact hr.out
      have hu : unlB (L.map fun x => (⟨x.toArray⟩ : ByteArray)) = join10 L := by
        unfold unlB join10
        rw [List.flatMap_map]
      have := Unlines_any (L.map fun x => (⟨x.toArray⟩ : ByteArray)) _ W hr2 (by rw [List.length_map]; omega) (by rw [hu, ← hw, szl]; omega)
      rw [hu, ← hw] at this
      exact this
    have hno : (⟨noSuch.toArray⟩ : ByteArray) = ⟨#[110, 111, 32, 115, 117, 99, 104, 32, 111, 112, 101, 114, 97, 116, 105, 111, 110]⟩ := rfl
    have HA3 : Hid (∀ W, TabA W → Calls Tryz.prog 11 #[.string (whole ++ ⟨#[110, 111, 32, 115, 117, 99, 104, 32, 111, 112, 101, 114, 97, 116, 105, 111, 110]⟩)] W fun e w' => e = .returned (.tuple #[.string ⟨#[]⟩, .int .i64 2, .int .i64 ((n : Int) + 1)]) ∧ Below W.heap.size W w') := Lib.hid fun W h => by
      have hp := wrong_plain hA
      rw [hL, ← hw, hn] at hp
      refine (Assemble_is (Lib.hid iany) _ (by rw [ByteArray.size_append]; have : (⟨#[110, 111, 32, 115, 117, 99, 104, 32, 111, 112, 101, 114, 97, 116, 105, 111, 110]⟩ : ByteArray).size = 17 := rfl; omega) W h).mono fun e w' h => ?_
      unfold AsmP at h
      rw [app_list, show (⟨#[110, 111, 32, 115, 117, 99, 104, 32, 111, 112, 101, 114, 97, 116, 105, 111, 110]⟩ : ByteArray).data.toList = noSuch from rfl, hp] at h
      exact ⟨h.2, h.1⟩
    obtain ⟨at_, hat⟩ : ∃ k, (code.size + 3) / 4 * 4 = k := ⟨_, rfl⟩
    have hati : ((code.size : Int) + 3) / 4 * 4 = (at_ : Int) := by omega
    cases hv : valid op a b c with
    | false =>
      refine lines_inv src op a b c code whole L n at_ (by omega) hcl (by omega) hwl HAS HLI HUL HA3 hati (by omega) (Lib.hid fun W h => ?_) w hT
      have := Valid_any op a b c W h.i
      rw [hv] at this
      exact this
    | true =>
      have HVA : Hid (∀ W, TabA W → Calls Tryz.prog 18 #[.agg #[.int .i64 op, .int .i64 a, .int .i64 b, .int .i64 c]] W fun e w' => e = .returned (.bool true) ∧ Below W.heap.size W w') := Lib.hid fun W h => by
        have := Valid_any op a b c W h.i
        rw [hv] at this
        exact this
      by_cases hsz : at_ + 4 ≤ 4096
      · obtain ⟨hm, hpl, hel⟩ := more_plain hA hv (by rw [szl]; omega)
        obtain ⟨more, hmore⟩ := ba_of (code.data.toList ++ List.replicate ((code.data.toList.length + 3) / 4 * 4 - code.data.toList.length) 0 ++ (encS op a b c).data.toList)
        rw [szl] at hpl hel
        have hms : more.size = at_ + 4 := by
          rw [← szl, hmore]
          simp only [List.length_append, List.length_replicate, szl]
          omega
        refine lines_more src op a b c (printS op a b c) (encS op a b c) more code whole L n at_ (by omega) hcl (by omega) hwl HAS HLI HUL HA3 hati (by omega) HVA (decide_eq_true (by omega)) hpl hms (bne_eq_false_iff_eq.2 (by omega)) (by omega) ?_ ?_ (Lib.hid fun W h => Print_any op a b c W h.i) (Lib.hid fun W h => Encode_any op a b c W h.i) (Lib.hid fun W h => ?_) w hT
        · have : more.extract 0 code.size = code := by
            apply ba_ext
            rw [ext_list, hmore, List.drop_zero, List.append_assoc, List.take_append_of_le_length (by rw [szl]; exact Nat.le_refl _), List.take_of_length_le (by rw [szl]; exact Nat.le_refl _)]
          rw [this]
          exact beq_self_eq_true _
        · have : more.extract at_ (at_ + 4) = encS op a b c := by
            apply ba_ext
            rw [ext_list, List.take_of_length_le (by rw [szl]; omega), hmore, List.drop_left' (by simp only [List.length_append, List.length_replicate, szl]; omega)]
          rw [this]
          exact beq_self_eq_true _
        · refine (Assemble_is (Lib.hid iany) _ (by rw [ByteArray.size_append]; omega) W h).mono fun e w' h => ?_
          unfold AsmP at h
          rw [hL, ← hw] at hm
          rw [app_list, hm, ← hmore] at h
          exact ⟨h.2, h.1⟩
      · exact lines_full src op a b c code whole L n at_ (by omega) hcl (by omega) hwl HAS HLI HUL HA3 hati (by omega) HVA (decide_eq_false (by omega)) w hT

end Go.Proofs.YtfdlifhkeicnnaaGreatDoor
namespace Go.Proofs.YtfdlifhkeicnnaaGreatDoor
open Go Go.ChangeShapes Go.WideShapes Go.ChangeAt Go.RowKit
section
variable {H : Type} {enc : TypeId × Value → H}
set_option maxRecDepth 100000 in
theorem open_flat {W : World} {base b0 : Nat} {sp : Nat → Bool} {hd : Bool} {r : Reach} {t : TypeId} {v : Value} {d : DataW H} {ps : List MemPlace} {fs : Array Field} (ht : t < Tryz.prog.types.size) (hu : Tryz.prog.underlying t = some (.struct fs)) (hf : flatI Tryz.prog 4 t = true)
    (hval : Value.okWide Tryz.prog W r b0 t v) (h : DataW.Trod enc Tryz.prog W base sp hd t v d ps) : ∃ cs : Array Value, v = .agg cs ∧ cs.size = Tryz.prog.cellsOf t ∧ ∀ p, p < cs.size → ∃ n, cs[p]? = some (.int .i64 n) := by
  obtain ⟨cs, rfl, hc⟩ := okWide_struct hu hval
  obtain ⟨n, hn⟩ := h
  obtain ⟨h1, h2⟩ := flat_ints kids ints_one 4 n t _ _ ht hf hn
  refine ⟨cs, rfl, hc, fun p hp => ?_⟩
  obtain ⟨m, hm, _⟩ := h2 p (by simpa [Value.cells] using hp)
  exact ⟨m, by simpa [Value.cells] using hm⟩
set_option maxRecDepth 100000 in
theorem open_ins {W : World} {base b0 : Nat} {sp : Nat → Bool} {hd : Bool} {r : Reach} {v : Value} {d : DataW H} {ps : List MemPlace}
    (hval : Value.okWide Tryz.prog W r b0 34 v) (h : DataW.Trod enc Tryz.prog W base sp hd 34 v d ps) : ∃ n0 n1 n2 n3 : Int, v = .agg #[.int .i64 n0, .int .i64 n1, .int .i64 n2, .int .i64 n3] := by
  obtain ⟨cs, rfl, hc, hi⟩ := open_flat (of_decide_eq_true (by kernel_rfl)) Tryz.underlying34 (by kernel_rfl) hval h
  have hc : cs.size = 4 := hc.trans (by kernel_rfl)
  obtain ⟨n0, h0⟩ := hi 0 (by omega)
  obtain ⟨n1, h1⟩ := hi 1 (by omega)
  obtain ⟨n2, h2⟩ := hi 2 (by omega)
  obtain ⟨n3, h3⟩ := hi 3 (by omega)
  refine ⟨n0, n1, n2, n3, congrArg Value.agg ?_⟩
  apply Array.ext_getElem?
  intro i
  by_cases hl : i < 4
  · have : i = 0 ∨ i = 1 ∨ i = 2 ∨ i = 3 := by omega
    rcases this with e | e | e | e <;> subst e <;> simp [*]
  · rw [Array.getElem?_eq_none (by omega), Array.getElem?_eq_none (by simp; omega)]
end
end Go.Proofs.YtfdlifhkeicnnaaGreatDoor
