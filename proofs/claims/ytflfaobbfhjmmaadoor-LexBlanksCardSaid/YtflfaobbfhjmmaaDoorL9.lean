import Derived.Test.YtflfaobbfhjmmaaDoorProg
import Derived.WalkKit
import Derived.Handy
import Derived.Deep.Light
import Derived.WalkSmall
import Derived.StillTailTactics
import Derived.Lib.Hide
import Derived.Test.YtflfaobbfhjmmaaDoorT0
import Derived.Test.YtflfaobbfhjmmaaDoorIt
import Derived.Test.YtflfaobbfhjmmaaDoorL8
import Derived.Shelf.Strings.SlTrimAscii
namespace Go.Proofs.YtflfaobbfhjmmaaDoor
open Go Go.RowKit
set_option linter.unusedSimpArgs false
set_option linter.unusedVariables false

theorem info66 : (Tryd.prog.info? 66).map (fun i => (i.zero, i.size)) = some (some (.agg (Array.replicate 256 (.bool false))), 256) := by kernel_rfl
theorem Trim_any (s : ByteArray) (hs : s.size ≤ 1000000) (r : Bytes) (hr : Lib.trimS s.data.toList [48, 49, 50, 51, 52, 53, 54, 55, 56, 57] = r) (w : World) : Calls Tryd.prog 37 #[.string s, .string ⟨#[48, 49, 50, 51, 52, 53, 54, 55, 56, 57]⟩] w fun e w' => e = .returned (bs r) ∧ Below w.heap.size w w' := by
  rw [← hr]
  exact Any.strings_Trim_laid Tryd.lays160 info66 s ⟨#[48, 49, 50, 51, 52, 53, 54, 55, 56, 57]⟩ w (by omega) (by decide) (ascii_of_all (by decide))
theorem digs (c : UInt8) : (([48, 49, 50, 51, 52, 53, 54, 55, 56, 57] : List UInt8).contains c == digit c) = true := all_bytes (p := fun c => (([48, 49, 50, 51, 52, 53, 54, 55, 56, 57] : List UInt8).contains c == digit c)) (by decide +kernel) c
theorem mem_tw {p : UInt8 → Bool} : ∀ {l : Bytes} {x : UInt8}, x ∈ l.takeWhile p → p x = true
  | [], x, h => by cases h
  | a :: t, x, h => by
    rw [List.takeWhile_cons] at h
    split at h
    · rename_i ha
      rcases List.mem_cons.1 h with rfl | h
      · exact ha
      · exact mem_tw h
    · cases h
theorem pu_step (acc : Nat) (c : UInt8) (r : Bytes) (h : 48 ≤ c.toNat ∧ c.toNat ≤ 57) (ha : acc ≤ 1000) : Lib.parseUint10 acc (c :: r) = Lib.parseUint10 (acc * 10 + (c.toNat - 48)) r := by
  rw [Lib.parseUint10, if_pos h, if_neg (by omega), if_neg (by omega)]
theorem atoi_mag (a : UInt8) (r : Bytes) (n : Nat) (h : a.toNat ≠ 43 ∧ a.toNat ≠ 45) (hm : Lib.parseMag (a :: r) = .ok n) (hn : n ≤ 1000) : Lib.atoiAll (a :: r) = .ok (n : Int) := by
  unfold Lib.atoiAll
  have e1 : ¬ (a.toNat = 43 ∨ a.toNat = 45) := by omega
  have e2 : ¬ a.toNat = 45 := h.2
  simp only [if_neg e1]
  rw [hm]
  simp only [e2]
  rw [if_neg (by omega), if_neg (by simp)]
  rfl
theorem atoi_two (l : Bytes) (h1 : 1 ≤ l.length) (h2 : l.length ≤ 2) (hd : ∀ c ∈ l, digit c = true) : ∃ n : Int, number l = some n ∧ Lib.atoiAll l = .ok n := by
  match l, h1, h2 with
  | [a], _, _ =>
    have ha := hd a (by simp)
    rw [digit_nat'] at ha
    have ha' := of_decide_eq_true ha
    refine ⟨(a.toNat : Int) - 48, ?_, ?_⟩
    · show (if digit a then _ else _) = _
      rw [if_pos (hd a (by simp))]
    · rw [atoi_mag a [] (a.toNat - 48) (by omega) (by unfold Lib.parseMag; rw [if_neg (by simp), pu_step 0 a [] ha' (by omega), Lib.parseUint10]; congr 1; omega) (by omega)]
      congr 1; omega
  | [a, b], _, _ =>
    have ha := hd a (by simp)
    have hb := hd b (by simp)
    rw [digit_nat'] at ha hb
    have ha' := of_decide_eq_true ha
    have hb' := of_decide_eq_true hb
    refine ⟨((a.toNat : Int) - 48) * 10 + ((b.toNat : Int) - 48), ?_, ?_⟩
    · show (if digit a && digit b then _ else _) = _
      rw [hd a (by simp), hd b (by simp)]; rfl
    · rw [atoi_mag a [b] ((a.toNat - 48) * 10 + (b.toNat - 48)) (by omega) (by unfold Lib.parseMag; rw [if_neg (by simp), pu_step 0 a [b] ha' (by omega), pu_step _ b [] hb' (by omega), Lib.parseUint10]; congr 1; omega) (by omega)]
      congr 1; omega
theorem number_none (l : Bytes) (h : l.length < 1 ∨ 2 < l.length ∨ ∃ c ∈ l, digit c = false) : number l = none := by
  match l, h with
  | [], _ => rfl
  | [a], h =>
    simp at h
    simp [number, h]
  | [a, b], h =>
    simp at h
    rcases h with h | h <;> simp [number, h]
  | a :: b :: c :: t, _ => rfl
theorem Atoi_any (s : ByteArray) (hs : s.size ≤ 1000000) (n : Int) (h : Lib.atoiAll s.data.toList = .ok n) (w : World) : Calls Tryd.prog 38 #[.string s] w fun e w' => e = .returned (.tuple #[.int .i64 n, .nilIface]) ∧ Below w.heap.size w w' :=
  (Tryd.strconv_Atoi_ok s (by omega) n h w).mono fun e w' ⟨h1, h2⟩ => ⟨h1, by
    rcases h2 with rfl | ⟨t, rfl⟩
    · exact Below.refl _ _
    · exact Lib.bytesWorld_below _ _ _⟩
theorem number_trim (l : Bytes) : (Lib.trimS l [48, 49, 50, 51, 52, 53, 54, 55, 56, 57] = []) ↔ ∀ c ∈ l, digit c = true := by
  have hd : ∀ c : UInt8, ([48, 49, 50, 51, 52, 53, 54, 55, 56, 57] : List UInt8).contains c = digit c := fun c => by simpa using digs c
  have h0 : (([48, 49, 50, 51, 52, 53, 54, 55, 56, 57] : List UInt8).contains ·) = digit := funext hd
  unfold Lib.trimS Lib.trimLeftS Lib.trimRightS
  rw [h0]
  constructor
  · intro h c hc
    have h1 : ∀ x ∈ (l.reverse.dropWhile digit).reverse, digit x = true := by
      intro x hx
      have := List.takeWhile_append_dropWhile (p := digit) (l := (l.reverse.dropWhile digit).reverse)
      rw [h, List.append_nil] at this
      rw [← this] at hx
      exact mem_tw hx
    have h2 := List.takeWhile_append_dropWhile (p := digit) (l := l.reverse)
    have hc' : c ∈ l.reverse := by simpa using hc
    rw [← h2] at hc'
    rcases List.mem_append.1 hc' with hc' | hc'
    · exact mem_tw hc'
    · exact h1 c (by simpa using hc')
  · intro h
    have : l.reverse.dropWhile digit = [] := by
      apply drop_all; intro x hx; exact h x (by simpa using hx)
    rw [this]; rfl
set_option maxRecDepth 20000 in
set_option maxHeartbeats 4000000 in
theorem number_is (kd : Int) (tx p : ByteArray) (pv : Value) (fd ln : Int) (hp : p.size ≤ 1000000) (w : World) : Calls Tryd.prog 27 #[(.agg #[.int .i64 kd, .string tx, .string p, pv, .int .i64 fd, .int .i64 ln])] w fun e w' =>
    (match number p.data.toList with | some n => e = .returned (.tuple #[.int .i64 n, .bool true]) | none => e = .returned (.tuple #[.int .i64 0, .bool false])) ∧ Below w.heap.size w w' := by
  have hpl := szl p
  by_cases hlen : p.size < 1
  · have hn : number p.data.toList = none := by
      rw [List.eq_nil_of_length_eq_zero (by omega : p.data.toList.length = 0)]; rfl
    rw [hn]
    have q0 : (p.size : Int) < 1 := by omega
    clear hn hpl
    have hL : Kn [] w w [] := Kn.refl [] w; (try simp only [kfb] at hL); have hF := hL.facts; (try simp only [Facts, Dist, kfa, implies_true, forall_const] at hF); go_enter Tryd.func27, Tryd.ntmps27
    go_wp2
    (try simp only [Exit.inBlock, Exit.then]); refine bodyPost_ret (by simp [results, Tryd.results27, go_sem, *]; try rfl) rfl ?_
    exact ⟨rfl, (kn_here : Kn [] w _ _).below0⟩
  by_cases hlen2 : 2 < p.size
  · have hn : number p.data.toList = none := number_none _ (.inr (.inl (by omega)))
    rw [hn]
    have q0 : ¬ (p.size : Int) < 1 := by omega
    have q1 : (p.size : Int) > 2 := by omega
    clear hn hpl
    have hL : Kn [] w w [] := Kn.refl [] w; (try simp only [kfb] at hL); have hF := hL.facts; (try simp only [Facts, Dist, kfa, implies_true, forall_const] at hF); go_enter Tryd.func27, Tryd.ntmps27
    go_wp2
    (try simp only [Exit.inBlock, Exit.then]); refine bodyPost_ret (by simp [results, Tryd.results27, go_sem, *]; try rfl) rfl ?_
    exact ⟨rfl, (kn_here : Kn [] w _ _).below0⟩
  obtain ⟨r, hr⟩ : ∃ r, Lib.trimS p.data.toList [48, 49, 50, 51, 52, 53, 54, 55, 56, 57] = r := ⟨_, rfl⟩
  have hTr : Hid (∀ W, Calls Tryd.prog 37 #[.string p, .string ⟨#[48, 49, 50, 51, 52, 53, 54, 55, 56, 57]⟩] W fun e w' => e = .returned (bs r) ∧ Below W.heap.size W w') := Lib.hid fun W => Trim_any p hp r hr W
  have hnt := number_trim p.data.toList
  rw [hr] at hnt
  clear hr
  have q0 : ¬ (p.size : Int) < 1 := by omega
  have q1 : ¬ (p.size : Int) > 2 := by omega
  cases r with
  | cons c0 tl =>
    have hn : number p.data.toList = none := number_none _ (.inr (.inr (by
      rcases Classical.em (∃ c ∈ p.data.toList, digit c = false) with h | h
      · exact h
      · exact absurd (hnt.2 fun c hc => by
          cases hd : digit c with
          | true => rfl
          | false => exact absurd ⟨c, hc, hd⟩ h) (by simp))))
    rw [hn]
    clear hn hpl hnt
    obtain ⟨u, hu⟩ : ∃ u : ByteArray, (⟨(c0 :: tl).toArray⟩ : ByteArray) = u := ⟨_, rfl⟩
    have q2 : u.toList.isEmpty = false := by rw [Lib.toList_data, ← hu]; simp
    have q3 : u.data.toList.isEmpty = false := by rw [← hu]; simp
    unfold bs at hTr
    rw [hu] at hTr
    clear hu
    have hL : Kn [] w w [] := Kn.refl [] w; (try simp only [kfb] at hL); have hF := hL.facts; (try simp only [Facts, Dist, kfa, implies_true, forall_const] at hF); go_enter Tryd.func27, Tryd.ntmps27
    go_wp2_with (first | ((with_reducible refine kn_list_set ?_); (try clear hF); clear hL; intro W hL; (try simp only [kfb] at hL); have hF := hL.facts; (try simp only [Facts, Dist, kfa, implies_true, forall_const] at hF)) | (go_at_call 37; refine kn_calls ?_; (try clear hF); clear hL; intro W hL; (try simp only [kfb] at hL); have hF := hL.facts; (try simp only [Facts, Dist, kfa, implies_true, forall_const] at hF); (((with_reducible refine (hTr.out _).mono ?_))); rintro e W ⟨rfl, hb⟩; replace hL := hL.below hb; clear hb; (try clear hF); (try simp only [kfb] at hL); have hF := hL.facts; (try simp only [Facts, Dist, kfa, implies_true, forall_const] at hF)))
    (try simp only [Exit.inBlock, Exit.then]); refine bodyPost_ret (by simp [results, Tryd.results27, go_sem, *]; try rfl) rfl ?_
    exact ⟨rfl, (kn_here : Kn [] w _ _).below0⟩
  | nil =>
    obtain ⟨n, hn, ha⟩ := atoi_two p.data.toList (by omega) (by omega) (hnt.1 rfl)
    rw [hn]
    have hA : Hid (∀ W, Calls Tryd.prog 38 #[.string p] W fun e w' => e = .returned (.tuple #[.int .i64 n, .nilIface]) ∧ Below W.heap.size W w') := Lib.hid fun W => Atoi_any p hp n ha W
    clear hn ha hpl hnt
    unfold bs at hTr
    have hL : Kn [] w w [] := Kn.refl [] w; (try simp only [kfb] at hL); have hF := hL.facts; (try simp only [Facts, Dist, kfa, implies_true, forall_const] at hF); go_enter Tryd.func27, Tryd.ntmps27
    go_wp2_with (first | ((with_reducible refine kn_list_set ?_); (try clear hF); clear hL; intro W hL; (try simp only [kfb] at hL); have hF := hL.facts; (try simp only [Facts, Dist, kfa, implies_true, forall_const] at hF)) | (go_at_call 37; refine kn_calls ?_; (try clear hF); clear hL; intro W hL; (try simp only [kfb] at hL); have hF := hL.facts; (try simp only [Facts, Dist, kfa, implies_true, forall_const] at hF); (((with_reducible refine (hTr.out _).mono ?_))); rintro e W ⟨rfl, hb⟩; replace hL := hL.below hb; clear hb; (try clear hF); (try simp only [kfb] at hL); have hF := hL.facts; (try simp only [Facts, Dist, kfa, implies_true, forall_const] at hF)) | (go_at_call 38; refine kn_calls ?_; (try clear hF); clear hL; intro W hL; (try simp only [kfb] at hL); have hF := hL.facts; (try simp only [Facts, Dist, kfa, implies_true, forall_const] at hF); (((with_reducible refine (hA.out _).mono ?_))); rintro e W ⟨rfl, hb⟩; replace hL := hL.below hb; clear hb; (try clear hF); (try simp only [kfb] at hL); have hF := hL.facts; (try simp only [Facts, Dist, kfa, implies_true, forall_const] at hF)) | ((with_reducible refine at_region 4 ?_); refine kn_wp ?_; (try clear hF); clear hL; intro W hL; (try simp only [kfb] at hL); have hF := hL.facts; (try simp only [Facts, Dist, kfa, implies_true, forall_const] at hF); refine kn_region [0, 1, 2, 3, 4] [0, 1, 2, 3, 4] [] [0, 1, 2, 3, 4] (by kernel_rfl) (by kernel_rfl) (List.Sublist.refl _) ?_; (try clear hF); clear hL; intro ι F hne hC hFF; have hG := fun n => (hFF n).facts; clear hFF; (try simp only [Facts, Dist, kfa, implies_true, forall_const] at hG); (repeat (first | (refine cwk_skip rfl (by rfl) ?_; (try simp only [Act.put, List.setIfInBounds_toArray, List.set_cons_zero, List.set_cons_succ])) | (refine cwk_float rfl rfl (by rfl) (by rfl) (by rfl) hC ?_; intro K hK; go_big_quiet_op; go_big_quiet_on) | (refine cwk_pure rfl rfl (by rfl) (by rfl) ?_; intro K hK; go_big_quiet_op; go_big_quiet_on) | (refine cwk_anch rfl rfl (by rfl) (by rfl) ?_; intro W hL; (try simp only [kfb] at hL); have hF := hL.facts; (try simp only [Facts, Dist, kfa, implies_true, forall_const] at hF); go_wp2; refine anchQ_normal ?_; (first | (refine owedB _ (by rfl) ?_; clear hL; (try clear hF); clear hC hG; intro ι F hne hC hFF; have hG := fun n => (hFF n).facts; clear hFF; (try simp only [Facts, Dist, kfa, implies_true, forall_const] at hG)) | (refine owed0 _ (by repeat' (first | (with_reducible exact List.Sublist.refl _) | (with_reducible apply List.Sublist.cons_cons) | (with_reducible apply List.Sublist.cons))) ?_; clear hL; (try clear hF)))))); refine cwk_nil ?_; clear hC hG; intro W hL; (try simp only [kfb] at hL); have hF := hL.facts; (try simp only [Facts, Dist, kfa, implies_true, forall_const] at hF)))
    (try simp only [Exit.inBlock, Exit.then]); refine bodyPost_ret (by simp [results, Tryd.results27, go_sem, *]; try rfl) rfl ?_
    exact ⟨rfl, (kn_here : Kn [] w _ _).below0⟩

end Go.Proofs.YtflfaobbfhjmmaaDoor
