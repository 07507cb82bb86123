import Derived.Test.YtflfaobbfhjmmaaDoorProg
import Derived.WalkKit
import Derived.Handy
import Derived.Deep.Light
import Derived.WalkSmall
import Derived.StillTailTactics
import Derived.Lib.Hide
import Derived.Test.YtflfaobbfhjmmaaDoorT0
import Derived.Test.YtflfaobbfhjmmaaDoorIt
import Derived.Test.YtflfaobbfhjmmaaDoorL7
namespace Go.Proofs.YtflfaobbfhjmmaaDoor
open Go Go.RowKit
set_option linter.unusedSimpArgs false
set_option linter.unusedVariables false

theorem hp2 (l : Bytes) : Lib.hasPrefix l [36, 40] = decide (l.head? = some 36 ∧ (l.drop 1).head? = some 40) := by
  cases l with
  | nil => rfl
  | cons a t => cases t with
    | nil => simp [Lib.hasPrefix, List.isPrefixOf]
    | cons b t =>
      simp only [Lib.hasPrefix, List.isPrefixOf, List.head?_cons, List.drop_succ_cons, List.drop_zero, Option.some.injEq, Bool.and_true, Bool.decide_and]
      congr 1
      · by_cases h : a = 36
        · subst h; rfl
        · rw [decide_eq_false h, beq_false_of_ne (Ne.symm h)]
      · by_cases h : b = 40
        · subst h; rfl
        · rw [decide_eq_false h, beq_false_of_ne (Ne.symm h)]
set_option maxRecDepth 20000 in
set_option maxHeartbeats 4000000 in
theorem quo_step (m : Nat) (hQ : ∀ k, k < m → ClosC k) : QuoC m := by
  intro s w hsm hs
  obtain ⟨V, hV⟩ : ∃ V, cr none 0 s.data.toList = V := ⟨_, rfl⟩
  rw [hV]
  have HV : Hid (cr none 0 (s.data.toList.drop 0) = V) := Lib.hid hV
  have HQ := Lib.hid hQ
  clear hV hQ
  have hsl := szl s
  go_enter Tryd.func54, Tryd.ntmps54
  go_wp2
  go_loopw [3] (fun i wr => ∃ (k : Nat), k ≤ s.size + 1 ∧ i = .int .i64 k ∧ wr = w ∧ Hid (cr none k (s.data.toList.drop k) = V)) (fun i _ => s.size + 1 - (intOf i).toNat)
  case atStart => exact ⟨0, by omega, rfl, rfl, HV⟩
  case round =>
    obtain ⟨k, hk, rfl, rfl, HV1⟩ := hrel
    clear HV
    have HV := HV1
    clear HV1
    by_cases hlt : k < s.size
    · obtain ⟨c0, hc0⟩ : ∃ c, s.data.toList[k]? = some c := ⟨_, List.getElem?_eq_getElem (by rw [szl]; omega)⟩
      have eb0 := byte_at hc0 (by omega)
      have hd0 : s.data.toList.drop (k) = c0 :: s.data.toList.drop (k + 1) := by
        obtain ⟨h1, h2⟩ := List.getElem?_eq_some_iff.1 hc0
        rw [List.drop_eq_getElem_cons h1, h2]
      by_cases h34 : c0 = 34
      · subst h34
        go_wp2
        (try simp only [Exit.inBlock, Exit.then]); refine bodyPost_ret (by simp [results, Tryd.results54, go_sem, *]; try rfl) rfl ?_
        exact ⟨by rw [← HV.out, hd0, cq_end], rfl⟩
      have f34 : ((c0.toNat : Int) == 34) = false := beq_false_of_ne (fun h => h34 (UInt8.toNat_inj.1 (show c0.toNat = 34 by omega)))
      by_cases h92 : c0 = 92
      · subst h92
        go_wp2
        by_cases hlt1 : k + 1 < s.size
        · obtain ⟨c1, hc1⟩ : ∃ c, s.data.toList[k + 1]? = some c := ⟨_, List.getElem?_eq_getElem (by rw [szl]; omega)⟩
          have eb1 := byte_at hc1 (by omega)
          have hd1 : s.data.toList.drop (k + 1) = c1 :: s.data.toList.drop (k + 1 + 1) := by
            obtain ⟨h1, h2⟩ := List.getElem?_eq_some_iff.1 hc1
            rw [List.drop_eq_getElem_cons h1, h2]
          go_roundw
          case rel => exact ⟨k + 2, by omega, (by go_num), (by trivial), Lib.hid (by rw [← HV.out, hd0, hd1, cr_esc])⟩
          case measure => simp [intOf]; omega
        · have hd9 : s.data.toList.drop (k + 1) = [] := List.drop_eq_nil_of_le (by omega)
          have hd8 : s.data.toList.drop (k + 2) = [] := List.drop_eq_nil_of_le (by omega)
          go_roundw
          case rel => exact ⟨k + 2, by omega, (by go_num), (by trivial), Lib.hid (by rw [← HV.out, hd0, hd9, hd8, cr_one, cr_nil])⟩
          case measure => simp [intOf]; omega
      have f92 : ((c0.toNat : Int) == 92) = false := beq_false_of_ne (fun h => h92 (UInt8.toNat_inj.1 (show c0.toNat = 92 by omega)))
      obtain ⟨u0, hu0⟩ : ∃ u, s.extract k s.size = u := ⟨_, rfl⟩
      have hul0 : u0.data.toList = c0 :: s.data.toList.drop (k + 1) := by rw [← hu0, ext_list, List.take_of_length_le (by omega), hd0]
      by_cases h3 : c0 = 36 ∧ (s.data.toList.drop (k + 1)).head? = some 40
      · obtain ⟨rfl, h40⟩ := h3
        have hpv : Lib.hasPrefix u0.data.toList [36, 40] = true := by rw [hul0, hp2]; simpa using h40
        have hP : Hid (∀ W, Calls Tryd.prog 25 #[.string u0, .string ⟨#[36, 40]⟩] W fun x w' => x = .returned (.bool true) ∧ w' = W) := Lib.hid fun W => by have := Tryd.strings_HasPrefix u0 ⟨#[36, 40]⟩ W; rw [hpv] at this; exact this
        have hlt1 : k + 1 < s.size := by
          rcases Nat.lt_or_ge (k + 1) s.size with h | h
          · exact h
          · rw [List.drop_eq_nil_of_le (by omega)] at h40; cases h40
        obtain ⟨c1, hc1⟩ : ∃ c, s.data.toList[k + 1]? = some c := ⟨_, List.getElem?_eq_getElem (by rw [szl]; omega)⟩
        have eb1 := byte_at hc1 (by omega)
        have hd1 : s.data.toList.drop (k + 1) = c1 :: s.data.toList.drop (k + 1 + 1) := by
          obtain ⟨h1, h2⟩ := List.getElem?_eq_some_iff.1 hc1
          rw [List.drop_eq_getElem_cons h1, h2]
        have hc1' : c1 = 40 := by rw [hd1] at h40; simpa using h40
        subst hc1'
        obtain ⟨u, hu⟩ : ∃ u, s.extract (k + 2) s.size = u := ⟨_, rfl⟩
        have hul : u.data.toList = s.data.toList.drop (k + 2) := by rw [← hu, ext_list, List.take_of_length_le (by omega)]
        have hus : u.size = s.size - (k + 2) := by rw [← szl, hul, List.length_drop, szl]
        have hd2 : s.data.toList.drop k = 36 :: 40 :: u.data.toList := by rw [hd0, hd1, hul]
        clear h40 hul0 hpv
        rcases cq_sub k u.data.toList with ⟨h1, h2⟩ | ⟨n, h1, h2, h3⟩
        · have hI : Hid (∀ W, Calls Tryd.prog 40 #[.string u] W fun x w' => x = .returned (.int .i64 (-1)) ∧ w' = W) := Lib.hid fun W => by rw [← h1]; exact HQ.out (m - 1) (by omega) u W (by omega) (by omega)
          have HH := Lib.hid h2
          clear h1 h2
          go_wp2_with (first | ((with_reducible refine kn_list_set ?_); (try clear hF); clear hL; intro W hL; (try simp only [kfb] at hL); have hF := hL.facts; (try simp only [Facts, Dist, kfa, implies_true, forall_const] at hF)) | (go_at_call 25; (((with_reducible refine (hP.out _).mono ?_))); rintro e w' ⟨rfl, rfl⟩) | (go_at_call 40; (((with_reducible refine (hI.out _).mono ?_))); rintro e w' ⟨rfl, rfl⟩))
          (try simp only [Exit.inBlock, Exit.then]); refine bodyPost_ret (by simp [results, Tryd.results54, go_sem, *]; try rfl) rfl ?_
          exact ⟨by rw [← HV.out, hd2, HH.out], rfl⟩
        · have hI : Hid (∀ W, Calls Tryd.prog 40 #[.string u] W fun x w' => x = .returned (.int .i64 (n : Int)) ∧ w' = W) := Lib.hid fun W => by rw [← h1]; exact HQ.out (m - 1) (by omega) u W (by omega) (by omega)
          have HH := Lib.hid h3
          clear h1 h3
          rw [szl] at h2
          have q0 : ¬ (n : Int) < 0 := by omega
          go_wp2_with (first | ((with_reducible refine kn_list_set ?_); (try clear hF); clear hL; intro W hL; (try simp only [kfb] at hL); have hF := hL.facts; (try simp only [Facts, Dist, kfa, implies_true, forall_const] at hF)) | (go_at_call 25; (((with_reducible refine (hP.out _).mono ?_))); rintro e w' ⟨rfl, rfl⟩) | (go_at_call 40; (((with_reducible refine (hI.out _).mono ?_))); rintro e w' ⟨rfl, rfl⟩))
          go_roundw
          case rel => exact ⟨k + n + 3, by omega, (by go_num), (by trivial), Lib.hid (by rw [← HV.out, hd2, HH.out, hul, List.drop_drop]; congr 2; omega)⟩
          case measure => simp [intOf]; omega
      · have hpv : Lib.hasPrefix u0.data.toList [36, 40] = false := by rw [hul0, hp2]; simpa using h3
        have hP : Hid (∀ W, Calls Tryd.prog 25 #[.string u0, .string ⟨#[36, 40]⟩] W fun x w' => x = .returned (.bool false) ∧ w' = W) := Lib.hid fun W => by have := Tryd.strings_HasPrefix u0 ⟨#[36, 40]⟩ W; rw [hpv] at this; exact this
        clear hul0 hpv
        go_wp2_with (first | ((with_reducible refine kn_list_set ?_); (try clear hF); clear hL; intro W hL; (try simp only [kfb] at hL); have hF := hL.facts; (try simp only [Facts, Dist, kfa, implies_true, forall_const] at hF)) | (go_at_call 25; (((with_reducible refine (hP.out _).mono ?_))); rintro e w' ⟨rfl, rfl⟩))
        go_roundw
        case rel => exact ⟨k + 1, by omega, (by go_num), (by trivial), Lib.hid (by rw [← HV.out, hd0, cq_else _ _ _ h34 h92 h3])⟩
        case measure => simp [intOf]; omega
    · go_wp2
      (try simp only [Exit.inBlock, Exit.then]); refine bodyPost_ret (by simp [results, Tryd.results54, go_sem, *]; try rfl) rfl ?_
      exact ⟨by rw [← HV.out, List.drop_eq_nil_of_le (by omega), cr_nil], rfl⟩
theorem both (m : Nat) : ClosC m ∧ QuoC m := by
  induction m using Nat.strongRecOn with
  | _ m ih => exact ⟨clos_step m fun k hk => (ih k hk).2, quo_step m fun k hk => (ih k hk).1⟩
theorem clos_is (s : ByteArray) (hs : s.size ≤ 1000000) (w : World) : Calls Tryd.prog 40 #[.string s] w fun e w' => e = .returned (.int .i64 (cr (some 1) 0 s.data.toList)) ∧ w' = w := (both s.size).1 s w (Nat.le_refl _) hs

end Go.Proofs.YtflfaobbfhjmmaaDoor
