import Derived.Test.YtflfaobbfhjmmaaDoorProg
import Derived.WalkKit
import Derived.Handy
import Derived.Deep.Light
import Derived.WalkSmall
import Derived.StillTailTactics
import Derived.Lib.Hide
import Derived.Test.YtflfaobbfhjmmaaDoorT0
import Derived.Test.YtflfaobbfhjmmaaDoorIt
import Derived.Test.YtflfaobbfhjmmaaDoorL6
import Derived.Test.YtflfaobbfhjmmaaDoorLxD
namespace Go.Proofs.YtflfaobbfhjmmaaDoor
open Go Go.RowKit
set_option linter.unusedSimpArgs false
set_option linter.unusedVariables false

def ClosC (m : Nat) : Prop := ∀ (s : ByteArray) (w : World), s.size ≤ m → s.size ≤ 1000000 → Calls Tryd.prog 40 #[.string s] w fun e w' => e = .returned (.int .i64 (cr (some 1) 0 s.data.toList)) ∧ w' = w
def QuoC (m : Nat) : Prop := ∀ (s : ByteArray) (w : World), s.size ≤ m → s.size ≤ 1000000 → Calls Tryd.prog 54 #[.string s] w fun e w' => e = .returned (.int .i64 (cr none 0 s.data.toList)) ∧ w' = w
set_option maxRecDepth 20000 in
set_option maxHeartbeats 4000000 in
theorem clos_step (m : Nat) (hQ : ∀ k, k < m → QuoC k) : ClosC m := by
  intro s w hsm hs
  obtain ⟨V, hV⟩ : ∃ V, cr (some 1) 0 s.data.toList = V := ⟨_, rfl⟩
  rw [hV]
  have HV : Hid (cr (some 1) 0 (s.data.toList.drop 0) = V) := Lib.hid hV
  have HQ := Lib.hid hQ
  clear hV hQ
  have hsl := szl s
  go_enter Tryd.func40, Tryd.ntmps40
  go_wp2
  go_loopw [3, 4] (fun d i wr => ∃ (dn k : Nat), k ≤ s.size + 1 ∧ 1 ≤ dn ∧ dn ≤ k + 1 ∧ d = .int .i64 dn ∧ i = .int .i64 k ∧ wr = w ∧ Hid (cr (some dn) k (s.data.toList.drop k) = V)) (fun _ i _ => s.size + 1 - (intOf i).toNat)
  case atStart => exact ⟨1, 0, by omega, by omega, by omega, rfl, rfl, rfl, HV⟩
  case round =>
    obtain ⟨dn, k, hk, hd1, hd2, rfl, rfl, rfl, HV1⟩ := hrel
    clear HV
    have HV := HV1
    clear HV1
    by_cases hlt : k < s.size
    · obtain ⟨c0, hc0⟩ : ∃ c, s.data.toList[k]? = some c := ⟨_, List.getElem?_eq_getElem (by rw [szl]; omega)⟩
      have eb0 := byte_at hc0 (by omega)
      have hd0 : s.data.toList.drop (k) = c0 :: s.data.toList.drop (k + 1) := by
        obtain ⟨h1, h2⟩ := List.getElem?_eq_some_iff.1 hc0
        rw [List.drop_eq_getElem_cons h1, h2]
      by_cases h92 : c0 = 92
      · subst h92
        go_wp2
        by_cases hlt1 : k + 1 < s.size
        · obtain ⟨c1, hc1⟩ : ∃ c, s.data.toList[k + 1]? = some c := ⟨_, List.getElem?_eq_getElem (by rw [szl]; omega)⟩
          have eb1 := byte_at hc1 (by omega)
          have hd1 : s.data.toList.drop (k + 1) = c1 :: s.data.toList.drop (k + 1 + 1) := by
            obtain ⟨h1, h2⟩ := List.getElem?_eq_some_iff.1 hc1
            rw [List.drop_eq_getElem_cons h1, h2]
          go_roundw
          case rel => exact ⟨dn, k + 2, by omega, by omega, by omega, (by go_num), (by go_num), (by trivial), Lib.hid (by rw [← HV.out, hd0, hd1, cr_esc])⟩
          case measure => simp [intOf]; omega
        · have hd9 : s.data.toList.drop (k + 1) = [] := List.drop_eq_nil_of_le (by omega)
          have hd8 : s.data.toList.drop (k + 2) = [] := List.drop_eq_nil_of_le (by omega)
          go_roundw
          case rel => exact ⟨dn, k + 2, by omega, by omega, by omega, (by go_num), (by go_num), (by trivial), Lib.hid (by rw [← HV.out, hd0, hd9, hd8, cr_one, cr_nil])⟩
          case measure => simp [intOf]; omega
      have f92 : ((c0.toNat : Int) == 92) = false := beq_false_of_ne (fun h => h92 (UInt8.toNat_inj.1 (show c0.toNat = 92 by omega)))
      by_cases h39 : c0 = 39
      · subst h39
        obtain ⟨u, hu⟩ : ∃ u, s.extract (k + 1) s.size = u := ⟨_, rfl⟩
        have hul : u.data.toList = s.data.toList.drop (k + 1) := by rw [← hu, ext_list, List.take_of_length_le (by omega)]
        have hus : u.size = s.size - (k + 1) := by rw [← szl, hul, List.length_drop, szl]
        rcases cr_sq dn k u.data.toList with ⟨h1, h2⟩ | ⟨n, h1, h2, h3⟩
        · have hI : Hid (∀ W, Calls Tryd.prog 17 #[.string u, .int .u8 39] W fun x w' => x = .returned (.int .i64 (-1)) ∧ w' = W) := Lib.hid fun W => Index_any u 39 (-1) h1 39 rfl W
          have HH := Lib.hid h2
          clear h1 h2
          go_wp2_with (first | ((with_reducible refine kn_list_set ?_); (try clear hF); clear hL; intro W hL; (try simp only [kfb] at hL); have hF := hL.facts; (try simp only [Facts, Dist, kfa, implies_true, forall_const] at hF)) | (go_at_call 17; (((with_reducible refine (hI.out _).mono ?_))); rintro e w' ⟨rfl, rfl⟩))
          (try simp only [Exit.inBlock, Exit.then]); refine bodyPost_ret (by simp [results, Tryd.results40, go_sem, *]; try rfl) rfl ?_
          exact ⟨by rw [← HV.out, hd0, ← hul, HH.out], rfl⟩
        · have hI : Hid (∀ W, Calls Tryd.prog 17 #[.string u, .int .u8 39] W fun x w' => x = .returned (.int .i64 (n : Int)) ∧ w' = W) := Lib.hid fun W => Index_any u 39 n h1 39 rfl W
          have HH := Lib.hid h3
          clear h1 h3
          rw [szl] at h2
          have q0 : ¬ (n : Int) < 0 := by omega
          go_wp2_with (first | ((with_reducible refine kn_list_set ?_); (try clear hF); clear hL; intro W hL; (try simp only [kfb] at hL); have hF := hL.facts; (try simp only [Facts, Dist, kfa, implies_true, forall_const] at hF)) | (go_at_call 17; (((with_reducible refine (hI.out _).mono ?_))); rintro e w' ⟨rfl, rfl⟩))
          go_roundw
          case rel => exact ⟨dn, k + n + 2, by omega, by omega, by omega, (by go_num), (by go_num), (by trivial), Lib.hid (by rw [← HV.out, hd0, ← hul, HH.out, hul, List.drop_drop]; congr 2; omega)⟩
          case measure => simp [intOf]; omega
      have f39 : ((c0.toNat : Int) == 39) = false := beq_false_of_ne (fun h => h39 (UInt8.toNat_inj.1 (show c0.toNat = 39 by omega)))
      by_cases h34 : c0 = 34
      · subst h34
        obtain ⟨u, hu⟩ : ∃ u, s.extract (k + 1) s.size = u := ⟨_, rfl⟩
        have hul : u.data.toList = s.data.toList.drop (k + 1) := by rw [← hu, ext_list, List.take_of_length_le (by omega)]
        have hus : u.size = s.size - (k + 1) := by rw [← szl, hul, List.length_drop, szl]
        rcases cr_dq dn k u.data.toList with ⟨h1, h2⟩ | ⟨n, h1, h2, h3⟩
        · have hI : Hid (∀ W, Calls Tryd.prog 54 #[.string u] W fun x w' => x = .returned (.int .i64 (-1)) ∧ w' = W) := Lib.hid fun W => by rw [← h1]; exact HQ.out (m - 1) (by omega) u W (by omega) (by omega)
          have HH := Lib.hid h2
          clear h1 h2
          go_wp2_with (first | ((with_reducible refine kn_list_set ?_); (try clear hF); clear hL; intro W hL; (try simp only [kfb] at hL); have hF := hL.facts; (try simp only [Facts, Dist, kfa, implies_true, forall_const] at hF)) | (go_at_call 54; (((with_reducible refine (hI.out _).mono ?_))); rintro e w' ⟨rfl, rfl⟩))
          (try simp only [Exit.inBlock, Exit.then]); refine bodyPost_ret (by simp [results, Tryd.results40, go_sem, *]; try rfl) rfl ?_
          exact ⟨by rw [← HV.out, hd0, ← hul, HH.out], rfl⟩
        · have hI : Hid (∀ W, Calls Tryd.prog 54 #[.string u] W fun x w' => x = .returned (.int .i64 (n : Int)) ∧ w' = W) := Lib.hid fun W => by rw [← h1]; exact HQ.out (m - 1) (by omega) u W (by omega) (by omega)
          have HH := Lib.hid h3
          clear h1 h3
          rw [szl] at h2
          have q0 : ¬ (n : Int) < 0 := by omega
          go_wp2_with (first | ((with_reducible refine kn_list_set ?_); (try clear hF); clear hL; intro W hL; (try simp only [kfb] at hL); have hF := hL.facts; (try simp only [Facts, Dist, kfa, implies_true, forall_const] at hF)) | (go_at_call 54; (((with_reducible refine (hI.out _).mono ?_))); rintro e w' ⟨rfl, rfl⟩))
          go_roundw
          case rel => exact ⟨dn, k + n + 2, by omega, by omega, by omega, (by go_num), (by go_num), (by trivial), Lib.hid (by rw [← HV.out, hd0, ← hul, HH.out, hul, List.drop_drop]; congr 2; omega)⟩
          case measure => simp [intOf]; omega
      have f34 : ((c0.toNat : Int) == 34) = false := beq_false_of_ne (fun h => h34 (UInt8.toNat_inj.1 (show c0.toNat = 34 by omega)))
      by_cases h40 : c0 = 40
      · subst h40
        go_wp2
        go_roundw
        case rel => exact ⟨dn + 1, k + 1, by omega, by omega, by omega, (by go_num), (by go_num), (by trivial), Lib.hid (by rw [← HV.out, hd0, cr_op])⟩
        case measure => simp [intOf]; omega
      have f40 : ((c0.toNat : Int) == 40) = false := beq_false_of_ne (fun h => h40 (UInt8.toNat_inj.1 (show c0.toNat = 40 by omega)))
      by_cases h41 : c0 = 41
      · subst h41
        by_cases hd : dn = 1
        · subst hd
          go_wp2
          (try simp only [Exit.inBlock, Exit.then]); refine bodyPost_ret (by simp [results, Tryd.results40, go_sem, *]; try rfl) rfl ?_
          exact ⟨by rw [← HV.out, hd0, cr_cl], rfl⟩
        · have q0 : (((dn : Int) - 1) == 0) = false := beq_false_of_ne (by omega)
          go_wp2
          go_roundw
          case rel => exact ⟨dn - 1, k + 1, by omega, by omega, by omega, (by go_num), (by go_num), (by trivial), Lib.hid (by rw [← HV.out, hd0, cr_down _ _ _ hd])⟩
          case measure => simp [intOf]; omega
      have f41 : ((c0.toNat : Int) == 41) = false := beq_false_of_ne (fun h => h41 (UInt8.toNat_inj.1 (show c0.toNat = 41 by omega)))
      go_wp2
      go_roundw
      case rel => exact ⟨dn, k + 1, by omega, by omega, by omega, (by go_num), (by go_num), (by trivial), Lib.hid (by rw [← HV.out, hd0, cr_else _ _ _ _ h92 h39 h34 h40 h41])⟩
      case measure => simp [intOf]; omega
    · go_wp2
      (try simp only [Exit.inBlock, Exit.then]); refine bodyPost_ret (by simp [results, Tryd.results40, go_sem, *]; try rfl) rfl ?_
      exact ⟨by rw [← HV.out, List.drop_eq_nil_of_le (by omega), cr_nil], rfl⟩

end Go.Proofs.YtflfaobbfhjmmaaDoor
