import Derived.Test.YtedifjdhdhcbhaaDoorProg
import Derived.WalkKit
import Derived.Handy
import Derived.Deep.Light
import Derived.WalkSmall
import Derived.StillTailTactics
import Derived.Lib.Hide
import Derived.Test.YtedifjdhdhcbhaaDoorW0
import Derived.Test.YtedifjdhdhcbhaaDoorIt
import Derived.Test.YtedifjdhdhcbhaaDoorQ7
namespace Go.Proofs.YtedifjdhdhcbhaaDoor
open Go Go.RowKit
set_option linter.unusedSimpArgs false
set_option linter.unusedVariables false

theorem refText_q (b : Nat) (s : ByteArray) (bd : Bool) (w : World) (hs : w.heap[b]? = some (.cells #[.string s, .bool bd] 61 (0, 0))) (hg : bd = true → s.data.toList = []) (x rs : ByteArray) (bd1 : Bool) (hq : textR ⟨s.data.toList, bd⟩ = (x.data.toList, ⟨rs.data.toList, bd1⟩)) :
    Calls Tryd.prog 35 #[.pointer (some ⟨b, 0, none⟩)] w fun e w' => e = .returned (.string x) ∧ Kn [b] w w' [(b, .cells #[.string rs, .bool bd1] 61 (0, 0))] := by
  obtain ⟨n, r, e⟩ : ∃ n r, numR 58 0 ⟨s.data.toList, bd⟩ = (n, r) := ⟨_, _, rfl⟩
  have h0 := num_ge 58 0 ⟨s.data.toList, bd⟩ (Int.le_refl _)
  rw [e] at h0
  obtain ⟨k, rfl⟩ := Int.eq_ofNat_of_zero_le h0
  obtain ⟨z, bz, rfl⟩ := rd_eq r
  have hgz : Good ⟨z.data.toList, bz⟩ := by
    have := good_num 58 0 (r := ⟨s.data.toList, bd⟩) hg
    rw [e] at this; exact this
  have hz := szl z
  have hfail : textR ⟨s.data.toList, bd⟩ = ([], failR) → x = ⟨#[]⟩ ∧ rs = ⟨#[]⟩ ∧ bd1 = true := fun h => by
    rw [h] at hq
    unfold failR at hq
    injection hq with h1 h2
    injection h2 with h2 h3
    exact ⟨ba_ext h1.symm, ba_ext h2.symm, h3.symm⟩
  have hun : textR ⟨s.data.toList, bd⟩ = if ((z.data.toList.length : Nat) : Int) < (k : Int) then ([], failR) else if (closeR 44 ⟨z.data.toList.drop k, bz⟩).bad then ([], closeR 44 ⟨z.data.toList.drop k, bz⟩) else (z.data.toList.take k, closeR 44 ⟨z.data.toList.drop k, bz⟩) := by
    unfold textR; rw [e]; simp only [Int.toNat_natCast]
  cases bz
  · by_cases hk : (z.size : Int) ≤ k
    · have hf : textR ⟨s.data.toList, bd⟩ = ([], failR) := by
        rw [hun]
        by_cases hlt : ((z.data.toList.length : Nat) : Int) < (k : Int)
        · rw [if_pos hlt]
        · rw [if_neg hlt, List.drop_eq_nil_of_le (by omega)]; rfl
      obtain ⟨rfl, rfl, rfl⟩ := hfail hf
      exact refText_ge b s bd w hs k z false e rfl hk
    · rw [if_neg (by omega)] at hun
      have hy : (z.extract k z.size).data.toList = z.data.toList.drop k := by rw [ext_list, List.take_of_length_le (by simp)]
      have hx : (z.extract 0 k).data.toList = z.data.toList.take k := by rw [ext_list, List.drop_zero]
      rw [← hy, ← hx] at hun
      obtain ⟨q, bq, hc⟩ := rd_eq (closeR 44 ⟨(z.extract k z.size).data.toList, false⟩)
      rw [hc] at hun
      rw [hun] at hq
      cases bq
      · simp only [Bool.false_eq_true, if_false] at hq
        injection hq with h1 h2
        injection h2 with h2 h3
        obtain rfl := ba_ext h1
        obtain rfl := ba_ext h2
        subst h3
        exact refText_cg b s bd w hs k z false e rfl (by omega) _ rfl _ rfl _ hc
      · simp only [if_true] at hq
        injection hq with h1 h2
        injection h2 with h2 h3
        obtain rfl : x = ⟨#[]⟩ := ba_ext h1.symm
        obtain rfl := ba_ext h2
        subst h3
        exact refText_cb b s bd w hs k z false e rfl (by omega) _ rfl _ rfl _ hc
  · have hf : textR ⟨s.data.toList, bd⟩ = ([], failR) := by
      have hnil := hgz rfl
      simp only at hnil
      rw [hun, hnil]
      by_cases hlt : (((([] : Bytes)).length : Nat) : Int) < (k : Int)
      · rw [if_pos hlt]
      · rw [if_neg hlt, List.drop_nil]; rfl
    obtain ⟨rfl, rfl, rfl⟩ := hfail hf
    exact refText_bad b s bd w hs k z true e rfl
theorem refTextB_q (b : Nat) (s : ByteArray) (bd : Bool) (w : World) (hs : w.heap[b]? = some (.cells #[.string s, .bool bd] 61 (0, 0))) (hg : bd = true → s.data.toList = []) (x : Bytes) (rs : ByteArray) (bd1 : Bool) (hq : textR ⟨s.data.toList, bd⟩ = (x, ⟨rs.data.toList, bd1⟩)) :
    Calls Tryd.prog 35 #[.pointer (some ⟨b, 0, none⟩)] w fun e w' => e = .returned (.string ⟨x.toArray⟩) ∧ Kn [b] w w' [(b, .cells #[.string rs, .bool bd1] 61 (0, 0))] := refText_q b s bd w hs hg ⟨x.toArray⟩ rs bd1 hq

end Go.Proofs.YtedifjdhdhcbhaaDoor
