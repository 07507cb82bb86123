import Derived.Test.YtedifjdhdhcbhaaDoorProg
import Derived.WalkKit
import Derived.Handy
import Derived.Deep.Light
import Derived.WalkSmall
import Derived.StillTailTactics
import Derived.Lib.Hide
import Derived.Test.YtedifjdhdhcbhaaDoorW0
import Derived.Test.YtedifjdhdhcbhaaDoorIt
import Derived.Test.YtedifjdhdhcbhaaDoorW2
import Derived.Lib.SlicesS
namespace Go.Proofs.YtedifjdhdhcbhaaDoor
open Go Go.RowKit
set_option linter.unusedSimpArgs false
set_option linter.unusedVariables false

theorem below_bytes (w : World) (e : TypeId) (t : ByteArray) : Below w.heap.size w (Lib.bytesWorld w e t) := by
  refine ⟨rfl, rfl, rfl, ?_, fun b hb => ?_⟩
  · unfold Lib.bytesWorld World.freeze; split <;> simp
  · unfold Lib.bytesWorld World.freeze
    split
    · exact heap_alloc_old w.drew _ hb
    · simp only [Array.getElem?_modify]
      rw [if_neg (by omega)]
      exact heap_alloc_old w.drew _ hb
theorem Atoi_ok (s : ByteArray) (hm : s.size ≤ 1000) (v : Int) (h : Lib.atoiAll s.data.toList = .ok v) (w : World) :
    Calls Tryd.prog 62 #[.string s] w fun e w' => e = .returned (.tuple #[.int .i64 v, .nilIface]) ∧ Below w.heap.size w w' :=
  (Tryd.strconv_Atoi_ok s (by omega) v h w).mono fun e w' ⟨he, hw⟩ => ⟨he, by
    rcases hw with rfl | ⟨t, rfl⟩
    · exact Below.refl _ _
    · exact below_bytes w _ t⟩
theorem Atoi_bad (s : ByteArray) (hm : s.size ≤ 1000) (h : ∀ v, Lib.atoiAll s.data.toList ≠ .ok v) (w : World) (hT : Tab w) :
    Calls Tryd.prog 62 #[.string s] w fun e w' => ∃ v N, e = .returned (.tuple #[.int .i64 v, .iface 91 (.pointer (some ⟨N, 0, none⟩))]) ∧ Below w.heap.size w w' := by
  obtain ⟨h1, h2, ⟨tp, p, h3⟩, ⟨tq, q, h4⟩⟩ := hT
  cases ha : Lib.atoiAll s.data.toList with
  | ok v => exact absurd ha (h v)
  | «syntax» => exact (Tryd.strconv_Atoi_syntax_var s (by omega) ha tp p w h3).mono fun e w' ⟨N, he, _, _, hb⟩ => ⟨0, N, he, hb⟩
  | range => exact (Tryd.strconv_Atoi_range_var s (by omega) ha tq q w h4).mono fun e w' ⟨N, he, _, _, hb⟩ => ⟨_, N, he, hb⟩
theorem Index_any (s : ByteArray) (e : UInt8) (w : World) :
    Calls Tryd.prog 61 #[.string s, .int .u8 e.toNat] w fun x w' => x = .returned (.int .i64 (Lib.indexByte s.data.toList e)) ∧ w = w' :=
  (Tryd.strings_IndexByte s e.toNat w).mono fun x w' ⟨h1, h2⟩ => ⟨by rw [h1]; congr 3; simp, h2.symm⟩
theorem ext_list (s : ByteArray) (i j : Nat) : (s.extract i j).data.toList = (s.data.toList.take j).drop i := by
  rw [ByteArray.data_extract, Array.toList_extract]
  simp [List.extract, List.drop_take]
theorem ba_ext {x y : ByteArray} (h : x.data.toList = y.data.toList) : x = y := by
  cases x; cases y; congr 1; exact Array.toList_inj.1 h
theorem ba_mk (s : ByteArray) : (⟨s.data.toList.toArray⟩ : ByteArray) = s := by cases s; simp
theorem number_any (b : Nat) (s : ByteArray) (bd : Bool) (e : UInt8) (least : Int) (w : World) (hT : Tab w) (hb6 : 6 ≤ b) (hs : w.heap[b]? = some (.cells #[.string s, .bool bd] 54 (0, 0))) :
    Calls Tryd.prog 48 #[.pointer (some ⟨b, 0, none⟩), .int .u8 e.toNat, .int .i64 least] w fun en w' => en = .returned (.int .i64 (numR e least ⟨s.data.toList, bd⟩).1) ∧ Kn [b] w w' [(b, .cells #[.string ⟨((numR e least ⟨s.data.toList, bd⟩).2).rest.toArray⟩, .bool ((numR e least ⟨s.data.toList, bd⟩).2).bad] 54 (0, 0))] := by
  obtain ⟨hd, hhd⟩ : ∃ x, s.extract 0 (min (s.size : Int) 21).toNat = x := ⟨_, rfl⟩
  have hl : hd.data.toList = s.data.toList.take 21 := by
    rw [← hhd, ext_list, List.drop_zero]
    have hz : s.size = s.data.toList.length := by simp
    rcases Nat.lt_or_ge s.size 21 with h | h
    · rw [List.take_of_length_le (by omega), List.take_of_length_le (by omega)]
    · congr 1; omega
  have hsz : hd.size = hd.data.toList.length := by simp
  have ix := fun W => Index_any hd e W
  rw [hl] at ix
  by_cases hi : Lib.indexByte (s.data.toList.take 21) e < 0
  · have h1 : Lib.indexByte (s.data.toList.take 21) e = -1 := by have := Lib.indexByte_ge (s.data.toList.take 21) e; omega
    have hr : numR e least ⟨s.data.toList, bd⟩ = (0, failR) := by unfold numR; simp only; rw [if_pos hi]
    rw [h1] at ix
    rw [hr]
    exact number_none b s hd bd e least w hT hb6 hs hhd (Lib.hid ix)
  · obtain ⟨k, hk⟩ := Int.eq_ofNat_of_zero_le (show 0 ≤ Lib.indexByte (s.data.toList.take 21) e by omega)
    have hlt := index_lt (s.data.toList.take 21) e
    rw [hk] at hlt ix
    have hks : (k : Int) ≤ hd.size := by rw [hsz, hl]; omega
    have hk2 : k < 21 ∧ k < s.data.toList.length := by rw [List.length_take] at hlt; omega
    obtain ⟨sb, hsb⟩ : ∃ x, hd.extract 0 k = x := ⟨_, rfl⟩
    have hsl : sb.data.toList = s.data.toList.take k := by rw [← hsb, ext_list, List.drop_zero, hl, List.take_take]; congr 1; omega
    have hsbz : sb.size ≤ 1000 := by
      have : sb.size = sb.data.toList.length := by simp
      rw [this, hsl, List.length_take]; omega
    have hun : numR e least ⟨s.data.toList, bd⟩ = (match canon (s.data.toList.take k) with | some n => if n < least then (0, failR) else (n, ⟨s.data.toList.drop (k + 1), bd⟩) | none => (0, failR)) := by
      unfold numR; simp only; rw [if_neg hi, hk]; simp only [Int.toNat_natCast]; rfl
    rw [hun]
    cases ha : Lib.atoiAll sb.data.toList with
    | ok n =>
      have hr := atoi_range ha
      have AT := fun W (_ : Tab W) => Atoi_ok sb hsbz n ha W
      have IT := fun W (h : Tab W) => Itoa_any n hr.1 hr.2 W h
      by_cases hc : Lib.itoa n = sb.data.toList
      · have hcs : canon (s.data.toList.take k) = some n := by rw [← hsl, ← hc]; exact canon_itoa hr.1 hr.2
        rw [hcs]
        have hit : (⟨(Lib.itoa n).toArray⟩ : ByteArray) = sb := by rw [hc]
        rw [hit] at IT
        by_cases hlow : n < least
        · simp only [if_pos hlow]
          exact number_low b s hd bd e least w hT hb6 hs hhd k hks sb hsb n hlow (Lib.hid ix) (Lib.hid AT) (Lib.hid IT)
        · simp only [if_neg hlow]
          have hrl : (⟨(s.data.toList.drop (k + 1)).toArray⟩ : ByteArray) = s.extract (k + 1) s.size := by
            apply ba_ext
            rw [ext_list, List.take_of_length_le (by simp)]
          rw [hrl]
          have hz : s.size = s.data.toList.length := by simp
          exact number_ok b s hd bd e least w hT hb6 hs hhd k hks sb hsb n (eq_false hlow) (by omega) (by omega) _ rfl (Lib.hid ix) (Lib.hid AT) (Lib.hid IT)
      · have hcs : canon (s.data.toList.take k) = none := by
          rw [← hsl]; unfold canon; rw [ha]; simp only; rw [if_neg hc]
        rw [hcs]
        have hne : ((⟨(Lib.itoa n).toArray⟩ : ByteArray).toList == sb.toList) = false := (Lib.bytes_beq_false_iff _ _).2 fun h => hc (by rw [← h])
        exact number_other b s hd bd e least w hT hb6 hs hhd k hks sb hsb n _ hne (by unfold bne; rw [hne]; rfl) (Lib.hid ix) (Lib.hid AT) (Lib.hid IT)
    | «syntax» =>
      have hcs : canon (s.data.toList.take k) = none := by rw [← hsl]; unfold canon; rw [ha]
      rw [hcs]
      exact number_err b s hd bd e least w hT hb6 hs hhd k hks sb hsb (Lib.hid ix) (Lib.hid fun W h => Atoi_bad sb hsbz (fun v hv => by rw [ha] at hv; cases hv) W h)
    | range =>
      have hcs : canon (s.data.toList.take k) = none := by rw [← hsl]; unfold canon; rw [ha]
      rw [hcs]
      exact number_err b s hd bd e least w hT hb6 hs hhd k hks sb hsb (Lib.hid ix) (Lib.hid fun W h => Atoi_bad sb hsbz (fun v hv => by rw [ha] at hv; cases hv) W h)

end Go.Proofs.YtedifjdhdhcbhaaDoor
