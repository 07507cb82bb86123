import Derived.Test.YtedifjdhdhcbhaaDoorProg
import Derived.WalkKit
import Derived.Handy
import Derived.Deep.Light
import Derived.WalkSmall
import Derived.StillTailTactics
import Derived.Lib.Hide
import Derived.Test.YtedifjdhdhcbhaaDoorW0
import Derived.Test.YtedifjdhdhcbhaaDoorIt
import Derived.Test.YtedifjdhdhcbhaaDoorW26
namespace Go.Proofs.YtedifjdhdhcbhaaDoor
open Go Go.RowKit
set_option linter.unusedSimpArgs false
set_option linter.unusedVariables false

theorem prefix_any (x y : Val) (w : World) (hT : Tab w) (hx : ValIn w x) (hy : ValIn w y) :
    Calls Tryd.prog 5 #[.agg #[.int .i64 x.k, .int .i64 x.n, .string x.s, x.lv, x.tv], .agg #[.int .i64 y.k, .int .i64 y.n, .string y.s, y.lv, y.tv]] w fun e w' => e = .returned (.bool true) ∧ Below w.heap.size w w' := by
  cases hfx : fewB [x]
  · exact prefix_a x y w hT hx hy hfx
  cases hfy : fewB [y]
  · exact prefix_b x y w hT hx hy hfx hfy
  have fx := (fewB_true hfx).1.2 x (by simp)
  have fy := (fewB_true hfy).1.2 y (by simp)
  by_cases hk : kindI x.k = kindI y.k
  · obtain ⟨s, hs⟩ : ∃ s : ByteArray, s.data.toList = encV x := ⟨⟨(encV x).toArray⟩, rfl⟩
    obtain ⟨t, ht⟩ : ∃ s : ByteArray, s.data.toList = encV y := ⟨⟨(encV y).toArray⟩, rfl⟩
    have l1 := encV_len x hx.n hx.ls fx
    have l2 := encV_len y hy.n hy.ls fy
    have e1 : s.size = (encV x).length := by rw [← hs]; simp
    have e2 : t.size = (encV y).length := by rw [← ht]; simp
    by_cases hgt : (s.size : Int) > t.size
    · exact prefix_d1 x y w hT hx hy hfx hfy _ hk rfl fx fy s t hs ht (by omega) (by omega) hgt
    · have em : (min (s.size : Int) t.size).toNat = s.size := by omega
      by_cases hu : t.extract 0 (min (s.size : Int) t.size).toNat = s
      · have hz : encV y = encV x ++ (encV y).drop s.size := by
          have h2 := congrArg (fun b : ByteArray => b.data.toList) hu
          simp only [ext_list, List.drop_zero, em, ht, hs] at h2
          conv => lhs; rw [← List.take_append_drop s.size (encV y), h2]
        have hd := encV_prefix x y hx.n hx.ls fx hy.n hy.ls fy hk _ hz
        rw [hd, List.append_nil] at hz
        have hsy : s.data.toList = encV y := by rw [hz]; exact hs
        refine prefix_d3 x y w hT hx hy hfx hfy _ hk rfl fx fy s hs hsy (by omega) ?_ (by rw [hsy]; simp)
        apply ba_ext
        rw [ext_list, List.drop_zero, List.take_of_length_le]
        have : s.data.toList.length = s.size := by simp
        omega
      · have hb : ((t.extract 0 (min (s.size : Int) t.size).toNat).toList == s.toList) = false := (Lib.bytes_beq_false_iff _ _).2 hu
        exact prefix_d2 x y w hT hx hy hfx hfy _ hk rfl fx fy s t hs ht (by omega) (by omega) hgt _ rfl hb (by unfold bne; rw [hb]; rfl)
  · have hb : (kindI x.k == kindI y.k) = false := by simpa using hk
    exact prefix_c x y w hT hx hy hfx hfy _ _ rfl rfl hb (by unfold bne; rw [hb]; rfl)

end Go.Proofs.YtedifjdhdhcbhaaDoor
