import Derived.Test.YtedifjdhdhcbhaaDoorProg
import Derived.WalkKit
import Derived.Handy
import Derived.Deep.Light
import Derived.WalkSmall
import Derived.StillTailTactics
import Derived.Lib.Hide
import Derived.Test.YtedifjdhdhcbhaaDoorW0
import Derived.Test.YtedifjdhdhcbhaaDoorIt
import Derived.Test.YtedifjdhdhcbhaaDoorW27
namespace Go.Proofs.YtedifjdhdhcbhaaDoor
open Go Go.RowKit
set_option linter.unusedSimpArgs false
set_option linter.unusedVariables false

theorem Open_ex (s : ByteArray) (w : World) :
    Calls Tryd.prog 21 #[.string s] w fun e w' => ∃ b, e = .returned (.pointer (some ⟨b, 0, none⟩)) ∧ Kn [] w w' [(b, .cells #[.string s, .bool false] 54 (0, 0))] :=
  (Open_any s w).mono fun e w' h => ⟨_, h⟩
theorem vcells {w : World} {ao : Option Addr} {n cap : Nat} {vs : List Val} (h : VRow w (.slice ao n cap) vs) {k : Nat} {x : Val} (hx : vs[k]? = some x) {W : World} (ho : Old w W) :
    ∃ g o, ao = some ⟨g, o, none⟩ ∧ g < w.heap.size ∧ W.cell? ⟨g, o + k * 5, none⟩ = some (.int .i64 x.k) ∧ W.cell? ⟨g, o + k * 5 + 1, none⟩ = some (.int .i64 x.n) ∧ W.cell? ⟨g, o + k * 5 + 2, none⟩ = some (.string x.s) ∧ W.cell? ⟨g, o + k * 5 + 3, none⟩ = some x.lv ∧ W.cell? ⟨g, o + k * 5 + 4, none⟩ = some x.tv := by
  obtain ⟨g, o, e, hg, c0, c1, c2, c3, c4⟩ := vrow_at h hx
  have := cell_same (j := o + k * 5) (ho g hg)
  exact ⟨g, o, e, hg, by rw [cell_same (ho g hg)]; exact c0, by rw [cell_same (ho g hg)]; exact c1, by rw [cell_same (ho g hg)]; exact c2, by rw [cell_same (ho g hg)]; exact c3, by rw [cell_same (ho g hg)]; exact c4⟩
theorem flat_take {α : Type} (f : α → Bytes) {l : List α} {k : Nat} {x : α} (h : l[k]? = some x) : (l.take (k + 1)).flatMap f = (l.take k).flatMap f ++ f x := by
  rw [List.take_add_one, h]; simp
theorem flat_drop {α : Type} (f : α → Bytes) {l : List α} {k : Nat} {x : α} (h : l[k]? = some x) : (l.drop k).flatMap f = f x ++ (l.drop (k + 1)).flatMap f := by
  obtain ⟨hk, rfl⟩ := List.getElem?_eq_some_iff.1 h
  rw [List.drop_eq_getElem_cons hk, List.flatMap_cons]
theorem sz_list (x : ByteArray) : x.data.toList.length = x.size := by simp

end Go.Proofs.YtedifjdhdhcbhaaDoor
