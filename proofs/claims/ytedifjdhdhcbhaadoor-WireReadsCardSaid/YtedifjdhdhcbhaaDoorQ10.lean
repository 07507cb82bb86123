import Derived.Test.YtedifjdhdhcbhaaDoorProg
import Derived.WalkKit
import Derived.Handy
import Derived.Deep.Light
import Derived.WalkSmall
import Derived.StillTailTactics
import Derived.Lib.Hide
import Derived.Test.YtedifjdhdhcbhaaDoorW0
import Derived.Test.YtedifjdhdhcbhaaDoorIt
import Derived.Test.YtedifjdhdhcbhaaDoorQ9
namespace Go.Proofs.YtedifjdhdhcbhaaDoor
open Go Go.RowKit
set_option linter.unusedSimpArgs false
set_option linter.unusedVariables false

theorem refNums_n (b : Nat) (s : ByteArray) (bd : Bool) (w : World) (hs : w.heap[b]? = some (.cells #[.string s, .bool bd] 61 (0, 0))) (hg : bd = true → s.data.toList = []) (hsz : s.size ≤ 100000000) (xs : List Int) (rs : ByteArray) (bd1 : Bool) (hq : numsR ⟨s.data.toList, bd⟩ = (xs, ⟨rs.data.toList, bd1⟩)) (hne : xs.length ≠ 0) :
    Calls Tryd.prog 37 #[.pointer (some ⟨b, 0, none⟩)] w fun e w' => ∃ g cap cur, e = .returned (.slice (some ⟨g, 0, none⟩) xs.length cap) ∧ (∀ (j : Nat) (x : Value), (xs.map fun x => Value.int .i64 x)[j]? = some x → cur[j]? = some x) ∧ Kn [b] w w' [(g, .cells cur 3 (0, 0)), (b, .cells #[.string rs, .bool bd1] 61 (0, 0))] := by
  refine (refNums_q b s bd w hs hg hsz _ rs bd1 hq).mono ?_
  rintro e w' ⟨v, rfl, hown, hb⟩
  obtain ⟨h1, ⟨rfl, h2⟩ | ⟨g, cap, cur, rfl, h3, h4, _, _, _, h5⟩⟩ := hown
  · exfalso; apply hne; simpa using h2
  · refine ⟨g, cap, cur, by simp, fun j x hx => ?_, hb.more h4 h3 (by have := lt_of_has hs; simp; omega)⟩
    have hx2 : (cur.toList.take (xs.length * 1))[j]? = some x := by
      have e : (xs.map fun x => Value.int .i64 x) = List.take (xs.length * 1) cur.toList := by simpa [List.map_map, Function.comp_def, ba_mk] using h5.symm
      rw [← e]; exact hx
    rw [List.getElem?_take] at hx2
    split at hx2
    · simpa using hx2
    · cases hx2
theorem refNums_e (b : Nat) (s : ByteArray) (bd : Bool) (w : World) (hs : w.heap[b]? = some (.cells #[.string s, .bool bd] 61 (0, 0))) (hg : bd = true → s.data.toList = []) (hsz : s.size ≤ 100000000) (xs : List Int) (rs : ByteArray) (bd1 : Bool) (hq : numsR ⟨s.data.toList, bd⟩ = (xs, ⟨rs.data.toList, bd1⟩)) (hne : xs.length = 0) :
    Calls Tryd.prog 37 #[.pointer (some ⟨b, 0, none⟩)] w fun e w' => ∃ ao cap, e = .returned (.slice ao 0 cap) ∧ Kn [b] w w' [(b, .cells #[.string rs, .bool bd1] 61 (0, 0))] := by
  refine (refNums_q b s bd w hs hg hsz _ rs bd1 hq).mono ?_
  rintro e w' ⟨v, rfl, hown, hb⟩
  obtain ⟨h1, ⟨rfl, h2⟩ | ⟨g, cap, cur, rfl, h3, h4, _, _, _, h5⟩⟩ := hown
  · exact ⟨_, _, rfl, hb⟩
  · exact ⟨_, _, by simp [hne]; exact ⟨rfl, rfl⟩, hb⟩


theorem refTexts_n (b : Nat) (s : ByteArray) (bd : Bool) (w : World) (hs : w.heap[b]? = some (.cells #[.string s, .bool bd] 61 (0, 0))) (hg : bd = true → s.data.toList = []) (hsz : s.size ≤ 100000000) (xs : List ByteArray) (rs : ByteArray) (bd1 : Bool) (hq : textsR ⟨s.data.toList, bd⟩ = (xs.map fun x => x.data.toList, ⟨rs.data.toList, bd1⟩)) (hne : xs.length ≠ 0) :
    Calls Tryd.prog 39 #[.pointer (some ⟨b, 0, none⟩)] w fun e w' => ∃ g cap cur, e = .returned (.slice (some ⟨g, 0, none⟩) xs.length cap) ∧ (∀ (j : Nat) (x : Value), (xs.map fun x => Value.string x)[j]? = some x → cur[j]? = some x) ∧ Kn [b] w w' [(g, .cells cur 9 (0, 0)), (b, .cells #[.string rs, .bool bd1] 61 (0, 0))] := by
  refine (refTexts_q b s bd w hs hg hsz _ rs bd1 hq).mono ?_
  rintro e w' ⟨v, rfl, hown, hb⟩
  obtain ⟨h1, ⟨rfl, h2⟩ | ⟨g, cap, cur, rfl, h3, h4, _, _, _, h5⟩⟩ := hown
  · exfalso; apply hne; simpa using h2
  · refine ⟨g, cap, cur, by simp, fun j x hx => ?_, hb.more h4 h3 (by have := lt_of_has hs; simp; omega)⟩
    have hx2 : (cur.toList.take (xs.length * 1))[j]? = some x := by
      have e : (xs.map fun x => Value.string x) = List.take (xs.length * 1) cur.toList := by simpa [List.map_map, Function.comp_def, ba_mk] using h5.symm
      rw [← e]; exact hx
    rw [List.getElem?_take] at hx2
    split at hx2
    · simpa using hx2
    · cases hx2
theorem refTexts_e (b : Nat) (s : ByteArray) (bd : Bool) (w : World) (hs : w.heap[b]? = some (.cells #[.string s, .bool bd] 61 (0, 0))) (hg : bd = true → s.data.toList = []) (hsz : s.size ≤ 100000000) (xs : List ByteArray) (rs : ByteArray) (bd1 : Bool) (hq : textsR ⟨s.data.toList, bd⟩ = (xs.map fun x => x.data.toList, ⟨rs.data.toList, bd1⟩)) (hne : xs.length = 0) :
    Calls Tryd.prog 39 #[.pointer (some ⟨b, 0, none⟩)] w fun e w' => ∃ ao cap, e = .returned (.slice ao 0 cap) ∧ Kn [b] w w' [(b, .cells #[.string rs, .bool bd1] 61 (0, 0))] := by
  refine (refTexts_q b s bd w hs hg hsz _ rs bd1 hq).mono ?_
  rintro e w' ⟨v, rfl, hown, hb⟩
  obtain ⟨h1, ⟨rfl, h2⟩ | ⟨g, cap, cur, rfl, h3, h4, _, _, _, h5⟩⟩ := hown
  · exact ⟨_, _, rfl, hb⟩
  · exact ⟨_, _, by simp [hne]; exact ⟨rfl, rfl⟩, hb⟩

theorem wOpen_ex (s : ByteArray) (w : World) :
    Calls Tryd.prog 21 #[.string s] w fun e w' => ∃ b, e = .returned (.pointer (some ⟨b, 0, none⟩)) ∧ Kn [] w w' [(b, .cells #[.string s, .bool false] 54 (0, 0))] :=
  (Open_any s w).mono fun e w' h => ⟨_, h⟩

theorem close_shrink (e : UInt8) (r : Rd) : (closeR e r).rest.length ≤ r.rest.length := by
  unfold closeR
  split
  · rename_i h; rw [h]; split
    · simp
    · simp [failR]
  · simp [failR]
theorem text_shrinkR (r : Rd) : (textR r).2.rest.length ≤ r.rest.length := by
  have h1 := num_shrink 58 0 r
  have h2 := close_shrink 44 ⟨(numR 58 0 r).2.rest.drop (numR 58 0 r).1.toNat, (numR 58 0 r).2.bad⟩
  simp only [List.length_drop] at h2
  unfold textR
  split
  · simp [failR]
  · split <;> (simp only; omega)
theorem loop_shrink {α : Type} {one : Rd → α × Rd} (ho : ∀ r, (one r).2.rest.length ≤ r.rest.length) : ∀ (n : Nat) (r : Rd), (loopR one n r).2.rest.length ≤ r.rest.length
  | 0, r => Nat.le_refl _
  | n + 1, r => by
    unfold loopR
    split
    · exact Nat.le_refl _
    · exact Nat.le_trans (loop_shrink ho n _) (ho r)
theorem items_shrink {α : Type} {one : Rd → α × Rd} (ho : ∀ r, (one r).2.rest.length ≤ r.rest.length) (r : Rd) : (itemsR one r).2.rest.length ≤ r.rest.length := by
  have h1 := num_shrink 91 0 r
  have h2 := loop_shrink ho (numR 91 0 r).1.toNat (numR 91 0 r).2
  have h3 := close_shrink 93 (loopR one (numR 91 0 r).1.toNat (numR 91 0 r).2).2
  unfold itemsR
  split <;> (simp only; omega)

end Go.Proofs.YtedifjdhdhcbhaaDoor
