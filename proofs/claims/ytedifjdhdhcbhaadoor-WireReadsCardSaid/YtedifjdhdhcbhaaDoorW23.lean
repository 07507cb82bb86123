import Derived.Test.YtedifjdhdhcbhaaDoorProg
import Derived.WalkKit
import Derived.Handy
import Derived.Deep.Light
import Derived.WalkSmall
import Derived.StillTailTactics
import Derived.Lib.Hide
import Derived.Test.YtedifjdhdhcbhaaDoorW0
import Derived.Test.YtedifjdhdhcbhaaDoorIt
import Derived.Test.YtedifjdhdhcbhaaDoorW22
namespace Go.Proofs.YtedifjdhdhcbhaaDoor
open Go Go.RowKit
set_option linter.unusedSimpArgs false
set_option linter.unusedVariables false

theorem Kn.more {X : List Nat} {w0 w : World} {L : List (Nat × Obj)} {g : Nat} {o : Obj} (h : Kn X w0 w L) (hg : w.heap[g]? = some o) (hn : w0.heap.size ≤ g) (hd : g ∉ L.map (·.1)) : Kn X w0 w ((g, o) :: L) :=
  ⟨h.os, h.tape, h.output, h.size, h.block, fun p hp => by rcases List.mem_cons.1 hp with rfl | hp; exact .inl hn; exact h.own p hp, fun p hp => by rcases List.mem_cons.1 hp with rfl | hp; exact hg; exact h.has p hp, by rw [List.map_cons, List.nodup_cons]; exact ⟨hd, h.nd⟩⟩
theorem row_none {w : World} {ao : Option Addr} {cap : Nat} {xs : List Value} (h : xs = []) : Row w (.slice ao 0 cap) xs := by subst h; exact ⟨ao, cap, rfl, fun j x hx => by simp at hx⟩
theorem row_blk {w : World} {g n cap : Nat} {xs : List Value} {cur : Array Value} {T : TypeId} {fr : Nat × Nat} (h : w.heap[g]? = some (.cells cur T fr)) (hc : ∀ (j : Nat) (x : Value), xs[j]? = some x → cur[j]? = some x) (hn : xs.length = n) : Row w (.slice (some ⟨g, 0, none⟩) n cap) xs := by
  subst hn
  refine ⟨_, cap, rfl, fun j x hx => ⟨g, 0, rfl, ?_⟩⟩
  have := hc j x hx
  simp [World.cell?, h, this]

theorem Nums_n (b : Nat) (s : ByteArray) (bd : Bool) (w : World) (hT : Tab w) (hb6 : 6 ≤ b) (hs : w.heap[b]? = some (.cells #[.string s, .bool bd] 54 (0, 0))) (hsz : s.size ≤ 100000000) (xs : List Int) (rs : ByteArray) (bd1 : Bool) (hq : numsR ⟨s.data.toList, bd⟩ = (xs, ⟨rs.data.toList, bd1⟩)) (hne : xs.length ≠ 0) :
    Calls Tryd.prog 26 #[.pointer (some ⟨b, 0, none⟩)] w fun e w' => ∃ g cap cur, e = .returned (.slice (some ⟨g, 0, none⟩) xs.length cap) ∧ (∀ (j : Nat) (x : Value), (xs.map fun x => Value.int .i64 x)[j]? = some x → cur[j]? = some x) ∧ Kn [b] w w' [(g, .cells cur 3 (0, 0)), (b, .cells #[.string rs, .bool bd1] 54 (0, 0))] := by
  refine (Nums_q b s bd w hT hb6 hs hsz _ rs bd1 hq).mono ?_
  rintro e w' ⟨v, rfl, hown, hb⟩
  obtain ⟨h1, ⟨rfl, h2⟩ | ⟨g, cap, cur, rfl, h3, h4, _, _, _, h5⟩⟩ := hown
  · exfalso; apply hne; simpa using h2
  · refine ⟨g, cap, cur, by simp, fun j x hx => ?_, hb.more h4 h3 (by have := lt_of_has hs; simp; omega)⟩
    have hx2 : (cur.toList.take (xs.length * 1))[j]? = some x := by
      have e : (xs.map fun x => Value.int .i64 x) = List.take (xs.length * 1) cur.toList := by simpa [List.map_map, Function.comp_def, ba_mk] using h5.symm
      rw [← e]; exact hx
    rw [List.getElem?_take] at hx2
    split at hx2
    · simpa using hx2
    · cases hx2
theorem Nums_e (b : Nat) (s : ByteArray) (bd : Bool) (w : World) (hT : Tab w) (hb6 : 6 ≤ b) (hs : w.heap[b]? = some (.cells #[.string s, .bool bd] 54 (0, 0))) (hsz : s.size ≤ 100000000) (xs : List Int) (rs : ByteArray) (bd1 : Bool) (hq : numsR ⟨s.data.toList, bd⟩ = (xs, ⟨rs.data.toList, bd1⟩)) (hne : xs.length = 0) :
    Calls Tryd.prog 26 #[.pointer (some ⟨b, 0, none⟩)] w fun e w' => ∃ ao cap, e = .returned (.slice ao 0 cap) ∧ Kn [b] w w' [(b, .cells #[.string rs, .bool bd1] 54 (0, 0))] := by
  refine (Nums_q b s bd w hT hb6 hs hsz _ rs bd1 hq).mono ?_
  rintro e w' ⟨v, rfl, hown, hb⟩
  obtain ⟨h1, ⟨rfl, h2⟩ | ⟨g, cap, cur, rfl, h3, h4, _, _, _, h5⟩⟩ := hown
  · exact ⟨_, _, rfl, hb⟩
  · exact ⟨_, _, by simp [hne]; exact ⟨rfl, rfl⟩, hb⟩


theorem Texts_n (b : Nat) (s : ByteArray) (bd : Bool) (w : World) (hT : Tab w) (hb6 : 6 ≤ b) (hs : w.heap[b]? = some (.cells #[.string s, .bool bd] 54 (0, 0))) (hsz : s.size ≤ 100000000) (xs : List ByteArray) (rs : ByteArray) (bd1 : Bool) (hq : textsR ⟨s.data.toList, bd⟩ = (xs.map fun x => x.data.toList, ⟨rs.data.toList, bd1⟩)) (hne : xs.length ≠ 0) :
    Calls Tryd.prog 27 #[.pointer (some ⟨b, 0, none⟩)] w fun e w' => ∃ g cap cur, e = .returned (.slice (some ⟨g, 0, none⟩) xs.length cap) ∧ (∀ (j : Nat) (x : Value), (xs.map fun x => Value.string x)[j]? = some x → cur[j]? = some x) ∧ Kn [b] w w' [(g, .cells cur 9 (0, 0)), (b, .cells #[.string rs, .bool bd1] 54 (0, 0))] := by
  refine (Texts_q b s bd w hT hb6 hs hsz _ rs bd1 hq).mono ?_
  rintro e w' ⟨v, rfl, hown, hb⟩
  obtain ⟨h1, ⟨rfl, h2⟩ | ⟨g, cap, cur, rfl, h3, h4, _, _, _, h5⟩⟩ := hown
  · exfalso; apply hne; simpa using h2
  · refine ⟨g, cap, cur, by simp, fun j x hx => ?_, hb.more h4 h3 (by have := lt_of_has hs; simp; omega)⟩
    have hx2 : (cur.toList.take (xs.length * 1))[j]? = some x := by
      have e : (xs.map fun x => Value.string x) = List.take (xs.length * 1) cur.toList := by simpa [List.map_map, Function.comp_def, ba_mk] using h5.symm
      rw [← e]; exact hx
    rw [List.getElem?_take] at hx2
    split at hx2
    · simpa using hx2
    · cases hx2
theorem Texts_e (b : Nat) (s : ByteArray) (bd : Bool) (w : World) (hT : Tab w) (hb6 : 6 ≤ b) (hs : w.heap[b]? = some (.cells #[.string s, .bool bd] 54 (0, 0))) (hsz : s.size ≤ 100000000) (xs : List ByteArray) (rs : ByteArray) (bd1 : Bool) (hq : textsR ⟨s.data.toList, bd⟩ = (xs.map fun x => x.data.toList, ⟨rs.data.toList, bd1⟩)) (hne : xs.length = 0) :
    Calls Tryd.prog 27 #[.pointer (some ⟨b, 0, none⟩)] w fun e w' => ∃ ao cap, e = .returned (.slice ao 0 cap) ∧ Kn [b] w w' [(b, .cells #[.string rs, .bool bd1] 54 (0, 0))] := by
  refine (Texts_q b s bd w hT hb6 hs hsz _ rs bd1 hq).mono ?_
  rintro e w' ⟨v, rfl, hown, hb⟩
  obtain ⟨h1, ⟨rfl, h2⟩ | ⟨g, cap, cur, rfl, h3, h4, _, _, _, h5⟩⟩ := hown
  · exact ⟨_, _, rfl, hb⟩
  · exact ⟨_, _, by simp [hne]; exact ⟨rfl, rfl⟩, hb⟩

end Go.Proofs.YtedifjdhdhcbhaaDoor
