import Derived.Test.YtedifjdhdhcbhaaDoorProg
import Derived.WalkKit
import Derived.Handy
import Derived.Deep.Light
import Derived.WalkSmall
import Derived.StillTailTactics
import Derived.Lib.Hide
import Derived.Test.YtedifjdhdhcbhaaDoorW0
import Derived.Test.YtedifjdhdhcbhaaDoorIt
import Derived.Test.YtedifjdhdhcbhaaDoorW10
namespace Go.Proofs.YtedifjdhdhcbhaaDoor
open Go Go.RowKit
set_option linter.unusedSimpArgs false
set_option linter.unusedVariables false

theorem row_two {W : World} {g cap : Nat} {x y : Value} {T : TypeId} {fr : Nat × Nat} (h : W.heap[g]? = some (.cells #[x, y] T fr)) : Row W (.slice (some ⟨g, 0, none⟩) 2 cap) [x, y] := by
  refine ⟨_, cap, rfl, fun j v hv => ⟨g, 0, rfl, ?_⟩⟩
  match j, hv with
  | 0, hv => simp at hv; subst hv; simp [World.cell?, h]
  | 1, hv => simp at hv; subst hv; simp [World.cell?, h]
theorem six {w W : World} {L : List (Nat × Obj)} {p : Nat × Obj} (hT : Tab w) (hL : Kn [] w W L) (hm : p ∈ L) : 6 ≤ p.1 := by
  have := hL.own p hm
  have := hT.1
  simp at *
  omega

theorem cNum0 (w : World) (hT : Tab w) : Calls Tryd.prog 11 #[.int .i64 0] w fun e w' => e = .returned (.string ⟨#[48, 59]⟩) ∧ Below w.heap.size w w' := by
  have h := Num_enc 0 (by decide) (by decide) w hT
  have e : encNum 0 = [48, 59] := by simp [encNum, encInt, encT, encText, Lib.itoa, Lib.decDigits] <;> rfl
  rw [e] at h
  exact h

theorem cNum300 (w : World) (hT : Tab w) : Calls Tryd.prog 11 #[.int .i64 300] w fun e w' => e = .returned (.string ⟨#[51, 48, 48, 59]⟩) ∧ Below w.heap.size w w' := by
  have h := Num_enc 300 (by decide) (by decide) w hT
  have e : encNum 300 = [51, 48, 48, 59] := by simp [encNum, encInt, encT, encText, Lib.itoa, Lib.decDigits] <;> rfl
  rw [e] at h
  exact h

theorem cNumM (w : World) (hT : Tab w) : Calls Tryd.prog 11 #[.int .i64 (-1)] w fun e w' => e = .returned (.string ⟨#[]⟩) ∧ Below w.heap.size w w' := by
  have h := Num_enc (-1) (by decide) (by decide) w hT
  have e : encNum (-1) = [] := by simp [encNum, encInt, encT, encText, Lib.itoa, Lib.decDigits] <;> rfl
  rw [e] at h
  exact h

theorem cIntM7 (w : World) (hT : Tab w) : Calls Tryd.prog 13 #[.int .i64 (-7)] w fun e w' => e = .returned (.string ⟨#[45, 55, 59]⟩) ∧ Below w.heap.size w w' := by
  have h := Int_enc (-7) (by decide) (by decide) w hT
  have e : encInt (-7) = [45, 55, 59] := by simp [encNum, encInt, encT, encText, Lib.itoa, Lib.decDigits] <;> rfl
  rw [e] at h
  exact h

theorem cInt7 (w : World) (hT : Tab w) : Calls Tryd.prog 13 #[.int .i64 7] w fun e w' => e = .returned (.string ⟨#[55, 59]⟩) ∧ Below w.heap.size w w' := by
  have h := Int_enc 7 (by decide) (by decide) w hT
  have e : encInt 7 = [55, 59] := by simp [encNum, encInt, encT, encText, Lib.itoa, Lib.decDigits] <;> rfl
  rw [e] at h
  exact h

theorem cText (w : World) (hT : Tab w) : Calls Tryd.prog 15 #[.string ⟨#[97, 44, 98]⟩] w fun e w' => e = .returned (.string ⟨#[51, 58, 97, 44, 98, 44]⟩) ∧ Below w.heap.size w w' := by
  have h := Text_enc ⟨#[97, 44, 98]⟩ (by decide) w hT
  have e : encT ⟨#[97, 44, 98]⟩ = [51, 58, 97, 44, 98, 44] := by simp [encNum, encInt, encT, encText, Lib.itoa, Lib.decDigits] <;> rfl
  rw [e] at h
  exact h

theorem cNums (w : World) (hT : Tab w) (v : Value) (hv : Row w v [.int .i64 1, .int .i64 (-1)]) : Calls Tryd.prog 17 #[v] w fun e w' => e = .returned (.string ⟨#[50, 91, 49, 59, 45, 49, 59, 93]⟩) ∧ Below w.heap.size w w' := by
  have h := Nums_enc [1, -1] (by unfold minInt maxInt; intro n hn; simp at hn; omega) v w hT hv (by decide) (by simp [encInt, Lib.itoa, Lib.decDigits])
  have e : encNums [1, -1] = [50, 91, 49, 59, 45, 49, 59, 93] := by simp [encNums, encInt, Lib.itoa, Lib.decDigits] <;> rfl
  rw [e] at h
  exact h
theorem cTexts (w : World) (hT : Tab w) : Calls Tryd.prog 19 #[.slice none 0 0] w fun e w' => e = .returned (.string ⟨#[48, 91, 93]⟩) ∧ Below w.heap.size w w' := by
  have h := Texts_enc [] (by simp) (.slice none 0 0) w hT ⟨none, 0, rfl, by simp⟩ (by decide) (by decide)
  have e : (Lib.itoa ([] : List ByteArray).length ++ 91 :: (([] : List ByteArray).flatMap encT ++ [93])) = [48, 91, 93] := by simp [Lib.itoa, Lib.decDigits] <;> rfl
  rw [e] at h
  exact h
theorem c007 : natR ⟨(⟨#[48, 48, 55, 59]⟩ : ByteArray).data.toList, false⟩ = (0, ⟨(⟨#[]⟩ : ByteArray).data.toList, true⟩) := by
  have hc : canon [48, 48, 55] = none := by
    cases h : canon [48, 48, 55] with
    | none => rfl
    | some n =>
      exfalso
      have h1 := canon_some h
      have h2 := h1.1
      unfold canon at h
      have ha : Lib.atoiAll [48, 48, 55] = .ok 7 := by decide
      rw [ha] at h
      simp [Lib.itoa, Lib.decDigits] at h
  simp [natR, numR, Lib.indexByte, hc, failR]

end Go.Proofs.YtedifjdhdhcbhaaDoor
