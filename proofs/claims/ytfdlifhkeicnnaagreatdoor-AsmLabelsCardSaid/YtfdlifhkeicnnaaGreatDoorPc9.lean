/- Lemmas and walks for the law of this seat (part 9). -/
import Derived.Test.YtfdlifhkeicnnaaGreatDoorPc8
import Derived.Test.YtfdlifhkeicnnaaGreatDoorProg
import Derived.WalkKit
import Derived.Handy
import Derived.Deep.Light
import Derived.WalkSmall
import Derived.StillTailTactics
import Derived.Lib.Hide
namespace Go.Proofs.YtfdlifhkeicnnaaGreatDoor
open Go Go.RowKit
set_option linter.unusedSimpArgs false
set_option linter.unusedVariables false

def TabA (w : World) : Prop := Tab w ∧ TabI w ∧ Lib.TabIs Tryz.prog w "strings.asciiSpace" .u8 Lib.asciiSpaceTab
theorem gAsc : Tryz.prog.globalNamed "strings.asciiSpace" = some 3 := by kernel_rfl
theorem TabA.low {w w' : World} (h : TabA w) (hb : Below 14 w w') : TabA w' := by
  obtain ⟨h1, h2, h3⟩ := h
  refine ⟨h1.same hb.size fun g hg => hb.block g hg, h2.below hb (by decide), ?_⟩
  unfold Lib.TabIs at h3 ⊢
  rw [var_same gAsc (hb.block _ (by decide))]; exact h3
theorem TabA.ext {w w' : World} (h : TabA w) (hb : Below w.heap.size w w') : TabA w' := h.low ⟨hb.os, hb.tape, hb.output, hb.size, fun b hx => hb.block b (Nat.lt_of_lt_of_le hx h.1.1)⟩
theorem TabA.kn {X : List Nat} {w w' : World} {L : List (Nat × Obj)} (h : TabA w) (k : Kn X w w' L) (hx : ∀ x ∈ X, 14 ≤ x) : TabA w' :=
  h.low ⟨k.os, k.tape, k.output, k.size, fun b hb => k.block b (Nat.lt_of_lt_of_le hb h.1.1) fun hm => by have := hx b hm; omega⟩
theorem TabA.t {w : World} (h : TabA w) : Tab w := h.1
theorem TabA.i {w : World} (h : TabA w) : TabI w := h.2.1
def callL : List ByteArray := [⟨#[101, 120, 105, 116]⟩, ⟨#[102, 111, 114, 107]⟩, ⟨#[101, 120, 101, 99]⟩, ⟨#[119, 97, 105, 116]⟩, ⟨#[103, 101, 116, 112, 105, 100]⟩, ⟨#[103, 101, 116, 112, 112, 105, 100]⟩, ⟨#[107, 105, 108, 108]⟩, ⟨#[115, 105, 103, 97, 99, 116]⟩, ⟨#[115, 105, 103, 109, 97, 115, 107]⟩, ⟨#[115, 105, 103, 114, 101, 116, 117, 114, 110]⟩, ⟨#[112, 97, 117, 115, 101]⟩, ⟨#[97, 108, 97, 114, 109]⟩, ⟨#[111, 112, 101, 110]⟩, ⟨#[99, 108, 111, 115, 101]⟩, ⟨#[114, 101, 97, 100]⟩, ⟨#[119, 114, 105, 116, 101]⟩, ⟨#[115, 101, 101, 107]⟩, ⟨#[100, 117, 112, 50]⟩, ⟨#[112, 105, 112, 101]⟩, ⟨#[115, 116, 97, 116]⟩, ⟨#[109, 107, 100, 105, 114]⟩, ⟨#[114, 109, 100, 105, 114]⟩, ⟨#[117, 110, 108, 105, 110, 107]⟩, ⟨#[114, 101, 110, 97, 109, 101]⟩, ⟨#[99, 104, 100, 105, 114]⟩, ⟨#[108, 105, 115, 116]⟩, ⟨#[109, 109, 97, 112]⟩, ⟨#[109, 117, 110, 109, 97, 112]⟩, ⟨#[115, 101, 116, 112, 103, 105, 100]⟩, ⟨#[116, 99, 115, 101, 116, 112, 103, 114, 112]⟩, ⟨#[116, 105, 109, 101]⟩, ⟨#[116, 114, 117, 110, 99, 97, 116, 101]⟩, ⟨#[121, 105, 101, 108, 100]⟩]
def callV : Array Value := (callL.map Value.string).toArray
def callI (s : ByteArray) : Int := Lib.idxOfS callL s
theorem idxFromS_bd (x : ByteArray) : ∀ (zs : List ByteArray) (i : Nat), Lib.idxFromS zs x i = -1 ∨ ((i : Int) ≤ Lib.idxFromS zs x i ∧ Lib.idxFromS zs x i < i + zs.length)
  | [], i => .inl rfl
  | z :: zs, i => by
    unfold Lib.idxFromS
    split
    · right; simp only [List.length_cons]; omega
    · rcases idxFromS_bd x zs (i + 1) with h | h
      · exact .inl h
      · right; simp only [List.length_cons]; omega
theorem callI_lt (s : ByteArray) : -1 ≤ callI s ∧ callI s < 33 := by
  rcases idxFromS_bd s callL 0 with h | h
  · rw [show callI s = -1 from h]; omega
  · have e : (callL.length : Int) = 33 := rfl
    rw [e] at h
    exact ⟨by have := h.1; unfold callI Lib.idxOfS; omega, by have := h.2; unfold callI Lib.idxOfS; omega⟩
def callB (s : Bytes) : Option Nat := if 0 ≤ callI ⟨s.toArray⟩ then some ((callI ⟨s.toArray⟩).toNat + 1) else none
theorem fields_call : Lib.fields (⟨#[101, 120, 105, 116, 32, 102, 111, 114, 107, 32, 101, 120, 101, 99, 32, 119, 97, 105, 116, 32, 103, 101, 116, 112, 105, 100, 32, 103, 101, 116, 112, 112, 105, 100, 32, 107, 105, 108, 108, 32, 115, 105, 103, 97, 99, 116, 32, 115, 105, 103, 109, 97, 115, 107, 32, 115, 105, 103, 114, 101, 116, 117, 114, 110, 32, 112, 97, 117, 115, 101, 32, 97, 108, 97, 114, 109, 32, 111, 112, 101, 110, 32, 99, 108, 111, 115, 101, 32, 114, 101, 97, 100, 32, 119, 114, 105, 116, 101, 32, 115, 101, 101, 107, 32, 100, 117, 112, 50, 32, 112, 105, 112, 101, 32, 115, 116, 97, 116, 32, 109, 107, 100, 105, 114, 32, 114, 109, 100, 105, 114, 32, 117, 110, 108, 105, 110, 107, 32, 114, 101, 110, 97, 109, 101, 32, 99, 104, 100, 105, 114, 32, 108, 105, 115, 116, 32, 109, 109, 97, 112, 32, 109, 117, 110, 109, 97, 112, 32, 115, 101, 116, 112, 103, 105, 100, 32, 116, 99, 115, 101, 116, 112, 103, 114, 112, 32, 116, 105, 109, 101, 32, 116, 114, 117, 110, 99, 97, 116, 101, 32, 121, 105, 101, 108, 100]⟩ : ByteArray).data.toList = callL.map (·.data.toList) := by decide +kernel
theorem Fields_call (w : World) (hT : TabA w) : Calls Tryz.prog 50 #[.string ⟨#[101, 120, 105, 116, 32, 102, 111, 114, 107, 32, 101, 120, 101, 99, 32, 119, 97, 105, 116, 32, 103, 101, 116, 112, 105, 100, 32, 103, 101, 116, 112, 112, 105, 100, 32, 107, 105, 108, 108, 32, 115, 105, 103, 97, 99, 116, 32, 115, 105, 103, 109, 97, 115, 107, 32, 115, 105, 103, 114, 101, 116, 117, 114, 110, 32, 112, 97, 117, 115, 101, 32, 97, 108, 97, 114, 109, 32, 111, 112, 101, 110, 32, 99, 108, 111, 115, 101, 32, 114, 101, 97, 100, 32, 119, 114, 105, 116, 101, 32, 115, 101, 101, 107, 32, 100, 117, 112, 50, 32, 112, 105, 112, 101, 32, 115, 116, 97, 116, 32, 109, 107, 100, 105, 114, 32, 114, 109, 100, 105, 114, 32, 117, 110, 108, 105, 110, 107, 32, 114, 101, 110, 97, 109, 101, 32, 99, 104, 100, 105, 114, 32, 108, 105, 115, 116, 32, 109, 109, 97, 112, 32, 109, 117, 110, 109, 97, 112, 32, 115, 101, 116, 112, 103, 105, 100, 32, 116, 99, 115, 101, 116, 112, 103, 114, 112, 32, 116, 105, 109, 101, 32, 116, 114, 117, 110, 99, 97, 116, 101, 32, 121, 105, 101, 108, 100]⟩] w fun e w' => ∃ b, e = .returned (.slice (some ⟨b, 0, none⟩) 33 33) ∧ Kn [] w w' [(b, .cells callV 9 (0, 0))] := by
  have h := Tryz.strings_Fields_laid ⟨#[101, 120, 105, 116, 32, 102, 111, 114, 107, 32, 101, 120, 101, 99, 32, 119, 97, 105, 116, 32, 103, 101, 116, 112, 105, 100, 32, 103, 101, 116, 112, 112, 105, 100, 32, 107, 105, 108, 108, 32, 115, 105, 103, 97, 99, 116, 32, 115, 105, 103, 109, 97, 115, 107, 32, 115, 105, 103, 114, 101, 116, 117, 114, 110, 32, 112, 97, 117, 115, 101, 32, 97, 108, 97, 114, 109, 32, 111, 112, 101, 110, 32, 99, 108, 111, 115, 101, 32, 114, 101, 97, 100, 32, 119, 114, 105, 116, 101, 32, 115, 101, 101, 107, 32, 100, 117, 112, 50, 32, 112, 105, 112, 101, 32, 115, 116, 97, 116, 32, 109, 107, 100, 105, 114, 32, 114, 109, 100, 105, 114, 32, 117, 110, 108, 105, 110, 107, 32, 114, 101, 110, 97, 109, 101, 32, 99, 104, 100, 105, 114, 32, 108, 105, 115, 116, 32, 109, 109, 97, 112, 32, 109, 117, 110, 109, 97, 112, 32, 115, 101, 116, 112, 103, 105, 100, 32, 116, 99, 115, 101, 116, 112, 103, 114, 112, 32, 116, 105, 109, 101, 32, 116, 114, 117, 110, 99, 97, 116, 101, 32, 121, 105, 101, 108, 100]⟩ w (by decide +kernel) (ascii_of_all (by decide +kernel)) hT.2.2
  have e1 : (callL.map (·.data.toList)).map (fun l => Value.string ⟨l.toArray⟩) = callL.map Value.string := by
    rw [List.map_map]; exact List.map_congr_left fun s _ => by simp [toList_mk]
  rw [fields_call, e1] at h
  refine h.mono fun e w' ⟨h1, h2⟩ => ⟨w.heap.size, h1, ?_⟩
  have := Kn.refl [] w
  rw [h2]
  exact kn_here
theorem Index_call (b : Nat) (s : ByteArray) (w : World) (h : w.heap[b]? = some (.cells callV 9 (0, 0))) : Calls Tryz.prog 51 #[.slice (some ⟨b, 0, none⟩) 33 33, .string s] w fun e w' => e = .returned (.int .i64 (callI s)) ∧ w = w' := by
  refine (Tryz.slices_Index_string b 0 33 33 callL s w (by decide) (by decide) fun j hj => ?_).mono fun e w' ⟨h1, h2⟩ => ⟨h1, h2.symm⟩
  rw [World.cell?, h]
  simp only [Nat.zero_add, callV, List.getElem?_toArray, List.getElem?_map, List.getD_eq_getElem?_getD, List.getElem?_eq_getElem hj, Option.map_some, Option.getD_some, Option.isSome_none, Bool.false_eq_true, if_false]
set_option maxRecDepth 20000 in
set_option maxHeartbeats 4000000 in
theorem Call_is (s : ByteArray) (w : World) (hT : TabA w) : Calls Tryz.prog 22 #[.string s] w fun e w' => e = .returned (.tuple #[.int .i64 (callI s + 1), .bool (decide (0 ≤ callI s))]) ∧ Below w.heap.size w w' := by
  have hc := callI_lt s
  obtain ⟨n, hn⟩ : ∃ n, callI s = n := ⟨_, rfl⟩
  have hI := fun b w h => Index_call b s w h
  rw [hn] at hc hI ⊢
  have s1 : IntKind.i64.wrap (n + 1) = n + 1 := by rw [IntWalk.i64_in _ (by omega)]
  have hL : Kn [] w w [] := Kn.refl [] w; (try simp only [kfb] at hL); have hF := hL.facts; (try simp only [Facts, Dist, kd] at hF); go_enter Tryz.func22, Tryz.ntmps22
  go_wp2_with (first | ((with_reducible refine kn_list_set ?_); (try clear hF); clear hL; intro W hL; (try simp only [kfb] at hL); have hF := hL.facts; (try simp only [Facts, Dist, kd] at hF)) | (go_at_call 50; refine kn_calls ?_; (try clear hF); clear hL; intro W hL; (try simp only [kfb] at hL); have hF := hL.facts; (try simp only [Facts, Dist, kd] at hF); (((with_reducible refine (Fields_call _ (hT.kn hL (by simp))).mono ?_))); rintro e W ⟨b, rfl, hb⟩; replace hL := hL.join hb; clear hb; (try clear hF); (try simp only [kfb] at hL); have hF := hL.facts; (try simp only [Facts, Dist, kd] at hF)) | (go_at_call 51; refine kn_calls ?_; (try clear hF); clear hL; intro W hL; (try simp only [kfb] at hL); have hF := hL.facts; (try simp only [Facts, Dist, kd] at hF); (((with_reducible refine (hI _ _ (hL.has _ List.mem_cons_self)).mono ?_))); rintro e w' ⟨rfl, rfl⟩))
  (try simp only [Exit.inBlock, Exit.then]); refine bodyPost_ret (by simp [results, Tryz.results22, go_sem, *]; try rfl) rfl ?_
  exact ⟨rfl, hL.below0⟩
noncomputable def unqB (s : Bytes) : Option Bytes := open Classical in if h : ∃ o, quoteB o = s then some h.choose else none
def findN (s : Bytes) : Option Nat := if 0 ≤ findI ⟨s.toArray⟩ then some (findI ⟨s.toArray⟩).toNat else none
noncomputable def OO : Oth := ⟨canon, unqB, findN, fun n => (form n).toNat, callB, fun n a b c => valid n a b c, fun n a b c => (encS n a b c).data.toList⟩
theorem unq_some {s o : Bytes} (h : quoteB o = s) (hu : ∀ d, quoteB d = s → d = o) : unqB s = some o := by
  unfold unqB
  rw [dif_pos ⟨o, h⟩]
  exact congrArg some (hu _ (Exists.choose_spec (⟨o, h⟩ : ∃ o, quoteB o = s)))
theorem unq_none {s : Bytes} (hu : ∀ d, quoteB d ≠ s) : unqB s = none := by
  unfold unqB
  rw [dif_neg (fun ⟨o, h⟩ => hu o h)]

end Go.Proofs.YtfdlifhkeicnnaaGreatDoor
