/- Lemmas and walks for the law LawTells (part 11). -/
import Derived.Test.YtfdlifhkeicnnaaGreatDoorWPt10
import Derived.Test.YtfdlifhkeicnnaaGreatDoorProg
import Derived.WalkKit
import Derived.Handy
import Derived.Deep.Light
import Derived.WalkSmall
import Derived.StillTailTactics
import Derived.Lib.Hide
import Derived.Laws.EntriesVeiled
set_option maxRecDepth 20000
set_option maxHeartbeats 4000000
set_option linter.unusedVariables false
set_option linter.unusedSimpArgs false
namespace Go.Proofs.YtfdlifhkeicnnaaGreatDoor
open Go Go.RowKit
theorem under_dirs : Tryz.prog.underlying 131 = some (.map 9 130) := Tryz.underlying131
theorem str_ne {a b : ByteArray} (h : (a.data.toList == b.data.toList) = false) : Value.string a ≠ Value.string b := by
 intro e
 injection e with e
 subst e
 simp at h
theorem zeroF (w : World) : (zeroValue 130).run Tryz.prog w = .ok .nilFunc w := by kernel_rfl
theorem directive_0 (ab xg xo : Nat) (w : World) (hx1 : w.cell? ⟨xg, xo + 1, none⟩ = some (Value.string ⟨#[46, 98, 121, 116, 101]⟩)) : Calls Tryz.prog 63 #[.pointer (some ⟨ab, 0, none⟩), .pointer (some ⟨xg, xo, none⟩)] w fun e w' => ∃ b6 b3, e = .returned (.func (.func 99) #[] #[.pointer (some ⟨b6, 0, none⟩), .pointer (some ⟨b3, 0, none⟩)]) ∧ Kn [] w w' [(b6, .cells #[Value.func (.func 95) #[.pointer (some ⟨ab, 0, none⟩)] #[]] 130 (0, 0)), (b3, .cells #[.pointer (some ⟨xg, xo, none⟩)] 66 (0, 0))] := by
 have hmf : ∀ (fn : Fn) (first cap : Array Value) (w : World), (Instr.makeFunc fn first cap).run Tryz.prog w = .ok (.func fn first cap) w := fun _ _ _ _ => rfl
 have hmm := @run_makeMap Tryz.prog
 have hM := MapV.nil (P := Tryz.prog) (k := 9)
 have l1 := cell_lt hx1
 have hL : Kn [] w w [] := Kn.refl [] w; have hF := hL.fx; go_enter Tryz.func63, Tryz.ntmps63
 go_wp2_with (first | ((with_reducible refine at_ins ?_); refine kL ?_; clear hF hL; intro W hL hF; go_loud (refine wpList_ins strlaw under_dirs hL 0 rfl hM (by simp [maxLen]) rfl _ _ _ rfl rfl (strkey _ (by decide)) (by intro p hp; (repeat' (first | exact absurd hp List.not_mem_nil | (rcases List.mem_cons.1 hp with rfl | hp))); all_goals exact str_ne (by decide)) ?_); intro W2 es2 ck2 hL2 hM2; clear hL hF hM; have hL := hL2; have hM := hM2; clear hL2 hM2; simp only [List.nil_append, List.cons_append] at hM; (simp only [ka, Act.eval] at hM); simp only [kfb] at hL; have hF := hL.fx) | (at_lookup; go_loud (refine wpList_hit rfl _ _ _ rfl strlaw under_dirs (hL.has _ List.mem_cons_self) hM rfl _ (Value.func (.func 95) #[.pointer (some ⟨ab, 0, none⟩)] #[]) rfl List.mem_cons_self ?_); simp only [if_true]))
 refine bodyPost_ret (by simp [results, Tryz.results63, go_sem, *]; try rfl) rfl ?_
 exact ⟨_, _, rfl, (kn_here (X := []) (w0 := w)).sub (by apply List.Sublist.cons_cons; apply List.Sublist.cons; exact List.Sublist.refl _)⟩
theorem directive_1 (ab xg xo : Nat) (w : World) (hx1 : w.cell? ⟨xg, xo + 1, none⟩ = some (Value.string ⟨#[46, 119, 111, 114, 100]⟩)) : Calls Tryz.prog 63 #[.pointer (some ⟨ab, 0, none⟩), .pointer (some ⟨xg, xo, none⟩)] w fun e w' => ∃ b6 b3, e = .returned (.func (.func 99) #[] #[.pointer (some ⟨b6, 0, none⟩), .pointer (some ⟨b3, 0, none⟩)]) ∧ Kn [] w w' [(b6, .cells #[Value.func (.func 96) #[.pointer (some ⟨ab, 0, none⟩)] #[]] 130 (0, 0)), (b3, .cells #[.pointer (some ⟨xg, xo, none⟩)] 66 (0, 0))] := by
 have hmf : ∀ (fn : Fn) (first cap : Array Value) (w : World), (Instr.makeFunc fn first cap).run Tryz.prog w = .ok (.func fn first cap) w := fun _ _ _ _ => rfl
 have hmm := @run_makeMap Tryz.prog
 have hM := MapV.nil (P := Tryz.prog) (k := 9)
 have l1 := cell_lt hx1
 have hL : Kn [] w w [] := Kn.refl [] w; have hF := hL.fx; go_enter Tryz.func63, Tryz.ntmps63
 go_wp2_with (first | ((with_reducible refine at_ins ?_); refine kL ?_; clear hF hL; intro W hL hF; go_loud (refine wpList_ins strlaw under_dirs hL 0 rfl hM (by simp [maxLen]) rfl _ _ _ rfl rfl (strkey _ (by decide)) (by intro p hp; (repeat' (first | exact absurd hp List.not_mem_nil | (rcases List.mem_cons.1 hp with rfl | hp))); all_goals exact str_ne (by decide)) ?_); intro W2 es2 ck2 hL2 hM2; clear hL hF hM; have hL := hL2; have hM := hM2; clear hL2 hM2; simp only [List.nil_append, List.cons_append] at hM; (simp only [ka, Act.eval] at hM); simp only [kfb] at hL; have hF := hL.fx) | (at_lookup; go_loud (refine wpList_hit rfl _ _ _ rfl strlaw under_dirs (hL.has _ List.mem_cons_self) hM rfl _ (Value.func (.func 96) #[.pointer (some ⟨ab, 0, none⟩)] #[]) rfl (List.mem_cons_of_mem _ List.mem_cons_self) ?_); simp only [if_true]))
 refine bodyPost_ret (by simp [results, Tryz.results63, go_sem, *]; try rfl) rfl ?_
 exact ⟨_, _, rfl, (kn_here (X := []) (w0 := w)).sub (by apply List.Sublist.cons_cons; apply List.Sublist.cons; exact List.Sublist.refl _)⟩
theorem directive_2 (ab xg xo : Nat) (w : World) (hx1 : w.cell? ⟨xg, xo + 1, none⟩ = some (Value.string ⟨#[46, 116, 101, 120, 116]⟩)) : Calls Tryz.prog 63 #[.pointer (some ⟨ab, 0, none⟩), .pointer (some ⟨xg, xo, none⟩)] w fun e w' => ∃ b6 b3, e = .returned (.func (.func 99) #[] #[.pointer (some ⟨b6, 0, none⟩), .pointer (some ⟨b3, 0, none⟩)]) ∧ Kn [] w w' [(b6, .cells #[Value.func (.func 97) #[.pointer (some ⟨ab, 0, none⟩)] #[]] 130 (0, 0)), (b3, .cells #[.pointer (some ⟨xg, xo, none⟩)] 66 (0, 0))] := by
 have hmf : ∀ (fn : Fn) (first cap : Array Value) (w : World), (Instr.makeFunc fn first cap).run Tryz.prog w = .ok (.func fn first cap) w := fun _ _ _ _ => rfl
 have hmm := @run_makeMap Tryz.prog
 have hM := MapV.nil (P := Tryz.prog) (k := 9)
 have l1 := cell_lt hx1
 have hL : Kn [] w w [] := Kn.refl [] w; have hF := hL.fx; go_enter Tryz.func63, Tryz.ntmps63
 go_wp2_with (first | ((with_reducible refine at_ins ?_); refine kL ?_; clear hF hL; intro W hL hF; go_loud (refine wpList_ins strlaw under_dirs hL 0 rfl hM (by simp [maxLen]) rfl _ _ _ rfl rfl (strkey _ (by decide)) (by intro p hp; (repeat' (first | exact absurd hp List.not_mem_nil | (rcases List.mem_cons.1 hp with rfl | hp))); all_goals exact str_ne (by decide)) ?_); intro W2 es2 ck2 hL2 hM2; clear hL hF hM; have hL := hL2; have hM := hM2; clear hL2 hM2; simp only [List.nil_append, List.cons_append] at hM; (simp only [ka, Act.eval] at hM); simp only [kfb] at hL; have hF := hL.fx) | (at_lookup; go_loud (refine wpList_hit rfl _ _ _ rfl strlaw under_dirs (hL.has _ List.mem_cons_self) hM rfl _ (Value.func (.func 97) #[.pointer (some ⟨ab, 0, none⟩)] #[]) rfl (List.mem_cons_of_mem _ (List.mem_cons_of_mem _ List.mem_cons_self)) ?_); simp only [if_true]))
 refine bodyPost_ret (by simp [results, Tryz.results63, go_sem, *]; try rfl) rfl ?_
 exact ⟨_, _, rfl, (kn_here (X := []) (w0 := w)).sub (by apply List.Sublist.cons_cons; apply List.Sublist.cons; exact List.Sublist.refl _)⟩
theorem directive_3 (ab xg xo : Nat) (w : World) (hx1 : w.cell? ⟨xg, xo + 1, none⟩ = some (Value.string ⟨#[46, 115, 112, 97, 99, 101]⟩)) : Calls Tryz.prog 63 #[.pointer (some ⟨ab, 0, none⟩), .pointer (some ⟨xg, xo, none⟩)] w fun e w' => ∃ b6 b3, e = .returned (.func (.func 99) #[] #[.pointer (some ⟨b6, 0, none⟩), .pointer (some ⟨b3, 0, none⟩)]) ∧ Kn [] w w' [(b6, .cells #[Value.func (.func 98) #[.pointer (some ⟨ab, 0, none⟩)] #[]] 130 (0, 0)), (b3, .cells #[.pointer (some ⟨xg, xo, none⟩)] 66 (0, 0))] := by
 have hmf : ∀ (fn : Fn) (first cap : Array Value) (w : World), (Instr.makeFunc fn first cap).run Tryz.prog w = .ok (.func fn first cap) w := fun _ _ _ _ => rfl
 have hmm := @run_makeMap Tryz.prog
 have hM := MapV.nil (P := Tryz.prog) (k := 9)
 have l1 := cell_lt hx1
 have hL : Kn [] w w [] := Kn.refl [] w; have hF := hL.fx; go_enter Tryz.func63, Tryz.ntmps63
 go_wp2_with (first | ((with_reducible refine at_ins ?_); refine kL ?_; clear hF hL; intro W hL hF; go_loud (refine wpList_ins strlaw under_dirs hL 0 rfl hM (by simp [maxLen]) rfl _ _ _ rfl rfl (strkey _ (by decide)) (by intro p hp; (repeat' (first | exact absurd hp List.not_mem_nil | (rcases List.mem_cons.1 hp with rfl | hp))); all_goals exact str_ne (by decide)) ?_); intro W2 es2 ck2 hL2 hM2; clear hL hF hM; have hL := hL2; have hM := hM2; clear hL2 hM2; simp only [List.nil_append, List.cons_append] at hM; (simp only [ka, Act.eval] at hM); simp only [kfb] at hL; have hF := hL.fx) | (at_lookup; go_loud (refine wpList_hit rfl _ _ _ rfl strlaw under_dirs (hL.has _ List.mem_cons_self) hM rfl _ (Value.func (.func 98) #[.pointer (some ⟨ab, 0, none⟩)] #[]) rfl (List.mem_cons_of_mem _ (List.mem_cons_of_mem _ (List.mem_cons_of_mem _ List.mem_cons_self))) ?_); simp only [if_true]))
 refine bodyPost_ret (by simp [results, Tryz.results63, go_sem, *]; try rfl) rfl ?_
 exact ⟨_, _, rfl, (kn_here (X := []) (w0 := w)).sub (by apply List.Sublist.cons_cons; apply List.Sublist.cons; exact List.Sublist.refl _)⟩
theorem directive_no (ab xg xo : Nat) (s : ByteArray) (hs : s.size ≤ 1000000) (w : World) (hx1 : w.cell? ⟨xg, xo + 1, none⟩ = some (.string s)) (hno : isDir s.data.toList = false) : Calls Tryz.prog 63 #[.pointer (some ⟨ab, 0, none⟩), .pointer (some ⟨xg, xo, none⟩)] w fun e w' => e = .returned .nilFunc ∧ Below w.heap.size w w' := by
 have hmf : ∀ (fn : Fn) (first cap : Array Value) (w : World), (Instr.makeFunc fn first cap).run Tryz.prog w = .ok (.func fn first cap) w := fun _ _ _ _ => rfl
 have hmm := @run_makeMap Tryz.prog
 have hM := MapV.nil (P := Tryz.prog) (k := 9)
 have l1 := cell_lt hx1
 have HNO := Lib.hid (show ∀ p ∈ ([(Value.string ⟨#[46, 98, 121, 116, 101]⟩, Value.func (.func 95) #[.pointer (some ⟨ab, 0, none⟩)] #[]), (Value.string ⟨#[46, 119, 111, 114, 100]⟩, Value.func (.func 96) #[.pointer (some ⟨ab, 0, none⟩)] #[]), (Value.string ⟨#[46, 116, 101, 120, 116]⟩, Value.func (.func 97) #[.pointer (some ⟨ab, 0, none⟩)] #[]), (Value.string ⟨#[46, 115, 112, 97, 99, 101]⟩, Value.func (.func 98) #[.pointer (some ⟨ab, 0, none⟩)] #[])] : List (Value × Value)), p.1 ≠ Value.string s from by
  intro p hp e
  simp only [isDir, Bool.or_eq_false_iff, beq_eq_false_iff_ne, ne_eq] at hno
  obtain ⟨⟨⟨h1, h2⟩, h3⟩, h4⟩ := hno
  (repeat' (first | exact absurd hp List.not_mem_nil | (rcases List.mem_cons.1 hp with rfl | hp)))
  all_goals (injection e with e; subst e; first | exact h1 rfl | exact h2 rfl | exact h3 rfl | exact h4 rfl))
 clear hno
 have hL : Kn [] w w [] := Kn.refl [] w; have hF := hL.fx; go_enter Tryz.func63, Tryz.ntmps63
 go_wp2_with (first | ((with_reducible refine at_ins ?_); refine kL ?_; clear hF hL; intro W hL hF; go_loud (refine wpList_ins strlaw under_dirs hL 0 rfl hM (by simp [maxLen]) rfl _ _ _ rfl rfl (strkey _ (by decide)) (by intro p hp; (repeat' (first | exact absurd hp List.not_mem_nil | (rcases List.mem_cons.1 hp with rfl | hp))); all_goals exact str_ne (by decide)) ?_); intro W2 es2 ck2 hL2 hM2; clear hL hF hM; have hL := hL2; have hM := hM2; clear hL2 hM2; simp only [List.nil_append, List.cons_append] at hM; (simp only [ka, Act.eval] at hM); simp only [kfb] at hL; have hF := hL.fx) | (at_lookup; go_loud (refine wpList_miss rfl _ _ _ rfl strlaw under_dirs _ zeroF (hL.has _ List.mem_cons_self) hM rfl _ _ rfl (strkey s hs) HNO.out ?_); simp only [if_true]))
 refine bodyPost_ret (by simp [results, Tryz.results63, go_sem, *]; try rfl) rfl ?_
 exact ⟨rfl, (kn_here (X := []) (w0 := w)).below0⟩
theorem clo_0 (ab xg xo b6 b3 : Nat) (last : Bool) (R : Rs Bytes) (w : World) (h6 : w.cell? ⟨b6, 0, none⟩ = some (Value.func (.func 95) #[.pointer (some ⟨ab, 0, none⟩)] #[])) (h3 : w.cell? ⟨b3, 0, none⟩ = some (.pointer (some ⟨xg, xo, none⟩))) (H : Hid (∀ W, Kn [] w W [] → Calls Tryz.prog 95 #[.pointer (some ⟨ab, 0, none⟩), .pointer (some ⟨xg, xo, none⟩), .bool last] W (DirP R W))) : Calls Tryz.prog 99 #[.bool last, .pointer (some ⟨b6, 0, none⟩), .pointer (some ⟨b3, 0, none⟩)] w (DirP R w) := by
 have l6 := cell_lt h6
 have l3 := cell_lt h3
 cases R with
 | ok u =>
  have hL : Kn [] w w [] := Kn.refl [] w; have hF := hL.fx; go_enter Tryz.func99, Tryz.ntmps99
  go_wp2_with ((go_at_call 95; refine kG ?_; clear hF hL; intro W hL hF; (with_reducible refine (H.out _ hL).mono ?_); rintro e W ⟨gu, cap, cu, fu, rfl, hB, hb⟩; replace hL := hL.join hb; clear hb hF; simp only [kfb] at hL; have hF := hL.fx))
  refine bodyPost_ret (by simp [results, Tryz.results99, go_sem, *]; try rfl) rfl ?_
  exact ⟨_, _, _, _, rfl, hB, hL⟩
 | bad m =>
  have hL : Kn [] w w [] := Kn.refl [] w; have hF := hL.fx; go_enter Tryz.func99, Tryz.ntmps99
  go_wp2_with ((go_at_call 95; refine kc (fun W hL => H.out _ hL) ?_; clear hF hL; intro W hL hF))
  exact ⟨rfl, rfl, hL.below0⟩
theorem clo_1 (ab xg xo b6 b3 : Nat) (last : Bool) (R : Rs Bytes) (w : World) (h6 : w.cell? ⟨b6, 0, none⟩ = some (Value.func (.func 96) #[.pointer (some ⟨ab, 0, none⟩)] #[])) (h3 : w.cell? ⟨b3, 0, none⟩ = some (.pointer (some ⟨xg, xo, none⟩))) (H : Hid (∀ W, Kn [] w W [] → Calls Tryz.prog 96 #[.pointer (some ⟨ab, 0, none⟩), .pointer (some ⟨xg, xo, none⟩), .bool last] W (DirP R W))) : Calls Tryz.prog 99 #[.bool last, .pointer (some ⟨b6, 0, none⟩), .pointer (some ⟨b3, 0, none⟩)] w (DirP R w) := by
 have l6 := cell_lt h6
 have l3 := cell_lt h3
 cases R with
 | ok u =>
  have hL : Kn [] w w [] := Kn.refl [] w; have hF := hL.fx; go_enter Tryz.func99, Tryz.ntmps99
  go_wp2_with ((go_at_call 96; refine kG ?_; clear hF hL; intro W hL hF; (with_reducible refine (H.out _ hL).mono ?_); rintro e W ⟨gu, cap, cu, fu, rfl, hB, hb⟩; replace hL := hL.join hb; clear hb hF; simp only [kfb] at hL; have hF := hL.fx))
  refine bodyPost_ret (by simp [results, Tryz.results99, go_sem, *]; try rfl) rfl ?_
  exact ⟨_, _, _, _, rfl, hB, hL⟩
 | bad m =>
  have hL : Kn [] w w [] := Kn.refl [] w; have hF := hL.fx; go_enter Tryz.func99, Tryz.ntmps99
  go_wp2_with ((go_at_call 96; refine kc (fun W hL => H.out _ hL) ?_; clear hF hL; intro W hL hF))
  exact ⟨rfl, rfl, hL.below0⟩
theorem clo_2 (ab xg xo b6 b3 : Nat) (last : Bool) (R : Rs Bytes) (w : World) (h6 : w.cell? ⟨b6, 0, none⟩ = some (Value.func (.func 97) #[.pointer (some ⟨ab, 0, none⟩)] #[])) (h3 : w.cell? ⟨b3, 0, none⟩ = some (.pointer (some ⟨xg, xo, none⟩))) (H : Hid (∀ W, Kn [] w W [] → Calls Tryz.prog 97 #[.pointer (some ⟨ab, 0, none⟩), .pointer (some ⟨xg, xo, none⟩), .bool last] W (DirP R W))) : Calls Tryz.prog 99 #[.bool last, .pointer (some ⟨b6, 0, none⟩), .pointer (some ⟨b3, 0, none⟩)] w (DirP R w) := by
 have l6 := cell_lt h6
 have l3 := cell_lt h3
 cases R with
 | ok u =>
  have hL : Kn [] w w [] := Kn.refl [] w; have hF := hL.fx; go_enter Tryz.func99, Tryz.ntmps99
  go_wp2_with ((go_at_call 97; refine kG ?_; clear hF hL; intro W hL hF; (with_reducible refine (H.out _ hL).mono ?_); rintro e W ⟨gu, cap, cu, fu, rfl, hB, hb⟩; replace hL := hL.join hb; clear hb hF; simp only [kfb] at hL; have hF := hL.fx))
  refine bodyPost_ret (by simp [results, Tryz.results99, go_sem, *]; try rfl) rfl ?_
  exact ⟨_, _, _, _, rfl, hB, hL⟩
 | bad m =>
  have hL : Kn [] w w [] := Kn.refl [] w; have hF := hL.fx; go_enter Tryz.func99, Tryz.ntmps99
  go_wp2_with ((go_at_call 97; refine kc (fun W hL => H.out _ hL) ?_; clear hF hL; intro W hL hF))
  exact ⟨rfl, rfl, hL.below0⟩
theorem clo_3 (ab xg xo b6 b3 : Nat) (last : Bool) (R : Rs Bytes) (w : World) (h6 : w.cell? ⟨b6, 0, none⟩ = some (Value.func (.func 98) #[.pointer (some ⟨ab, 0, none⟩)] #[])) (h3 : w.cell? ⟨b3, 0, none⟩ = some (.pointer (some ⟨xg, xo, none⟩))) (H : Hid (∀ W, Kn [] w W [] → Calls Tryz.prog 98 #[.pointer (some ⟨ab, 0, none⟩), .pointer (some ⟨xg, xo, none⟩), .bool last] W (DirP R W))) : Calls Tryz.prog 99 #[.bool last, .pointer (some ⟨b6, 0, none⟩), .pointer (some ⟨b3, 0, none⟩)] w (DirP R w) := by
 have l6 := cell_lt h6
 have l3 := cell_lt h3
 cases R with
 | ok u =>
  have hL : Kn [] w w [] := Kn.refl [] w; have hF := hL.fx; go_enter Tryz.func99, Tryz.ntmps99
  go_wp2_with ((go_at_call 98; refine kG ?_; clear hF hL; intro W hL hF; (with_reducible refine (H.out _ hL).mono ?_); rintro e W ⟨gu, cap, cu, fu, rfl, hB, hb⟩; replace hL := hL.join hb; clear hb hF; simp only [kfb] at hL; have hF := hL.fx))
  refine bodyPost_ret (by simp [results, Tryz.results99, go_sem, *]; try rfl) rfl ?_
  exact ⟨_, _, _, _, rfl, hB, hL⟩
 | bad m =>
  have hL : Kn [] w w [] := Kn.refl [] w; have hF := hL.fx; go_enter Tryz.func99, Tryz.ntmps99
  go_wp2_with ((go_at_call 98; refine kc (fun W hL => H.out _ hL) ?_; clear hF hL; intro W hL hF))
  exact ⟨rfl, rfl, hL.below0⟩
noncomputable def instrR (L : Labs) (ops : List Bytes) (at_ op : Nat) (last : Bool) : Rs (Int × Int × Int) := instr OO L ⟨[], [], ops⟩ at_ op last
theorem instr_eq (L : Labs) (x : Stm) (at_ op : Nat) (last : Bool) : instr OO L x at_ op last = instrR L x.ops at_ op last := rfl
def InsP (r : Rs (Int × Int × Int)) (op : Nat) (w : World) (e : Ending) (w' : World) : Prop := match r with
 | .ok i => e = .returned (.agg #[.int .i64 op, .int .i64 i.1, .int .i64 i.2.1, .int .i64 i.2.2]) ∧ Below w.heap.size w w'
 | .bad m => e = .panicked [{ v := .iface 56 (.int .i64 m), recovered := false }] ∧ Below w.heap.size w w'
theorem instr_len {L : Labs} {ops : List Bytes} {at_ op : Nat} {last : Bool} (h : ops.length ≠ many (OO.form op)) : instrR L ops at_ op last = .bad 2 := if_pos h
theorem instr_0 {L : Labs}  {at_ op : Nat} {last : Bool} (h : OO.form op = 0) : instrR L [] at_ op last = .ok (0, 0, 0) := by
 unfold instrR instr
 rw [h]; rfl
theorem instr_1 {L : Labs} {p0 : Bytes} {at_ op : Nat} {last : Bool} (h : OO.form op = 1) : instrR L [p0] at_ op last = (register p0).bind fun v0 => .ok (v0, 0, 0) := by
 unfold instrR instr
 rw [h]; rfl
theorem instr_2 {L : Labs} {p0 p1 : Bytes} {at_ op : Nat} {last : Bool} (h : OO.form op = 2) : instrR L [p0, p1] at_ op last = (register p0).bind fun v0 => (register p1).bind fun v1 => .ok (v0, v1, 0) := by
 unfold instrR instr
 rw [h]; rfl
theorem instr_3 {L : Labs} {p0 p1 p2 : Bytes} {at_ op : Nat} {last : Bool} (h : OO.form op = 3) : instrR L [p0, p1, p2] at_ op last = (register p0).bind fun v0 => (register p1).bind fun v1 => (register p2).bind fun v2 => .ok (v0, v1, v2) := by
 unfold instrR instr
 rw [h]; rfl
theorem instr_4 {L : Labs} {p0 p1 p2 : Bytes} {at_ op : Nat} {last : Bool} (h : OO.form op = 4) : instrR L [p0, p1, p2] at_ op last = (register p0).bind fun v0 => (register p1).bind fun v1 => (integer OO p2).bind fun v2 => .ok (v0, v1, v2) := by
 unfold instrR instr
 rw [h]; rfl
theorem instr_5 {L : Labs} {p0 p1 : Bytes} {at_ op : Nat} {last : Bool} (h : OO.form op = 5) : instrR L [p0, p1] at_ op last = (register p0).bind fun v0 => (target OO L at_ op p1 last).bind fun v1 => .ok (v0, v1, 0) := by
 unfold instrR instr
 rw [h]; rfl
theorem instr_6 {L : Labs} {p0 : Bytes} {at_ op : Nat} {last : Bool} (h : OO.form op = 6) : instrR L [p0] at_ op last = (target OO L at_ op p0 last).bind fun v0 => .ok (0, v0, 0) := by
 unfold instrR instr
 rw [h]; rfl
theorem len0 {α : Type} {l : List α} (h : l.length = 0) : l = [] := List.eq_nil_of_length_eq_zero h
theorem len1 {α : Type} {l : List α} (h : l.length = 1) : ∃ a, l = [a] := List.length_eq_one_iff.1 h
theorem len2 {α : Type} {l : List α} (h : l.length = 2) : ∃ a b, l = [a, b] := by
 match l, h with
 | [a, b], _ => exact ⟨a, b, rfl⟩
theorem len3 {α : Type} {l : List α} (h : l.length = 3) : ∃ a b c, l = [a, b, c] := by
 match l, h with
 | [a, b, c], _ => exact ⟨a, b, c, rfl⟩
theorem register_ok (s : ByteArray) (hs : s.size ≤ 1000000) (n : Int) (h : Hid (register s.data.toList = .ok n)) (w : World) : Calls Tryz.prog 101 #[.string s] w fun e w' => e = .returned (.int .i64 n) ∧ w = w' := by
 have := register_is s hs w
 rw [h.out] at this
 exact this
theorem register_bad (s : ByteArray) (hs : s.size ≤ 1000000) (m : Nat) (h : Hid (register s.data.toList = .bad m)) (w : World) : Calls Tryz.prog 101 #[.string s] w fun e w' => e = .panicked [{ v := .iface 56 (.int .i64 m), recovered := false }] ∧ Below w.heap.size w w' := by
 have := register_is s hs w
 rw [h.out] at this
 exact this.mono fun e w' ⟨h1, h2⟩ => ⟨h1, by subst h2; exact Below.refl _ _⟩
theorem integer_is (s : ByteArray) (hs : s.size ≤ 1000000) (w : World) (hT : Tab w) : Calls Tryz.prog 102 #[.string s] w fun e w' => RegP (integer OO s.data.toList) e ∧ Below w.heap.size w w' := by
 show Calls _ _ _ _ fun e w' => RegP (match canon s.data.toList with
  | some n => .ok n
  | none => .bad 2) e ∧ _
 cases hc : canon s.data.toList with
 | none => exact integer_none s hs hc w hT
 | some n => exact integer_some s hs n hc w hT
theorem integer_ok (s : ByteArray) (hs : s.size ≤ 1000000) (n : Int) (h : Hid (integer OO s.data.toList = .ok n)) (w : World) (hT : Tab w) : Calls Tryz.prog 102 #[.string s] w fun e w' => e = .returned (.int .i64 n) ∧ Below w.heap.size w w' := by
 have := integer_is s hs w hT
 rw [h.out] at this
 exact this
theorem integer_bad (s : ByteArray) (hs : s.size ≤ 1000000) (m : Nat) (h : Hid (integer OO s.data.toList = .bad m)) (w : World) (hT : Tab w) : Calls Tryz.prog 102 #[.string s] w fun e w' => e = .panicked [{ v := .iface 56 (.int .i64 m), recovered := false }] ∧ Below w.heap.size w w' := by
 have := integer_is s hs w hT
 rw [h.out] at this
 exact this
theorem target_ok (ab mb : Nat) (es : Array MapEntry) (clock : Nat) (L : Labs) (s : ByteArray) (hs : s.size ≤ 1000000) (last : Bool) (w : World) (hA : w.cell? ⟨ab, 0, none⟩ = some (.map (some mb))) (hmb : w.heap[mb]? = some (.map es clock)) (hM : MapV Tryz.prog 9 es (lv L)) (hLn : ∀ p ∈ L, p.2 ≤ 100000) (xg xo at_ op : Nat) (hat : at_ ≤ 100000) (hx3 : w.cell? ⟨xg, xo + 3, none⟩ = some (.int .i64 at_)) (hT : TabA w) (n : Int) (h : Hid (target OO L at_ op s.data.toList last = .ok n)) : Calls Tryz.prog 103 #[.pointer (some ⟨ab, 0, none⟩), .pointer (some ⟨xg, xo, none⟩), .int .i64 op, .string s, .bool last] w fun e w' => e = .returned (.int .i64 n) ∧ Below w.heap.size w w' := by
 have := target_is ab mb es clock L s hs last w hA hmb hM hLn xg xo at_ op hat hx3 hT
 rw [h.out] at this
 exact this
theorem target_bad (ab mb : Nat) (es : Array MapEntry) (clock : Nat) (L : Labs) (s : ByteArray) (hs : s.size ≤ 1000000) (last : Bool) (w : World) (hA : w.cell? ⟨ab, 0, none⟩ = some (.map (some mb))) (hmb : w.heap[mb]? = some (.map es clock)) (hM : MapV Tryz.prog 9 es (lv L)) (hLn : ∀ p ∈ L, p.2 ≤ 100000) (xg xo at_ op : Nat) (hat : at_ ≤ 100000) (hx3 : w.cell? ⟨xg, xo + 3, none⟩ = some (.int .i64 at_)) (hT : TabA w) (m : Nat) (h : Hid (target OO L at_ op s.data.toList last = .bad m)) : Calls Tryz.prog 103 #[.pointer (some ⟨ab, 0, none⟩), .pointer (some ⟨xg, xo, none⟩), .int .i64 op, .string s, .bool last] w fun e w' => e = .panicked [{ v := .iface 56 (.int .i64 m), recovered := false }] ∧ Below w.heap.size w w' := by
 have := target_is ab mb es clock L s hs last w hA hmb hM hLn xg xo at_ op hat hx3 hT
 rw [h.out] at this
 exact this
theorem Find_eq (s : ByteArray) (op : Nat) (h : findI s = (op : Int)) (w : World) (hT : TabI w) : Calls Tryz.prog 61 #[.string s] w fun e w' => e = .returned (.tuple #[.int .i64 op, .bool true]) ∧ Below w.heap.size w w' := by
 have := Find_any s w hT
 rw [h, show max (op : Int) 0 = op by omega, show decide (0 ≤ (op : Int)) = true by simp] at this
 exact this
theorem instruction_0 (ab mb : Nat) (es : Array MapEntry) (clock : Nat) (L : Labs) (xg xo at_ op : Nat) (sop : ByteArray) (vo : Value) (ops : List Bytes) (last : Bool) (w : World) (hA : w.cell? ⟨ab, 0, none⟩ = some (.map (some mb))) (hmb : w.heap[mb]? = some (.map es clock)) (hM : MapV Tryz.prog 9 es (lv L)) (hLn : ∀ p ∈ L, p.2 ≤ 100000) (hx1 : w.cell? ⟨xg, xo + 1, none⟩ = some (.string sop)) (hx2 : w.cell? ⟨xg, xo + 2, none⟩ = some vo) (hvo : Row w vo (sv ops)) (hx3 : w.cell? ⟨xg, xo + 3, none⟩ = some (.int .i64 at_)) (hat : at_ ≤ 100000) (hsz : ∀ p ∈ ops, p.length ≤ 900000) (hn : ops.length ≤ 100000) (hfi : findI sop = (op : Int)) (hT : TabA w) (hf : form op = 0) : Calls Tryz.prog 65 #[.pointer (some ⟨ab, 0, none⟩), .pointer (some ⟨xg, xo, none⟩), .bool last] w (InsP (instrR L ops at_ op last) op w) := by
 have HF := Lib.hid (show OO.form op = 0 from by show (form op).toNat = 0; rw [hf]; rfl)
 have HFI := Lib.hid (fun W hT => Find_eq sop op hfi W hT)
 have HFO := Lib.hid (fun W hT => (Form_any (op : Int) W hT))
 rw [hf] at HFO
 have l1 := cell_lt hA
 have lm := lt_of_has hmb
 have lx := cell_lt hx1
 have hcA := fun {W : World} {LL : List (Nat × Obj)} (hL : Kn [] w W LL) => (hL.facts.2.2.2.1 ab 0 l1 (by simp)).trans hA
 have hcM := fun {W : World} {LL : List (Nat × Obj)} (hL : Kn [] w W LL) => (hL.block mb lm (by simp)).trans hmb
 have hc3 := fun {W : World} {LL : List (Nat × Obj)} (hL : Kn [] w W LL) => (hL.facts.2.2.2.1 xg (xo + 3) lx (by simp)).trans hx3
 clear hf hfi
 by_cases hlen : ops.length = 0
 ·obtain ⟨rfl⟩ := len0 hlen
  obtain ⟨ao, cap, rfl, hc⟩ := row_open hvo
  clear hlen hc hvo hsz hn
  simp only [List.length_cons, List.length_nil, Nat.zero_add, Nat.reduceAdd] at hx2
  have hr : instrR L [] at_ op last = .ok (0, 0, 0) := by rw [instr_0 HF.out]
  rw [hr]
  clear hr
  have hL : Kn [] w w [] := Kn.refl [] w; have hF := hL.fx; go_enter Tryz.func65, Tryz.ntmps65
  go_wp2_with (first | ((with_reducible refine ks ?_); clear hL; intro W hL hF) | (go_at_call 61; refine kc (fun W hL => HFI.out _ ((hT.kn hL (by simp)).i)) ?_; clear hF hL; intro W hL hF) | ((with_reducible refine at_region 2 ?_); refine kW [0, 2, 3, 4, 5, 1, 6, 7] [0, 2, 3, 4, 5, 6, 7] [] [0, 2, 3, 4, 6, 7] ?_; clear hF hL; intro ι F hne hC hG; (repeat (first | (refine cS ?_) | (refine cF hC ?_; intro K hK; go_big_quiet_op; go_big_quiet_on) | (refine cP ?_; intro K hK; go_big_quiet_op; go_big_quiet_on) | (refine cC ?_; intro W hL; have hF := hL.fx; simp only [ka, Act.eval]; go_at_call 39; (with_reducible refine (HFO.out _ ((hT.kn hL (by simp)).i)).mono ?_); rintro e W' ⟨rfl, rfl⟩; refine ko ?_; clear hL hF; simp only [Act.put, kT]) | (refine cN ?_; intro W hL; have hF := hL.facts; go_wp2; refine kb2 ?_; clear hL hC hG; intro ι F hne hC hG))); refine cwk_nil ?_; clear hC hG; intro W hL; have hF := hL.fx) | (go_at_call 100; (with_reducible refine (need_ok _ _).mono ?_); rintro e w' ⟨rfl, rfl⟩))
  refine bodyPost_ret (by simp [results, Tryz.results65, go_sem, *]; try rfl) rfl ?_
  exact ⟨rfl, (kn_here (X := []) (w0 := w)).below0⟩
 ·have hr : instrR L ops at_ op last = .bad 2 := instr_len (by rw [show OO.form op = 0 from HF.out]; exact hlen)
  rw [hr]
  obtain ⟨ao, cap, rfl, hc⟩ := row_open hvo
  have q1 : ((ops.length : Int) == 0) = false := beq_false_of_ne (by omega)
  clear hlen hc hvo hsz hn hr
  have hL : Kn [] w w [] := Kn.refl [] w; have hF := hL.fx; go_enter Tryz.func65, Tryz.ntmps65
  go_wp2_with (first | ((with_reducible refine ks ?_); clear hL; intro W hL hF) | (go_at_call 61; refine kc (fun W hL => HFI.out _ ((hT.kn hL (by simp)).i)) ?_; clear hF hL; intro W hL hF) | ((with_reducible refine at_region 2 ?_); refine kW [0, 2, 3, 4, 5, 1, 6, 7] [0, 2, 3, 4, 5, 6, 7] [] [0, 2, 3, 4, 6, 7] ?_; clear hF hL; intro ι F hne hC hG; (repeat (first | (refine cS ?_) | (refine cF hC ?_; intro K hK; go_big_quiet_op; go_big_quiet_on) | (refine cP ?_; intro K hK; go_big_quiet_op; go_big_quiet_on) | (refine cC ?_; intro W hL; have hF := hL.fx; simp only [ka, Act.eval]; go_at_call 39; (with_reducible refine (HFO.out _ ((hT.kn hL (by simp)).i)).mono ?_); rintro e W' ⟨rfl, rfl⟩; refine ko ?_; clear hL hF; simp only [Act.put, kT]) | (refine cN ?_; intro W hL; have hF := hL.facts; go_wp2; refine kb2 ?_; clear hL hC hG; intro ι F hne hC hG))); refine cwk_nil ?_; clear hC hG; intro W hL; have hF := hL.fx) | (go_at_call 100; (with_reducible refine (need_bad _ _).mono ?_); rintro e w' ⟨rfl, rfl⟩))
  exact ⟨rfl, rfl, (kn_here (X := []) (w0 := w)).below0⟩
end Go.Proofs.YtfdlifhkeicnnaaGreatDoor
