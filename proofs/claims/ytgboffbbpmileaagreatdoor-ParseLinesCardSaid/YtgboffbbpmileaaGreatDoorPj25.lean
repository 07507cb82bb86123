/- Lemmas and walks for the law of this seat (part 25). -/
import Derived.Test.YtgboffbbpmileaaGreatDoorPj24
import Derived.Test.YtgboffbbpmileaaGreatDoorProg
import Derived.WalkKit
import Derived.Handy
import Derived.Deep.Light
import Derived.WalkSmall
import Derived.StillTailTactics
import Derived.Lib.Hide
import Derived.Defers
import Derived.Recover
import Derived.Laws.Pointers
import Derived.Deep.DeepCutAuto
set_option maxRecDepth 20000
set_option maxHeartbeats 4000000
set_option linter.unusedVariables false
set_option linter.unusedSimpArgs false
namespace Go.Proofs.YtgboffbbpmileaaGreatDoor
open Go Go.RowKit
theorem assert_fail (x : Value) (W : World) : (Instr.typeAssert (.iface 70 x) 20 70 true).run Tryz.prog W = .ok (.tuple #[x, .bool true]) W := by kernel_rfl
theorem pcatch (bo be bl : Nat) (kz : Int) (ng : Bool) (nm : ByteArray) (aa : Option Addr) (na : Nat) (ca : Nat) (aw : Option Addr) (nw : Nat) (cw : Nat) (ar : Option Addr) (nr : Nat) (cr : Nat) (ak : Option Addr) (nk : Nat) (ck : Nat) (e0 l0 k m : Int) (older : List PanicEntry) (w : World) (hL : Kn [bo, be, bl] w w [(bo, .cells #[.int .i64 kz, .string nm, .bool ng, .slice aa na ca, .slice aw nw cw, .slice ar nr cr, .slice ak nk ck] 41 (0, 0)), (be, .cells #[.int .i64 e0] 26 (0, 0)), (bl, .cells #[.int .i64 l0] 3 (0, 0))]) :
  CallsD Tryz.prog 25 #[.pointer (some ⟨bo, 0, none⟩), .pointer (some ⟨be, 0, none⟩), .pointer (some ⟨bl, 0, none⟩)] (.panicking ({ v := .iface 70 (.agg #[.int .i64 k, .int .i64 m]), recovered := false } :: older)) w fun e u' w' =>
   e = .returned (.tuple #[]) ∧ u' = .panicking ({ v := .iface 70 (.agg #[.int .i64 k, .int .i64 m]), recovered := true } :: older) ∧ Kn [bo, be, bl] w w' [(bo, .cells #[.int .i64 0, .string ⟨#[]⟩, .bool false, .slice none 0 0, .slice none 0 0, .slice none 0 0, .slice none 0 0] 41 (0, 0)), (be, .cells #[.int .i64 k] 26 (0, 0)), (bl, .cells #[.int .i64 m] 3 (0, 0))] := by
 refine callsD_of_wpS Tryz.func25 rfl fun c₀ cs hu => ?_
 apply wpS_seq
 apply wpS_region
 simp [wpOpsS, go_sem, recoverD, hu, Tryz.ntmps25, Exit.thenS]
 refine wpS_of_wp ?_
 have hF := hL.fx
 generalize hR : (fun (e : Exit) (a' : Act) (w' : World) => bodyPostS _ _ _ _ _ e a' _ w') = Q2
 have key : ∀ (a' : Act) (w' : World), a'.defers = [] → Kn [bo, be, bl] w w' [(bo, .cells #[.int .i64 0, .string ⟨#[]⟩, .bool false, .slice none 0 0, .slice none 0 0, .slice none 0 0, .slice none 0 0] 41 (0, 0)), (be, .cells #[.int .i64 k] 26 (0, 0)), (bl, .cells #[.int .i64 m] 3 (0, 0))] → Q2 .normal a' w' := by
  intro a' w' h1 h2
  rw [← hR]
  refine ⟨h1, _, rfl, .tuple #[], ?_, rfl, rfl, h2⟩
  simp [results, Tryz.results25, go_sem]
 have HK := Lib.hid key
 clear hR key
 clear hu
 obtain ⟨pz, hpz⟩ : ∃ pz, Value.iface 70 (.agg #[.int .i64 k, .int .i64 m]) = pz := ⟨_, rfl⟩
 rw [hpz]
 show Code.wp _ _ _ { tmps := #[.pointer (some ⟨bo, 0, none⟩), .pointer (some ⟨be, 0, none⟩), .pointer (some ⟨bl, 0, none⟩), undef, undef, undef, pz, undef, undef, undef, undef, undef, undef, undef, undef, undef, undef], defers := [] } _
 subst hpz
 have hta := assert_fail (.agg #[.int .i64 k, .int .i64 m])
 go_wp2_with ((with_reducible refine at_region 7 ?_); refine kn_wp ?_; clear hF hL; intro W hL; have hF := hL.fx; refine kn_region [0, 1, 2, 3, 4, 5, 6, 7] [0, 1, 2, 3, 4] [7] [0, 1, 3] (by kernel_rfl) (by kernel_rfl) (List.Sublist.cons_cons _ (List.Sublist.cons _ (List.Sublist.cons _ (List.Sublist.cons _ (List.Sublist.refl _))))) ?_; clear hF hL; intro ι F hne hC hFF; have hG := fun n => (hFF n).fx; clear hFF; (repeat (first | (refine cF hC ?_; intro K hK; go_big_quiet_op; go_big_quiet_on) | (refine cP ?_; intro K hK; go_big_quiet_op; go_big_quiet_on) | (refine cN ?_; intro W hL; (try simp only [kfb] at hL); have hF := hL.fx; go_wp2; refine anchQ_normal ?_; (first | (refine owedB _ (by rfl) ?_; clear hL hF hC hG; intro ι F hne hC hFF; have hG := fun n => (hFF n).fx; clear hFF) | (refine owed0 _ (by repeat' (first | (with_reducible exact List.nil_sublist _) | (with_reducible apply List.Sublist.cons_cons))) ?_; clear hL hF))))); refine cwk_nil ?_; clear hC hG; intro W hL; simp only [kfb] at hL; have hF := hL.fx)
 exact HK.out _ _ rfl hL.drop1
theorem pidle (bo be bl : Nat) (w : World) :
  CallsD Tryz.prog 25 #[.pointer (some ⟨bo, 0, none⟩), .pointer (some ⟨be, 0, none⟩), .pointer (some ⟨bl, 0, none⟩)] .returning w fun e u' w' => e = .returned (.tuple #[]) ∧ u' = .returning ∧ w' = w := by
 refine callsD_of_wpS Tryz.func25 rfl fun c₀ cs hu => ?_
 apply wpS_seq
 apply wpS_region
 simp [wpOpsS, go_sem, recoverD, hu, Tryz.ntmps25, Exit.thenS]
 refine wpS_of_wp ?_
 generalize hR : (fun (e : Exit) (a' : Act) (w' : World) => bodyPostS _ _ _ _ _ e a' _ w') = Q2
 have key : ∀ (a' : Act), a'.defers = [] → Q2 .normal a' w := by
  intro a' h1
  rw [← hR]
  refine ⟨h1, c₀.mode, ?_, .tuple #[], ?_, rfl, hu, rfl⟩
  ·cases c₀; rfl
  ·simp [results, Tryz.results25, go_sem]
 have HK := Lib.hid key
 clear hR key hu
 show Code.wp _ _ _ { tmps := #[.pointer (some ⟨bo, 0, none⟩), .pointer (some ⟨be, 0, none⟩), .pointer (some ⟨bl, 0, none⟩), undef, undef, undef, .nilIface, undef, undef, undef, undef, undef, undef, undef, undef, undef, undef], defers := [] } _
 go_wp2
 exact HK.out _ rfl
end Go.Proofs.YtgboffbbpmileaaGreatDoor
/- Sizes of tokens. Of no program. -/
set_option linter.unusedVariables false
set_option linter.unusedSimpArgs false
namespace Go.Proofs.YtgboffbbpmileaaGreatDoor
open Go
/-! Sizes of tokens, for the parser. -/
def TkS (x : Tok) : Prop := x.kind ≠ 4 ∧ x.text.length ≤ 2 ∧ x.plain.length ≤ sz x.parts
theorem plain_sz (ps : List Prt) : (plainOf ps).length ≤ sz ps := by
 unfold plainOf
 split
 ·rename_i p
  split
  ·exact sz_part (List.mem_singleton.2 rfl)
  ·exact Nat.zero_le _
 ·exact Nat.zero_le _
theorem ioS_tk {l r : Bytes} {fd : Int} {n0 n m : Nat} {x : Tok} (h : ioS l fd n0 n = .tok x r m) : TkS x := by
 unfold ioS at h
 split at h <;> (injection h with h1; subst h1; refine ⟨by simp [ioT], ?_, by simp [ioT]⟩; simp [ioT, List.length_take]; omega)
theorem step_tk {c : UInt8} {t r : Bytes} {n m : Nat} {x : Tok} (h : step c t n = .tok x r m) : TkS x := by
 unfold step at h
 split at h
 ·cases h
 split at h
 ·cases h
 split at h
 ·injection h with h1; subst h1; exact ⟨by simp, by simp, by simp⟩
 split at h
 ·split at h <;> (injection h with h1; subst h1; exact ⟨by simp [opT], by simp [opT], by simp [opT]⟩)
 split at h
 ·injection h with h1; subst h1; exact ⟨by simp [opT], by simp [opT], by simp [opT]⟩
 split at h
 ·exact ioS_tk h
 split at h
 ·cases h
 split at h
 ·cases h
 ·rename_i ps r2 m2 _
  split at h
  ·split at h
   ·exact ioS_tk h
   ·injection h with h1; subst h1; exact ⟨by simp, by simp, plain_sz _⟩
  ·injection h with h1; subst h1; exact ⟨by simp, by simp, plain_sz _⟩
theorem rawl_tk : ∀ (d : Nat) (l : Bytes) (n : Nat), l.length ≤ d → ∀ t ∈ (rawl l n).1, TkS t
 | 0, l, n, hl => by
  obtain rfl := List.eq_nil_of_length_eq_zero (Nat.le_zero.1 hl)
  rw [rawl_nil]
  simp
 | d + 1, [], n, hl => by rw [rawl_nil]; simp
 | d + 1, c :: t, n, hl => by
  have hlt := step_lt c t n
  rw [rawl_cons]
  cases hs : step c t n with
  | bad m => simp
  | skip r m =>
   rw [hs] at hlt
   simp only [Step.rest, List.length_cons] at hlt hl
   exact rawl_tk d r m (by omega)
  | tok x r m =>
   rw [hs] at hlt
   simp only [Step.rest, List.length_cons] at hlt hl
   intro z hz
   rcases List.mem_cons.1 hz with rfl | hz
   ·exact step_tk hs
   ·exact rawl_tk d r m (by omega) z hz
/-- What the parser is told of the tokens. -/
structure LexT (ts : List Tok) : Prop where
 pos : 0 < ts.length
 max : ts.length ≤ 100000
 word : ∀ x ∈ ts, x.text.length ≤ 100000 ∧ x.plain.length ≤ 100000 ∧ x.parts.length ≤ 100000 ∧ ∀ p ∈ x.parts, p.t.length ≤ 100000
 last : ∀ (i : Nat) x, ts[i]? = some x → (x.kind = 4 ↔ i + 1 = ts.length)
 fin : ∀ x, ts[ts.length - 1]? = some x → x.text = [] ∧ x.plain = []
theorem lexT {s : Bytes} {ts : List Tok} (hs : s.length ≤ 8000) (h : lex s = .ok ts) : LexT ts := by
 obtain ⟨xs, m, h1, rfl, h3⟩ := lim_ok hs h
 have h4 := rawl_tk s.length s 1 (Nat.le_refl _)
 have h5 := rawl_parts s.length s 1 (Nat.le_refl _)
 rw [h1] at h4 h5
 refine ⟨by simp, by simp; omega, fun x hx => ?_, fun i x hx => ?_, fun x hx => ?_⟩
 ·rcases List.mem_append.1 hx with hx | hx
  ·obtain ⟨_, h6, h7⟩ := h4 x hx
   have h8 := h5 x hx
   refine ⟨by omega, by omega, ?_, fun p hp => ?_⟩
   ·unfold sz at h8; omega
   ·have := sz_part hp; omega
  ·rw [List.mem_singleton.1 hx]; simp [endT]
 ·have hi := (List.getElem?_eq_some_iff.1 hx).1
  rw [List.length_append, List.length_singleton] at hi ⊢
  by_cases hl : i < xs.length
  ·rw [List.getElem?_append_left hl] at hx
   have := (h4 x (List.mem_of_getElem? hx)).1
   exact ⟨fun e => absurd e this, fun e => by omega⟩
  ·obtain rfl : i = xs.length := by omega
   rw [List.getElem?_append_right (Nat.le_refl _), Nat.sub_self] at hx
   obtain rfl : endT m = x := by simpa using hx
   exact ⟨fun _ => rfl, fun _ => rfl⟩
 ·rw [List.length_append, List.length_singleton, Nat.add_sub_cancel, List.getElem?_append_right (Nat.le_refl _), Nat.sub_self] at hx
  obtain rfl : endT m = x := by simpa using hx
  exact ⟨rfl, rfl⟩
end Go.Proofs.YtgboffbbpmileaaGreatDoor
/- Trees have short lists. Of no program. -/
set_option linter.unusedVariables false
set_option linter.unusedSimpArgs false
namespace Go.Proofs.YtgboffbbpmileaaGreatDoor
open Go
/-! Trees have short lists. -/
/-- All lists of the node and of its kids have at most N elements. -/
inductive Sm (N : Nat) : Nd → Prop
 | mk (k : Nat) (n : Bytes) (g : Bool) (a : List (Bytes × List Prt)) (w : List (List Prt)) (r : List (Int × Nat × List Prt)) (l : List Nd) (h1 : a.length ≤ N) (h2 : ∀ x ∈ a, x.2.length ≤ N) (h3 : w.length ≤ N) (h4 : ∀ ps ∈ w, ps.length ≤ N) (h5 : r.length ≤ N) (h6 : ∀ x ∈ r, x.2.2.length ≤ N) (h7 : l.length ≤ N) (h8 : ∀ y ∈ l, Sm N y) : Sm N (.mk k n g a w r l)
def Tk (N : Nat) (ts : List Tok) : Prop := ts.length ≤ N ∧ ∀ t ∈ ts, t.parts.length ≤ N
theorem Tk.suf {N : Nat} {ts r : List Tok} (h : Tk N ts) (hs : r <:+ ts) : Tk N r := ⟨Nat.le_trans hs.length_le h.1, fun t ht => h.2 t (hs.subset ht)⟩
theorem Tk.tl {N : Nat} {t : Tok} {r : List Tok} (h : Tk N (t :: r)) : Tk N r := h.suf ⟨[t], rfl⟩
section
variable {N : Nat}
def Sq (N : Nat) (P : Pa Nd) : Prop := ∀ ts, Tk N ts → ∀ a r, P ts = .ok a r → Sm (N + 3) a ∧ Tk N r
theorem sm_of {k : Nat} {n : Bytes} {g : Bool} {w : List (List Prt)} {l : List Nd} (hw : w.length ≤ N + 3) (hw2 : ∀ ps ∈ w, ps.length ≤ N) (hl : l.length ≤ N + 3) (h : ∀ y ∈ l, Sm (N + 3) y) : Sm (N + 3) (.mk k n g [] w [] l) :=
 .mk k n g [] w [] l (Nat.zero_le _) (fun x hx => by cases hx) hw (fun ps hp => by have := hw2 ps hp; omega) (Nat.zero_le _) (fun x hx => by cases hx) hl h
theorem sm_one {k : Nat} {n : Bytes} {g : Bool} {x : Nd} (h : Sm (N + 3) x) : Sm (N + 3) (.mk k n g [] [] [] [x]) := sm_of (Nat.zero_le _) (fun x hx => by cases hx) (by simp) (fun y hy => by rw [List.mem_singleton.1 hy]; exact h)
theorem sm_two {k : Nat} {n : Bytes} {g : Bool} {x z : Nd} (h : Sm (N + 3) x) (h2 : Sm (N + 3) z) : Sm (N + 3) (.mk k n g [] [] [] [x, z]) := sm_of (Nat.zero_le _) (fun x hx => by cases hx) (by simp) (fun y hy => by
 rcases List.mem_cons.1 hy with rfl | hy
 ·exact h
 ·rw [List.mem_singleton.1 hy]; exact h2)
theorem tk_want {s : Bytes} {ts : List Tok} (ht : Tk N ts) {u : Unit} {r : List Tok} (h : want s ts = .ok u r) : Tk N r := by
 unfold want at h
 split at h
 ·injection h with h1 h2
  rw [← h2]; exact ht.suf (tail_suf ts)
 ·cases h
theorem tk_word {ts : List Tok} (ht : Tk N ts) {ps : List Prt} {r : List Tok} (h : wordP ts = .ok ps r) : ps.length ≤ N ∧ Tk N r ∧ r.length + 1 ≤ ts.length := by
 cases ts with
 | nil => cases h
 | cons t u =>
  simp only [wordP] at h
  split at h
  ·injection h with h1 h2
   subst h1 h2
   exact ⟨ht.2 t List.mem_cons_self, ht.tl, by simp⟩
  ·cases h
theorem sm_snoc {α : Type} {P : α → Prop} {l : List α} {x : α} (hl : ∀ y ∈ l, P y) (hx : P x) : ∀ y ∈ l ++ [x], P y := fun y hy => by
 rcases List.mem_append.1 hy with hy | hy
 ·exact hl y hy
 ·rw [List.mem_singleton.1 hy]; exact hx
theorem sq_pipeL {cmd : Pa Nd} (h : Sq N cmd) : ∀ (f : Nat) (l : List Nd) (ts : List Tok), Tk N ts → (∀ n ∈ l, Sm (N + 3) n) → ∀ a r, pipeL cmd f l ts = .ok a r → (∀ n ∈ a, Sm (N + 3) n) ∧ Tk N r ∧ a.length ≤ l.length + f
 | 0, l, ts, ht, hl, a, r, e => by cases e; exact ⟨hl, ht, Nat.le_refl _⟩
 | f + 1, l, ts, ht, hl, a, r, e => by
  unfold pipeL at e
  split at e
  ·obtain ⟨x, s, h1, h2⟩ := bind_ok e
   obtain ⟨h3, h4⟩ := h _ (ht.suf ((lines_suf _).trans (tail_suf ts))) _ _ h1
   obtain ⟨h5, h6, h7⟩ := sq_pipeL h f _ s h4 (sm_snoc hl h3) a r h2
   exact ⟨h5, h6, by simp at h7; omega⟩
  ·cases e; exact ⟨hl, ht, by omega⟩
theorem sq_pipe {cmd : Pa Nd} (h : Sq N cmd) : Sq N (pipe cmd) := fun ts ht a r e => by
 obtain ⟨x, s, h1, h2⟩ := bind_ok e
 obtain ⟨h3, h4⟩ := h _ (by split; exact ht.suf (tail_suf ts); exact ht) _ _ h1
 obtain ⟨l, s2, h5, h6⟩ := bind_ok h2
 obtain ⟨h7, h8, h9⟩ := sq_pipeL h _ _ s h4 (fun n hn => by simp at hn; rw [hn]; exact h3) _ _ h5
 injection h6 with h6 h10
 subst h6 h10
 exact ⟨sm_of (Nat.zero_le _) (fun x hx => by cases hx) (by have := h4.1; simp at h9; omega) h7, h8⟩
theorem sq_itemL {pi : Pa Nd} (h : Sq N pi) : ∀ (f : Nat) (n : Nd) (ts : List Tok), Tk N ts → Sm (N + 3) n → ∀ a r, itemL pi f n ts = .ok a r → Sm (N + 3) a ∧ Tk N r
 | 0, n, ts, ht, hn, a, r, e => by cases e; exact ⟨hn, ht⟩
 | f + 1, n, ts, ht, hn, a, r, e => by
  unfold itemL at e
  split at e
  ·obtain ⟨x, s, h1, h2⟩ := bind_ok e
   obtain ⟨h3, h4⟩ := h _ (ht.suf ((lines_suf _).trans (tail_suf ts))) _ _ h1
   exact sq_itemL h f _ s h4 (sm_two hn h3) a r h2
  ·cases e; exact ⟨hn, ht⟩
theorem sq_item {pi : Pa Nd} (h : Sq N pi) : Sq N (item pi) := fun ts ht a r e => by
 obtain ⟨x, s, h1, h2⟩ := bind_ok e
 obtain ⟨h3, h4⟩ := h _ ht _ _ h1
 exact sq_itemL h _ _ s h4 h3 a r h2
theorem sm_back {ts : List Tok} {n : Nd} (h : Sm (N + 3) n) : Sm (N + 3) (back ts n) := by
 unfold back
 split
 ·exact sm_one h
 ·exact h
theorem sq_listL {it : Pa Nd} (h : Sq N it) : ∀ (f : Nat) (l : List Nd) (ts : List Tok), Tk N ts → (∀ n ∈ l, Sm (N + 3) n) → ∀ a r, listL it f l ts = .ok a r → (∀ n ∈ a, Sm (N + 3) n) ∧ Tk N r ∧ a.length ≤ l.length + f
 | 0, l, ts, ht, hl, a, r, e => by cases e; exact ⟨hl, ht, Nat.le_refl _⟩
 | f + 1, l, ts, ht, hl, a, r, e => by
  unfold listL at e
  split at e
  ·cases e; exact ⟨hl, ht.suf (lines_suf ts), by omega⟩
  ·obtain ⟨x, s, h1, h2⟩ := bind_ok e
   obtain ⟨h3, h4⟩ := h _ (ht.suf (lines_suf ts)) _ _ h1
   have h5 : ∀ n ∈ l ++ [back s x], Sm (N + 3) n := sm_snoc hl (sm_back h3)
   split at h2
   ·obtain ⟨h6, h7, h8⟩ := sq_listL h f _ _ (h4.suf (tail_suf s)) h5 a r h2
    exact ⟨h6, h7, by simp at h8; omega⟩
   ·cases h2; exact ⟨h5, h4, by simp⟩
theorem sq_listK {cmd : Pa Nd} (h : Sq N cmd) {ts : List Tok} (ht : Tk N ts) {l : List Nd} {r : List Tok} (e : listK cmd ts = .ok l r) : (∀ n ∈ l, Sm (N + 3) n) ∧ Tk N r ∧ l.length ≤ N + 1 := by
 obtain ⟨h1, h2, h3⟩ := sq_listL (sq_item (sq_pipe h)) _ _ ts ht (fun n hn => by cases hn) _ _ e
 exact ⟨h1, h2, by have := ht.1; simp at h3; omega⟩
theorem sq_list {cmd : Pa Nd} (h : Sq N cmd) : Sq N (list cmd) := fun ts ht a r e => by
 obtain ⟨l, s, h1, h2⟩ := bind_ok e
 obtain ⟨h3, h4, h5⟩ := sq_listK h ht h1
 injection h2 with h2 h6
 subst h2 h6
 exact ⟨sm_of (Nat.zero_le _) (fun x hx => by cases hx) (by omega) h3, h4⟩
theorem sq_some {cmd : Pa Nd} (h : Sq N cmd) : Sq N (some_ cmd) := fun ts ht a r e => by
 obtain ⟨n, s, h1, h2⟩ := bind_ok e
 obtain ⟨h3, h5⟩ := sq_list h ts ht _ _ h1
 split at h2
 ·cases h2
 ·injection h2 with h2 h6
  subst h2 h6
  exact ⟨h3, h5⟩
theorem sq_closed {so : Pa Nd} (h : Sq N so) (k : Nat) (c : Bytes) : Sq N (closed so k c) := fun ts ht a r e => by
 obtain ⟨x, s, h1, h2⟩ := bind_ok e
 obtain ⟨h3, h4⟩ := h _ ht _ _ h1
 obtain ⟨u, s2, h5, h6⟩ := bind_ok h2
 injection h6 with h6 h7
 subst h6 h7
 exact ⟨sm_one h3, tk_want h4 h5⟩
theorem sq_between {so : Pa Nd} (h : Sq N so) {k : Nat} {c : Bytes} {e : Option Bytes} {ts : List Tok} (ht : Tk N ts) {n : Nd} {r : List Tok} (hh : between so k c e ts = .ok n r) : ∃ a b, n = .mk k [] false [] [] [] [a, b] ∧ Sm (N + 3) a ∧ Sm (N + 3) b ∧ Tk N r := by
 obtain ⟨a, s, h1, h2⟩ := bind_ok hh
 obtain ⟨h3, h4⟩ := h _ ht _ _ h1
 obtain ⟨u, s2, h5, h6⟩ := bind_ok h2
 obtain ⟨b, s3, h7, h8⟩ := bind_ok h6
 obtain ⟨h9, h10⟩ := h _ (tk_want h4 h5) _ _ h7
 cases e with
 | none => injection h8 with h8 h11; subst h8 h11; exact ⟨a, b, rfl, h3, h9, h10⟩
 | some c2 =>
  obtain ⟨u, s4, h11, h12⟩ := bind_ok h8
  injection h12 with h12 h13; subst h12 h13; exact ⟨a, b, rfl, h3, h9, tk_want h10 h11⟩
theorem sq_between2 {so : Pa Nd} (h : Sq N so) (k : Nat) (c : Bytes) (e : Option Bytes) : Sq N (between so k c e) := fun ts ht a r hh => by
 obtain ⟨x, y, rfl, h1, h2, h3⟩ := sq_between h ht hh
 exact ⟨sm_two h1 h2, h3⟩
theorem tk_forWords : ∀ ts : List Tok, Tk N ts → (∀ ps ∈ (forWords ts).1, ps.length ≤ N) ∧ Tk N (forWords ts).2 ∧ (forWords ts).1.length ≤ ts.length
 | [], h => by unfold forWords; exact ⟨fun ps hp => (by cases hp), h, Nat.le_refl _⟩
 | t :: r, h => by
  unfold forWords
  split
  ·obtain ⟨h1, h2, h3⟩ := tk_forWords r h.tl
   exact ⟨fun ps hp => by rcases List.mem_cons.1 hp with rfl | hp; exact h.2 t List.mem_cons_self; exact h1 ps hp, h2, by simpa using h3⟩
  ·exact ⟨fun ps hp => (by cases hp), h, Nat.zero_le _⟩
theorem sq_forTail {so : Pa Nd} (h : Sq N so) {n : Bytes} {ws : List (List Prt)} (hw : ∀ ps ∈ ws, ps.length ≤ N) (hw2 : ws.length ≤ N + 3) {ts : List Tok} (ht : Tk N ts) {a : Nd} {r : List Tok} (hh : forTail so n ws ts = .ok a r) : Sm (N + 3) a ∧ Tk N r := by
 obtain ⟨u, s, h1, h2⟩ := bind_ok hh
 obtain ⟨b, s2, h3, h4⟩ := bind_ok h2
 obtain ⟨u2, s3, h5, h6⟩ := bind_ok h4
 obtain ⟨h7, h8⟩ := h _ (tk_want (ht.suf (lines_suf ts)) h1) _ _ h3
 injection h6 with h6 h9
 subst h6 h9
 exact ⟨sm_of hw2 hw (by simp) (fun y hy => by rw [List.mem_singleton.1 hy]; exact h7), tk_want h8 h5⟩
theorem sq_loop {so : Pa Nd} (h : Sq N so) : Sq N (loopP so) := fun ts ht a r hh => by
 cases ts with
 | nil => cases hh
 | cons t u =>
  simp only [loopP] at hh
  have hl : Tk N (lines u) := ht.tl.suf (lines_suf u)
  have hn : 1 ≤ N := by have := ht.1; simp at this; omega
  split at hh
  ·split at hh
   ·obtain ⟨h1, h2, h3⟩ := tk_forWords (lines u).tail (hl.suf (tail_suf _))
    unfold forIn at hh
    split at hh
    ·exact sq_forTail h h1 (by have := (hl.suf (tail_suf (lines u))).1; omega) (h2.suf (tail_suf _)) hh
    ·cases hh
   ·refine sq_forTail h (fun ps hp => ?_) (by simp [allW]) ?_ hh
    ·unfold allW at hp
     simp only [List.mem_singleton] at hp
     subst hp
     exact hn
    ·split
     ·exact hl.suf (tail_suf _)
     ·exact hl
  ·cases hh
theorem tk_armW : ∀ (f : Nat) (l : List (List Prt)) (ts : List Tok), Tk N ts → (∀ ps ∈ l, ps.length ≤ N) → ∀ a r, armW f l ts = .ok a r → (∀ ps ∈ a, ps.length ≤ N) ∧ Tk N r ∧ a.length ≤ l.length + f
 | 0, l, ts, ht, hl, a, r, e => by cases e; exact ⟨hl, ht, Nat.le_refl _⟩
 | f + 1, l, ts, ht, hl, a, r, e => by
  unfold armW at e
  split at e
  ·obtain ⟨w, s, h1, h2⟩ := bind_ok e
   obtain ⟨h3, h4, _⟩ := tk_word (ht.suf (tail_suf ts)) h1
   obtain ⟨h5, h6, h7⟩ := tk_armW f _ s h4 (sm_snoc hl h3) a r h2
   exact ⟨h5, h6, by simp at h7; omega⟩
  ·cases e; exact ⟨hl, ht, by omega⟩
theorem sq_arm {li : Pa Nd} (h : Sq N li) : Sq N (arm li) := fun ts ht a r e => by
 obtain ⟨w, s, h1, h2⟩ := bind_ok e
 obtain ⟨h3, h4, _⟩ := tk_word (by split; exact ht.suf (tail_suf ts); exact ht) h1
 obtain ⟨ws, s2, h5, h6⟩ := bind_ok h2
 obtain ⟨h7, h8, h8b⟩ := tk_armW _ _ s h4 (fun ps hp => by simp at hp; rw [hp]; exact h3) _ _ h5
 obtain ⟨u, s3, h9, h10⟩ := bind_ok h6
 obtain ⟨n, s4, h11, h12⟩ := bind_ok h10
 obtain ⟨h13, h14⟩ := h _ (tk_want h8 h9) _ _ h11
 obtain ⟨u2, s5, h15, h16⟩ := bind_ok h12
 injection h16 with h16 h17
 subst h16 h17
 exact ⟨sm_of (by have := h4.1; simp at h8b; omega) h7 (by simp) (fun y hy => by rw [List.mem_singleton.1 hy]; exact h13), tk_want h14 h15⟩
theorem sq_armsL {ar : Pa Nd} (h : Sq N ar) : ∀ (f : Nat) (l : List Nd) (ts : List Tok), Tk N ts → (∀ n ∈ l, Sm (N + 3) n) → ∀ a r, armsL ar f l ts = .ok a r → (∀ n ∈ a, Sm (N + 3) n) ∧ Tk N r ∧ a.length ≤ l.length + f
 | 0, l, ts, ht, hl, a, r, e => by cases e; exact ⟨hl, ht, Nat.le_refl _⟩
 | f + 1, l, ts, ht, hl, a, r, e => by
  unfold armsL at e
  split at e
  ·cases e; exact ⟨hl, ht.suf (lines_suf ts), by omega⟩
  ·obtain ⟨x, s, h1, h2⟩ := bind_ok e
   obtain ⟨h3, h4⟩ := h _ (ht.suf (lines_suf ts)) _ _ h1
   obtain ⟨h5, h6, h7⟩ := sq_armsL h f _ s h4 (sm_snoc hl h3) a r h2
   exact ⟨h5, h6, by simp at h7; omega⟩
theorem sq_choice {li : Pa Nd} (h : Sq N li) : Sq N (choice li) := fun ts ht a r e => by
 obtain ⟨w, s, h1, h2⟩ := bind_ok e
 obtain ⟨h3, h4, _⟩ := tk_word ht h1
 obtain ⟨u, s2, h5, h6⟩ := bind_ok h2
 have h20 := tk_want (h4.suf (lines_suf s)) h5
 obtain ⟨l, s3, h7, h8⟩ := bind_ok h6
 obtain ⟨h9, h10, h10b⟩ := sq_armsL (sq_arm h) _ _ s2 h20 (fun n hn => by cases hn) _ _ h7
 obtain ⟨u2, s4, h11, h12⟩ := bind_ok h8
 injection h12 with h12 h13
 subst h12 h13
 exact ⟨sm_of (by simp) (fun ps hp => by rw [List.mem_singleton.1 hp]; exact h3) (by have := h20.1; simp at h10b; omega) h9, tk_want h10 h11⟩
theorem sq_cond {so : Pa Nd} {inner : Option (Pa Nd)} (h : Sq N so) (hi : ∀ c, inner = some c → Sq N c) : Sq N (condF so inner) := fun ts ht a r e => by
 obtain ⟨n, s, h1, h2⟩ := bind_ok e
 obtain ⟨c, t, rfl, h3, h4, h5⟩ := sq_between h ht h1
 have key : ∀ z : Nd, Sm (N + 3) z → Sm (N + 3) (Nd.addKid (.mk 8 [] false [] [] [] [c, t]) z) := fun z hz => sm_of (Nat.zero_le _) (fun x hx => by cases hx) (by simp) (fun y hy => by
  simp only [List.cons_append, List.nil_append, List.mem_cons, List.not_mem_nil, or_false] at hy
  rcases hy with rfl | rfl | rfl
  ·exact h3
  ·exact h4
  ·exact hz)
 split at h2
 ·obtain ⟨k, s2, h10, h11⟩ := bind_ok h2
  obtain ⟨h12, h13⟩ := h _ (h5.suf (tail_suf s)) _ _ h10
  injection h11 with h11 h14
  subst h11 h14
  exact ⟨key _ h12, h13⟩
 ·split at h2
  ·cases inner with
   | none => cases h2
   | some i =>
    obtain ⟨k, s2, h10, h11⟩ := bind_ok h2
    obtain ⟨h12, h13⟩ := hi i rfl _ (h5.suf (tail_suf s)) _ _ h10
    injection h11 with h11 h14
    subst h11 h14
    exact ⟨key _ h12, h13⟩
  ·injection h2 with h2 h10
   subst h2 h10
   exact ⟨sm_two h3 h4, h5⟩
theorem tk_redir {ts : List Tok} (ht : Tk N ts) {x : Int × Nat × List Prt} {r : List Tok} (h : redir ts = .ok x r) : x.2.2.length ≤ N ∧ Tk N r ∧ r.length + 1 ≤ ts.length := by
 cases ts with
 | nil => cases h
 | cons t u =>
  obtain ⟨w, s, h1, h2⟩ := bind_ok (p := wordP u) h
  obtain ⟨h3, h4, h6⟩ := tk_word ht.tl h1
  injection h2 with h2 h5
  subst h2 h5
  exact ⟨h3, h4, by simp; omega⟩
theorem tk_redirsL : ∀ (f : Nat) (l : List (Int × Nat × List Prt)) (ts : List Tok), Tk N ts → (∀ x ∈ l, x.2.2.length ≤ N) → ∀ a r, redirsL f l ts = .ok a r → (∀ x ∈ a, x.2.2.length ≤ N) ∧ Tk N r ∧ a.length ≤ l.length + f
 | 0, l, ts, ht, hl, a, r, e => by cases e; exact ⟨hl, ht, Nat.le_refl _⟩
 | f + 1, l, ts, ht, hl, a, r, e => by
  unfold redirsL at e
  split at e
  ·obtain ⟨w, s, h1, h2⟩ := bind_ok e
   obtain ⟨h3, h4, _⟩ := tk_redir ht h1
   obtain ⟨h5, h6, h7⟩ := tk_redirsL f _ s h4 (sm_snoc hl h3) a r h2
   exact ⟨h5, h6, by simp at h7; omega⟩
  ·cases e; exact ⟨hl, ht, by omega⟩
theorem sq_body {li so conds : Pa Nd} (h1 : Sq N li) (h2 : Sq N so) (h3 : Sq N conds) : ∀ b, Sq N (body li so conds b)
 | .sub => sq_closed h2 _ _
 | .grp => sq_closed h2 _ _
 | .iff => h3
 | .whl => sq_between2 h2 9 kDo (some kDone)
 | .unt => sq_between2 h2 10 kDo (some kDone)
 | .for_ => sq_loop h2
 | .case_ => sq_choice h1
theorem sq_comp {bo : Blk → Pa Nd} (h : ∀ b, Sq N (bo b)) (hr : ∀ b ts a r, bo b ts = .ok a r → a.rs = []) (b : Blk) : Sq N (compF bo b) := fun ts ht a r e => by
 obtain ⟨n, s, h1, h2⟩ := bind_ok e
 have h3 := hr _ _ _ _ h1
 obtain ⟨h4, h5⟩ := h b _ (ht.suf (tail_suf ts)) _ _ h1
 obtain ⟨u, s2, h6, h7⟩ := bind_ok h2
 have h8 : Tk N s2 := by
  split at h6
  ·exact tk_want h5 h6
  ·injection h6 with _ h6; rw [← h6]; exact h5
 obtain ⟨l, s3, h9, h10⟩ := bind_ok h7
 rw [h3] at h9
 obtain ⟨h11, h12, h13⟩ := tk_redirsL _ _ s2 h8 (fun x hx => by cases hx) _ _ h9
 injection h10 with h10 h14
 subst h10 h14
 refine ⟨?_, h12⟩
 cases h4 with
 | mk k n g a w r l2 g1 g2 g3 g4 g5 g6 g7 g8 => exact .mk k n g a w l l2 g1 g2 g3 g4 (by have := h8.1; simp at h13; omega) (fun x hx => by have := h11 x hx; omega) g7 g8
theorem tk_asg {ps : List Prt} (h : ps.length ≤ N) {x : Bytes × List Prt} (e : assignment ps = some x) : x.2.length ≤ N := by
 cases ps with
 | nil => cases e
 | cons p r =>
  simp at h
  simp only [assignment] at e
  split at e
  ·split at e
   ·split at e
    ·cases e
     simp only
     split
     ·omega
     ·simp; omega
    ·cases e
   ·cases e
  ·cases e
theorem sq_simpleL : ∀ (f : Nat) (x : Sim) (ts : List Tok), Tk N ts → x.a.length + x.w.length + x.r.length + f ≤ N → (∀ y ∈ x.a, y.2.length ≤ N) → (∀ ps ∈ x.w, ps.length ≤ N) → (∀ y ∈ x.r, y.2.2.length ≤ N) → ∀ n r, simpleL f x ts = .ok n r → Sm (N + 3) n ∧ Tk N r
 | f, x, ts, ht, hl, ha, hw, hr, n, r, e => by
  have hend : Sm (N + 3) x.nd := .mk 0 [] false x.a x.w x.r [] (by omega) (fun y hy => by have := ha y hy; omega) (by omega) (fun y hy => by have := hw y hy; omega) (by omega) (fun y hy => by have := hr y hy; omega) (Nat.zero_le _) (fun y hy => by cases hy)
  cases f with
  | zero => cases e; exact ⟨hend, ht⟩
  | succ f =>
   cases ts with
   | nil => cases e; exact ⟨hend, ht⟩
   | cons t u =>
    simp only [simpleL] at e
    split at e
    ·obtain ⟨y, s, h1, h2⟩ := bind_ok e
     obtain ⟨h3, h4, _⟩ := tk_redir ht h1
     exact sq_simpleL f ⟨x.a, x.w, x.r ++ [y]⟩ s h4 (by simp; omega) ha hw (sm_snoc hr h3) n r h2
    ·split at e
     ·have hp := ht.2 t List.mem_cons_self
      refine sq_simpleL f _ u ht.tl ?_ ?_ ?_ ?_ n r e
      ·unfold Sim.word; split
       ·split <;> (simp; omega)
       ·simp; omega
      ·unfold Sim.word; split
       ·split
        ·rename_i z hz _
         exact sm_snoc ha (tk_asg hp hz)
        ·exact ha
       ·exact ha
      ·unfold Sim.word; split
       ·split
        ·exact hw
        ·exact sm_snoc hw hp
       ·exact sm_snoc hw hp
      ·unfold Sim.word; split
       ·split <;> exact hr
       ·exact hr
     ·cases e; exact ⟨hend, ht⟩
theorem sq_simple : Sq N simple := fun ts ht a r e => by
 unfold simple at e
 split at e
 ·exact sq_simpleL _ _ _ ht (by have := ht.1; simpa using this) (fun y hy => by cases hy) (fun y hy => by cases hy) (fun y hy => by cases hy) a r e
 ·cases e
theorem sq_fun {comp : Blk → Pa Nd} (h : ∀ b, Sq N (comp b)) : Sq N (funF comp) := fun ts ht a r e => by
 cases ts with
 | nil => cases e
 | cons t u =>
  simp only [funF] at e
  split at e
  ·split at e
   ·cases e
   ·obtain ⟨x, s, h1, h2⟩ := bind_ok e
    obtain ⟨h3, h4⟩ := h _ _ (ht.tl.suf ((lines_suf _).trans ((tail_suf _).trans (tail_suf _)))) _ _ h1
    injection h2 with h2 h5
    subst h2 h5
    exact ⟨sm_one h3, h4⟩
  ·cases e
theorem sq_cmd {comp : Blk → Pa Nd} {inner : Option (Blk → Pa Nd)} (h : ∀ b, Sq N (comp b)) (hi : ∀ c, inner = some c → ∀ b, Sq N (c b)) : Sq N (cmdF comp inner) := fun ts ht a r e => by
 unfold cmdF at e
 split at e
 ·exact h _ _ ht _ _ e
 ·split at e
  ·cases e
  ·split at e
   ·cases inner with
    | none => cases e
    | some c => exact sq_fun (hi c rfl) _ ht _ _ e
   ·exact sq_simple _ ht _ _ e
theorem rs_between {so : Pa Nd} {k : Nat} {c : Bytes} {e : Option Bytes} {ts : List Tok} {n : Nd} {r : List Tok} (hh : between so k c e ts = .ok n r) : n.rs = [] := by
 obtain ⟨a, s, h1, h2⟩ := bind_ok hh
 obtain ⟨u, s2, h5, h6⟩ := bind_ok h2
 obtain ⟨b, s3, h7, h8⟩ := bind_ok h6
 cases e with
 | none => injection h8 with h8 h11; subst h8; rfl
 | some c2 =>
  obtain ⟨u, s4, h11, h12⟩ := bind_ok h8
  injection h12 with h12 h13; subst h12; rfl
theorem rs_closed {so : Pa Nd} {k : Nat} {c : Bytes} {ts : List Tok} {n : Nd} {r : List Tok} (hh : closed so k c ts = .ok n r) : n.rs = [] := by
 obtain ⟨x, s, h1, h2⟩ := bind_ok hh
 obtain ⟨u, s2, h5, h6⟩ := bind_ok h2
 injection h6 with h6 h7
 subst h6; rfl
theorem rs_forTail {so : Pa Nd} {n : Bytes} {ws : List (List Prt)} {ts : List Tok} {a : Nd} {r : List Tok} (hh : forTail so n ws ts = .ok a r) : a.rs = [] := by
 obtain ⟨u, s, h1, h2⟩ := bind_ok hh
 obtain ⟨b, s2, h3, h4⟩ := bind_ok h2
 obtain ⟨u2, s3, h5, h6⟩ := bind_ok h4
 injection h6 with h6 h9
 subst h6; rfl
theorem rs_loop {so : Pa Nd} {ts : List Tok} {a : Nd} {r : List Tok} (hh : loopP so ts = .ok a r) : a.rs = [] := by
 cases ts with
 | nil => cases hh
 | cons t u =>
  simp only [loopP] at hh
  split at hh
  ·split at hh
   ·unfold forIn at hh
    split at hh
    ·exact rs_forTail hh
    ·cases hh
   ·exact rs_forTail hh
  ·cases hh
theorem rs_choice {li : Pa Nd} {ts : List Tok} {a : Nd} {r : List Tok} (e : choice li ts = .ok a r) : a.rs = [] := by
 obtain ⟨w, s, h1, h2⟩ := bind_ok e
 obtain ⟨u, s2, h5, h6⟩ := bind_ok h2
 obtain ⟨l, s3, h7, h8⟩ := bind_ok h6
 obtain ⟨u2, s4, h11, h12⟩ := bind_ok h8
 injection h12 with h12 h13
 subst h12; rfl
theorem rs_cond {so : Pa Nd} : ∀ {inner : Option (Pa Nd)} {ts : List Tok} {a : Nd} {r : List Tok}, condF so inner ts = .ok a r → a.rs = [] := by
 intro inner ts a r e
 obtain ⟨n, s, h1, h2⟩ := bind_ok e
 have h3 := rs_between h1
 have key : ∀ z, (n.addKid z).rs = [] := fun z => by cases n; exact h3
 split at h2
 ·obtain ⟨k, s2, h10, h11⟩ := bind_ok h2
  injection h11 with h11 h14
  subst h11; exact key _
 ·split at h2
  ·cases inner with
   | none => cases h2
   | some i =>
    obtain ⟨k, s2, h10, h11⟩ := bind_ok h2
    injection h11 with h11 h14
    subst h11; exact key _
  ·injection h2 with h2 h10
   subst h2; exact h3
theorem rs_body {li so conds : Pa Nd} (hc : ∀ ts a r, conds ts = .ok a r → a.rs = []) : ∀ b ts a r, body li so conds b ts = .ok a r → a.rs = []
 | .sub, _, _, _, h => rs_closed h
 | .grp, _, _, _, h => rs_closed h
 | .iff, _, _, _, h => hc _ _ _ h
 | .whl, _, _, _, h => rs_between (so := so) (k := 9) (c := kDo) (e := some kDone) h
 | .unt, _, _, _, h => rs_between (so := so) (k := 10) (c := kDo) (e := some kDone) h
 | .for_, _, _, _, h => rs_loop h
 | .case_, _, _, _, h => rs_choice h
theorem sq_lev : ∀ k : Nat, Sq N (lev k).cmd ∧ Sq N (lev k).conds ∧ (∀ b, Sq N ((lev k).comp b)) ∧ ∀ ts a r, (lev k).conds ts = .ok a r → a.rs = []
 | 0 => by
  have h1 : ∀ b, Sq N ((lev 0).comp b) := fun b ts ht a r e => by cases e
  have h2 : Sq N (lev 0).cmd := sq_cmd (inner := none) h1 (fun c h => by cases h)
  exact ⟨h2, sq_cond (inner := none) (sq_some h2) (fun c h => by cases h), h1, fun ts a r e => rs_cond (so := some_ (lev 0).cmd) (inner := none) e⟩
 | k + 1 => by
  obtain ⟨i1, i2, i3, i4⟩ := sq_lev k
  have h1 : ∀ b, Sq N ((lev (k + 1)).comp b) := fun b => sq_comp (sq_body (sq_list i1) (sq_some i1) i2) (rs_body i4) b
  have h2 : Sq N (lev (k + 1)).cmd := sq_cmd (inner := some (lev k).comp) h1 (fun c h => by cases h; exact i3)
  exact ⟨h2, sq_cond (inner := some (lev k).conds) (sq_some h2) (fun c h => by cases h; exact i2), h1, fun ts a r e => rs_cond (so := some_ (lev (k + 1)).cmd) (inner := some (lev k).conds) e⟩
end
/-- The items that Parse answers. -/
theorem parseB_sm {s : Bytes} {l : List Nd} (hs : s.length ≤ 8000) (h : parseB s = .ok l) : l.length ≤ 16004 ∧ ∀ n ∈ l, Sm 16003 n := by
 unfold parseB at h
 cases hx : lex s with
 | err f m => rw [hx] at h; cases h
 | ok ts =>
  rw [hx] at h
  obtain ⟨xs, m, h1, rfl, h3⟩ := lim_ok hs hx
  have h5 := rawl_parts s.length s 1 (Nat.le_refl _)
  rw [h1] at h5
  simp only [parseT, List.dropLast_concat] at h
  cases hp : parseK 20 (xs.map strip) with
  | bad e m => rw [hp] at h; cases h
  | ok l2 r =>
   rw [hp] at h
   cases h
   obtain ⟨l3, s3, h6, h7⟩ := bind_ok (p := listK (lev 20).cmd (xs.map strip)) hp
   have ht : Tk 16000 (xs.map strip) := ⟨by rw [List.length_map]; omega, fun t ht => by
    obtain ⟨y, hy, rfl⟩ := List.mem_map.1 ht
    have := h5 y hy
    show y.parts.length ≤ 16000
    unfold sz at this
    omega⟩
   obtain ⟨h8, h9, h10⟩ := sq_listK (N := 16000) (sq_lev 20).1 ht h6
   split at h7
   ·injection h7 with h7 _
    subst h7
    exact ⟨by omega, h8⟩
   ·cases h7
end Go.Proofs.YtgboffbbpmileaaGreatDoor
set_option linter.unusedVariables false
set_option linter.unusedSimpArgs false
namespace Go.Proofs.YtgboffbbpmileaaGreatDoor
open Go Go.RowKit
/-- What the parser reads beside its script: tables. -/
def TabP (w : World) : Prop := (∃ m : Int, w.cell? ⟨1, 0, none⟩ = some (.int .i64 m)) ∧ ∃ cg co cc, w.cell? ⟨0, 0, none⟩ = some (.slice (some ⟨cg, co, none⟩) 10 cc) ∧ 10 ≤ cc ∧ ∀ (j : Nat) s, closers[j]? = some s → w.cell? ⟨cg, co + j, none⟩ = some (bs s)
theorem TabP.ext {w w' : World} (h : TabP w) (k : Below w.heap.size w w') : TabP w' := by
 obtain ⟨⟨m, h1⟩, cg, co, cc, h2, h3, h4⟩ := h
 exact ⟨⟨m, cell_ext h1 k⟩, cg, co, cc, cell_ext h2 k, h3, fun j s hs => cell_ext (h4 j s hs) k⟩
/-- The tokens that Lex hands back, as the parser's. -/
theorem penv_of {W0 : World} {v : Value} {ts : List Tok} (hT : TokRow W0 v ts) (hl : LexT ts) (hP : TabP W0) : ∃ (g o cap : Nat) (tvs : List (Tok × Value)), v = .slice (some ⟨g, o, none⟩) tvs.length cap ∧ tvs.map (·.1) = ts ∧ PEnv W0 g o cap tvs ∧ TyV W0 76 v := by
 obtain ⟨hc, hty, tvs, rfl, hr, hp⟩ := hT
 obtain ⟨ao, c, rfl, h2⟩ := hr
 obtain ⟨_, _, _, e, hle⟩ := hc
 injection e with e1 e2 e3
 subst e1 e2 e3
 have hpos := hl.pos
 rw [List.length_map] at hpos hle
 obtain ⟨x0, hx0⟩ : ∃ x, tvs[0]? = some x := ⟨_, List.getElem?_eq_getElem hpos⟩
 obtain ⟨g, o, hg, _⟩ := h2 0 (tkc x0) (by rw [List.getElem?_map, hx0]; rfl)
 subst hg
 have hmem : ∀ x ∈ tvs, x.1 ∈ tvs.map (·.1) := fun x hx => List.mem_map.2 ⟨x, hx, rfl⟩
 refine ⟨g, o, c, tvs, by rw [List.length_map], rfl, ⟨fun i x hx cc u hu => ?_, fun x hx => ⟨(hp x hx).1, (hp x hx).2.1⟩, fun x hx a n cc e cl t f hcl => ?_, hle, hpos, by have := hl.max; rwa [List.length_map] at this, fun x hx => hl.word _ (hmem x hx), fun i x hx => ?_, fun x hx => ?_, hP.1, hP.2⟩, hty⟩
 ·obtain ⟨g2, o2, hg2, h3⟩ := h2 i (tkc x) (by rw [List.getElem?_map, hx]; rfl)
  injection hg2 with hg2
  injection hg2 with hg2 ho2
  subst hg2 ho2
  exact h3 cc u hu
 ·obtain ⟨cells, h3⟩ := (hp x hx).2.2 a n cc e
  rw [h3] at hcl
  injection hcl with hcl
  injection hcl with _ ht _
  subst ht
  decide
 ·have := hl.last i x.1 (by rw [List.getElem?_map, hx]; rfl)
  rwa [List.length_map] at this
 ·exact hl.fin x.1 (by rw [List.length_map, List.getElem?_map, hx]; rfl)
theorem tt_of {tvs : List (Tok × Value)} {ts : List Tok} (h : tvs.map (·.1) = ts) : ts.dropLast.map strip = TT tvs := by
 subst h
 unfold TT
 rw [← List.map_dropLast, List.map_map]
 rfl
theorem line_of {tvs : List (Tok × Value)} {ts : List Tok} (h : tvs.map (·.1) = ts) (m : Nat) : (ts.getD (ts.length - 1 - m) (endT 0)).line = lineAt tvs m := by
 subst h
 unfold lineAt
 rw [List.getD_eq_getElem?_getD, List.length_map, List.getElem?_map]
 cases tvs[tvs.length - 1 - m]? <;> rfl
section
variable {s : Bytes} {ts : List Tok} {tvs : List (Tok × Value)} (hx : lex s = .ok ts) (ht : tvs.map (·.1) = ts)
theorem parse_bad (hx : lex s = .ok ts) (ht : tvs.map (·.1) = ts) {er m : Nat} (h : list (lev 20).cmd (TT tvs) = .bad er m) : parseB s = .err (er == 2) (lineAt tvs m) := by
 unfold parseB
 rw [hx]
 show parseT ts = _
 unfold parseT parseK
 rw [tt_of ht]
 unfold list at h
 cases hk : listK (lev 20).cmd (TT tvs) with
 | ok l r => rw [hk] at h; cases h
 | bad e2 m2 =>
  rw [hk] at h
  injection h with h1 h2
  subst h1 h2
  simp only [PR.bind]
  rw [line_of ht]
theorem parse_ok (hx : lex s = .ok ts) (ht : tvs.map (·.1) = ts) {x : Nd} {r : List Tok} (h : list (lev 20).cmd (TT tvs) = .ok x r) : ∃ l, x = .mk 4 [] false [] [] [] l ∧ parseB s = if r.isEmpty then .ok l else .err false (lineAt tvs r.length) := by
 unfold list at h
 cases hk : listK (lev 20).cmd (TT tvs) with
 | bad e2 m2 => rw [hk] at h; cases h
 | ok l r2 =>
  rw [hk] at h
  injection h with h1 h2
  subst h1 h2
  refine ⟨l, rfl, ?_⟩
  unfold parseB
  rw [hx]
  show parseT ts = _
  unfold parseT parseK
  rw [tt_of ht, hk]
  simp only [PR.bind]
  cases r2 with
  | nil => rfl
  | cons t r3 =>
   simp only [List.isEmpty_cons, Bool.false_eq_true, if_false, syn]
   rw [line_of ht]
   rfl
end
theorem ecode_is (er : Nat) : ecode er = if (er == 2) = true then 6 else 27 := by
 unfold ecode
 by_cases h : er = 2
 ·rw [if_pos h, if_pos (by rw [h]; rfl)]
 ·rw [if_neg h, if_neg (by rw [beq_iff_eq]; exact h)]
/-- A call that wrote what stood. -/
theorem below_same {X : List Nat} {w0 W : World} {L : List (Nat × Obj)} (h : Kn X w0 W L) (h1 : ∀ x ∈ X, ∃ o, (x, o) ∈ L ∧ w0.heap[x]? = some o) : Below w0.heap.size w0 W :=
 ⟨h.os, h.tape, h.output, h.size, fun k hk => by
  by_cases hm : k ∈ X
  ·obtain ⟨o, ho, he⟩ := h1 k hm
   rw [he]; exact h.has _ ho
  ·exact h.block k hk hm⟩
theorem kn_less {X Y : List Nat} {w0 W : World} {L : List (Nat × Obj)} (h : Kn X w0 W L) (h1 : ∀ x ∈ X, x ∈ Y ∨ ∃ o, (x, o) ∈ L ∧ w0.heap[x]? = some o) : Kn Y w0 W [] := by
 refine ⟨h.os, h.tape, h.output, h.size, fun k hk hy => ?_, fun p hp => absurd hp List.not_mem_nil, fun p hp => absurd hp List.not_mem_nil, List.nodup_nil⟩
 by_cases hm : k ∈ X
 ·rcases h1 k hm with hx | ⟨o, ho, he⟩
  ·exact absurd hx hy
  ·rw [he]; exact h.has _ ho
 ·exact h.block k hk hm
theorem kn_oX {X : List Nat} {g o : Nat} {v : Value} {w W : World} {L : List (Nat × Obj)} (hL : Kn X w W L) (h : w.cell? ⟨g, o, none⟩ = some v) (hg : g ∉ X) : W.cell? ⟨g, o, none⟩ = some v :=
 (cell_same (hL.block g (cell_lt h) hg)).trans h
/-- A node, where its memory lies in no block of Y. -/
theorem RowM.rowF {k : Nat} {W0 : World} {L : List (Nat × Obj)} {v : Value} {xs : List (List Value)} {X Y : List Nat} {w0 w : World} {K : List (Nat × Obj)} (h : RowM k W0 L v xs) (hB : ∀ g, g < W0.heap.size → w.heap[g]? = W0.heap[g]?) (hz : W0.heap.size ≤ w.heap.size) (hk : Kn X w0 w K) (hs : ∀ p ∈ L, p ∈ K) (hY : ∀ p ∈ L, p.1 ∉ Y) (hY0 : ∀ g, g < W0.heap.size → NoNd W0 g → g ∉ Y) : RowY k Y w v xs := by
 obtain ⟨ao, cap, h1, h2, h3⟩ := h
 refine ⟨ao, cap, h1, h2, fun j cs hj => ?_⟩
 obtain ⟨g, o, h4, h5⟩ := h3 j cs hj
 rcases h5 with ⟨cells, t, hm, hc⟩ | ⟨hg, hn, hc⟩
 ·exact ⟨g, o, h4, hY _ hm, hk.lt (hs _ hm), fun c x hx => by rw [kn_cell hk (hs _ hm)]; exact hc c x hx⟩
 ·exact ⟨g, o, h4, hY0 g hg hn, Nat.lt_of_lt_of_le hg hz, fun c x hx => (cell_same (hB g hg)).trans (hc c x hx)⟩
theorem NodeL.isF {W0 : World} {L : List (Nat × Obj)} {n : Nd} {cs : List Value} (h : NodeL W0 L n cs) {X Y : List Nat} {w0 w : World} {K : List (Nat × Obj)} (hB : ∀ g, g < W0.heap.size → w.heap[g]? = W0.heap[g]?) (hz : W0.heap.size ≤ w.heap.size) (hk : Kn X w0 w K) (hs : ∀ p ∈ L, p ∈ K) (hY : ∀ p ∈ L, p.1 ∉ Y) (hY0 : ∀ g, g < W0.heap.size → NoNd W0 g → g ∉ Y) : NodeIs Y w n cs := by
 induction h with
 | mk kind name neg al ws rs ks va vw vr vk h1 h2 h3 h4 h5 h6 h7 h8 ih =>
  exact .mk kind name neg al ws rs ks va vw vr vk (h1.rowF hB hz hk hs hY hY0) (fun x hx => RowM.rowF (h2 x hx) hB hz hk hs hY hY0) (h3.rowF hB hz hk hs hY hY0) (fun x hx => RowM.rowF (h4 x hx) hB hz hk hs hY hY0) (h5.rowF hB hz hk hs hY hY0) (fun x hx => RowM.rowF (h6 x hx) hB hz hk hs hY hY0) (h7.rowF hB hz hk hs hY hY0) ih
theorem below_keep {X : List Nat} {w w0 W : World} {L : List (Nat × Obj)} (h0 : Kn X w w0 L) (h : Kn (keys L) w0 W L) : Below w0.heap.size w0 W := below_same h fun x hx => by
 obtain ⟨p, hp, rfl⟩ := List.mem_map.1 hx
 exact ⟨p.2, hp, h0.has p hp⟩
/-- What Parse answers. -/
def ParseRes (w : World) (p : PAns) (e : Ending) (w' : World) : Prop := match p with
 | .ok l => ∃ (nm : ByteArray) (aa : Option Addr) (na : Nat) (ca : Nat) (aw : Option Addr) (nw : Nat) (cw : Nat) (ar : Option Addr) (nr : Nat) (cr : Nat) (ak : Option Addr) (nk : Nat) (ck : Nat), e = .returned (.tuple #[.agg #[.int .i64 ((4 : Nat) : Int), .string nm, .bool false, .slice aa na ca, .slice aw nw cw, .slice ar nr cr, .slice ak nk ck], .int .i64 0, .int .i64 0]) ∧ ∀ Y : List Nat, (∀ y ∈ Y, ∃ c, w.heap[y]? = some (.cells c 41 (0, 0))) → NodeIs Y w' (.mk 4 [] false [] [] [] l) [.int .i64 ((4 : Nat) : Int), .string nm, .bool false, .slice aa na ca, .slice aw nw cw, .slice ar nr cr, .slice ak nk ck]
 | .err f m => e = .returned (.tuple #[.agg #[.int .i64 0, .string ⟨#[]⟩, .bool false, .slice none 0 0, .slice none 0 0, .slice none 0 0, .slice none 0 0], .int .i64 (if f = true then 6 else 27), .int .i64 m])
def PPost (src : ByteArray) (w : World) (e : Ending) (w' : World) : Prop := Below w.heap.size w w' ∧ ParseRes w (parseB src.data.toList) e w'
end Go.Proofs.YtgboffbbpmileaaGreatDoor
set_option maxRecDepth 20000
set_option maxHeartbeats 4000000
set_option linter.unusedVariables false
set_option linter.unusedSimpArgs false
namespace Go.Proofs.YtgboffbbpmileaaGreatDoor
open Go Go.RowKit
theorem Parse_is (src : ByteArray) (hs : src.size ≤ 8000) (w : World) (hT : TabP w) : Calls Tryz.prog 13 #[.string src] w (PPost src w) := by
 have hmf : ∀ (fn : Fn) (first cap : Array Value) (w : World), (Instr.makeFunc fn first cap).run Tryz.prog w = .ok (.func fn first cap) w := fun _ _ _ _ => rfl
 have HTP := Lib.hid hT
 clear hT
 cases hx : lex src.data.toList with
 | err f m =>
  have hp : parseB src.data.toList = .err f m := by unfold parseB; rw [hx]
  have HPB := Lib.hid hp
  obtain ⟨ec, hec⟩ : ∃ z : Int, (if f = true then (6 : Int) else 27) = z := ⟨_, rfl⟩
  have hec2 : (ec != 0) = true := by rw [← hec]; cases f <;> rfl
  have HEC := Lib.hid hec
  have HLX := Lib.hid (fun W => (Lex_is src hs W).mono (R' := fun e w' => e = .returned (.tuple #[.slice none 0 0, .int .i64 ec, .int .i64 (m : Int)]) ∧ Below W.heap.size W w') fun e w' h => by
   obtain ⟨h1, h2⟩ := h
   rw [hx] at h2
   exact ⟨by rw [← hec]; exact h2, h1⟩)
  clear hx hp hec
  have hL : Kn [] w w [] := Kn.refl [] w
  have hF := hL.fx
  go_enter_defers Tryz.func13, Tryz.ntmps13
  go_upto_region 3 with ((go_at_call 24; refine zC (fun W hL => HLX.out _) ?_; clear hF hL; intro W hL hF))
  refine kn_wp ?_; clear hF hL; intro W hL; simp only [kfb] at hL; have hF := hL.fx
  have hL2 : Kn [] w W ((w.heap.size, .cells #[.int .i64 0, .string ⟨#[]⟩, .bool false, .slice none 0 0, .slice none 0 0, .slice none 0 0, .slice none 0 0] 41 (0, 0)) :: (w.heap.size + 1, .cells #[.int .i64 ec] 26 (0, 0)) :: (w.heap.size + 1 + 1, .cells #[.int .i64 (m : Int)] 3 (0, 0)) :: []) := (hL.perml fun p => by simp only [List.countP_cons, List.countP_nil, List.countP_append, List.append_nil, List.nil_append, List.length_nil]; omega); clear hL hF; have hL := hL2; clear hL2; have hF := hL.fx
  go_wp2_with ((with_reducible refine at_region 3 ?_); refine kn_wp ?_; clear hF hL; intro W hL; have hF := hL.fx; refine kn_region [0, 1, 2, 3, 4, 5] [0, 1, 2] [5] [0] (by kernel_rfl) (by kernel_rfl) (List.Sublist.cons _ (List.Sublist.refl _)) ?_; clear hF hL; intro ι F hne hC hFF; have hG := fun n => (hFF n).fx; clear hFF; (repeat (first | (refine cF hC ?_; intro K hK; go_big_quiet_op; go_big_quiet_on) | (refine cP ?_; intro K hK; go_big_quiet_op; go_big_quiet_on) | (refine cN ?_; intro W hL; (try simp only [kfb] at hL); have hF := hL.fx; go_wp2; refine anchQ_normal ?_; (first | (refine owedB _ (by rfl) ?_; clear hL hF hC hG; intro ι F hne hC hFF; have hG := fun n => (hFF n).fx; clear hFF) | (refine owed0 _ (by repeat' (first | exact List.Sublist.refl _ | (with_reducible apply List.Sublist.cons))) ?_; clear hL hF))))); refine cwk_nil ?_; clear hC hG; intro W hL; simp only [kfb] at hL; have hF := hL.fx)
  refine kn_bodyD ?_; clear hF hL; intro W hL; have hF := hL.fx; simp only [bodyPostD]; simp [Leaves, settle, results, Tryz.results13, go_sem, hF]
  exact ⟨hL.below0, by rw [HPB.out]; show Ending.returned _ = Ending.returned _; rw [HEC.out]⟩
 | ok ts =>
  have HLT := Lib.hid (lexT (by rw [szl]; exact hs) hx)
  have HLX := Lib.hid (fun W => (Lex_is src hs W).mono (R' := fun e w' => ∃ (ao : Option Addr) (n9 c9 : Nat), e = .returned (.tuple #[.slice ao n9 c9, .int .i64 0, .int .i64 0]) ∧ Hid (TokRow w' (.slice ao n9 c9) ts) ∧ Below W.heap.size W w') fun e w' h => by
   obtain ⟨h1, h2⟩ := h
   rw [hx] at h2
   obtain ⟨v, rfl, h3⟩ := h2
   obtain ⟨ao, n9, c9, rfl, _⟩ := id h3.1
   exact ⟨ao, n9, c9, rfl, Lib.hid h3, h1⟩)
  have HX := Lib.hid hx
  clear hx
  have hL : Kn [] w w [] := Kn.refl [] w
  have hF := hL.fx
  go_enter_defers Tryz.func13, Tryz.ntmps13
  go_upto_region 4 with ((go_at_call 24; refine zG ?_; clear hF hL; intro W hL hF; (with_reducible refine (HLX.out _).mono ?_); rintro e W ⟨ao, n9, c9, rfl, HTC, hb⟩; replace hL := hL.below hb; clear hb hF; have hF := hL.fx; obtain ⟨W1, rfl⟩ : ∃ W1 : World, W1 = W := ⟨_, rfl⟩; have HB1 := Lib.hid hL; clear hL; have hL := HB1.out.self0; clear hF; have hF := hL.fx))
  refine kn_wp ?_; clear hF hL; intro W hL; simp only [kfb] at hL; have hF := hL.fx
  have hbe := below_keep HB1.out hL
  have HB2 := Lib.hid (HB1.out.tail0 hL)
  obtain ⟨W0, rfl⟩ : ∃ W0 : World, W0 = W := ⟨_, rfl⟩
  obtain ⟨g, o, cap, tvs, hv, htt, E, hty⟩ := penv_of (HTC.out.ext hbe) HLT.out (HTP.out.ext HB2.out.below0)
  injection hv with e1 e2 e3
  have e3 := e3.symm
  subst e1 e2 e3
  have HV0 : Hid (AtV g o cap tvs 0 (.slice (some ⟨g, o, none⟩) tvs.length cap)) := Lib.hid ⟨E.pos, by simp⟩
  have HTT := Lib.hid htt
  have HTY := Lib.hid hty
  have HCJ := Lib.hid (fun W (hB : Below W0.heap.size W0 W) (hb : W.heap[W0.heap.size]? = some (.cells #[.slice (some ⟨g, o, none⟩) tvs.length cap, .int .i64 0] 73 (0, 0))) => list_lev E (lev_c E 20 0 rfl).1 W0.heap.size 0 _ W hB (Nat.le_refl _) HV0 hb)
  simp only [List.drop_zero] at HCJ
  have h3 : w.heap.size + 1 + 1 < W0.heap.size := HB2.out.lt (p := (w.heap.size + 1 + 1, .cells #[.int .i64 0] 3 (0, 0))) (by simp)
  clear hL hF hbe htt hty
  have hL : Kn [] W0 W0 [] := Kn.refl [] W0
  have hF := hL.fx
  have HB0 := Lib.hid (Below.refl W0.heap.size W0)
  have HXB := Lib.hid (show ∀ y ∈ ([] : List Nat), W0.heap.size ≤ y from fun y hy => absurd hy List.not_mem_nil)
  cases hc : list (lev 20).cmd (TT tvs) with
  | bad er m2 =>
   rw [hc] at HCJ
   have HPB := Lib.hid (parse_bad HX.out HTT.out hc)
   clear hc
   go_wp2_with (first | ((with_reducible refine zS ?_); clear hL; intro W hL hF) | (go_at_call 26; refine zG ?_; clear hF hL; intro W hL hF; (with_reducible refine (HCJ.out _ (kn_bw HB0.out hL HXB.out) (by (exact hL.has _ List.mem_cons_self))).mono ?_); rintro e W ⟨vj2, dj, rfl, hb⟩; ((replace hL := hL.join1 0 rfl hb)); clear hb hF; simp only [List.eraseIdx_cons_zero, List.eraseIdx_cons_succ, List.cons_append, List.nil_append] at hL; have hF := hL.fx))
   have hL3 := (show Kn [] w _ ([(w.heap.size, .cells #[.int .i64 0, .string ⟨#[]⟩, .bool false, .slice none 0 0, .slice none 0 0, .slice none 0 0, .slice none 0 0] 41 (0, 0)), (w.heap.size + 1, .cells #[.int .i64 0] 26 (0, 0)), (w.heap.size + 1 + 1, .cells #[.int .i64 0] 3 (0, 0))]) from (Kn.joinA (P := []) [] [(w.heap.size + 1 + 1, .cells #[.int .i64 0] 3 (0, 0)), (w.heap.size + 1, .cells #[.int .i64 0] 26 (0, 0)), (w.heap.size, .cells #[.int .i64 0, .string ⟨#[]⟩, .bool false, .slice none 0 0, .slice none 0 0, .slice none 0 0, .slice none 0 0] 41 (0, 0))] HB2.out hL).perml fun p => by simp only [List.countP_cons, List.countP_nil, List.countP_append, List.append_nil, List.nil_append]; omega)
   refine leaves_cons (f := 25) (args := #[.pointer (some ⟨w.heap.size, 0, none⟩), .pointer (some ⟨w.heap.size + 1, 0, none⟩), .pointer (some ⟨w.heap.size + 1 + 1, 0, none⟩)]) (by simp) (by simp [go_sem]) ?_
   refine (pcatch _ _ _ 0 false ⟨#[]⟩ none 0 0 none 0 0 none 0 0 none 0 0 0 0 _ _ _ _ hL3.self0).mono ?_
   rintro e u' w'' ⟨rfl, rfl, hK⟩
   have hL4 := hL3.tail0 hK
   have hF4 := hL4.facts
   simp only [Facts, Dist, zD] at hF4
   simp [Leaves, settle, results, Tryz.results13, go_sem, hF4]
   exact ⟨hL4.below0, by rw [HPB.out]; show Ending.returned _ = Ending.returned _; rw [ecode_is]⟩
  | ok x r =>
   rw [hc] at HCJ
   obtain ⟨l, rfl, hpb⟩ := parse_ok HX.out HTT.out hc
   have HPB := Lib.hid hpb
   clear hc hpb
   go_upto_region 7 with ((go_at_call 26; refine zG ?_; clear hF hL; intro W hL hF; (with_reducible refine (HCJ.out _ (kn_bw HB0.out hL HXB.out) (by (exact hL.has _ List.mem_cons_self))).mono ?_); rintro e W ⟨nm, aa, na, ca, aw, nw, cw, ar, nr, cr, ak, nk, ck, LN, j2, vj2, rfl, HN, HJ2, hb⟩; ((replace hL := hL.join1 0 rfl hb)); clear hb hF; simp only [List.eraseIdx_cons_zero, List.eraseIdx_cons_succ, List.cons_append, List.nil_append] at hL; have hF := hL.fx; have HL2 := Lib.hid hL; have HW2 := Lib.hid (show Kn [] w _ ([(W0.heap.size, .cells #[vj2, .int .i64 ((0 : Nat) : Int)] 73 (0, 0)), (w.heap.size, .cells #[.int .i64 0, .string ⟨#[]⟩, .bool false, .slice none 0 0, .slice none 0 0, .slice none 0 0, .slice none 0 0] 41 (0, 0)), (w.heap.size + 1, .cells #[.int .i64 0] 26 (0, 0)), (w.heap.size + 1 + 1, .cells #[.int .i64 0] 3 (0, 0))]) from (Kn.joinA (P := []) [] [(w.heap.size + 1 + 1, .cells #[.int .i64 0] 3 (0, 0)), (w.heap.size + 1, .cells #[.int .i64 0] 26 (0, 0)), (w.heap.size, .cells #[.int .i64 0, .string ⟨#[]⟩, .bool false, .slice none 0 0, .slice none 0 0, .slice none 0 0, .slice none 0 0] 41 (0, 0))] HB2.out hL).perml fun p => by simp only [List.countP_cons, List.countP_nil, List.countP_append, List.append_nil, List.nil_append]; omega); clear hL; have hL := HW2.out.self0; clear hF; have hF := hL.fx; obtain ⟨W2, rfl⟩ : ∃ W2 : World, W2 = W := ⟨_, rfl⟩))
   have hj2 := HJ2.out.1.1
   obtain ⟨x9, pa, pn, pc, hx9, hx29⟩ := E.tok HJ2.out.1
   have hB2 : Below W0.heap.size W0 W2 := HL2.out.below0
   have hc := tok6 E hB2 hx9 pa pn pc hx29
   have HC0 := Lib.hid hc.1
   have HC1 := Lib.hid hc.2.1
   have HC2 := Lib.hid hc.2.2.1
   have HC3 := Lib.hid hc.2.2.2.1
   have HC4 := Lib.hid hc.2.2.2.2.1
   have HC5 := Lib.hid hc.2.2.2.2.2
   have hg0 : g < W0.heap.size := cell_lt (tok6 E (Below.refl _ W0) hx9 pa pn pc hx29).1
   have hgY : g ∉ keys [(W0.heap.size, .cells #[vj2, .int .i64 ((0 : Nat) : Int)] 73 (0, 0)), (w.heap.size, .cells #[.int .i64 0, .string ⟨#[]⟩, .bool false, .slice none 0 0, .slice none 0 0, .slice none 0 0, .slice none 0 0] 41 (0, 0)), (w.heap.size + 1, .cells #[.int .i64 0] 26 (0, 0)), (w.heap.size + 1 + 1, .cells #[.int .i64 0] 3 (0, 0))] := by
    obtain ⟨cells, ht9⟩ := HTY.out _ _ _ rfl
    intro hm
    simp only [keys, List.map_cons, List.map_nil, List.mem_cons, List.not_mem_nil, or_false] at hm
    have h1 := fun p hp => HB2.out.has p hp
    rcases hm with rfl | rfl | rfl | rfl
    ·omega
    ·rw [h1 (w.heap.size, .cells #[.int .i64 0, .string ⟨#[]⟩, .bool false, .slice none 0 0, .slice none 0 0, .slice none 0 0, .slice none 0 0] 41 (0, 0)) (by simp)] at ht9; injection ht9 with ht9; injection ht9 with _ ht9; cases ht9
    ·rw [h1 (w.heap.size + 1, .cells #[.int .i64 0] 26 (0, 0)) (by simp)] at ht9; injection ht9 with ht9; injection ht9 with _ ht9; cases ht9
    ·rw [h1 (w.heap.size + 1 + 1, .cells #[.int .i64 0] 3 (0, 0)) (by simp)] at ht9; injection ht9 with ht9; injection ht9 with _ ht9; cases ht9
   have HGY := Lib.hid hgY
   have hgb : g ≠ W0.heap.size := by omega
   have HX9 := Lib.hid hx9
   have hve := HJ2.out.1.2
   subst hve
   have f0 := tkf0 x9.1.kind x9.1.fd x9.1.line ⟨x9.1.text.toArray⟩ ⟨x9.1.plain.toArray⟩ pa pn pc; have f1 := tkf1 x9.1.kind x9.1.fd x9.1.line ⟨x9.1.text.toArray⟩ ⟨x9.1.plain.toArray⟩ pa pn pc; have f2 := tkf2 x9.1.kind x9.1.fd x9.1.line ⟨x9.1.text.toArray⟩ ⟨x9.1.plain.toArray⟩ pa pn pc; have f3 := tkf3 x9.1.kind x9.1.fd x9.1.line ⟨x9.1.text.toArray⟩ ⟨x9.1.plain.toArray⟩ pa pn pc; have f4 := tkf4 x9.1.kind x9.1.fd x9.1.line ⟨x9.1.text.toArray⟩ ⟨x9.1.plain.toArray⟩ pa pn pc; have f5 := tkf5 x9.1.kind x9.1.fd x9.1.line ⟨x9.1.text.toArray⟩ ⟨x9.1.plain.toArray⟩ pa pn pc
   obtain ⟨k4, hk4⟩ : ∃ z : Bool, ((x9.1.kind : Int) != 4) = z := ⟨_, rfl⟩
   have hre : r.isEmpty = !k4 := by
    rw [HJ2.out.2]
    rcases drop_at E hx9 with ⟨h1, h2, _⟩ | ⟨h1, h2, _⟩
    ·rw [h1, ← hk4, h2]; rfl
    ·rw [h1, ← hk4, show ((x9.1.kind : Int) != 4) = true by rw [bne_iff_ne]; omega]; rfl
   have HRE := Lib.hid hre
   clear hc hgY hx9 hx29 hre
   cases k4
   ·go_wp2_with (first | ((with_reducible refine zS ?_); clear hF hL; intro W hL hF) | (go_at_call 27; refine zC (fun W hL => next_is W0.heap.size g (o + j2 * 6) (tvs.length - j2) (cap - j2) _ _ (by (exact hL.has _ List.mem_cons_self)) (by omega) x9.1.kind x9.1.fd x9.1.line ⟨x9.1.text.toArray⟩ ⟨x9.1.plain.toArray⟩ pa pn pc (kn_oX hL HC0.out HGY.out) (kn_oX hL HC1.out HGY.out) (kn_oX hL HC2.out HGY.out) (kn_oX hL HC3.out HGY.out) (kn_oX hL HC4.out HGY.out) (kn_oX hL HC5.out HGY.out) hgb) ?_; clear hF hL; intro W hL hF))
    refine kn_bodyD ?_; clear hF hL; intro W hL; simp only [kfb] at hL; have hF := hL.fx; simp only [bodyPostD]
    have hL6 := HW2.out.tail0 hL
    refine leaves_cons (f := 25) (args := #[.pointer (some ⟨w.heap.size, 0, none⟩), .pointer (some ⟨w.heap.size + 1, 0, none⟩), .pointer (some ⟨w.heap.size + 1 + 1, 0, none⟩)]) (by simp) (by simp [go_sem]) ?_
    refine (pidle _ _ _ _).mono ?_
    rintro e u' w'' ⟨rfl, rfl, rfl⟩
    simp [Leaves, settle, results, Tryz.results13, go_sem, hF]
    refine ⟨hL6.below0, ?_⟩
    rw [HPB.out, HRE.out, if_pos (by rfl)]
    refine ⟨nm, aa, na, ca, aw, nw, cw, ar, nr, cr, ak, nk, ck, rfl, fun Y hYT => ?_⟩
    have hYW : ∀ y ∈ Y, y < W0.heap.size ∧ ∃ c, W0.heap[y]? = some (.cells c 41 (0, 0)) := fun y hy => by
     obtain ⟨c, h⟩ := hYT y hy
     have hl := lt_of_has h
     exact ⟨Nat.lt_of_lt_of_le hl HB2.out.size, c, by rw [HB2.out.below0.block _ hl]; exact h⟩
    have hnd := HL2.out.nd
    simp only [List.map_cons, List.nodup_cons] at hnd
    have hLN : ∀ p ∈ LN, p ∈ (W0.heap.size, Obj.cells #[.slice (some ⟨g, o + j2 * 6, none⟩) (tvs.length - j2) (cap - j2), .int .i64 ((0 : Nat) : Int)] 73 (0, 0)) :: (LN ++ []) := fun p hp => List.mem_cons_of_mem _ (List.mem_append_left _ hp)
    have hbo := HB2.out.has (w.heap.size, .cells #[.int .i64 0, .string ⟨#[]⟩, .bool false, .slice none 0 0, .slice none 0 0, .slice none 0 0, .slice none 0 0] 41 (0, 0)) (by simp)
    have hN := NodeL.isF HN.out (Y := Y ++ [W0.heap.size, w.heap.size]) (fun q hq => HL2.out.block q hq List.not_mem_nil) HL2.out.size HL2.out hLN (fun p hp hm => by
     have h1 := HL2.out.own p (hLN p hp)
     simp only [List.mem_append, List.mem_cons, List.not_mem_nil, or_false] at hm h1
     rcases hm with e | e | e
     ·have := (hYW _ e).1; omega
     ·exact hnd.1 (List.mem_map.2 ⟨p, List.mem_append_left _ hp, e⟩)
     ·omega) (fun q hq hn hm => by
     simp only [List.mem_append, List.mem_cons, List.not_mem_nil, or_false] at hm
     rcases hm with e | e | e
     ·obtain ⟨_, c, h⟩ := hYW _ e
      exact hn _ _ _ h rfl
     ·omega
     ·subst e; exact hn _ _ _ hbo rfl)
    refine hN.kn (kn_less hL fun y hy => ?_) (fun y hy => .inl (List.mem_append_left _ hy))
    have h1 := fun p hp => HW2.out.has p hp
    simp only [keys, List.map_cons, List.map_nil, List.mem_cons, List.not_mem_nil, or_false] at hy
    rcases hy with rfl | rfl | rfl | rfl
    ·exact .inl (by simp)
    ·exact .inl (by simp)
    ·exact .inr ⟨_, by simp, h1 (w.heap.size + 1, .cells #[.int .i64 0] 26 (0, 0)) (by simp)⟩
    ·exact .inr ⟨_, by simp, h1 (w.heap.size + 1 + 1, .cells #[.int .i64 0] 3 (0, 0)) (by simp)⟩
   ·have HP2 : Hid (parseB src.data.toList = .err false x9.1.line) := Lib.hid (by rw [HPB.out, HRE.out, if_neg (by decide)]; congr 1; exact line_at HX9.out _ (by rw [HJ2.out.2]))
    go_wp2_with (first | ((with_reducible refine zS ?_); clear hF hL; intro W hL hF) | (go_at_call 27; refine zC (fun W hL => next_is W0.heap.size g (o + j2 * 6) (tvs.length - j2) (cap - j2) _ _ (by (exact hL.has _ List.mem_cons_self)) (by omega) x9.1.kind x9.1.fd x9.1.line ⟨x9.1.text.toArray⟩ ⟨x9.1.plain.toArray⟩ pa pn pc (kn_oX hL HC0.out HGY.out) (kn_oX hL HC1.out HGY.out) (kn_oX hL HC2.out HGY.out) (kn_oX hL HC3.out HGY.out) (kn_oX hL HC4.out HGY.out) (kn_oX hL HC5.out HGY.out) hgb) ?_; clear hF hL; intro W hL hF) | (go_at_call 28; refine zC (fun W hL => fail_is 27 W0.heap.size g (o + j2 * 6) (tvs.length - j2) (cap - j2) _ _ (by (exact hL.has _ List.mem_cons_self)) (by omega) x9.1.kind x9.1.fd x9.1.line ⟨x9.1.text.toArray⟩ ⟨x9.1.plain.toArray⟩ pa pn pc (kn_oX hL HC0.out HGY.out) (kn_oX hL HC1.out HGY.out) (kn_oX hL HC2.out HGY.out) (kn_oX hL HC3.out HGY.out) (kn_oX hL HC4.out HGY.out) (kn_oX hL HC5.out HGY.out) hgb) ?_; clear hF hL; intro W hL hF))
    have hL6 := HW2.out.tail0 hL
    have hL5 : Kn [] w _ [(w.heap.size, .cells #[.int .i64 ((Nd.mk 4 [] false [] [] [] l).kind : Int), .string nm, .bool (Nd.mk 4 [] false [] [] [] l).neg, .slice aa na ca, .slice aw nw cw, .slice ar nr cr, .slice ak nk ck] 41 (0, 0)), (w.heap.size + 1, .cells #[.int .i64 0] 26 (0, 0)), (w.heap.size + 1 + 1, .cells #[.int .i64 0] 3 (0, 0))] := hL6.perml fun p => by simp only [List.countP_cons, List.countP_nil]; omega
    refine leaves_cons (f := 25) (args := #[.pointer (some ⟨w.heap.size, 0, none⟩), .pointer (some ⟨w.heap.size + 1, 0, none⟩), .pointer (some ⟨w.heap.size + 1 + 1, 0, none⟩)]) (by simp) (by simp [go_sem]) ?_
    refine (pcatch _ _ _ _ _ nm aa na ca aw nw cw ar nr cr ak nk ck 0 0 _ _ _ _ hL5.self0).mono ?_
    rintro e u' w'' ⟨rfl, rfl, hK⟩
    have hL4 := hL5.tail0 hK
    have hF4 := hL4.facts
    simp only [Facts, Dist, zD] at hF4
    simp [Leaves, settle, results, Tryz.results13, go_sem, hF4]
    exact ⟨hL4.below0, by rw [HP2.out]; rfl⟩
end Go.Proofs.YtgboffbbpmileaaGreatDoor
