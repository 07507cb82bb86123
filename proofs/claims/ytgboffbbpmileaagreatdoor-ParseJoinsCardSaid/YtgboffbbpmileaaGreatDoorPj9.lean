/- Lemmas and walks for the law of this seat (part 9). -/
import Derived.Test.YtgboffbbpmileaaGreatDoorPj8
import Derived.Test.YtgboffbbpmileaaGreatDoorProg
import Derived.WalkKit
import Derived.Handy
import Derived.Deep.Light
import Derived.WalkSmall
import Derived.StillTailTactics
import Derived.Lib.Hide
import Derived.Deep.LoopGhost
import Derived.Deep.DeepCutAuto
/- Words. Of no program. -/
set_option linter.unusedVariables false
set_option linter.unusedSimpArgs false
namespace Go.Proofs.YtgboffbbpmileaaGreatDoor
open Go
theorem dbl_sz (n0 : Nat) : ∀ (f : Nat) (ps : List Prt) (l : Bytes) (n : Nat) (st : St), double f n0 (ps, l, n) = .ok st → sz st.1 + 2 * st.2.1.length ≤ sz ps + 2 * l.length ∧ n ≤ st.2.2 ∧ st.2.2 + st.2.1.length ≤ n + l.length ∧ st.2.1.length ≤ l.length := by
 intro f
 induction f with
 | zero => intro ps l n st h; cases h
 | succ f ih =>
  intro ps l n st h
  cases l with
  | nil => cases h
  | cons c t =>
   rw [double_cons] at h
   split at h
   ·injection h with h; rw [← h]; simp only [List.length_cons]; omega
   ·split at h
    ·cases hd : dollar ps t n true with
     | bad m => rw [hd] at h; cases h
     | ok x =>
      obtain ⟨ps', r, m⟩ := x
      rw [hd] at h
      have h1 := dollar_sz hd
      have h2 := ih _ _ _ _ h
      simp only [List.length_cons] at h1 h2 ⊢
      omega
    ·split at h
     ·cases t with
      | nil =>
       have h2 := ih _ _ _ _ h
       have h3 := addT_sz ps [92] true
       simp only [List.length_cons, List.length_nil] at h2 h3 ⊢
       omega
      | cons d r =>
       change (if esc d then _ else _) = _ at h
       split at h
       ·have h2 := ih _ _ _ _ h
        have h3 := addT_sz ps [d] true
        simp only [List.length_cons, List.length_nil] at h2 h3 ⊢
        omega
       ·have h2 := ih _ _ _ _ h
        have h3 := addT_sz ps [92] true
        simp only [List.length_cons, List.length_nil] at h2 h3 ⊢
        omega
     ·have h2 := ih _ _ _ _ h
      have h3 := addT_sz ps [c] true
      have h4 := lf_le [c]
      simp only [List.length_cons, List.length_nil] at h2 h3 h4 ⊢
      omega
theorem piece_sz {ps : List Prt} {c : UInt8} {t : Bytes} {n : Nat} {st : St} (h : piece ps c t n = .ok st) : sz st.1 + 2 * st.2.1.length ≤ sz ps + 2 * t.length + 2 ∧ n ≤ st.2.2 ∧ st.2.2 + st.2.1.length ≤ n + t.length ∧ st.2.1.length ≤ t.length := by
 unfold piece at h
 split at h
 ·cases hb : brk 39 t with
  | none => rw [hb] at h; cases h
  | some y =>
   obtain ⟨a, r⟩ := y
   rw [hb] at h
   injection h with h; rw [← h]
   have h1 := congrArg List.length (brk_text hb).1
   have h2 := addT_sz ps a true
   have h3 := lf_le a
   simp only [List.length_append, List.length_cons] at h1 ⊢
   omega
 ·split at h
  ·have h1 := dbl_sz _ _ _ _ _ _ h
   have h2 := addT_sz ps [] true
   simp only [List.length_nil] at h2
   omega
  ·split at h
   ·cases t with
    | nil =>
     injection h with h; rw [← h]
     have h2 := addT_sz ps [92] true
     simp only [List.length_cons, List.length_nil] at h2 ⊢
     omega
    | cons d r =>
     change (if d = 10 then _ else _) = _ at h
     split at h
     ·injection h with h; rw [← h]; simp only [List.length_cons]; omega
     ·injection h with h; rw [← h]
      have h2 := addT_sz ps [d] true
      simp only [List.length_cons, List.length_nil] at h2 ⊢
      omega
   ·split at h
    ·have h1 := dollar_sz h
     omega
    ·injection h with h; rw [← h]
     have h2 := addT_sz ps [c] false
     simp only [List.length_cons, List.length_nil] at h2 ⊢
     omega
theorem word_fuel : ∀ (f g : Nat) (ps : List Prt) (l : Bytes) (n : Nat), l.length < f → l.length < g → word f (ps, l, n) = word g (ps, l, n) := by
 intro f
 induction f with
 | zero => intro g ps l n h; omega
 | succ f ih =>
  intro g ps l n h1 h2
  obtain ⟨g, rfl⟩ : ∃ g', g = g' + 1 := ⟨g - 1, by omega⟩
  cases l with
  | nil => rfl
  | cons c t =>
   simp only [List.length_cons] at h1 h2
   rw [word_cons, word_cons]
   split
   ·rfl
   ·cases hp : piece ps c t n with
    | bad m => rfl
    | ok x =>
     obtain ⟨ps', r, m⟩ := x
     have : r.length ≤ t.length := (piece_sz hp).2.2.2
     exact ih g ps' r m (by omega) (by omega)
def wrd (x : St) : R St := word (x.2.1.length + 1) x
theorem wrd_nil (ps : List Prt) (n : Nat) : wrd (ps, [], n) = .ok (ps, [], n) := rfl
theorem wrd_end (ps : List Prt) (c : UInt8) (t : Bytes) (n : Nat) (h : ends c = true) : wrd (ps, c :: t, n) = .ok (ps, c :: t, n) := by
 show word (t.length + 1 + 1) _ = _
 rw [word_cons, if_pos h]
theorem wrd_step (ps : List Prt) (c : UInt8) (t : Bytes) (n : Nat) (h : ends c = false) : wrd (ps, c :: t, n) = (match piece ps c t n with
  | .bad m => .bad m
  | .ok x => wrd x) := by
 show word (t.length + 1 + 1) _ = _
 rw [word_cons, if_neg (by rw [h]; simp)]
 cases hp : piece ps c t n with
 | bad m => rfl
 | ok x =>
  obtain ⟨ps', r, m⟩ := x
  have : r.length ≤ t.length := (piece_sz hp).2.2.2
  exact word_fuel _ _ _ _ _ (by omega) (Nat.lt_succ_self _)
/-- Whether a word goes on. -/
def contB : Bytes → Bool
 | [] => false
 | c :: _ => !ends c
/-- Whether a word has a plain text. -/
def plainB : List Prt → Bool
 | [p] => p.k == 0 && !p.q
 | _ => false
theorem plainB_true {ps : List Prt} (h : plainB ps = true) : ∃ x, ps = [x] ∧ x.k = 0 ∧ x.q = false ∧ plainOf ps = x.t := by
 match ps, h with
 | [x], h =>
  simp [plainB] at h
  exact ⟨x, rfl, h.1, h.2, by simp [plainOf, h]⟩
theorem plainB_false {ps : List Prt} (h : plainB ps = false) : plainOf ps = [] := by
 match ps, h with
 | [], _ => rfl
 | [x], h =>
  simp [plainB] at h
  simp [plainOf]
  intro h1 h2
  rw [h h1] at h2; cases h2
 | _ :: _ :: _, _ => rfl
/-- What follows the parts of a word that began in the line n0. -/
def wordS (n0 : Nat) : R St → Step
 | .bad m => .bad m
 | .ok (ps, r, m) => match number (plainOf ps) with
  | some fd => if r.head? = some 60 ∨ r.head? = some 62 then ioS r fd n0 m else .tok ⟨0, [], plainOf ps, ps, -1, n0⟩ r m
  | none => .tok ⟨0, [], plainOf ps, ps, -1, n0⟩ r m
theorem lim_skip {out : List Tok} {c : UInt8} {t r : Bytes} {n m : Nat} (h : step c t n = .skip r m) : lim out (rawl (c :: t) n) = lim out (rawl r m) := by
 rw [rawl_cons, h]
theorem lim_bad {out : List Tok} {c : UInt8} {t : Bytes} {n m : Nat} (h : step c t n = .bad m) : lim out (rawl (c :: t) n) = .err false m := by
 rw [rawl_cons, h]; rfl
theorem lim_full {out : List Tok} {c : UInt8} {t r : Bytes} {n m : Nat} {x : Tok} (h : step c t n = .tok x r m) (ho : 2000 ≤ out.length) : lim out (rawl (c :: t) n) = .err true x.line := by
 rw [rawl_cons, h]
 unfold lim
 have : 2000 - out.length = 0 := by omega
 rw [this]; rfl
theorem lim_tok {out : List Tok} {c : UInt8} {t r : Bytes} {n m : Nat} {x : Tok} (h : step c t n = .tok x r m) (ho : out.length < 2000) : lim out (rawl (c :: t) n) = lim (out ++ [x]) (rawl r m) := by
 rw [rawl_cons, h]
 unfold lim
 obtain ⟨k, hk⟩ : ∃ k, 2000 - out.length = k + 1 := ⟨2000 - out.length - 1, by omega⟩
 have hk2 : 2000 - (out ++ [x]).length = k := by rw [List.length_append]; simp only [List.length_cons, List.length_nil]; omega
 rw [hk, hk2]
 show (match (rawl r m).1[k]? with | some t => _ | none => _) = (match (rawl r m).1[k]? with | some t => _ | none => _)
 cases (rawl r m).1[k]? with
 | some t => rfl
 | none =>
  cases (rawl r m).2 with
  | bad m => rfl
  | fin n => simp
theorem lim_end (out : List Tok) (n : Nat) : lim out (rawl [] n) = .ok (out ++ [endT n]) := by
 rw [rawl_nil]; unfold lim; simp
def StepL (k : Nat) : Step → Prop
 | .skip r m => m + r.length ≤ k
 | .tok _ r m => m + r.length ≤ k
 | .bad _ => True
theorem step_line (c : UInt8) (t : Bytes) (n : Nat) : StepL (n + (c :: t).length) (step c t n) := by
 have hio : ∀ (l : Bytes) (fd : Int) (n0 n : Nat), StepL (n + l.length) (ioS l fd n0 n) := by
  intro l fd n0 n
  unfold ioS
  split <;> simp only [StepL, List.length_drop] <;> omega
 have hw : ∀ (f : Nat) (ps : List Prt) (l : Bytes) (n : Nat) (st : St), word f (ps, l, n) = .ok st → st.2.2 + st.2.1.length ≤ n + l.length := by
  intro f
  induction f with
  | zero => intro ps l n st h; injection h with h; rw [← h]; exact Nat.le_refl _
  | succ f ih =>
   intro ps l n st h
   cases l with
   | nil => injection h with h; rw [← h]; exact Nat.le_refl _
   | cons c t =>
    rw [word_cons] at h
    split at h
    ·injection h with h; rw [← h]; exact Nat.le_refl _
    ·cases hp : piece ps c t n with
     | bad m => rw [hp] at h; cases h
     | ok x =>
      obtain ⟨ps', r, m⟩ := x
      rw [hp] at h
      have h1 := piece_sz hp
      have h2 := ih _ _ _ _ h
      simp only [List.length_cons] at h1 h2 ⊢
      omega
 unfold step
 split
 ·simp only [StepL, List.length_cons]; omega
 ·split
  ·have := (List.dropWhile_suffix (l := t) (p := (· != 10))).length_le
   simp only [StepL, List.length_cons]; omega
  ·split
   ·simp only [StepL, List.length_cons]; omega
   ·split
    ·split
     ·simp only [StepL, List.length_drop, List.length_cons]; omega
     ·simp only [StepL, List.length_cons]; omega
    ·split
     ·simp only [StepL, List.length_cons]; omega
     ·split
      ·exact hio _ _ _ _
      ·split
       ·rename_i h
        cases t with
        | nil => simp at h
        | cons d r => simp only [StepL, List.drop_succ_cons, List.drop_zero, List.length_cons]; omega
       ·cases hwd : word (t.length + 2) ([], c :: t, n) with
        | bad m => trivial
        | ok x =>
         obtain ⟨ps, r, m⟩ := x
         have h1 := hw _ _ _ _ _ hwd
         simp only at h1 ⊢
         cases number (plainOf ps) with
         | none => exact h1
         | some fd =>
          simp only
          split
          ·have h2 := hio r fd n m
           revert h2
           cases ioS r fd n m <;> simp only [StepL, List.length_cons] at h1 ⊢ <;> (try omega) <;> (intro _; trivial)
          ·exact h1
end Go.Proofs.YtgboffbbpmileaaGreatDoor
set_option maxRecDepth 20000
set_option maxHeartbeats 4000000
set_option linter.unusedVariables false
set_option linter.unusedSimpArgs false
namespace Go.Proofs.YtgboffbbpmileaaGreatDoor
open Go Go.RowKit
theorem Kn.selfS {X : List Nat} {w0 W : World} {b : Nat} {o : Obj} {A LO : List (Nat × Obj)} (h : Kn X w0 W (A ++ ((b, o) :: LO))) : Kn (b :: keys LO) W W ((b, o) :: LO) := (h.sub (List.sublist_append_right A _)).self0
theorem Kn.joinS {X : List Nat} {w0 W W' : World} {b : Nat} {o : Obj} {A LO L' : List (Nat × Obj)} (h : Kn X w0 W (A ++ ((b, o) :: LO))) (k : Kn (b :: keys LO) W W' L') : Kn X w0 W' (A ++ L') := by
 have := Kn.joinA (P := (b, o) :: LO) (P' := L') A [] (by simpa using h) k
 simpa using this
theorem ioS_tok (l : Bytes) (fd : Int) (n0 n : Nat) : ∃ t r m, ioS l fd n0 n = .tok t r m := by
 unfold ioS; split <;> exact ⟨_, _, _, rfl⟩
theorem plainOf_len (ps : List Prt) : (plainOf ps).length ≤ tot ps := by
 match ps with
 | [] => exact Nat.zero_le _
 | [x] => simp only [plainOf]; split <;> simp [tot]
 | _ :: _ :: _ => exact Nat.zero_le _
theorem TPost.lift {src : ByteArray} {b : Nat} {X : List Nat} {w W w' : World} {o : Obj} {v : Value} {A LO : List (Nat × Obj)} {tvs : List (Tok × Value)} {s : Step} {e : Ending} (h : Kn X w W (A ++ ((b, o) :: LO))) (k : TPost src b (b :: keys LO) W v LO tvs s e w') : TPost src b X w v LO tvs s e w' := by
 have up : ∀ L', Kn (b :: keys LO) W w' L' → Kn X w w' L' := fun L' k => (h.joinS k).sub (List.sublist_append_right A _)
 unfold TPost at k ⊢
 split at k
 ·obtain ⟨h1, at2, h2, h3, h4⟩ := k
  exact ⟨h1, at2, h2, h3, up _ h4⟩
 ·exact ⟨k.1, up _ k.2⟩
 ·split at k
  ·rename_i hf
   rw [if_pos hf]
   obtain ⟨h1, at2, v2, LO2, pv, LP, h2, h3, h4, h5, h6⟩ := k
   exact ⟨h1, at2, v2, LO2, pv, LP, h2, h3, h4, h5, up _ h6⟩
  ·rename_i hf
   rw [if_neg hf]
   exact ⟨k.1, up _ k.2⟩
theorem word_is (src : ByteArray) (hs0 : src.size ≤ 10000) (v : Value) (b : Nat) (at0 ln0 : Nat) (w : World) (LO : List (Nat × Obj)) (tvs : List (Tok × Value)) (hL : Kn (b :: keys LO) w w ((b, .cells #[.string src, .int .i64 (at0), .int .i64 (ln0), v] 111 (0, 0)) :: LO)) (hO : OutL LO v tvs) (hz : ln0 ≤ at0 + 1) (hat : at0 ≤ src.size) :
  Calls Tryz.prog 85 #[.pointer (some ⟨b, 0, none⟩)] w (TPost src b (b :: keys LO) w v LO tvs (wordS ln0 (wrd ([], src.data.toList.drop at0, ln0)))) := by
 have hsl := szl src
 have hs : src.size ≤ 100000 := by omega
 obtain ⟨V, hV⟩ : ∃ V, wrd ([], src.data.toList.drop at0, ln0) = V := ⟨_, rfl⟩
 rw [hV]
 have HV := Lib.hid hV
 clear hV
 have hF := hL.fx
 go_enter Tryz.func85, Tryz.ntmps85
 go_wp2
 refine kn_wp ?_; clear hF hL; intro W hL; have hF := hL.fx
 clear hF
 generalize hq : w.heap.size + 1 = q at hL ⊢
 generalize hkt : w.heap.size = kt at hL ⊢
 have hqk : q = kt + 1 := by omega
 have HQK := Lib.hid hqk
 clear hq hkt hqk
 go_loopg [] (src.size - at0) (fun k wr => ∃ (at_ ln : Nat) (pv : Value) (LP : List (Nat × Obj)) (ps : List Prt), Hid (k = src.size - at_) ∧ at_ ≤ src.size ∧ Hid (Sz at_ ln ps) ∧ PtL LP pv ps ∧ Kn (b :: keys LO) w wr ((b, .cells #[.string src, .int .i64 (at_), .int .i64 (ln), v] 111 (0, 0)) :: (q, .cells #[pv] 135 (0, 0)) :: (LP ++ (kt, .cells #[.int .i64 0, .string ⟨#[]⟩, .string ⟨#[]⟩, .slice none 0 0, .int .i64 (-1), .int .i64 ln0] 76 (0, 0)) :: LO)) ∧ Hid (wrd (ps, src.data.toList.drop at_, ln) = V))
 case atStart =>
  refine ⟨at0, ln0, .slice none 0 0, [], [], Lib.hid rfl, hat, Lib.hid ⟨by simp [sz, tot], hz⟩, .inl ⟨rfl, rfl, rfl⟩, hL.perm fun p => ?_, HV⟩
  simp only [List.countP_cons, List.countP_append, List.countP_nil]; omega
 case round =>
  clear hL HV
  obtain ⟨at_, ln, pv, LP, ps, HK, hle, HZ, hP, hL, HV⟩ := hrel
  obtain ⟨b1, b2, b3⟩ := HZ.out.le hle hs0
  obtain ⟨l, hl⟩ : ∃ l, src.data.toList.drop at_ = l := ⟨_, rfl⟩
  have hll : l.length = src.size - at_ := by rw [← hl, List.length_drop, hsl]
  obtain ⟨cont, hcont⟩ : ∃ cont : Bool, contB l = cont := ⟨_, rfl⟩
  have HC := Lib.hid hcont
  have HLL := Lib.hid hl
  rw [hl] at HV
  clear hcont
  have hF := hL.fx
  go_upto_region 2 with fail
  go_cut [33] (fun s wc => s = .bool cont ∧ Kn (b :: keys LO) w wc ((b, .cells #[.string src, .int .i64 (at_), .int .i64 (ln), v] 111 (0, 0)) :: (q, .cells #[pv] 135 (0, 0)) :: (LP ++ (kt, .cells #[.int .i64 0, .string ⟨#[]⟩, .string ⟨#[]⟩, .slice none 0 0, .int .i64 (-1), .int .i64 ln0] 76 (0, 0)) :: LO)))
  case first =>
   cases l with
   | nil =>
    have hae : ¬ (at_ : Int) < src.size := by simp at hll; omega
    obtain rfl : false = cont := HC.out
    go_wp2_with ((with_reducible refine at_region 2 ?_); refine zW [0, 1, 2, 3, 4, 5, 6, 7, 8, 9, 10, 11, 12, 13, 14, 15, 16, 17, 18, 19, 20, 21, 22] [0, 1, 2, 3, 4, 5, 6, 7, 8, 9, 10, 11, 12, 13, 14, 15, 16, 17, 18, 19, 21, 22] [20] [0, 1, 2, 4, 5, 6, 8, 9, 10, 11, 12, 13, 15, 16, 17, 19, 21, 22] ?_; clear hF hL; intro ι F hne hC hG; (repeat (first | (refine cS ?_; simp only [Act.put, zT]) | (refine cF hC ?_; intro K hK; go_big_quiet_op; go_big_quiet_on) | (refine cP ?_; intro K hK; go_big_quiet_op; go_big_quiet_on))); refine cwk_nil ?_; clear hC hG; intro W hL; have hF := hL.fx)
    go_meet
    case rel => exact ⟨rfl, hL⟩
   | cons c0 t =>
    obtain ⟨d1, d2, d3⟩ := one_parts hl
    rw [hsl] at d3
    have hlt := d3
    have eb0 := byte_at d1 d3
    obtain ⟨r, hr⟩ : ∃ r, Lib.indexByte [32, 9, 10, 124, 38, 59, 40, 41, 60, 62] c0 = r := ⟨_, rfl⟩
    have hI : Hid (∀ W, Calls Tryz.prog 81 #[.string ⟨#[32, 9, 10, 124, 38, 59, 40, 41, 60, 62]⟩, .int .u8 c0.toNat] W fun x w' => x = .returned (.int .i64 r) ∧ w' = W) := Lib.hid fun W => Index_any _ c0 r hr _ rfl W
    have hsp := ends_ix c0
    rw [hr] at hsp
    by_cases h0 : r < 0
    ·obtain rfl : true = cont := by rw [← HC.out]; simpa [h0, contB] using hsp.symm
     clear hsp hr d1 d2 hl hll
     go_wp2_with (first | ((with_reducible refine zS ?_); clear hL; intro W hL hF) | ((with_reducible refine at_region 2 ?_); refine zW [0, 1, 2, 3, 4, 5, 6, 7, 8, 9, 10, 11, 12, 13, 14, 15, 16, 17, 18, 19, 20, 21, 22] [0, 1, 2, 3, 4, 5, 6, 7, 8, 9, 10, 11, 12, 13, 14, 15, 16, 17, 18, 19, 21, 22] [20] [0, 1, 2, 4, 5, 6, 8, 9, 10, 11, 12, 13, 15, 16, 17, 19, 21, 22] ?_; clear hF hL; intro ι F hne hC hG; (repeat (first | (refine cS ?_) | (refine cF hC ?_; intro K hK; go_big_quiet_op; go_big_quiet_on) | (refine cP ?_; intro K hK; go_big_quiet_op; go_big_quiet_on) | (refine cC ?_; intro W hL; have hF := hL.fx; simp only [zA, Act.eval]; go_at_call 81; (with_reducible refine (hI.out _).mono ?_); rintro e W' ⟨rfl, rfl⟩; refine zB ?_; clear hL hF hC hG; intro ι F hne hC hG; simp only [Act.put, zT]) | (refine cN ?_; intro W hL; have hF := hL.facts; go_wp2; refine zB2 ?_; clear hL hC hG; intro ι F hne hC hG))); refine cwk_nil ?_; clear hC hG; intro W hL; have hF := hL.fx))
     go_meet
     case rel => exact ⟨rfl, hL⟩
    ·obtain rfl : false = cont := by rw [← HC.out]; simpa [h0, contB] using hsp.symm
     clear hsp hr d1 d2 hl hll
     go_wp2_with (first | ((with_reducible refine zS ?_); clear hL; intro W hL hF) | ((with_reducible refine at_region 2 ?_); refine zW [0, 1, 2, 3, 4, 5, 6, 7, 8, 9, 10, 11, 12, 13, 14, 15, 16, 17, 18, 19, 20, 21, 22] [0, 1, 2, 3, 4, 5, 6, 7, 8, 9, 10, 11, 12, 13, 14, 15, 16, 17, 18, 19, 21, 22] [20] [0, 1, 2, 4, 5, 6, 8, 9, 10, 11, 12, 13, 15, 16, 17, 19, 21, 22] ?_; clear hF hL; intro ι F hne hC hG; (repeat (first | (refine cS ?_) | (refine cF hC ?_; intro K hK; go_big_quiet_op; go_big_quiet_on) | (refine cP ?_; intro K hK; go_big_quiet_op; go_big_quiet_on) | (refine cC ?_; intro W hL; have hF := hL.fx; simp only [zA, Act.eval]; go_at_call 81; (with_reducible refine (hI.out _).mono ?_); rintro e W' ⟨rfl, rfl⟩; refine zB ?_; clear hL hF hC hG; intro ι F hne hC hG; simp only [Act.put, zT]) | (refine cN ?_; intro W hL; have hF := hL.facts; go_wp2; refine zB2 ?_; clear hL hC hG; intro ι F hne hC hG))); refine cwk_nil ?_; clear hC hG; intro W hL; have hF := hL.fx))
     go_meet
     case rel => exact ⟨rfl, hL⟩
  case rest =>
  clear hL
  obtain ⟨rfl, hL⟩ := hcut
  have hF := hL.fx
  cases cont with
  | true =>
   obtain ⟨c0, t, hd0, hs1⟩ : ∃ c0 t, l = c0 :: t ∧ ends c0 = false := by
    have := HC.out
    cases l with
    | nil => cases this
    | cons c0 t => exact ⟨c0, t, rfl, by simpa [contB] using this⟩
   subst hd0
   have hst := wrd_step ps c0 t ln hs1
   rw [HV.out] at hst
   cases hpc : piece ps c0 t ln with
   | bad m =>
    have HD : Hid (∀ W, Kn (b :: q :: keys LP) W W ((b, .cells #[.string src, .int .i64 (at_), .int .i64 (ln), v] 111 (0, 0)) :: (q, .cells #[pv] 135 (0, 0)) :: LP) → Calls Tryz.prog 102 #[.pointer (some ⟨b, 0, none⟩), .pointer (some ⟨q, 0, none⟩)] W fun e w' => e = .panicked [{ v := .iface 107 (.agg #[.int .i64 27, .int .i64 m]), recovered := false }] ∧ Kn (b :: q :: keys LP) W w' []) := Lib.hid fun W hK => by
     have := piece_is src hs0 v b q at_ ln pv LP ps W hK hP HZ.out c0 _ hl hs1
     rw [hpc] at this; exact this
    rw [hpc] at hst
    have HVV := Lib.hid hst
    clear hst hpc hl
    go_wp2_with ((go_at_call 102; refine zG ?_; clear hF hL; intro W hL hF; (with_reducible refine (HD.out _ hL.selfbqR).mono ?_); rintro e W2 ⟨rfl, hb⟩; replace hL := hL.joinbqR hb; clear hb hF hP; simp only [kfb] at hL; have hF := hL.fx))
    rw [HVV.out]
    exact ⟨rfl, rfl, hL.sub (List.nil_sublist _)⟩
   | ok x =>
    obtain ⟨ps2, r2, ln2⟩ := x
    have hdz := piece_sz hpc
    have HD : Hid (∀ W, Kn (b :: q :: keys LP) W W ((b, .cells #[.string src, .int .i64 (at_), .int .i64 (ln), v] 111 (0, 0)) :: (q, .cells #[pv] 135 (0, 0)) :: LP) → Calls Tryz.prog 102 #[.pointer (some ⟨b, 0, none⟩), .pointer (some ⟨q, 0, none⟩)] W fun e w' => e = .returned (.tuple #[]) ∧ ∃ (at2 : Nat) (pv2 : Value) (LP2 : List (Nat × Obj)), at2 ≤ src.size ∧ Hid (src.data.toList.drop at2 = r2) ∧ PtL LP2 pv2 ps2 ∧ Kn (b :: q :: keys LP) W w' ((b, .cells #[.string src, .int .i64 (at2), .int .i64 (ln2), v] 111 (0, 0)) :: (q, .cells #[pv2] 135 (0, 0)) :: LP2)) := Lib.hid fun W hK => by
     have := piece_is src hs0 v b q at_ ln pv LP ps W hK hP HZ.out c0 _ hl hs1
     rw [hpc] at this; exact this
    rw [hpc] at hst
    have HVV := Lib.hid hst.symm
    have HDZ := Lib.hid hdz
    have HL2 := Lib.hid hll
    clear hst hpc hl hdz hll
    go_wp2_with ((go_at_call 102; refine zG ?_; clear hF hL; intro W hL hF; (with_reducible refine (HD.out _ hL.selfbqR).mono ?_); rintro e W2 ⟨rfl, at2, pv2, LP2, ha2, hr2, hP2, hb⟩; replace hL := hL.joinbqR hb; clear hb hF hP; have hP := hP2; clear hP2; simp only [List.cons_append] at hL; have hF := hL.fx))
    have hlen : r2.length = src.size - at2 := by rw [← hr2.out, List.length_drop, hsl]
    have hdz := HDZ.out
    have hll := HL2.out
    simp only [List.length_cons] at hll
    simp only [hlen] at hdz
    go_roundg (src.size - (at2))
    case measure => have := HK.out; omega
    case rel => exact ⟨at2, ln2, pv2, LP2, _, Lib.hid rfl, by omega, Lib.hid (by obtain ⟨h2, h3⟩ := HZ.out; exact ⟨by omega, by omega⟩), hP, hL, Lib.hid (by rw [hr2.out]; exact HVV.out)⟩
  | false =>
   have hVe : V = .ok (ps, l, ln) := by
    have := HC.out
    cases l with
    | nil => rw [← HV.out, wrd_nil]
    | cons c0 t => rw [← HV.out, wrd_end _ _ _ _ (by simpa [contB] using this)]
   have HVE := Lib.hid hVe
   clear hVe hl
   replace hL := hL.perm (L' := (kt, .cells #[.int .i64 0, .string ⟨#[]⟩, .string ⟨#[]⟩, .slice none 0 0, .int .i64 (-1), .int .i64 ln0] 76 (0, 0)) :: (q, .cells #[pv] 135 (0, 0)) :: (b, .cells #[.string src, .int .i64 (at_), .int .i64 (ln), v] 111 (0, 0)) :: (LP ++ LO)) (fun p => by simp only [List.countP_cons, List.countP_append, List.countP_nil]; omega)
   go_upto_region 4 with fail
   go_cut [] (fun wc => Kn (b :: keys LO) w wc ((kt, .cells #[.int .i64 0, .string ⟨#[]⟩, .string ⟨#[]⟩, pv, .int .i64 (-1), .int .i64 ln0] 76 (0, 0)) :: (q, .cells #[pv] 135 (0, 0)) :: (b, .cells #[.string src, .int .i64 (at_), .int .i64 (ln), v] 111 (0, 0)) :: (LP ++ LO)))
   case first =>
    rcases hP with ⟨rfl, rfl, rfl⟩ | ⟨g, cap, cur, rfl, rfl, hr⟩
    ·simp only [kfb] at hL; have hF := hL.fx
     go_wp2
     go_meet
     case rel => exact kn_eq rfl
    ·simp only [kfb] at hL; have hF := hL.fx
     go_wp2
     go_meet
     case rel => exact kn_eq rfl
   case rest =>
   clear hL
   have hL := hcut
   clear hcut
   have hF := hL.fx
   go_upto_region 5 with fail
   obtain ⟨pb, hpb⟩ : ∃ pb, plainB ps = pb := ⟨_, rfl⟩
   have HPB := Lib.hid hpb
   clear hpb
   go_cut [54] (fun s wc => s = .bool pb ∧ Kn (b :: keys LO) w wc ((kt, .cells #[.int .i64 0, .string ⟨#[]⟩, .string ⟨#[]⟩, pv, .int .i64 (-1), .int .i64 ln0] 76 (0, 0)) :: (q, .cells #[pv] 135 (0, 0)) :: (b, .cells #[.string src, .int .i64 (at_), .int .i64 (ln), v] 111 (0, 0)) :: (LP ++ LO)))
   case first =>
    have hP1 := hP
    rcases hP with ⟨rfl, rfl, rfl⟩ | ⟨g, cap, cur, rfl, rfl, hr⟩
    ·obtain rfl : false = pb := HPB.out
     simp only [kfb] at hL; have hF := hL.fx
     go_wp2
     go_meet
     case rel => exact ⟨rfl, hL⟩
    ·clear hP1
     match ps, hr, hL, HPB with
     | [], hr, hL, HPB =>
      obtain rfl : false = pb := HPB.out
      simp only [kfb] at hL; have hF := hL.fx
      go_wp2
      go_meet
      case rel => exact ⟨rfl, hL⟩
     | [x], hr, hL, HPB =>
      have c0 : cur[0]? = some (.int .i64 x.k) := hr.get rfl
      have c1 : cur[1]? = some (bs x.t) := hr.get rfl
      have c2 : cur[2]? = some (.bool x.q) := hr.get rfl
      by_cases hk : x.k = 0
      ·have b0 : ((x.k : Int) == 0) = true := by simp [hk]
       cases hq : x.q with
       | false =>
        obtain rfl : true = pb := by rw [← HPB.out]; simp [plainB, hk, hq]
        rw [hq] at c2
        simp only [kfb] at hL; have hF := hL.fx
        go_wp2
        go_meet
        case rel => exact ⟨rfl, hL⟩
       | true =>
        obtain rfl : false = pb := by rw [← HPB.out]; simp [plainB, hk, hq]
        rw [hq] at c2
        simp only [kfb] at hL; have hF := hL.fx
        go_wp2
        go_meet
        case rel => exact ⟨rfl, hL⟩
      ·have b0 : ((x.k : Int) == 0) = false := beq_false_of_ne (by omega)
       obtain rfl : false = pb := by rw [← HPB.out]; simp [plainB, hk]
       simp only [kfb] at hL; have hF := hL.fx
       go_wp2
       go_meet
       case rel => exact ⟨rfl, hL⟩
     | x :: y :: z, hr, hL, HPB =>
      obtain rfl : false = pb := HPB.out
      have hn2 : (((x :: y :: z).length : Int) == 1) = false := beq_false_of_ne (by simp; omega)
      have hn3 : ((z.length : Int) + 1 + 1 == 1) = false := beq_false_of_ne (by omega)
      simp only [kfb] at hL; have hF := hL.fx
      go_wp2
      go_meet
      case rel => exact ⟨rfl, hL⟩
   case rest =>
   clear hL
   obtain ⟨rfl, hL⟩ := hcut
   have hF := hL.fx
   go_upto_if 54 with fail
   go_cut [] (fun wc => ∃ P : ByteArray, Hid (P.data.toList = plainOf ps) ∧ Kn (b :: keys LO) w wc ((kt, .cells #[.int .i64 0, .string ⟨#[]⟩, .string P, pv, .int .i64 (-1), .int .i64 ln0] 76 (0, 0)) :: (q, .cells #[pv] 135 (0, 0)) :: (b, .cells #[.string src, .int .i64 (at_), .int .i64 (ln), v] 111 (0, 0)) :: (LP ++ LO)))
   case first =>
    cases pb with
    | false =>
     have HPL := plainB_false HPB.out
     have HPL2 := Lib.hid HPL
     clear HPL
     go_wp2
     go_meet
     case rel => exact ⟨⟨#[]⟩, Lib.hid HPL2.out.symm, hL⟩
    | true =>
     obtain ⟨x, rfl, hk, hq, hpl⟩ := plainB_true HPB.out
     rcases hP with ⟨_, _, h⟩ | ⟨g, cap, cur, rfl, rfl, hr⟩
     ·cases h
     obtain ⟨u, hu⟩ : ∃ u : ByteArray, bs x.t = .string u := ⟨_, rfl⟩
     have c1 : cur[1]? = some (bs x.t) := hr.get rfl
     rw [hu] at c1
     have HPL : Hid (u.data.toList = plainOf [x]) := Lib.hid (by
      rw [hpl]
      simp only [bs, Value.string.injEq] at hu
      rw [← hu])
     clear hu hpl hk hq
     simp only [kfb] at hL; have hF := hL.fx
     go_wp2
     go_meet
     case rel => exact ⟨u, HPL, kn_eq rfl⟩
   case rest =>
   clear hL
   obtain ⟨P, HPL, hL⟩ := hcut
   have hPs : P.size ≤ 1000000 := by
    have := plainOf_len ps
    rw [← szl, HPL.out]; omega
   have hln : ln ≤ 100000 := b1
   have hpv := hP.one
   have hF := hL.fx
   cases hnum : number P.data.toList with
   | none =>
    have hN : Hid (∀ (kd : Int) (tx : ByteArray) (fd ln : Int) W, Calls Tryz.prog 103 #[.agg #[.int .i64 kd, .string tx, .string P, pv, .int .i64 fd, .int .i64 ln]] W fun e w' => e = .returned (.tuple #[.int .i64 0, .bool false]) ∧ Below W.heap.size W w') := Lib.hid fun kd tx fd ln W => by
     have := number_is kd tx P pv fd ln hPs W
     rw [hnum] at this; exact this
    have hst : wordS ln0 V = .tok ⟨0, [], plainOf ps, ps, -1, ln0⟩ l ln := by
     rw [HVE.out]
     show (match number (plainOf ps) with | some fd => _ | none => _) = _
     rw [← HPL.out, hnum]
    have HST := Lib.hid hst
    clear hst hnum
    by_cases hf : tvs.length < 2000
    ·go_wp2_with (first | (go_at_call 103; refine zC (fun W hL => hN.out _ _ _ _ _) ?_; clear hF hL; intro W hL hF) | (go_at_call 100; refine zG ?_; clear hF hL; intro W hL hF; have hL3 := hL.perm (L' := ((kt, .cells #[.int .i64 0, .string ⟨#[]⟩, .string P, pv, .int .i64 (-1), .int .i64 ln0] 76 (0, 0)) :: (q, .cells #[pv] 135 (0, 0)) :: LP) ++ ((b, .cells #[.string src, .int .i64 (at_), .int .i64 (ln), v] 111 (0, 0)) :: LO)) (fun p => by simp only [List.countP_cons, List.countP_append, List.countP_nil]; omega); (with_reducible refine (add_any src hs0 v b at_ ln _ LO tvs hL3.selfS hO hln 0 ⟨#[]⟩ P pv hpv ps (-1) ln0 _ _ (by omega) (by omega) hf).mono ?_); rintro e W2 ⟨rfl, v2, LO2, hO2, hb⟩; replace hL := hL3.joinS hb; clear hL3 hb hF; simp only [kfb] at hL; have hF := hL.fx))
     go_end0
     rw [HST.out]
     unfold TPost
     simp only [if_pos hf]
     refine ⟨trivial, at_, v2, LO2, pv, LP, hle, HLL.out, ?_, hP, ?_⟩
     ·rw [← HPL.out]; exact hO2
     ·have hL4 := hL.perm (L' := (kt, .cells #[.int .i64 0, .string ⟨#[]⟩, .string P, pv, .int .i64 (-1), .int .i64 ln0] 76 (0, 0)) :: (q, .cells #[pv] 135 (0, 0)) :: (b, .cells #[.string src, .int .i64 (at_), .int .i64 (ln), v2] 111 (0, 0)) :: (LO2 ++ LP)) (fun p => by simp only [List.countP_cons, List.countP_append, List.countP_nil]; omega)
      exact hL4.drop1.drop1
    ·go_wp2_with (first | (go_at_call 103; refine zC (fun W hL => hN.out _ _ _ _ _) ?_; clear hF hL; intro W hL hF) | (go_at_call 100; refine zG ?_; clear hF hL; intro W hL hF; have hL3 := hL.perm (L' := ((kt, .cells #[.int .i64 0, .string ⟨#[]⟩, .string P, pv, .int .i64 (-1), .int .i64 ln0] 76 (0, 0)) :: (q, .cells #[pv] 135 (0, 0)) :: LP) ++ ((b, .cells #[.string src, .int .i64 (at_), .int .i64 (ln), v] 111 (0, 0)) :: LO)) (fun p => by simp only [List.countP_cons, List.countP_append, List.countP_nil]; omega); (with_reducible refine (add_not src hs0 v b at_ ln _ LO tvs hL3.selfS hO hln 0 ⟨#[]⟩ P pv (-1) ln0 _ _ (by omega) (by omega) hf).mono ?_); rintro e W2 ⟨rfl, hb⟩; replace hL := hL3.joinS hb; clear hL3 hb hF; simp only [kfb] at hL; have hF := hL.fx))
     refine ⟨rfl, ?_⟩
     rw [HST.out]
     unfold TPost
     simp only [if_neg hf]
     exact ⟨trivial, hL.sub (List.nil_sublist _)⟩
   | some fd =>
    have hN : Hid (∀ (kd : Int) (tx : ByteArray) (fd0 ln : Int) W, Calls Tryz.prog 103 #[.agg #[.int .i64 kd, .string tx, .string P, pv, .int .i64 fd0, .int .i64 ln]] W fun e w' => e = .returned (.tuple #[.int .i64 fd, .bool true]) ∧ Below W.heap.size W w') := Lib.hid fun kd tx fd0 ln W => by
     have := number_is kd tx P pv fd0 ln hPs W
     rw [hnum] at this; exact this
    have hst : wordS ln0 V = if l.head? = some 60 ∨ l.head? = some 62 then ioS l fd ln0 ln else .tok ⟨0, [], plainOf ps, ps, -1, ln0⟩ l ln := by
     rw [HVE.out]
     show (match number (plainOf ps) with | some fd => _ | none => _) = _
     rw [← HPL.out, hnum]
    clear hnum
    have hA0 : Lib.hasPrefix (src.data.toList.drop at_) (⟨#[60]⟩ : ByteArray).data.toList = decide (l.head? = some 60) := by rw [HLL.out]; exact hp1 l 60
    have hB0 : Lib.hasPrefix (src.data.toList.drop at_) (⟨#[62]⟩ : ByteArray).data.toList = decide (l.head? = some 62) := by rw [HLL.out]; exact hp1 l 62
    by_cases hA1 : l.head? = some 60
    ·rw [decide_eq_true hA1] at hA0
     have hA := Lib.hid hA0
     rw [if_pos (.inl hA1)] at hst
     have HC1 : Hid (l.head? = some 60 ∨ l.head? = some 62) := Lib.hid (.inl hA1)
     clear hA0 hB0 hA1
     obtain ⟨tk, r2, m2, hio⟩ := ioS_tok l fd ln0 ln
     rw [hio] at hst
     have HST := Lib.hid hst
     have HIO : Hid (∀ W, Kn (b :: keys LO) W W ((b, .cells #[.string src, .int .i64 (at_), .int .i64 (ln), v] 111 (0, 0)) :: LO) → Calls Tryz.prog 84 #[.pointer (some ⟨b, 0, none⟩), .int .i64 fd, .int .i64 ln0] W (TPost src b (b :: keys LO) W v LO tvs (.tok tk r2 m2))) := Lib.hid fun W hK => by
      have := io_is src hs0 v b at_ ln W LO tvs hK hO hln l HLL.out HC1.out fd ln0
      rw [hio] at this; exact this
     clear hst hio
     by_cases hf : tvs.length < 2000
     ·go_wp2_with (first | ((with_reducible refine zS ?_); clear hL; intro W hL hF) | (go_at_call 103; refine zC (fun W hL => hN.out _ _ _ _ _) ?_; clear hF hL; intro W hL hF) | (go_at_call 83; refine zG ?_; clear hF hL; intro W hL hF; (((first | (with_reducible refine (rest_is src ⟨#[60]⟩ at_ ln v b _ (by (exact hL.has _ (List.mem_cons_of_mem _ (List.mem_cons_of_mem _ List.mem_cons_self)))) (by omega) hs true hA.out).mono ?_)))); rintro e W ⟨rfl, hb⟩; replace hL := hL.below hb; clear hb hF; have hF := hL.fx) | (go_at_call 84; refine zG ?_; clear hF hL; intro W hL hF; have hL3 := hL.perm (L' := ((kt, .cells #[.int .i64 0, .string ⟨#[]⟩, .string P, pv, .int .i64 (-1), .int .i64 ln0] 76 (0, 0)) :: (q, .cells #[pv] 135 (0, 0)) :: LP) ++ ((b, .cells #[.string src, .int .i64 (at_), .int .i64 (ln), v] 111 (0, 0)) :: LO)) (fun p => by simp only [List.countP_cons, List.countP_append, List.countP_nil]; omega); (with_reducible refine (HIO.out _ hL3.selfS).mono ?_); rintro e W2 hb; replace hb := TPost.lift hL3 hb; (simp only [TPost, if_pos hf] at hb); obtain ⟨rfl, hb⟩ := hb; clear hF))
      refine bodyPost_ret (by simp [results, Tryz.results85, go_sem, *]; try rfl) rfl ?_
      rw [HST.out]
      unfold TPost
      simp only [if_pos hf]
      exact ⟨trivial, hb⟩
     ·go_wp2_with (first | ((with_reducible refine zS ?_); clear hL; intro W hL hF) | (go_at_call 103; refine zC (fun W hL => hN.out _ _ _ _ _) ?_; clear hF hL; intro W hL hF) | (go_at_call 83; refine zG ?_; clear hF hL; intro W hL hF; (((first | (with_reducible refine (rest_is src ⟨#[60]⟩ at_ ln v b _ (by (exact hL.has _ (List.mem_cons_of_mem _ (List.mem_cons_of_mem _ List.mem_cons_self)))) (by omega) hs true hA.out).mono ?_)))); rintro e W ⟨rfl, hb⟩; replace hL := hL.below hb; clear hb hF; have hF := hL.fx) | (go_at_call 84; refine zG ?_; clear hF hL; intro W hL hF; have hL3 := hL.perm (L' := ((kt, .cells #[.int .i64 0, .string ⟨#[]⟩, .string P, pv, .int .i64 (-1), .int .i64 ln0] 76 (0, 0)) :: (q, .cells #[pv] 135 (0, 0)) :: LP) ++ ((b, .cells #[.string src, .int .i64 (at_), .int .i64 (ln), v] 111 (0, 0)) :: LO)) (fun p => by simp only [List.countP_cons, List.countP_append, List.countP_nil]; omega); (with_reducible refine (HIO.out _ hL3.selfS).mono ?_); rintro e W2 hb; replace hb := TPost.lift hL3 hb; (simp only [TPost, if_neg hf] at hb); obtain ⟨rfl, hb⟩ := hb; clear hF))
      refine ⟨rfl, ?_⟩
      rw [HST.out]
      unfold TPost
      simp only [if_neg hf]
      exact ⟨trivial, hb⟩
    rw [decide_eq_false hA1] at hA0
    have hA := Lib.hid hA0
    by_cases hB1 : l.head? = some 62
    ·rw [decide_eq_true hB1] at hB0
     have hB := Lib.hid hB0
     rw [if_pos (.inr hB1)] at hst
     have HC1 : Hid (l.head? = some 60 ∨ l.head? = some 62) := Lib.hid (.inr hB1)
     clear hA0 hB0 hA1 hB1
     obtain ⟨tk, r2, m2, hio⟩ := ioS_tok l fd ln0 ln
     rw [hio] at hst
     have HST := Lib.hid hst
     have HIO : Hid (∀ W, Kn (b :: keys LO) W W ((b, .cells #[.string src, .int .i64 (at_), .int .i64 (ln), v] 111 (0, 0)) :: LO) → Calls Tryz.prog 84 #[.pointer (some ⟨b, 0, none⟩), .int .i64 fd, .int .i64 ln0] W (TPost src b (b :: keys LO) W v LO tvs (.tok tk r2 m2))) := Lib.hid fun W hK => by
      have := io_is src hs0 v b at_ ln W LO tvs hK hO hln l HLL.out HC1.out fd ln0
      rw [hio] at this; exact this
     clear hst hio
     by_cases hf : tvs.length < 2000
     ·go_wp2_with (first | ((with_reducible refine zS ?_); clear hL; intro W hL hF) | (go_at_call 103; refine zC (fun W hL => hN.out _ _ _ _ _) ?_; clear hF hL; intro W hL hF) | (go_at_call 83; refine zG ?_; clear hF hL; intro W hL hF; (((first | (with_reducible refine (rest_is src ⟨#[60]⟩ at_ ln v b _ (by (exact hL.has _ (List.mem_cons_of_mem _ (List.mem_cons_of_mem _ List.mem_cons_self)))) (by omega) hs false hA.out).mono ?_) | (with_reducible refine (rest_is src ⟨#[62]⟩ at_ ln v b _ (by (exact hL.has _ (List.mem_cons_of_mem _ (List.mem_cons_of_mem _ List.mem_cons_self)))) (by omega) hs true hB.out).mono ?_)))); rintro e W ⟨rfl, hb⟩; replace hL := hL.below hb; clear hb hF; have hF := hL.fx) | (go_at_call 84; refine zG ?_; clear hF hL; intro W hL hF; have hL3 := hL.perm (L' := ((kt, .cells #[.int .i64 0, .string ⟨#[]⟩, .string P, pv, .int .i64 (-1), .int .i64 ln0] 76 (0, 0)) :: (q, .cells #[pv] 135 (0, 0)) :: LP) ++ ((b, .cells #[.string src, .int .i64 (at_), .int .i64 (ln), v] 111 (0, 0)) :: LO)) (fun p => by simp only [List.countP_cons, List.countP_append, List.countP_nil]; omega); (with_reducible refine (HIO.out _ hL3.selfS).mono ?_); rintro e W2 hb; replace hb := TPost.lift hL3 hb; (simp only [TPost, if_pos hf] at hb); obtain ⟨rfl, hb⟩ := hb; clear hF))
      refine bodyPost_ret (by simp [results, Tryz.results85, go_sem, *]; try rfl) rfl ?_
      rw [HST.out]
      unfold TPost
      simp only [if_pos hf]
      exact ⟨trivial, hb⟩
     ·go_wp2_with (first | ((with_reducible refine zS ?_); clear hL; intro W hL hF) | (go_at_call 103; refine zC (fun W hL => hN.out _ _ _ _ _) ?_; clear hF hL; intro W hL hF) | (go_at_call 83; refine zG ?_; clear hF hL; intro W hL hF; (((first | (with_reducible refine (rest_is src ⟨#[60]⟩ at_ ln v b _ (by (exact hL.has _ (List.mem_cons_of_mem _ (List.mem_cons_of_mem _ List.mem_cons_self)))) (by omega) hs false hA.out).mono ?_) | (with_reducible refine (rest_is src ⟨#[62]⟩ at_ ln v b _ (by (exact hL.has _ (List.mem_cons_of_mem _ (List.mem_cons_of_mem _ List.mem_cons_self)))) (by omega) hs true hB.out).mono ?_)))); rintro e W ⟨rfl, hb⟩; replace hL := hL.below hb; clear hb hF; have hF := hL.fx) | (go_at_call 84; refine zG ?_; clear hF hL; intro W hL hF; have hL3 := hL.perm (L' := ((kt, .cells #[.int .i64 0, .string ⟨#[]⟩, .string P, pv, .int .i64 (-1), .int .i64 ln0] 76 (0, 0)) :: (q, .cells #[pv] 135 (0, 0)) :: LP) ++ ((b, .cells #[.string src, .int .i64 (at_), .int .i64 (ln), v] 111 (0, 0)) :: LO)) (fun p => by simp only [List.countP_cons, List.countP_append, List.countP_nil]; omega); (with_reducible refine (HIO.out _ hL3.selfS).mono ?_); rintro e W2 hb; replace hb := TPost.lift hL3 hb; (simp only [TPost, if_neg hf] at hb); obtain ⟨rfl, hb⟩ := hb; clear hF))
      refine ⟨rfl, ?_⟩
      rw [HST.out]
      unfold TPost
      simp only [if_neg hf]
      exact ⟨trivial, hb⟩
    rw [decide_eq_false hB1] at hB0
    have hB := Lib.hid hB0
    rw [if_neg (fun h => h.elim hA1 hB1)] at hst
    have HST := Lib.hid hst
    clear hst hA0 hB0 hA1 hB1
    by_cases hf : tvs.length < 2000
    ·go_wp2_with (first | ((with_reducible refine zS ?_); clear hL; intro W hL hF) | (go_at_call 103; refine zC (fun W hL => hN.out _ _ _ _ _) ?_; clear hF hL; intro W hL hF) | (go_at_call 83; refine zG ?_; clear hF hL; intro W hL hF; (((first | (with_reducible refine (rest_is src ⟨#[60]⟩ at_ ln v b _ (by (exact hL.has _ (List.mem_cons_of_mem _ (List.mem_cons_of_mem _ List.mem_cons_self)))) (by omega) hs false hA.out).mono ?_) | (with_reducible refine (rest_is src ⟨#[62]⟩ at_ ln v b _ (by (exact hL.has _ (List.mem_cons_of_mem _ (List.mem_cons_of_mem _ List.mem_cons_self)))) (by omega) hs false hB.out).mono ?_)))); rintro e W ⟨rfl, hb⟩; replace hL := hL.below hb; clear hb hF; have hF := hL.fx) | (go_at_call 100; refine zG ?_; clear hF hL; intro W hL hF; have hL3 := hL.perm (L' := ((kt, .cells #[.int .i64 0, .string ⟨#[]⟩, .string P, pv, .int .i64 (-1), .int .i64 ln0] 76 (0, 0)) :: (q, .cells #[pv] 135 (0, 0)) :: LP) ++ ((b, .cells #[.string src, .int .i64 (at_), .int .i64 (ln), v] 111 (0, 0)) :: LO)) (fun p => by simp only [List.countP_cons, List.countP_append, List.countP_nil]; omega); (with_reducible refine (add_any src hs0 v b at_ ln _ LO tvs hL3.selfS hO hln 0 ⟨#[]⟩ P pv hpv ps (-1) ln0 _ _ (by omega) (by omega) hf).mono ?_); rintro e W2 ⟨rfl, v2, LO2, hO2, hb⟩; replace hL := hL3.joinS hb; clear hL3 hb hF; simp only [kfb] at hL; have hF := hL.fx))
     go_end0
     rw [HST.out]
     unfold TPost
     simp only [if_pos hf]
     refine ⟨trivial, at_, v2, LO2, pv, LP, hle, HLL.out, ?_, hP, ?_⟩
     ·rw [← HPL.out]; exact hO2
     ·have hL4 := hL.perm (L' := (kt, .cells #[.int .i64 0, .string ⟨#[]⟩, .string P, pv, .int .i64 (-1), .int .i64 ln0] 76 (0, 0)) :: (q, .cells #[pv] 135 (0, 0)) :: (b, .cells #[.string src, .int .i64 (at_), .int .i64 (ln), v2] 111 (0, 0)) :: (LO2 ++ LP)) (fun p => by simp only [List.countP_cons, List.countP_append, List.countP_nil]; omega)
      exact hL4.drop1.drop1
    ·go_wp2_with (first | ((with_reducible refine zS ?_); clear hL; intro W hL hF) | (go_at_call 103; refine zC (fun W hL => hN.out _ _ _ _ _) ?_; clear hF hL; intro W hL hF) | (go_at_call 83; refine zG ?_; clear hF hL; intro W hL hF; (((first | (with_reducible refine (rest_is src ⟨#[60]⟩ at_ ln v b _ (by (exact hL.has _ (List.mem_cons_of_mem _ (List.mem_cons_of_mem _ List.mem_cons_self)))) (by omega) hs false hA.out).mono ?_) | (with_reducible refine (rest_is src ⟨#[62]⟩ at_ ln v b _ (by (exact hL.has _ (List.mem_cons_of_mem _ (List.mem_cons_of_mem _ List.mem_cons_self)))) (by omega) hs false hB.out).mono ?_)))); rintro e W ⟨rfl, hb⟩; replace hL := hL.below hb; clear hb hF; have hF := hL.fx) | (go_at_call 100; refine zG ?_; clear hF hL; intro W hL hF; have hL3 := hL.perm (L' := ((kt, .cells #[.int .i64 0, .string ⟨#[]⟩, .string P, pv, .int .i64 (-1), .int .i64 ln0] 76 (0, 0)) :: (q, .cells #[pv] 135 (0, 0)) :: LP) ++ ((b, .cells #[.string src, .int .i64 (at_), .int .i64 (ln), v] 111 (0, 0)) :: LO)) (fun p => by simp only [List.countP_cons, List.countP_append, List.countP_nil]; omega); (with_reducible refine (add_not src hs0 v b at_ ln _ LO tvs hL3.selfS hO hln 0 ⟨#[]⟩ P pv (-1) ln0 _ _ (by omega) (by omega) hf).mono ?_); rintro e W2 ⟨rfl, hb⟩; replace hL := hL3.joinS hb; clear hL3 hb hF; simp only [kfb] at hL; have hF := hL.fx))
     refine ⟨rfl, ?_⟩
     rw [HST.out]
     unfold TPost
     simp only [if_neg hf]
     exact ⟨trivial, hL.sub (List.nil_sublist _)⟩
end Go.Proofs.YtgboffbbpmileaaGreatDoor
