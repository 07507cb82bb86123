/- Places. Of no program. -/
import Derived.Test.YtflfaobbfhjmmaaDoorLxC
set_option linter.unusedVariables false
namespace Go.Proofs.YtflfaobbfhjmmaaDoor
open Go
/-! Places within a string: the program's way to say what scan and brk say. -/
theorem brk_ix (c : UInt8) : ∀ l : Bytes, (brk c l = none ∧ Lib.indexByte l c = -1) ∨ ∃ a r, brk c l = some (a, r) ∧ Lib.indexByte l c = a.length
  | [] => .inl ⟨rfl, rfl⟩
  | d :: t => by
    rw [brk, Lib.indexByte]
    by_cases h : d = c
    · subst h; right; exact ⟨[], t, by simp, by simp⟩
    · rw [if_neg h, beq_false_of_ne h]
      rcases brk_ix c t with ⟨h1, h2⟩ | ⟨a, r, h1, h2⟩
      · left; rw [h1, h2]; exact ⟨rfl, rfl⟩
      · right; refine ⟨d :: a, r, by rw [h1]; rfl, ?_⟩
        rw [h2]
        have : ((a.length : Int) == -1) = false := beq_false_of_ne (by omega)
        rw [this]; simp
def closerB : Option Nat → UInt8
  | none => 34
  | some _ => 41
theorem scan_text : ∀ (f : Nat) (m : Option Nat) (s a r : Bytes), scan f m s = some (a, r) → s = a ++ closerB m :: r := by
  intro f
  induction f with
  | zero => intro m s a r h; cases m <;> cases h
  | succ f ih =>
    intro m s a r h
    cases s with
    | nil => cases m <;> cases h
    | cons c t =>
      have one : ∀ (m' : Option Nat) (t' : Bytes) (g : Bytes → Bytes) (p : Bytes), ((scan f m' t').map fun x => (g x.1, x.2)) = some (a, r) → closerB m' = closerB m → (∀ x, g x = p ++ x) → c :: t = p ++ t' → c :: t = a ++ closerB m :: r := by
        intro m' t' g p h hc hg hp
        cases hs : scan f m' t' with
        | none => rw [hs] at h; cases h
        | some y =>
          obtain ⟨y1, y2⟩ := y
          rw [hs] at h
          simp only [Option.map_some, Option.some.injEq, Prod.mk.injEq] at h
          obtain ⟨rfl, rfl⟩ := h
          rw [hp, hg, ih _ _ _ _ hs, hc, List.append_assoc]
      cases m with
      | some d =>
        rw [scan_some] at h
        split at h
        · rename_i h92
          subst h92
          split at h
          · cases h
          · rename_i e t'
            exact one _ _ (fun z => 92 :: e :: z) [92, e] h rfl (fun _ => rfl) rfl
        · split at h
          · rename_i h39
            subst h39
            cases hb : brk 39 t with
            | none => rw [hb] at h; cases h
            | some y =>
              rw [hb] at h
              simp only [Option.bind_some] at h
              obtain ⟨h1, _⟩ := brk_text (a := y.1) (r := y.2) hb
              refine one _ _ (fun z => 39 :: (y.1 ++ 39 :: z)) (39 :: (y.1 ++ [39])) h rfl (fun _ => by simp) ?_
              rw [h1]; simp
          · split at h
            · rename_i h34
              subst h34
              cases hb : scan f none t with
              | none => rw [hb] at h; cases h
              | some y =>
                rw [hb] at h
                simp only [Option.bind_some] at h
                have h1 := ih _ _ y.1 y.2 hb
                refine one _ _ (fun z => 34 :: (y.1 ++ 34 :: z)) (34 :: (y.1 ++ [34])) h rfl (fun _ => by simp) ?_
                rw [h1]; simp [closerB]
            · split at h
              · rename_i h40
                subst h40
                exact one _ _ (fun z => 40 :: z) [40] h rfl (fun _ => rfl) rfl
              · split at h
                · rename_i h41
                  subst h41
                  split at h
                  · simp only [Option.some.injEq, Prod.mk.injEq] at h
                    obtain ⟨rfl, rfl⟩ := h
                    rfl
                  · exact one _ _ (fun z => 41 :: z) [41] h rfl (fun _ => rfl) rfl
                · exact one _ _ (fun z => c :: z) [c] h rfl (fun _ => rfl) rfl
      | none =>
        rw [scan_none] at h
        split at h
        · rename_i h34
          subst h34
          simp only [Option.some.injEq, Prod.mk.injEq] at h
          obtain ⟨rfl, rfl⟩ := h
          rfl
        · split at h
          · rename_i h92
            subst h92
            split at h
            · cases h
            · rename_i e t'
              exact one _ _ (fun z => 92 :: e :: z) [92, e] h rfl (fun _ => rfl) rfl
          · split at h
            · rename_i h36
              obtain ⟨rfl, h40⟩ := h36
              cases hb : scan f (some 1) (t.drop 1) with
              | none => rw [hb] at h; cases h
              | some y =>
                rw [hb] at h
                simp only [Option.bind_some] at h
                have h1 := ih _ _ y.1 y.2 hb
                refine one _ _ (fun z => 36 :: 40 :: (y.1 ++ 41 :: z)) (36 :: 40 :: (y.1 ++ [41])) h rfl (fun _ => by simp) ?_
                cases t with
                | nil => cases h40
                | cons e t =>
                  simp only [List.head?_cons, Option.some.injEq] at h40
                  subst h40
                  simp only [List.drop_succ_cons, List.drop_zero] at h1
                  rw [h1]; simp [closerB]
            · exact one _ _ (fun z => c :: z) [c] h rfl (fun _ => rfl) rfl
/-- The place at which what begins at the place i ends; -1 if it does not. -/
def pl (i : Nat) : Option (Bytes × Bytes) → Int
  | none => -1
  | some x => (i : Int) + x.1.length
def cr (m : Option Nat) (i : Nat) (l : Bytes) : Int := pl i (scan (l.length + 1) m l)
theorem cr_of {m : Option Nat} {i f : Nat} {l : Bytes} (h : l.length < f) : cr m i l = pl i (scan f m l) := by
  unfold cr; rw [scan_fuel (l.length + 1) f m l (by omega) h]
theorem pl_map (i n : Nat) (g : Bytes → Bytes) (hg : ∀ x, (g x).length = x.length + n) (o : Option (Bytes × Bytes)) : pl i (o.map fun x => (g x.1, x.2)) = pl (i + n) o := by
  cases o with
  | none => rfl
  | some x => simp only [pl, Option.map_some, hg]; omega
theorem cr_nil (m : Option Nat) (i : Nat) : cr m i [] = -1 := by cases m <;> rfl
theorem cr_one (m : Option Nat) (i : Nat) : cr m i [92] = -1 := by cases m <;> rfl
theorem cr_esc (m : Option Nat) (i : Nat) (e : UInt8) (t : Bytes) : cr m i (92 :: e :: t) = cr m (i + 2) t := by
  have h : cr m (i + 2) t = pl (i + 2) (scan (t.length + 2) m t) := cr_of (by omega)
  rw [h]
  show pl i (scan (t.length + 2 + 1) m (92 :: e :: t)) = _
  cases m with
  | none => exact pl_map i 2 (fun x => 92 :: e :: x) (fun _ => rfl) _
  | some d => exact pl_map i 2 (fun x => 92 :: e :: x) (fun _ => rfl) _
theorem cr_sq (d i : Nat) (t : Bytes) : (Lib.indexByte t 39 = -1 ∧ cr (some d) i (39 :: t) = -1) ∨ ∃ n : Nat, Lib.indexByte t 39 = n ∧ n < t.length ∧ cr (some d) i (39 :: t) = cr (some d) (i + n + 2) (t.drop (n + 1)) := by
  rcases brk_ix 39 t with ⟨h1, h2⟩ | ⟨a, r, h1, h2⟩
  · left; refine ⟨h2, ?_⟩
    show pl i (scan (t.length + 1 + 1) (some d) (39 :: t)) = _
    rw [scan_some, if_neg (by decide), if_pos rfl, h1]; rfl
  · right
    obtain ⟨ht, _⟩ := brk_text h1
    refine ⟨a.length, h2, by rw [ht]; simp, ?_⟩
    have hd : t.drop (a.length + 1) = r := by rw [ht]; simp [← List.drop_drop]
    have hlt : r.length < t.length + 1 := by rw [ht]; simp; omega
    rw [hd, cr_of hlt]
    show pl i (scan (t.length + 1 + 1) (some d) (39 :: t)) = _
    rw [scan_some, if_neg (by decide), if_pos rfl, h1]
    exact pl_map i (a.length + 2) (fun x => 39 :: (a ++ 39 :: x)) (fun x => by simp; omega) _
theorem sub_pl {m : Option Nat} {t : Bytes} : (cr m 0 t = -1 ∧ ∀ f, t.length < f → scan f m t = none) ∨ ∃ (n : Nat) (a r : Bytes), cr m 0 t = n ∧ n = a.length ∧ n < t.length ∧ r = t.drop (n + 1) ∧ ∀ f, t.length < f → scan f m t = some (a, r) := by
  cases h : scan (t.length + 1) m t with
  | none => left; exact ⟨by unfold cr; rw [h]; rfl, fun f hf => by rw [← h]; exact scan_fuel _ _ _ _ hf (by omega)⟩
  | some y =>
    obtain ⟨a, r⟩ := y
    right
    have ht := scan_text _ _ _ _ _ h
    refine ⟨a.length, a, r, by unfold cr; rw [h]; simp [pl], rfl, ?_, ?_, fun f hf => by rw [← h]; exact scan_fuel _ _ _ _ hf (by omega)⟩
    · have := congrArg List.length ht; simp at this; omega
    · have e : t.drop (a.length + 1) = (a ++ closerB m :: r).drop (a.length + 1) := congrArg _ ht
      rw [e]; simp [← List.drop_drop]
theorem cr_dq (d i : Nat) (t : Bytes) : (cr none 0 t = -1 ∧ cr (some d) i (34 :: t) = -1) ∨ ∃ n : Nat, cr none 0 t = n ∧ n < t.length ∧ cr (some d) i (34 :: t) = cr (some d) (i + n + 2) (t.drop (n + 1)) := by
  have hs : cr (some d) i (34 :: t) = pl i ((scan (t.length + 1) none t).bind fun y => (scan (t.length + 1) (some d) y.2).map fun x => (34 :: (y.1 ++ 34 :: x.1), x.2)) := by
    show pl i (scan (t.length + 1 + 1) (some d) (34 :: t)) = _
    rw [scan_some, if_neg (by decide), if_neg (by decide), if_pos rfl]
  rcases sub_pl (m := none) (t := t) with ⟨h1, h2⟩ | ⟨n, a, r, h1, h2, h3, h4, h5⟩
  · left; exact ⟨h1, by rw [hs, h2 _ (by omega)]; rfl⟩
  · right
    refine ⟨n, h1, h3, ?_⟩
    rw [hs, h5 _ (by omega), ← h4]
    have : r.length < t.length + 1 := by rw [h4, List.length_drop]; omega
    rw [cr_of this]
    exact pl_map i (n + 2) (fun x => 34 :: (a ++ 34 :: x)) (fun x => by simp; omega) _
theorem cr_op (d i : Nat) (t : Bytes) : cr (some d) i (40 :: t) = cr (some (d + 1)) (i + 1) t := by
  show pl i (scan (t.length + 1 + 1) (some d) (40 :: t)) = _
  rw [scan_some, if_neg (by decide), if_neg (by decide), if_neg (by decide), if_pos rfl, cr_of (Nat.lt_succ_self _)]
  exact pl_map i 1 (fun x => 40 :: x) (fun x => by simp) _
theorem cr_cl (i : Nat) (t : Bytes) : cr (some 1) i (41 :: t) = i := by
  show pl i (scan (t.length + 1 + 1) (some 1) (41 :: t)) = _
  rw [scan_some, if_neg (by decide), if_neg (by decide), if_neg (by decide), if_neg (by decide), if_pos rfl, if_pos rfl]
  simp [pl]
theorem cr_down (d i : Nat) (t : Bytes) (hd : d ≠ 1) : cr (some d) i (41 :: t) = cr (some (d - 1)) (i + 1) t := by
  show pl i (scan (t.length + 1 + 1) (some d) (41 :: t)) = _
  rw [scan_some, if_neg (by decide), if_neg (by decide), if_neg (by decide), if_neg (by decide), if_pos rfl, if_neg hd, cr_of (Nat.lt_succ_self _)]
  exact pl_map i 1 (fun x => 41 :: x) (fun x => by simp) _
theorem cr_else (d i : Nat) (c : UInt8) (t : Bytes) (h1 : c ≠ 92) (h2 : c ≠ 39) (h3 : c ≠ 34) (h4 : c ≠ 40) (h5 : c ≠ 41) : cr (some d) i (c :: t) = cr (some d) (i + 1) t := by
  show pl i (scan (t.length + 1 + 1) (some d) (c :: t)) = _
  rw [scan_some, if_neg h1, if_neg h2, if_neg h3, if_neg h4, if_neg h5, cr_of (Nat.lt_succ_self _)]
  exact pl_map i 1 (fun x => c :: x) (fun x => by simp) _
theorem cq_end (i : Nat) (t : Bytes) : cr none i (34 :: t) = i := by
  show pl i (scan (t.length + 1 + 1) none (34 :: t)) = _
  rw [scan_none, if_pos rfl]; simp [pl]
theorem cq_sub (i : Nat) (t : Bytes) : (cr (some 1) 0 t = -1 ∧ cr none i (36 :: 40 :: t) = -1) ∨ ∃ n : Nat, cr (some 1) 0 t = n ∧ n < t.length ∧ cr none i (36 :: 40 :: t) = cr none (i + n + 3) (t.drop (n + 1)) := by
  have hs : cr none i (36 :: 40 :: t) = pl i ((scan (t.length + 2) (some 1) t).bind fun y => (scan (t.length + 2) none y.2).map fun x => (36 :: 40 :: (y.1 ++ 41 :: x.1), x.2)) := by
    show pl i (scan (t.length + 2 + 1) none (36 :: 40 :: t)) = _
    rw [scan_none, if_neg (by decide), if_neg (by decide), if_pos (by simp)]
    rfl
  rcases sub_pl (m := some 1) (t := t) with ⟨h1, h2⟩ | ⟨n, a, r, h1, h2, h3, h4, h5⟩
  · left; exact ⟨h1, by rw [hs, h2 _ (by omega)]; rfl⟩
  · right
    refine ⟨n, h1, h3, ?_⟩
    rw [hs, h5 _ (by omega), ← h4]
    have : r.length < t.length + 2 := by rw [h4, List.length_drop]; omega
    rw [cr_of this]
    exact pl_map i (n + 3) (fun x => 36 :: 40 :: (a ++ 41 :: x)) (fun x => by simp; omega) _
theorem cq_else (i : Nat) (c : UInt8) (t : Bytes) (h1 : c ≠ 34) (h2 : c ≠ 92) (h3 : ¬ (c = 36 ∧ t.head? = some 40)) : cr none i (c :: t) = cr none (i + 1) t := by
  show pl i (scan (t.length + 1 + 1) none (c :: t)) = _
  rw [scan_none, if_neg h1, if_neg h2, if_neg h3, cr_of (Nat.lt_succ_self _)]
  exact pl_map i 1 (fun x => c :: x) (fun x => by simp) _
theorem cr_parens (t : Bytes) : (parens t = none ∧ cr (some 1) 0 t = -1) ∨ ∃ (a r : Bytes), parens t = some (a, r) ∧ cr (some 1) 0 t = a.length ∧ a.length < t.length ∧ a = t.take a.length ∧ r = t.drop (a.length + 1) := by
  rcases sub_pl (m := some 1) (t := t) with ⟨h1, h2⟩ | ⟨n, a, r, h1, h2, h3, h4, h5⟩
  · left; exact ⟨h2 _ (by omega), h1⟩
  · right
    have h6 := h5 (t.length + 1) (by omega)
    refine ⟨a, r, h6, by rw [h1, h2], by omega, ?_, by rw [h4, h2]⟩
    have := scan_text _ _ _ _ _ h6
    have e : t.take a.length = (a ++ closerB (some 1) :: r).take a.length := congrArg _ this
    rw [e]; simp
def tot (ps : List Prt) : Nat := (ps.map (·.t.length)).sum
theorem tot_snoc (ps : List Prt) (p : Prt) : tot (ps ++ [p]) = tot ps + p.t.length := by simp [tot]
/-- How much a word's parts hold. -/
def sz (ps : List Prt) : Nat := ps.length + tot ps
theorem sz_snoc (ps : List Prt) (p : Prt) : sz (ps ++ [p]) = sz ps + 1 + p.t.length := by unfold sz; rw [tot_snoc]; simp; omega
theorem addT_sz : ∀ (ps : List Prt) (s : Bytes) (q : Bool), sz (addT ps s q) ≤ sz ps + 1 + s.length
  | [], s, q => by simp [addT, sz, tot]
  | [p], s, q => by
    rw [addT]
    split <;> simp [sz, tot] <;> omega
  | a :: b :: i, s, q => by
    show sz (a :: addT (b :: i) s q) ≤ _
    have := addT_sz (b :: i) s q
    simp [sz, tot] at this ⊢
    omega
theorem lf_le (a : Bytes) : lf a ≤ a.length := List.count_le_length
theorem dollar_sz {ps : List Prt} {s : Bytes} {n : Nat} {q : Bool} {st : St} (h : dollar ps s n q = .ok st) : sz st.1 + st.2.1.length ≤ sz ps + s.length + 2 ∧ n ≤ st.2.2 ∧ st.2.2 + st.2.1.length ≤ n + s.length ∧ st.2.1.length ≤ s.length := by
  unfold dollar at h
  split at h
  · rename_i h40
    cases hp : parens (s.drop 1) with
    | none => rw [hp] at h; cases h
    | some z =>
      obtain ⟨a, r⟩ := z
      rw [hp] at h
      injection h with h
      rw [← h]
      have ht := congrArg List.length (scan_text _ _ _ _ _ hp)
      simp only [List.length_drop, List.length_append, List.length_cons] at ht
      have := lf_le a
      simp only [sz_snoc]
      omega
  · split at h
    · cases hp : brk 125 (s.drop 1) with
      | none => rw [hp] at h; cases h
      | some z =>
        obtain ⟨a, r⟩ := z
        rw [hp] at h
        simp only at h
        split at h
        · cases h
        · injection h with h
          rw [← h]
          have ht := congrArg List.length (brk_text hp).1
          simp only [List.length_drop, List.length_append, List.length_cons] at ht
          simp only [sz_snoc]
          omega
    · split at h
      · injection h with h; rw [← h]
        have := param_le s
        simp only [sz_snoc, List.length_take, List.length_drop]
        omega
      · injection h with h; rw [← h]
        have := addT_sz ps [36] true
        simp only [List.length_cons, List.length_nil] at this ⊢
        omega
theorem double_fuel (n0 : Nat) : ∀ (f g : Nat) (ps : List Prt) (l : Bytes) (n : Nat), l.length < f → l.length < g → double f n0 (ps, l, n) = double g n0 (ps, l, n) := by
  intro f
  induction f with
  | zero => intro g ps l n h; omega
  | succ f ih =>
    intro g ps l n h1 h2
    obtain ⟨g, rfl⟩ : ∃ g', g = g' + 1 := ⟨g - 1, by omega⟩
    cases l with
    | nil => rfl
    | cons c t =>
      simp only [List.length_cons] at h1 h2
      rw [double_cons, double_cons]
      by_cases h34 : c = 34
      · rw [if_pos h34, if_pos h34]
      rw [if_neg h34, if_neg h34]
      by_cases h36 : c = 36
      · rw [if_pos h36, if_pos h36]
        cases hd : dollar ps t n true with
        | bad m => rfl
        | ok x =>
          obtain ⟨ps', r, m⟩ := x
          have : r.length ≤ t.length := (dollar_sz hd).2.2.2
          exact ih g ps' r m (by omega) (by omega)
      rw [if_neg h36, if_neg h36]
      by_cases h92 : c = 92
      · rw [if_pos h92, if_pos h92]
        cases t with
        | nil => exact ih _ _ _ _ (by omega) (by omega)
        | cons d r =>
          simp only [List.length_cons] at h1 h2
          show (if esc d then _ else _) = (if esc d then _ else _)
          split
          · exact ih _ _ _ _ (by omega) (by omega)
          · exact ih _ _ _ _ (by simp only [List.length_cons]; omega) (by simp only [List.length_cons]; omega)
      rw [if_neg h92, if_neg h92]
      exact ih _ _ _ _ (by omega) (by omega)
def dbl (n0 : Nat) (x : St) : R St := double (x.2.1.length + 1) n0 x
theorem dbl_of (n0 f : Nat) (ps : List Prt) (l : Bytes) (n : Nat) (h : l.length < f) : double f n0 (ps, l, n) = dbl n0 (ps, l, n) := double_fuel n0 _ _ _ _ _ h (Nat.lt_succ_self _)
theorem dbl_nil (n0 : Nat) (ps : List Prt) (n : Nat) : dbl n0 (ps, [], n) = .bad n0 := rfl
theorem dbl_end (n0 : Nat) (ps : List Prt) (t : Bytes) (n : Nat) : dbl n0 (ps, 34 :: t, n) = .ok (ps, t, n) := by
  show double (t.length + 1 + 1) n0 _ = _
  rw [double_cons, if_pos rfl]
theorem dbl_dollar (n0 : Nat) (ps : List Prt) (t : Bytes) (n : Nat) : dbl n0 (ps, 36 :: t, n) = (match dollar ps t n true with
    | .bad m => .bad m
    | .ok x => dbl n0 x) := by
  show double (t.length + 1 + 1) n0 _ = _
  rw [double_cons, if_neg (by decide), if_pos rfl]
  cases hd : dollar ps t n true with
  | bad m => rfl
  | ok x =>
    obtain ⟨ps', r, m⟩ := x
    have : r.length ≤ t.length := (dollar_sz hd).2.2.2
    exact dbl_of n0 _ _ _ _ (by omega)
theorem dbl_esc (n0 : Nat) (ps : List Prt) (d : UInt8) (r : Bytes) (n : Nat) (h : esc d = true) : dbl n0 (ps, 92 :: d :: r, n) = dbl n0 (addT ps [d] true, r, n) := by
  show double (r.length + 1 + 1 + 1) n0 _ = _
  rw [double_cons, if_neg (by decide), if_neg (by decide), if_pos rfl]
  show (if esc d then _ else _) = _
  rw [if_pos h]
  exact dbl_of n0 _ _ _ _ (by omega)
theorem dbl_one (n0 : Nat) (ps : List Prt) (c : UInt8) (t : Bytes) (n : Nat) (h1 : c ≠ 34) (h2 : c ≠ 36) (h3 : c ≠ 92 ∨ ∀ d r, t = d :: r → esc d = false) : dbl n0 (ps, c :: t, n) = dbl n0 (addT ps [c] true, t, n + lf [c]) := by
  show double (t.length + 1 + 1) n0 _ = _
  rw [double_cons, if_neg h1, if_neg h2]
  by_cases h92 : c = 92
  · subst h92
    rw [if_pos rfl]
    cases t with
    | nil => rfl
    | cons d r =>
      have := (h3.resolve_left (by simp)) d r rfl
      show (if esc d then _ else _) = _
      rw [if_neg (by rw [this]; simp)]
      exact dbl_of n0 _ _ _ _ (by simp)
  · rw [if_neg h92]
    exact dbl_of n0 _ _ _ _ (by omega)
/-- The bounds that hold on the way. -/
def Sz (at_ ln : Nat) (ps : List Prt) : Prop := sz ps ≤ 2 * at_ ∧ ln ≤ at_ + 1
end Go.Proofs.YtflfaobbfhjmmaaDoor
