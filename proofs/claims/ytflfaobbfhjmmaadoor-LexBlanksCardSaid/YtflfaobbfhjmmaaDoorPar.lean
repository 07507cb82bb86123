/- A region whose order is drawn, walked once in an order of one's own choice: operations that leave the world alone come as early as they can; the others (calls, stores, new memory), whose order the edges fix, may hand back whatever they like. -/
import Derived.StillTail
import Derived.Deep.Quiet
import Derived.Deep.QuietTactic
import Derived.Below
import Derived.BigQuiet
import Derived.WalkKit
import Derived.WalkSmall
namespace Go.Proofs.YtflfaobbfhjmmaaDoor
open Go Go.RowKit
set_option linter.unusedVariables false
set_option linter.unusedSimpArgs false

section
variable {P : Program} {ops : Array Oper} {md : Region.Mode}
/-- An operation that leaves the world alone and yields v. -/
def floatAt (P : Program) (o : Oper) (a : Act) (w : World) (v : Value) : Prop :=
  match (execOp a.eval o).run P w with
  | .ok (.value u) w' => w' = w ∧ u = v
  | .ok .skip w' => w' = w ∧ v = undef
  | _ => False
/-- Any operation: what it yields, and the world behind it; where it panics. -/
def anchAt (P : Program) (o : Oper) (a : Act) (w : World) (K : Value → World → Prop) (Qp : List PanicEntry → World → Prop) : Prop :=
  match (execOp a.eval o).run P w with
  | .ok (.value u) w' => K u w'
  | .ok .skip w' => K undef w'
  | .ok (.enter f args) w' => Calls P f args w' fun
      | .returned v, w'' => K v w''
      | .panicked ch, w'' => Qp ch w''
      | .outgrown, _ => False
  | .halt (.panic v) w' => Qp [{ v, recovered := false }] w'
  | _ => False
theorem anchAt_mono {o : Oper} {a : Act} {w : World} {K K' : Value → World → Prop} {Qp : List PanicEntry → World → Prop} (h : ∀ v w, K v w → K' v w) (hh : anchAt P o a w K Qp) : anchAt P o a w K' Qp := by
  unfold anchAt at *
  generalize (execOp a.eval o).run P w = r at *
  cases r with
  | ok n w' =>
    cases n <;> simp only at hh ⊢
    case value u => exact h _ _ hh
    case skip => exact h _ _ hh
    case enter f args => exact hh.mono fun e w'' he => by cases e <;> first | exact h _ _ he | exact he
    all_goals exact hh.elim
  | halt x w' => cases x <;> simp only at hh ⊢ <;> first | exact hh | exact hh.elim

/-- The walk in the order chosen: S what is known of the world, Wk what is known of every world in which an operation that floats may run. -/
def cw (P : Program) (ops : Array Oper) (fl br pu : Nat → Bool) (Q : Act → World → Prop) (Qp : List PanicEntry → World → Prop) : List Nat → Act → (World → Prop) → (World → Prop) → Prop
  | [], a, S, _ => ∀ w, S w → Q a w
  | i :: rest, a, S, Wk => ∃ o, ops[i]? = some o ∧
      ((Region.wanted o (yielded ops a.tmps) = true ∧ fl i = true ∧ ∃ v, (∀ w, pu i = true ∨ Wk w → floatAt P o a w v) ∧ cw P ops fl br pu Q Qp rest (a.put o.dst v) S Wk) ∨
       (Region.wanted o (yielded ops a.tmps) = true ∧ fl i = false ∧ ∀ w, S w → anchAt P o a w (fun v w' => ∃ S' Wk' : World → Prop, S' w' ∧ (∀ u, S' u → Wk' u) ∧ (br i = true ∨ ∀ u, Wk' u → Wk u) ∧ cw P ops fl br pu Q Qp rest (a.put o.dst v) S' Wk') Qp) ∨
       (Region.wanted o (yielded ops a.tmps) = false ∧ cw P ops fl br pu Q Qp rest (a.put o.dst undef) S Wk))

/-- Of what follows i: it waits for i, or i floats and the two are apart. -/
def okFrom (md : Region.Mode) (ops : Array Oper) (fl br pu : Nat → Bool) (i : Nat) : List Nat → List Nat → Bool
  | _, [] => true
  | D, j :: r =>
    match ops[i]?, ops[j]? with
    | some oi, some oj =>
      if oj.after.any (fun e => Region.binds md e && D.contains e.on) then okFrom md ops fl br pu i (j :: D) r
      else (fl i && (!br j || pu i) && oi.apart ops oj) && okFrom md ops fl br pu i D r
    | _, _ => false
def okAll (md : Region.Mode) (ops : Array Oper) (fl br pu : Nat → Bool) : List Nat → Bool
  | [] => true
  | i :: r =>
    (match ops[i]? with | some o => o.after.all (fun e => !Region.binds md e || (decide (e.on < ops.size) && !(i :: r).contains e.on)) | none => false) &&
    !r.contains i && okFrom md ops fl br pu i [i] r && okAll md ops fl br pu r

theorem okFrom_drop {fl br pu : Nat → Bool} {i k : Nat} {oi ok : Oper} (hi : ops[i]? = some oi) (hk : ops[k]? = some ok) {rest : List Nat} (hr : ∀ e ∈ ok.after, Region.binds md e = true → e.on ∉ rest) :
    ∀ (pre post D : List Nat), (∀ d ∈ D, d ∈ rest) → (∀ j ∈ pre, j ∈ rest) → okFrom md ops fl br pu i D (pre ++ k :: post) = true →
    (fl i = true ∧ (br k = false ∨ pu i = true)) ∧ oi.apart ops ok = true ∧ okFrom md ops fl br pu i D (pre ++ post) = true := by
  intro pre
  induction pre with
  | nil =>
    intro post D hD _ h
    simp only [List.nil_append, okFrom, hi, hk] at h ⊢
    have : ok.after.any (fun e => Region.binds md e && D.contains e.on) = false := by
      rw [Bool.eq_false_iff]
      intro ha
      obtain ⟨e, he, hb⟩ := Array.any_eq_true'.1 ha
      simp only [Bool.and_eq_true, List.contains_iff_mem] at hb
      exact hr e he hb.1 (hD _ hb.2)
    rw [if_neg (by rw [this]; simp)] at h
    simp only [Bool.and_eq_true, Bool.or_eq_true, Bool.not_eq_true'] at h
    exact ⟨h.1.1, h.1.2, h.2⟩
  | cons j pre ih =>
    intro post D hD hp h
    simp only [List.cons_append, okFrom, hi] at h ⊢
    cases hj : ops[j]? with
    | none => simp [hj] at h
    | some oj =>
      simp only [hj] at h ⊢
      split at h
      · rename_i ha
        rw [if_pos ha]
        exact ih post (j :: D) (fun d hd => by rcases List.mem_cons.1 hd with rfl | hd; exact hp _ (by simp); exact hD _ hd) (fun x hx => hp x (List.mem_cons_of_mem _ hx)) h
      · rename_i ha
        rw [if_neg ha]
        simp only [Bool.and_eq_true] at h ⊢
        obtain ⟨h1, h2, h3⟩ := ih post D hD (fun x hx => hp x (List.mem_cons_of_mem _ hx)) h.2
        exact ⟨h1, h2, h.1, h3⟩

theorem okAll_drop {fl br pu : Nat → Bool} {k : Nat} {ok : Oper} (hk : ops[k]? = some ok) : ∀ (pre post rest : List Nat), (∀ e ∈ ok.after, Region.binds md e = true → e.on ∉ rest) → (∀ j ∈ pre ++ k :: post, j ∈ rest) → okAll md ops fl br pu (pre ++ k :: post) = true →
    (∀ i ∈ pre, ∃ oi, ops[i]? = some oi ∧ (fl i = true ∧ (br k = false ∨ pu i = true)) ∧ oi.apart ops ok = true) ∧ okAll md ops fl br pu (pre ++ post) = true ∧ k ∉ pre ++ post := by
  intro pre
  induction pre with
  | nil =>
    intro post rest hr hm h
    simp only [List.nil_append, okAll, Bool.and_eq_true, Bool.not_eq_true', ← Bool.not_eq_true, List.contains_iff_mem] at h ⊢
    exact ⟨fun i hi => (by cases hi), h.2, h.1.1.2⟩
  | cons i pre ih =>
    intro post rest hr hm h
    simp only [List.cons_append, okAll, Bool.and_eq_true, Bool.not_eq_true', ← Bool.not_eq_true, List.contains_iff_mem] at h ⊢
    obtain ⟨⟨⟨h1, h2⟩, h3⟩, h4⟩ := h
    obtain ⟨a1, a2, a3⟩ := ih post rest hr (fun j hj => hm j (by simp only [List.cons_append]; exact List.mem_cons_of_mem _ hj)) h4
    cases hi : ops[i]? with
    | none => simp [hi] at h1
    | some oi =>
      obtain ⟨b1, b2, b3⟩ := okFrom_drop hi hk hr pre post [i] (fun d hd => by simp at hd; subst hd; exact hm _ (by simp)) (fun j hj => hm j (by simp [hj])) h3
      refine ⟨fun x hx => ?_, ⟨⟨⟨?_, ?_⟩, b3⟩, a2⟩, ?_⟩
      · rcases List.mem_cons.1 hx with rfl | hx
        · exact ⟨oi, hi, ⟨b1.1, b1.2.imp (fun e => by simp [e]) id⟩, b2⟩
        · obtain ⟨ox, y1, ⟨y2, y3⟩, y4⟩ := a1 x hx
          exact ⟨ox, y1, ⟨y2, y3.imp (fun e => by simp [e]) id⟩, y4⟩
      · simp only [hi, Array.all_eq_true_iff_forall_mem] at h1 ⊢
        intro e he
        have := h1 e he
        simp only [Bool.or_eq_true, Bool.and_eq_true, Bool.not_eq_true', decide_eq_true_eq, ← Bool.not_eq_true, List.contains_iff_mem] at this ⊢
        rcases this with h | ⟨h, hn⟩
        · exact .inl h
        · refine .inr ⟨h, fun hmem => hn ?_⟩
          simp only [List.mem_cons, List.mem_append] at hmem ⊢
          rcases hmem with h | h | h <;> simp [h]
      · intro hmem
        apply h2
        simp only [List.mem_append, List.mem_cons] at hmem ⊢
        rcases hmem with h | h <;> simp [h]
      · intro hmem
        simp only [List.mem_cons] at hmem
        rcases hmem with rfl | hmem
        · exact h2 (by simp)
        · exact a3 hmem

theorem floatAt_put {o : Oper} {a : Act} {dst : Option Tmp} {u v : Value} {w : World} (hs : ∀ cs b, o.op ≠ .select cs b) (h : ∀ d, dst = some d → d ∉ o.looksAt ops) : floatAt P o (a.put dst u) w v ↔ floatAt P o a w v := by
  unfold floatAt; rw [execOp_put o hs a dst u h]
theorem anchAt_put {o : Oper} {a : Act} {dst : Option Tmp} {u : Value} {w : World} {K : Value → World → Prop} {Qp : List PanicEntry → World → Prop} (hs : ∀ cs b, o.op ≠ .select cs b) (h : ∀ d, dst = some d → d ∉ o.looksAt ops) : anchAt P o (a.put dst u) w K Qp ↔ anchAt P o a w K Qp := by
  unfold anchAt; rw [execOp_put o hs a dst u h]

/-- Operation k, taken ahead of those that float before it. -/
def First (P : Program) (ops : Array Oper) (fl br pu : Nat → Bool) (Q : Act → World → Prop) (Qp : List PanicEntry → World → Prop) (k : Nat) (o : Oper) (rest : List Nat) (a : Act) (S Wk : World → Prop) : Prop :=
  (Region.wanted o (yielded ops a.tmps) = true ∧ fl k = true ∧ ∃ v, (∀ w, pu k = true ∨ Wk w → floatAt P o a w v) ∧ cw P ops fl br pu Q Qp rest (a.put o.dst v) S Wk) ∨
  (Region.wanted o (yielded ops a.tmps) = true ∧ fl k = false ∧ ∀ w, S w → anchAt P o a w (fun v w' => ∃ S' Wk' : World → Prop, S' w' ∧ (∀ u, S' u → Wk' u) ∧ (br k = true ∨ ∀ u, Wk' u → Wk u) ∧ cw P ops fl br pu Q Qp rest (a.put o.dst v) S' Wk') Qp) ∨
  (Region.wanted o (yielded ops a.tmps) = false ∧ cw P ops fl br pu Q Qp rest (a.put o.dst undef) S Wk)

theorem cw_first {fl br pu : Nat → Bool} {Q : Act → World → Prop} {Qp : List PanicEntry → World → Prop} (hsel : ∀ (j : Nat) (o : Oper) cs b, ops[j]? = some o → o.op ≠ .select cs b) {k : Nat} {o : Oper} (hk : ops[k]? = some o) (post : List Nat) :
    ∀ (pre : List Nat) (a : Act) (S Wk : World → Prop), (∀ i ∈ pre, ∃ oi, ops[i]? = some oi ∧ (fl i = true ∧ (br k = false ∨ pu i = true)) ∧ oi.apart ops o = true) → cw P ops fl br pu Q Qp (pre ++ k :: post) a S Wk → First P ops fl br pu Q Qp k o (pre ++ post) a S Wk := by
  intro pre
  induction pre with
  | nil =>
    intro a S Wk _ h
    obtain ⟨o', ho', h⟩ := h
    obtain rfl : o' = o := Option.some.inj (ho'.symm.trans hk)
    exact h
  | cons i pre ih =>
    intro a S Wk hp h
    obtain ⟨oi, hoi, ⟨hfl, hbr⟩, hap⟩ := hp i (by simp)
    obtain ⟨h1, h2, h3⟩ := Oper.apart_spec hap
    have hsk : ∀ cs b, o.op ≠ .select cs b := fun cs b => hsel k o cs b hk
    have hsi : ∀ cs b, oi.op ≠ .select cs b := fun cs b => hsel i oi cs b hoi
    have hp' : ∀ x ∈ pre, ∃ oi, ops[x]? = some oi ∧ (fl x = true ∧ (br k = false ∨ pu x = true)) ∧ oi.apart ops o = true := fun x hx => hp x (List.mem_cons_of_mem _ hx)
    obtain ⟨oi', hoi', h⟩ := h
    obtain rfl : oi' = oi := Option.some.inj (hoi'.symm.trans hoi)
    rcases h with ⟨hw, _, u, hu, hn⟩ | ⟨_, hf, _⟩ | ⟨hw, hn⟩
    · have F := ih _ _ _ hp' hn
      rcases F with ⟨kw, kf, v, hv, kn⟩ | ⟨kw, kf, kn⟩ | ⟨kw, kn⟩
      · refine .inl ⟨by rwa [wanted_put o a oi'.dst u h1] at kw, kf, v, fun w hw' => (floatAt_put hsk h1).1 (hv w hw'), ?_⟩
        exact ⟨oi', hoi, .inl ⟨by rwa [wanted_put oi' a o.dst v h3], hfl, u, fun w hw' => (floatAt_put hsi h3).2 (hu w hw'), by rw [← Act.put_comm a u v h2]; exact kn⟩⟩
      · refine .inr (.inl ⟨by rwa [wanted_put o a oi'.dst u h1] at kw, kf, fun w hw' => ?_⟩)
        refine anchAt_mono (fun v w1 hx => ?_) ((anchAt_put hsk h1).1 (kn w hw'))
        obtain ⟨S', Wk', s1, s2, s3, s4⟩ := hx
        have s3' : ∀ u, pu i = true ∨ Wk' u → pu i = true ∨ Wk u := fun u hu => by
          rcases hbr with hbr | hpu
          · rcases s3 with e | e
            · rw [hbr] at e; cases e
            · exact hu.imp id (e u)
          · exact .inl hpu
        exact ⟨S', Wk', s1, s2, s3, oi', hoi, .inl ⟨by rwa [wanted_put oi' a o.dst v h3], hfl, u, fun w hw' => (floatAt_put hsi h3).2 (hu w (s3' w hw')), by rw [← Act.put_comm a u v h2]; exact s4⟩⟩
      · refine .inr (.inr ⟨by rwa [wanted_put o a oi'.dst u h1] at kw, ?_⟩)
        exact ⟨oi', hoi, .inl ⟨by rwa [wanted_put oi' a o.dst undef h3], hfl, u, fun w hw' => (floatAt_put hsi h3).2 (hu w hw'), by rw [← Act.put_comm a u undef h2]; exact kn⟩⟩
    · rw [hfl] at hf; cases hf
    · have F := ih _ _ _ hp' hn
      rcases F with ⟨kw, kf, v, hv, kn⟩ | ⟨kw, kf, kn⟩ | ⟨kw, kn⟩
      · refine .inl ⟨by rwa [wanted_put o a oi'.dst undef h1] at kw, kf, v, fun w hw' => (floatAt_put hsk h1).1 (hv w hw'), ?_⟩
        exact ⟨oi', hoi, .inr (.inr ⟨by rwa [wanted_put oi' a o.dst v h3], by rw [← Act.put_comm a undef v h2]; exact kn⟩)⟩
      · refine .inr (.inl ⟨by rwa [wanted_put o a oi'.dst undef h1] at kw, kf, fun w hw' => ?_⟩)
        refine anchAt_mono (fun v w1 hx => ?_) ((anchAt_put hsk h1).1 (kn w hw'))
        obtain ⟨S', Wk', s1, s2, s3, s4⟩ := hx
        exact ⟨S', Wk', s1, s2, s3, oi', hoi, .inr (.inr ⟨by rwa [wanted_put oi' a o.dst v h3], by rw [← Act.put_comm a undef v h2]; exact s4⟩)⟩
      · refine .inr (.inr ⟨by rwa [wanted_put o a oi'.dst undef h1] at kw, ?_⟩)
        exact ⟨oi', hoi, .inr (.inr ⟨by rwa [wanted_put oi' a o.dst undef h3], by rw [← Act.put_comm a undef undef h2]; exact kn⟩)⟩

theorem put_defers (a : Act) (d : Option Tmp) (v : Value) : (a.put d v).defers = a.defers := by cases d <;> rfl

theorem wpAny_of_cw {fl br pu : Nat → Bool} {Qp : List PanicEntry → World → Prop} {Q : Exit → Act → World → Prop} {ds : List Deferred} (hsel : ∀ (j : Nat) (o : Oper) cs b, ops[j]? = some o → o.op ≠ .select cs b)
    (hQp : ∀ ch a w, a.defers = ds → Qp ch w → Q (.panic ch) a w) :
    ∀ (f : Nat) (rest : List Nat) (listed : Array Bool) (a : Act) (w : World) (S Wk : World → Prop), rest.length = f → listed.size = ops.size → (∀ j, j < ops.size → (listed.getD j false = true ↔ j ∉ rest)) → (∀ j ∈ rest, j < ops.size) →
      okAll md ops fl br pu rest = true → a.defers = ds → S w → (∀ u, S u → Wk u) → cw P ops fl br pu (Q .normal) Qp rest a S Wk → wpAny P md ops Q f listed a w := by
  intro f
  induction f with
  | zero =>
    intro rest listed a w S Wk hlen hsz hl hlt hok hd hS hSW h
    obtain rfl : rest = [] := List.length_eq_zero_iff.1 hlen
    refine ⟨?_, h w hS⟩
    apply List.eq_nil_iff_forall_not_mem.2
    intro j hj
    obtain ⟨h0, o, ho, _⟩ := mem_ready.1 hj
    have hlj := (Array.getElem?_eq_some_iff.1 ho).1
    have := (hl j hlj).2 (by simp)
    rw [getD_both h0] at this; cases this
  | succ f ih =>
    intro rest listed a w S Wk hlen hsz hl hlt hok hd hS hSW h
    refine ⟨fun h0 => ?_, fun k hk => ?_⟩
    · exfalso
      cases rest with
      | nil => simp at hlen
      | cons i r =>
        simp only [okAll, Bool.and_eq_true] at hok
        have hi := hlt i (by simp)
        have hoi : ops[i]? = some ops[i] := Array.getElem?_eq_getElem hi
        have hready : i ∈ Region.ready md ops listed := by
          refine mem_ready.2 ⟨?_, ops[i], hoi, fun e he hb => ?_⟩
          · have : listed.getD i false = false := by
              rw [Bool.eq_false_iff]; intro ht; exact (hl i hi).1 ht (by simp)
            have hs : i < listed.size := by rw [hsz]; exact hi
            simpa [Array.getD, hs] using this
          · have h1 := hok.1.1.1
            simp only [hoi, Array.all_eq_true_iff_forall_mem] at h1
            have := h1 e he
            simp only [hb, Bool.not_true, Bool.false_or, Bool.and_eq_true, decide_eq_true_eq, Bool.not_eq_true', ← Bool.not_eq_true, List.contains_iff_mem] at this
            exact (hl e.on this.1).2 this.2
        rw [h0] at hready; cases hready
    · obtain ⟨hun, o, ho, hall⟩ := mem_ready.1 hk
      have hlt_k := (Array.getElem?_eq_some_iff.1 ho).1
      have hmem : k ∈ rest := by
        apply Classical.byContradiction
        intro hn
        have := (hl k hlt_k).2 hn
        rw [getD_both hun] at this; cases this
      obtain ⟨pre, post, rfl⟩ := List.append_of_mem hmem
      have hr : ∀ e ∈ o.after, Region.binds md e = true → e.on ∉ pre ++ k :: post := fun e he hb hm => by
        have h1 := hall e he hb
        exact (hl e.on (hlt _ hm)).1 h1 hm
      obtain ⟨a1, a2, a3⟩ := okAll_drop ho pre post _ hr (fun j hj => hj) hok
      have F := cw_first hsel ho post pre a S Wk a1 h
      have hlen' : (pre ++ post).length = f := by simp at hlen ⊢; omega
      have hsz' : (listed.setIfInBounds k true).size = ops.size := by simp [hsz]
      have hl' : ∀ j, j < ops.size → ((listed.setIfInBounds k true).getD j false = true ↔ j ∉ pre ++ post) := fun j hj => by
        by_cases hjk : k = j
        · subst hjk
          have hs : k < listed.size := by rw [hsz]; exact hj
          simp only [a3, not_false_eq_true, iff_true]
          simp [hs]
        · rw [getD_set_ne false hjk, hl j hj]
          simp only [List.mem_append, List.mem_cons, not_or]
          constructor
          · rintro ⟨h1, _, h3⟩; exact ⟨h1, h3⟩
          · rintro ⟨h1, h3⟩; exact ⟨h1, fun e => hjk e.symm, h3⟩
      have hlt' : ∀ j ∈ pre ++ post, j < ops.size := fun j hj => hlt j (by simp only [List.mem_append, List.mem_cons] at hj ⊢; rcases hj with h | h <;> simp [h])
      unfold wpOp
      simp only [ho]
      rcases F with ⟨kw, kf, v, hv, kn⟩ | ⟨kw, kf, kn⟩ | ⟨kw, kn⟩
      · rw [if_pos kw]
        left
        have h3 := hv w (.inr (hSW w hS))
        unfold floatAt at h3
        unfold Oper.wp
        generalize (execOp a.eval o).run P w = r at *
        cases r with
        | ok n w' =>
          cases n <;> simp only at h3 <;> simp only [Oper.upon]
          case value u =>
            obtain ⟨e1, e2⟩ := h3
            subst e1; subst e2
            exact ih _ _ _ _ _ _ hlen' hsz' hl' hlt' a2 (by rw [put_defers]; exact hd) hS hSW kn
          case skip =>
            obtain ⟨e1, e2⟩ := h3
            subst e1; subst e2
            exact ih _ _ _ _ _ _ hlen' hsz' hl' hlt' a2 (by rw [put_defers]; exact hd) hS hSW kn
        | halt x w' => simp only at h3
      · rw [if_pos kw]
        left
        have h3 := kn w hS
        unfold anchAt at h3
        unfold Oper.wp
        generalize (execOp a.eval o).run P w = r at *
        cases r with
        | ok n w' =>
          cases n <;> simp only at h3 <;> simp only [Oper.upon]
          case value u =>
            obtain ⟨S', Wk', s1, s2, s3, s4⟩ := h3
            exact ih _ _ _ _ _ _ hlen' hsz' hl' hlt' a2 (by rw [put_defers]; exact hd) s1 s2 s4
          case skip =>
            obtain ⟨S', Wk', s1, s2, s3, s4⟩ := h3
            exact ih _ _ _ _ _ _ hlen' hsz' hl' hlt' a2 (by rw [put_defers]; exact hd) s1 s2 s4
          case enter f' args =>
            refine h3.mono fun e w'' he => ?_
            cases e with
            | returned v =>
              obtain ⟨S', Wk', s1, s2, s3, s4⟩ := he
              exact ih _ _ _ _ _ _ hlen' hsz' hl' hlt' a2 (by rw [put_defers]; exact hd) s1 s2 s4
            | panicked ch => exact hQp _ _ _ hd he
            | outgrown => exact he.elim
        | halt x w' =>
          cases x <;> simp only at h3 <;> simp only [Oper.upon]
          exact hQp _ _ _ hd h3
      · rw [if_neg (by rw [kw]; simp)]
        exact ih _ _ _ _ _ _ hlen' hsz' hl' hlt' a2 (by rw [put_defers]; exact hd) hS hSW kn

def permB (n : Nat) (l : List Nat) : Bool := decide (l.length = n) && l.all (fun j => decide (j < n)) && (List.range n).all (fun j => l.contains j)
theorem wp_region_cw {id : Nat} {Q : Exit → Act → World → Prop} {a : Act} {w : World} {l : List Oper} (order fls brs pus : List Nat) (Qp : List PanicEntry → World → Prop) (hm : P.follows .mixedOrders = true)
    (hB : (Region.noSelect l.toArray && permB l.length order && okAll .any l.toArray (fun i => fls.contains i) (fun i => brs.contains i) (fun i => pus.contains i) order) = true)
    (hQp : ∀ ch a' w', a'.defers = a.defers → Qp ch w' → Q (.panic ch) a' w')
    (S Wk : World → Prop) (hS : S w.drew) (hSW : ∀ u, S u → Wk u) (h : cw P l.toArray (fun i => fls.contains i) (fun i => brs.contains i) (fun i => pus.contains i) (Q .normal) Qp order a S Wk) : (Code.region id l.toArray true).wp P Q a w := by
  simp only [Bool.and_eq_true] at hB
  obtain ⟨⟨hsel, hp⟩, hok⟩ := hB
  simp only [permB, Bool.and_eq_true, decide_eq_true_eq, List.all_eq_true, List.mem_range, List.contains_iff_mem] at hp
  obtain ⟨⟨hp1, hp2⟩, hp3⟩ := hp
  refine wp_region_any hm ?_
  refine wpAny_of_cw (md := .any) (Region.noSelect_spec hsel) hQp _ order _ a w.drew S Wk (by simpa using hp1) (by simp) (fun j hj => ?_) (fun j hj => by simpa using hp2 j hj) hok rfl hS hSW h
  have : j ∈ order := hp3 j (by simpa using hj)
  simp only [this, not_true, iff_false, Bool.not_eq_true]
  exact getD_replicate_false _ _
end
end Go.Proofs.YtflfaobbfhjmmaaDoor
