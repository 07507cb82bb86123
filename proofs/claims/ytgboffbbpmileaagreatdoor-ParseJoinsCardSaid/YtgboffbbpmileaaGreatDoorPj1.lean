/- Lemmas and walks for the law of this seat (part 1). -/
import Derived.StillTail
import Derived.Deep.Quiet
import Derived.Deep.QuietTactic
import Derived.Below
import Derived.BigQuiet
import Derived.WalkKit
import Derived.WalkSmall
/- A region whose order is drawn, walked once in an order of one's own choice: operations that leave the world alone come as early as they can; the others (calls, stores, new memory), whose order the edges fix, may hand back whatever they like. -/
set_option linter.unusedVariables false
set_option linter.unusedSimpArgs false
namespace Go.Proofs.YtgboffbbpmileaaGreatDoor
open Go Go.RowKit
section
variable {P : Program} {ops : Array Oper} {md : Region.Mode}
/-- An operation that leaves the world alone and yields v. -/
def floatAt (P : Program) (o : Oper) (a : Act) (w : World) (v : Value) : Prop :=
 match (execOp a.eval o).run P w with
 | .ok (.value u) w' => w' = w ∧ u = v
 | .ok .skip w' => w' = w ∧ v = undef
 | _ => False
/-- Any operation: what it yields, and the world behind it; where it panics. -/
def anchAt (P : Program) (o : Oper) (a : Act) (w : World) (K : Value → World → Prop) (Qp : List PanicEntry → World → Prop) : Prop :=
 match (execOp a.eval o).run P w with
 | .ok (.value u) w' => K u w'
 | .ok .skip w' => K undef w'
 | .ok (.enter f args) w' => Calls P f args w' fun
   | .returned v, w'' => K v w''
   | .panicked ch, w'' => Qp ch w''
   | .outgrown, _ => False
 | .halt (.panic v) w' => Qp [{ v, recovered := false }] w'
 | _ => False
theorem anchAt_mono {o : Oper} {a : Act} {w : World} {K K' : Value → World → Prop} {Qp : List PanicEntry → World → Prop} (h : ∀ v w, K v w → K' v w) (hh : anchAt P o a w K Qp) : anchAt P o a w K' Qp := by
 unfold anchAt at *
 generalize (execOp a.eval o).run P w = r at *
 cases r with
 | ok n w' =>
  cases n <;> simp only at hh ⊢
  case value u => exact h _ _ hh
  case skip => exact h _ _ hh
  case enter f args => exact hh.mono fun e w'' he => by cases e <;> first | exact h _ _ he | exact he
  all_goals exact hh.elim
 | halt x w' => cases x <;> simp only at hh ⊢ <;> (exact hh)
/-- The walk in the order chosen: S what is known of the world, Wk what is known of every world in which an operation that floats may run. -/
def cw (P : Program) (ops : Array Oper) (fl br pu : Nat → Bool) (Q : Act → World → Prop) (Qp : List PanicEntry → World → Prop) : List Nat → Act → (World → Prop) → (World → Prop) → Prop
  | [], a, S, _ => ∀ w, S w → Q a w
  | i :: rest, a, S, Wk => ∃ o, ops[i]? = some o ∧
      ((Region.wanted o (yielded ops a.tmps) = true ∧ fl i = true ∧ ∃ v, (∀ w, pu i = true ∨ Wk w → floatAt P o a w v) ∧ cw P ops fl br pu Q Qp rest (a.put o.dst v) S Wk) ∨
       (Region.wanted o (yielded ops a.tmps) = true ∧ fl i = false ∧ ∀ w, S w → anchAt P o a w (fun v w' => ∃ S' Wk' : World → Prop, S' w' ∧ (∀ u, S' u → Wk' u) ∧ (br i = true ∨ ∀ u, Wk' u → Wk u) ∧ cw P ops fl br pu Q Qp rest (a.put o.dst v) S' Wk') Qp) ∨
       (Region.wanted o (yielded ops a.tmps) = false ∧ cw P ops fl br pu Q Qp rest (a.put o.dst undef) S Wk))
/-- Of what follows i: it waits for i, or i floats and the two are apart. -/
def okFrom (md : Region.Mode) (ops : Array Oper) (fl br pu : Nat → Bool) (i : Nat) : List Nat → List Nat → Bool
 | _, [] => true
 | D, j :: r =>
  match ops[i]?, ops[j]? with
  | some oi, some oj =>
   if oj.after.any (fun e => Region.binds md e && D.contains e.on) then okFrom md ops fl br pu i (j :: D) r
   else (fl i && (!br j || pu i) && oi.apart ops oj) && okFrom md ops fl br pu i D r
  | _, _ => false
def okAll (md : Region.Mode) (ops : Array Oper) (fl br pu : Nat → Bool) : List Nat → Bool
 | [] => true
 | i :: r =>
  (match ops[i]? with | some o => o.after.all (fun e => !Region.binds md e || (decide (e.on < ops.size) && !(i :: r).contains e.on)) | none => false) &&
  !r.contains i && okFrom md ops fl br pu i [i] r && okAll md ops fl br pu r
theorem okFrom_drop {fl br pu : Nat → Bool} {i k : Nat} {oi ok : Oper} (hi : ops[i]? = some oi) (hk : ops[k]? = some ok) {rest : List Nat} (hr : ∀ e ∈ ok.after, Region.binds md e = true → e.on ∉ rest) :
  ∀ (pre post D : List Nat), (∀ d ∈ D, d ∈ rest) → (∀ j ∈ pre, j ∈ rest) → okFrom md ops fl br pu i D (pre ++ k :: post) = true →
  (fl i = true ∧ (br k = false ∨ pu i = true)) ∧ oi.apart ops ok = true ∧ okFrom md ops fl br pu i D (pre ++ post) = true := by
 intro pre
 induction pre with
 | nil =>
  intro post D hD _ h
  simp only [List.nil_append, okFrom, hi, hk] at h ⊢
  have : ok.after.any (fun e => Region.binds md e && D.contains e.on) = false := by
   rw [Bool.eq_false_iff]
   intro ha
   obtain ⟨e, he, hb⟩ := Array.any_eq_true'.1 ha
   simp only [Bool.and_eq_true, List.contains_iff_mem] at hb
   exact hr e he hb.1 (hD _ hb.2)
  rw [if_neg (by rw [this]; simp)] at h
  simp only [Bool.and_eq_true, Bool.or_eq_true, Bool.not_eq_true'] at h
  exact ⟨h.1.1, h.1.2, h.2⟩
 | cons j pre ih =>
  intro post D hD hp h
  simp only [List.cons_append, okFrom, hi] at h ⊢
  cases hj : ops[j]? with
  | none => simp [hj] at h
  | some oj =>
   simp only [hj] at h ⊢
   split at h
   ·rename_i ha
    rw [if_pos ha]
    exact ih post (j :: D) (fun d hd => by rcases List.mem_cons.1 hd with rfl | hd; exact hp _ (by simp); exact hD _ hd) (fun x hx => hp x (List.mem_cons_of_mem _ hx)) h
   ·rename_i ha
    rw [if_neg ha]
    simp only [Bool.and_eq_true] at h ⊢
    obtain ⟨h1, h2, h3⟩ := ih post D hD (fun x hx => hp x (List.mem_cons_of_mem _ hx)) h.2
    exact ⟨h1, h2, h.1, h3⟩
theorem okAll_drop {fl br pu : Nat → Bool} {k : Nat} {ok : Oper} (hk : ops[k]? = some ok) : ∀ (pre post rest : List Nat), (∀ e ∈ ok.after, Region.binds md e = true → e.on ∉ rest) → (∀ j ∈ pre ++ k :: post, j ∈ rest) → okAll md ops fl br pu (pre ++ k :: post) = true →
  (∀ i ∈ pre, ∃ oi, ops[i]? = some oi ∧ (fl i = true ∧ (br k = false ∨ pu i = true)) ∧ oi.apart ops ok = true) ∧ okAll md ops fl br pu (pre ++ post) = true ∧ k ∉ pre ++ post := by
 intro pre
 induction pre with
 | nil =>
  intro post rest hr hm h
  simp only [List.nil_append, okAll, Bool.and_eq_true, Bool.not_eq_true', ← Bool.not_eq_true, List.contains_iff_mem] at h ⊢
  exact ⟨fun i hi => (by cases hi), h.2, h.1.1.2⟩
 | cons i pre ih =>
  intro post rest hr hm h
  simp only [List.cons_append, okAll, Bool.and_eq_true, Bool.not_eq_true', ← Bool.not_eq_true, List.contains_iff_mem] at h ⊢
  obtain ⟨⟨⟨h1, h2⟩, h3⟩, h4⟩ := h
  obtain ⟨a1, a2, a3⟩ := ih post rest hr (fun j hj => hm j (by simp only [List.cons_append]; exact List.mem_cons_of_mem _ hj)) h4
  cases hi : ops[i]? with
  | none => simp [hi] at h1
  | some oi =>
   obtain ⟨b1, b2, b3⟩ := okFrom_drop hi hk hr pre post [i] (fun d hd => by simp at hd; subst hd; exact hm _ (by simp)) (fun j hj => hm j (by simp [hj])) h3
   refine ⟨fun x hx => ?_, ⟨⟨⟨?_, ?_⟩, b3⟩, a2⟩, ?_⟩
   ·rcases List.mem_cons.1 hx with rfl | hx
    ·exact ⟨oi, hi, ⟨b1.1, b1.2.imp (fun e => by simp [e]) id⟩, b2⟩
    ·obtain ⟨ox, y1, ⟨y2, y3⟩, y4⟩ := a1 x hx
     exact ⟨ox, y1, ⟨y2, y3.imp (fun e => by simp [e]) id⟩, y4⟩
   ·simp only [hi, Array.all_eq_true_iff_forall_mem] at h1 ⊢
    intro e he
    have := h1 e he
    simp only [Bool.or_eq_true, Bool.and_eq_true, Bool.not_eq_true', decide_eq_true_eq, ← Bool.not_eq_true, List.contains_iff_mem] at this ⊢
    rcases this with h | ⟨h, hn⟩
    ·exact .inl h
    ·refine .inr ⟨h, fun hmem => hn ?_⟩
     simp only [List.mem_cons, List.mem_append] at hmem ⊢
     rcases hmem with h | h | h <;> simp [h]
   ·intro hmem
    apply h2
    simp only [List.mem_append, List.mem_cons] at hmem ⊢
    rcases hmem with h | h <;> simp [h]
   ·intro hmem
    simp only [List.mem_cons] at hmem
    rcases hmem with rfl | hmem
    ·exact h2 (by simp)
    ·exact a3 hmem
theorem floatAt_put {o : Oper} {a : Act} {dst : Option Tmp} {u v : Value} {w : World} (hs : ∀ cs b, o.op ≠ .select cs b) (h : ∀ d, dst = some d → d ∉ o.looksAt ops) : floatAt P o (a.put dst u) w v ↔ floatAt P o a w v := by
 unfold floatAt; rw [execOp_put o hs a dst u h]
theorem anchAt_put {o : Oper} {a : Act} {dst : Option Tmp} {u : Value} {w : World} {K : Value → World → Prop} {Qp : List PanicEntry → World → Prop} (hs : ∀ cs b, o.op ≠ .select cs b) (h : ∀ d, dst = some d → d ∉ o.looksAt ops) : anchAt P o (a.put dst u) w K Qp ↔ anchAt P o a w K Qp := by
 unfold anchAt; rw [execOp_put o hs a dst u h]
/-- Operation k, taken ahead of those that float before it. -/
def First (P : Program) (ops : Array Oper) (fl br pu : Nat → Bool) (Q : Act → World → Prop) (Qp : List PanicEntry → World → Prop) (k : Nat) (o : Oper) (rest : List Nat) (a : Act) (S Wk : World → Prop) : Prop :=
 (Region.wanted o (yielded ops a.tmps) = true ∧ fl k = true ∧ ∃ v, (∀ w, pu k = true ∨ Wk w → floatAt P o a w v) ∧ cw P ops fl br pu Q Qp rest (a.put o.dst v) S Wk) ∨
 (Region.wanted o (yielded ops a.tmps) = true ∧ fl k = false ∧ ∀ w, S w → anchAt P o a w (fun v w' => ∃ S' Wk' : World → Prop, S' w' ∧ (∀ u, S' u → Wk' u) ∧ (br k = true ∨ ∀ u, Wk' u → Wk u) ∧ cw P ops fl br pu Q Qp rest (a.put o.dst v) S' Wk') Qp) ∨
 (Region.wanted o (yielded ops a.tmps) = false ∧ cw P ops fl br pu Q Qp rest (a.put o.dst undef) S Wk)
theorem cw_first {fl br pu : Nat → Bool} {Q : Act → World → Prop} {Qp : List PanicEntry → World → Prop} (hsel : ∀ (j : Nat) (o : Oper) cs b, ops[j]? = some o → o.op ≠ .select cs b) {k : Nat} {o : Oper} (hk : ops[k]? = some o) (post : List Nat) :
  ∀ (pre : List Nat) (a : Act) (S Wk : World → Prop), (∀ i ∈ pre, ∃ oi, ops[i]? = some oi ∧ (fl i = true ∧ (br k = false ∨ pu i = true)) ∧ oi.apart ops o = true) → cw P ops fl br pu Q Qp (pre ++ k :: post) a S Wk → First P ops fl br pu Q Qp k o (pre ++ post) a S Wk := by
 intro pre
 induction pre with
 | nil =>
  intro a S Wk _ h
  obtain ⟨o', ho', h⟩ := h
  obtain rfl : o' = o := Option.some.inj (ho'.symm.trans hk)
  exact h
 | cons i pre ih =>
  intro a S Wk hp h
  obtain ⟨oi, hoi, ⟨hfl, hbr⟩, hap⟩ := hp i (by simp)
  obtain ⟨h1, h2, h3⟩ := Oper.apart_spec hap
  have hsk : ∀ cs b, o.op ≠ .select cs b := fun cs b => hsel k o cs b hk
  have hsi : ∀ cs b, oi.op ≠ .select cs b := fun cs b => hsel i oi cs b hoi
  have hp' : ∀ x ∈ pre, ∃ oi, ops[x]? = some oi ∧ (fl x = true ∧ (br k = false ∨ pu x = true)) ∧ oi.apart ops o = true := fun x hx => hp x (List.mem_cons_of_mem _ hx)
  obtain ⟨oi', hoi', h⟩ := h
  obtain rfl : oi' = oi := Option.some.inj (hoi'.symm.trans hoi)
  rcases h with ⟨hw, _, u, hu, hn⟩ | ⟨_, hf, _⟩ | ⟨hw, hn⟩
  ·have F := ih _ _ _ hp' hn
   rcases F with ⟨kw, kf, v, hv, kn⟩ | ⟨kw, kf, kn⟩ | ⟨kw, kn⟩
   ·refine .inl ⟨by rwa [wanted_put o a oi'.dst u h1] at kw, kf, v, fun w hw' => (floatAt_put hsk h1).1 (hv w hw'), ?_⟩
    exact ⟨oi', hoi, .inl ⟨by rwa [wanted_put oi' a o.dst v h3], hfl, u, fun w hw' => (floatAt_put hsi h3).2 (hu w hw'), by rw [← Act.put_comm a u v h2]; exact kn⟩⟩
   ·refine .inr (.inl ⟨by rwa [wanted_put o a oi'.dst u h1] at kw, kf, fun w hw' => ?_⟩)
    refine anchAt_mono (fun v w1 hx => ?_) ((anchAt_put hsk h1).1 (kn w hw'))
    obtain ⟨S', Wk', s1, s2, s3, s4⟩ := hx
    have s3' : ∀ u, pu i = true ∨ Wk' u → pu i = true ∨ Wk u := fun u hu => by
     rcases hbr with hbr | hpu
     ·rcases s3 with e | e
      ·rw [hbr] at e; cases e
      ·exact hu.imp id (e u)
     ·exact .inl hpu
    exact ⟨S', Wk', s1, s2, s3, oi', hoi, .inl ⟨by rwa [wanted_put oi' a o.dst v h3], hfl, u, fun w hw' => (floatAt_put hsi h3).2 (hu w (s3' w hw')), by rw [← Act.put_comm a u v h2]; exact s4⟩⟩
   ·refine .inr (.inr ⟨by rwa [wanted_put o a oi'.dst u h1] at kw, ?_⟩)
    exact ⟨oi', hoi, .inl ⟨by rwa [wanted_put oi' a o.dst undef h3], hfl, u, fun w hw' => (floatAt_put hsi h3).2 (hu w hw'), by rw [← Act.put_comm a u undef h2]; exact kn⟩⟩
  ·rw [hfl] at hf; cases hf
  ·have F := ih _ _ _ hp' hn
   rcases F with ⟨kw, kf, v, hv, kn⟩ | ⟨kw, kf, kn⟩ | ⟨kw, kn⟩
   ·refine .inl ⟨by rwa [wanted_put o a oi'.dst undef h1] at kw, kf, v, fun w hw' => (floatAt_put hsk h1).1 (hv w hw'), ?_⟩
    exact ⟨oi', hoi, .inr (.inr ⟨by rwa [wanted_put oi' a o.dst v h3], by rw [← Act.put_comm a undef v h2]; exact kn⟩)⟩
   ·refine .inr (.inl ⟨by rwa [wanted_put o a oi'.dst undef h1] at kw, kf, fun w hw' => ?_⟩)
    refine anchAt_mono (fun v w1 hx => ?_) ((anchAt_put hsk h1).1 (kn w hw'))
    obtain ⟨S', Wk', s1, s2, s3, s4⟩ := hx
    exact ⟨S', Wk', s1, s2, s3, oi', hoi, .inr (.inr ⟨by rwa [wanted_put oi' a o.dst v h3], by rw [← Act.put_comm a undef v h2]; exact s4⟩)⟩
   ·refine .inr (.inr ⟨by rwa [wanted_put o a oi'.dst undef h1] at kw, ?_⟩)
    exact ⟨oi', hoi, .inr (.inr ⟨by rwa [wanted_put oi' a o.dst undef h3], by rw [← Act.put_comm a undef undef h2]; exact kn⟩)⟩
theorem put_defers (a : Act) (d : Option Tmp) (v : Value) : (a.put d v).defers = a.defers := by cases d <;> rfl
theorem wpAny_of_cw {fl br pu : Nat → Bool} {Qp : List PanicEntry → World → Prop} {Q : Exit → Act → World → Prop} {ds : List Deferred} (hsel : ∀ (j : Nat) (o : Oper) cs b, ops[j]? = some o → o.op ≠ .select cs b)
  (hQp : ∀ ch a w, a.defers = ds → Qp ch w → Q (.panic ch) a w) :
  ∀ (f : Nat) (rest : List Nat) (listed : Array Bool) (a : Act) (w : World) (S Wk : World → Prop), rest.length = f → listed.size = ops.size → (∀ j, j < ops.size → (listed.getD j false = true ↔ j ∉ rest)) → (∀ j ∈ rest, j < ops.size) →
   okAll md ops fl br pu rest = true → a.defers = ds → S w → (∀ u, S u → Wk u) → cw P ops fl br pu (Q .normal) Qp rest a S Wk → wpAny P md ops Q f listed a w := by
 intro f
 induction f with
 | zero =>
  intro rest listed a w S Wk hlen hsz hl hlt hok hd hS hSW h
  obtain rfl : rest = [] := List.length_eq_zero_iff.1 hlen
  refine ⟨?_, h w hS⟩
  apply List.eq_nil_iff_forall_not_mem.2
  intro j hj
  obtain ⟨h0, o, ho, _⟩ := mem_ready.1 hj
  have hlj := (Array.getElem?_eq_some_iff.1 ho).1
  have := (hl j hlj).2 (by simp)
  rw [getD_both h0] at this; cases this
 | succ f ih =>
  intro rest listed a w S Wk hlen hsz hl hlt hok hd hS hSW h
  refine ⟨fun h0 => ?_, fun k hk => ?_⟩
  ·exfalso
   cases rest with
   | nil => simp at hlen
   | cons i r =>
    simp only [okAll, Bool.and_eq_true] at hok
    have hi := hlt i (by simp)
    have hoi : ops[i]? = some ops[i] := Array.getElem?_eq_getElem hi
    have hready : i ∈ Region.ready md ops listed := by
     refine mem_ready.2 ⟨?_, ops[i], hoi, fun e he hb => ?_⟩
     ·have : listed.getD i false = false := by
       rw [Bool.eq_false_iff]; intro ht; exact (hl i hi).1 ht (by simp)
      have hs : i < listed.size := by rw [hsz]; exact hi
      simpa [Array.getD, hs] using this
     ·have h1 := hok.1.1.1
      simp only [hoi, Array.all_eq_true_iff_forall_mem] at h1
      have := h1 e he
      simp only [hb, Bool.not_true, Bool.false_or, Bool.and_eq_true, decide_eq_true_eq, Bool.not_eq_true', ← Bool.not_eq_true, List.contains_iff_mem] at this
      exact (hl e.on this.1).2 this.2
    rw [h0] at hready; cases hready
  ·obtain ⟨hun, o, ho, hall⟩ := mem_ready.1 hk
   have hlt_k := (Array.getElem?_eq_some_iff.1 ho).1
   have hmem : k ∈ rest := by
    apply Classical.byContradiction
    intro hn
    have := (hl k hlt_k).2 hn
    rw [getD_both hun] at this; cases this
   obtain ⟨pre, post, rfl⟩ := List.append_of_mem hmem
   have hr : ∀ e ∈ o.after, Region.binds md e = true → e.on ∉ pre ++ k :: post := fun e he hb hm => by
    have h1 := hall e he hb
    exact (hl e.on (hlt _ hm)).1 h1 hm
   obtain ⟨a1, a2, a3⟩ := okAll_drop ho pre post _ hr (fun j hj => hj) hok
   have F := cw_first hsel ho post pre a S Wk a1 h
   have hlen' : (pre ++ post).length = f := by simp at hlen ⊢; omega
   have hsz' : (listed.setIfInBounds k true).size = ops.size := by simp [hsz]
   have hl' : ∀ j, j < ops.size → ((listed.setIfInBounds k true).getD j false = true ↔ j ∉ pre ++ post) := fun j hj => by
    by_cases hjk : k = j
    ·subst hjk
     have hs : k < listed.size := by rw [hsz]; exact hj
     simp only [a3, not_false_eq_true, iff_true]
     simp [hs]
    ·rw [getD_set_ne false hjk, hl j hj]
     simp only [List.mem_append, List.mem_cons, not_or]
     constructor
     ·rintro ⟨h1, _, h3⟩; exact ⟨h1, h3⟩
     ·rintro ⟨h1, h3⟩; exact ⟨h1, fun e => hjk e.symm, h3⟩
   have hlt' : ∀ j ∈ pre ++ post, j < ops.size := fun j hj => hlt j (by simp only [List.mem_append, List.mem_cons] at hj ⊢; rcases hj with h | h <;> simp [h])
   unfold wpOp
   simp only [ho]
   rcases F with ⟨kw, kf, v, hv, kn⟩ | ⟨kw, kf, kn⟩ | ⟨kw, kn⟩
   ·rw [if_pos kw]
    left
    have h3 := hv w (.inr (hSW w hS))
    unfold floatAt at h3
    unfold Oper.wp
    generalize (execOp a.eval o).run P w = r at *
    cases r with
    | ok n w' =>
     cases n <;> simp only at h3 <;> simp only [Oper.upon]
     case value u =>
      obtain ⟨e1, e2⟩ := h3
      subst e1; subst e2
      exact ih _ _ _ _ _ _ hlen' hsz' hl' hlt' a2 (by rw [put_defers]; exact hd) hS hSW kn
     case skip =>
      obtain ⟨e1, e2⟩ := h3
      subst e1; subst e2
      exact ih _ _ _ _ _ _ hlen' hsz' hl' hlt' a2 (by rw [put_defers]; exact hd) hS hSW kn
    | halt x w' => simp only at h3
   ·rw [if_pos kw]
    left
    have h3 := kn w hS
    unfold anchAt at h3
    unfold Oper.wp
    generalize (execOp a.eval o).run P w = r at *
    cases r with
    | ok n w' =>
     cases n <;> simp only at h3 <;> simp only [Oper.upon]
     case value u =>
      obtain ⟨S', Wk', s1, s2, s3, s4⟩ := h3
      exact ih _ _ _ _ _ _ hlen' hsz' hl' hlt' a2 (by rw [put_defers]; exact hd) s1 s2 s4
     case skip =>
      obtain ⟨S', Wk', s1, s2, s3, s4⟩ := h3
      exact ih _ _ _ _ _ _ hlen' hsz' hl' hlt' a2 (by rw [put_defers]; exact hd) s1 s2 s4
     case enter f' args =>
      refine h3.mono fun e w'' he => ?_
      cases e with
      | returned v =>
       obtain ⟨S', Wk', s1, s2, s3, s4⟩ := he
       exact ih _ _ _ _ _ _ hlen' hsz' hl' hlt' a2 (by rw [put_defers]; exact hd) s1 s2 s4
      | panicked ch => exact hQp _ _ _ hd he
      | outgrown => exact he.elim
    | halt x w' =>
     cases x <;> simp only at h3 <;> simp only [Oper.upon]
     exact hQp _ _ _ hd h3
   ·rw [if_neg (by rw [kw]; simp)]
    exact ih _ _ _ _ _ _ hlen' hsz' hl' hlt' a2 (by rw [put_defers]; exact hd) hS hSW kn
def permB (n : Nat) (l : List Nat) : Bool := decide (l.length = n) && l.all (fun j => decide (j < n)) && (List.range n).all (fun j => l.contains j)
theorem wp_region_cw {id : Nat} {Q : Exit → Act → World → Prop} {a : Act} {w : World} {l : List Oper} (order fls brs pus : List Nat) (Qp : List PanicEntry → World → Prop) (hm : P.follows .mixedOrders = true)
  (hB : (Region.noSelect l.toArray && permB l.length order && okAll .any l.toArray (fun i => fls.contains i) (fun i => brs.contains i) (fun i => pus.contains i) order) = true)
  (hQp : ∀ ch a' w', a'.defers = a.defers → Qp ch w' → Q (.panic ch) a' w')
  (S Wk : World → Prop) (hS : S w.drew) (hSW : ∀ u, S u → Wk u) (h : cw P l.toArray (fun i => fls.contains i) (fun i => brs.contains i) (fun i => pus.contains i) (Q .normal) Qp order a S Wk) : (Code.region id l.toArray true).wp P Q a w := by
 simp only [Bool.and_eq_true] at hB
 obtain ⟨⟨hsel, hp⟩, hok⟩ := hB
 simp only [permB, Bool.and_eq_true, decide_eq_true_eq, List.all_eq_true, List.mem_range, List.contains_iff_mem] at hp
 obtain ⟨⟨hp1, hp2⟩, hp3⟩ := hp
 refine wp_region_any hm ?_
 refine wpAny_of_cw (md := .any) (Region.noSelect_spec hsel) hQp _ order _ a w.drew S Wk (by simpa using hp1) (by simp) (fun j hj => ?_) (fun j hj => by simpa using hp2 j hj) hok rfl hS hSW h
 have : j ∈ order := hp3 j (by simpa using hj)
 simp only [this, not_true, iff_false, Bool.not_eq_true]
 exact getD_replicate_false _ _
end
end Go.Proofs.YtgboffbbpmileaaGreatDoor
/- What is known of a world on the way through a call: memory that was there before it is as it was but for the blocks X, and what some blocks hold (L). Worlds are kept as variables: a store, a new block or a call turns one list into the next. -/
set_option linter.unusedVariables false
set_option linter.unusedSimpArgs false
namespace Go.Proofs.YtgboffbbpmileaaGreatDoor
open Go Go.RowKit
/-- What puts lists of blocks into their form, in one name (kfb: at the list; kfa: at what it says). -/
theorem kfb : (∀ {α : Type} (l : List α) (i : Nat) (a : α), l.toArray.setIfInBounds i a = (l.set i a).toArray) ∧ (∀ {α : Type} (x : α) (xs : List α) (a : α), (x :: xs).set 0 a = a :: xs) ∧ (∀ {α : Type} (x : α) (xs : List α) (i : Nat) (a : α), (x :: xs).set (i + 1) a = x :: xs.set i a) ∧ (∀ {α : Type} (a : α) (u v : List α), (a :: u) ++ v = a :: (u ++ v)) ∧ (∀ {α : Type} (u : List α), [] ++ u = u) :=
 ⟨fun l i a => List.setIfInBounds_toArray l i a, fun _ _ _ => rfl, fun _ _ _ _ => rfl, fun _ _ _ => rfl, fun _ => rfl⟩
theorem kfa : (∀ {α β : Type} (f : α → β) (a : α) (l : List α), (a :: l).map f = f a :: l.map f) ∧ (∀ {α β : Type} (f : α → β), List.map f [] = []) ∧ (∀ {α : Type} (p : α → Prop) (a : α) (l : List α), (∀ x ∈ a :: l, p x) ↔ p a ∧ ∀ x ∈ l, p x) ∧ (∀ p : Prop, (False → p) = True) ∧ (∀ {α : Type} (a b : α), (a ≠ b) = ¬ (a = b)) ∧ ((¬ False) = True) ∧ (∀ {α : Type} (a : α), ¬ a ∈ ([] : List α)) ∧ (∀ p : Prop, (True → p) = p) ∧ (∀ {α : Type} {a b : α} {l : List α}, a ∈ b :: l ↔ a = b ∨ a ∈ l) ∧ (∀ p : Prop, (p ∨ False) = p) ∧ (∀ p : Prop, (p ∧ True) = p) ∧ (∀ p : Prop, (True ∧ p) = p) ∧ (∀ n : Nat, n ≤ n) ∧ (∀ {α : Type} (l : List α) (i : Nat) (a : α), l.toArray.setIfInBounds i a = (l.set i a).toArray) ∧ (∀ {α : Type} (x : α) (xs : List α) (a : α), (x :: xs).set 0 a = a :: xs) ∧ (∀ {α : Type} (x : α) (xs : List α) (i : Nat) (a : α), (x :: xs).set (i + 1) a = x :: xs.set i a) :=
 ⟨fun _ _ _ => rfl, fun _ => rfl, fun _ _ _ => List.forall_mem_cons, false_implies, fun a b => ne_eq a b, not_false_eq_true, fun _ => List.not_mem_nil, true_implies, List.mem_cons, or_false, and_true, true_and, Nat.le_refl, fun l i a => List.setIfInBounds_toArray l i a, fun _ _ _ => rfl, fun _ _ _ _ => rfl⟩
/-- X: the old blocks that may have changed; w0: the world when the call began; L: what blocks hold. -/
class Kn (X : outParam (List Nat)) (w0 : outParam World) (w : World) (L : outParam (List (Nat × Obj))) : Prop where
 os : w.os = w0.os
 tape : w.tape = w0.tape
 output : w.output = w0.output
 size : w0.heap.size ≤ w.heap.size
 block : ∀ b, b < w0.heap.size → b ∉ X → w.heap[b]? = w0.heap[b]?
 own : ∀ p ∈ L, w0.heap.size ≤ p.1 ∨ p.1 ∈ X
 has : ∀ p ∈ L, w.heap[p.1]? = some p.2
 nd : (L.map (·.1)).Nodup
theorem Kn.refl (X : List Nat) (w : World) : Kn X w w [] := ⟨rfl, rfl, rfl, Nat.le_refl _, fun _ _ _ => rfl, fun _ h => (by cases h), fun _ h => (by cases h), List.nodup_nil⟩
theorem lt_of_has {w : World} {b : Nat} {o : Obj} (h : w.heap[b]? = some o) : b < w.heap.size := (Array.getElem?_eq_some_iff.1 h).1
theorem Kn.one {w : World} {b : Nat} {o : Obj} (h : w.heap[b]? = some o) : Kn [b] w w [(b, o)] :=
 ⟨rfl, rfl, rfl, Nat.le_refl _, fun _ _ _ => rfl, fun p hp => (by simp at hp; subst hp; right; simp), fun p hp => (by simp at hp; subst hp; exact h), by simp⟩
theorem Kn.below0 {w0 w : World} {L : List (Nat × Obj)} (h : Kn [] w0 w L) : Below w0.heap.size w0 w := ⟨h.os, h.tape, h.output, h.size, fun b hb => h.block b hb (by simp)⟩
theorem Kn.lt {X : List Nat} {w0 w : World} {L : List (Nat × Obj)} (h : Kn X w0 w L) {p : Nat × Obj} (hp : p ∈ L) : p.1 < w.heap.size := lt_of_has (h.has p hp)
/-- A callee that only makes memory. -/
theorem Kn.below {X : List Nat} {w0 w w' : World} {L : List (Nat × Obj)} (h : Kn X w0 w L) (k : Below w.heap.size w w') : Kn X w0 w' L :=
 ⟨k.os.trans h.os, k.tape.trans h.tape, k.output.trans h.output, Nat.le_trans h.size k.size, fun b hb hx => (k.block b (Nat.lt_of_lt_of_le hb h.size)).trans (h.block b hb hx), h.own,
  fun p hp => (k.block p.1 (h.lt hp)).trans (h.has p hp), h.nd⟩
theorem Kn.sub {X : List Nat} {w0 w : World} {L L' : List (Nat × Obj)} (h : Kn X w0 w L) (k : L'.Sublist L) : Kn X w0 w L' :=
 ⟨h.os, h.tape, h.output, h.size, h.block, fun p hp => h.own p (k.subset hp), fun p hp => h.has p (k.subset hp), h.nd.sublist (k.map _)⟩
/-- A callee that leaves something new. -/
theorem Kn.join {X : List Nat} {w0 w w' : World} {L L' : List (Nat × Obj)} (h : Kn X w0 w L) (k : Kn [] w w' L') : Kn X w0 w' (L' ++ L) := by
 have h1 := h.below k.below0
 refine ⟨h1.os, h1.tape, h1.output, h1.size, h1.block, fun p hp => ?_, fun p hp => ?_, ?_⟩
 ·rcases List.mem_append.1 hp with hp | hp
  ·rcases k.own p hp with e | e
   ·exact .inl (Nat.le_trans h.size e)
   ·simp at e
  ·exact h.own p hp
 ·rcases List.mem_append.1 hp with hp | hp
  ·exact k.has p hp
  ·exact h1.has p hp
 ·rw [List.map_append, List.nodup_append]
  refine ⟨k.nd, h.nd, fun a ha b hb => ?_⟩
  obtain ⟨p, hp, rfl⟩ := List.mem_map.1 ha
  obtain ⟨q, hq, rfl⟩ := List.mem_map.1 hb
  have := h.lt hq
  rcases k.own p hp with e | e
  ·omega
  ·simp at e
/-- A callee that changes the block b, and leaves what L' says. -/
theorem Kn.join1 {X : List Nat} {w0 w w' : World} {L L' : List (Nat × Obj)} {b : Nat} {o : Obj} (i : Nat) (h : Kn X w0 w L) (hi : L[i]? = some (b, o)) (k : Kn [b] w w' L') : Kn X w0 w' (L' ++ L.eraseIdx i) := by
 have hb : (b, o) ∈ L := List.mem_of_getElem? hi
 have hlt := h.lt hb
 have hne : ∀ p ∈ L.eraseIdx i, p.1 ≠ b := by
  intro p hp e
  have hn := h.nd
  obtain ⟨hil, hie⟩ := List.getElem?_eq_some_iff.1 hi
  obtain ⟨j, hj, hje⟩ := List.mem_iff_getElem.1 hp
  have hL : ∃ m, m ≠ i ∧ ∃ hm : m < L.length, L[m] = p := by
   rw [List.getElem_eraseIdx] at hje
   split at hje
   ·exact ⟨j, by omega, by omega, hje⟩
   ·exact ⟨j + 1, by omega, by simp [List.length_eraseIdx, hil] at hj; omega, hje⟩
  obtain ⟨m, hmi, hm, hme⟩ := hL
  have h1 : (L.map (·.1))[m]'(by simpa using hm) = (L.map (·.1))[i]'(by simpa using hil) := by simp [hme, hie, e]
  exact hmi ((List.getElem_inj hn).1 h1)
 have hX : b < w0.heap.size → b ∈ X := fun hlt0 => by rcases h.own _ hb with e | e; exact absurd hlt0 (by simpa using e); exact e
 refine ⟨k.os.trans h.os, k.tape.trans h.tape, k.output.trans h.output, Nat.le_trans h.size k.size, fun c hc hx => ?_, fun p hp => ?_, fun p hp => ?_, ?_⟩
 ·have hcb : c ∉ [b] := by simp; rintro rfl; exact hx (hX hc)
  rw [k.block c (Nat.lt_of_lt_of_le hc h.size) hcb, h.block c hc hx]
 ·rcases List.mem_append.1 hp with hp | hp
  ·rcases k.own p hp with e | e
   ·left; have := h.size; omega
   ·simp at e; rw [e]; exact h.own _ hb
  ·exact h.own p (List.mem_of_mem_eraseIdx hp)
 ·rcases List.mem_append.1 hp with hp | hp
  ·exact k.has p hp
  ·have hpl := List.mem_of_mem_eraseIdx hp
   rw [k.block p.1 (h.lt hpl) (by simp; exact hne p hp)]; exact h.has p hpl
 ·rw [List.map_append, List.nodup_append]
  refine ⟨k.nd, h.nd.sublist ((List.eraseIdx_sublist L i).map _), fun x hx y hy => ?_⟩
  obtain ⟨p, hp, rfl⟩ := List.mem_map.1 hx
  obtain ⟨q, hq, rfl⟩ := List.mem_map.1 hy
  have := h.lt (List.mem_of_mem_eraseIdx hq)
  rcases k.own p hp with e | e
  ·omega
  ·simp at e; rw [e]; exact fun e' => hne q hq e'.symm
/-! How a world written out is known: found by its make. -/
class SizeIs (w : World) (n : outParam Nat) : Prop where
 eq : w.heap.size = n
instance (priority := 10) sizeIs_self (w : World) : SizeIs w w.heap.size := ⟨rfl⟩
instance sizeIs_alloc (w : World) (o : Obj) (n : Nat) [h : SizeIs w n] : SizeIs (w.alloc o) (n + 1) := ⟨by simp [h.eq]⟩
instance sizeIs_setCell (w : World) (a : Addr) (v : Value) (n : Nat) [h : SizeIs w n] : SizeIs (w.setCell a v) n := ⟨by simp [h.eq]⟩
instance sizeIs_drewN (w : World) (k n : Nat) [h : SizeIs w n] : SizeIs (w.drewN k) n := ⟨h.eq⟩
instance sizeIs_drew (w : World) (n : Nat) [h : SizeIs w n] : SizeIs w.drew n := ⟨h.eq⟩
instance sizeIs_iter (w : World) (s : ByteArray) (k n : Nat) [h : SizeIs w n] : SizeIs (w.iter s k) (n + 1) := ⟨by simp [World.iter, h.eq]⟩
class SetIn (b o : Nat) (v : Value) (L : List (Nat × Obj)) (L' : outParam (List (Nat × Obj))) : Prop where
 ex : ∃ i c t f, L[i]? = some (b, .cells c t f) ∧ L' = L.set i (b, .cells (c.setIfInBounds o v) t f)
instance (priority := 2000) setIn_head (b o : Nat) (v : Value) (c : Array Value) (t : TypeId) (f : Nat × Nat) (L : List (Nat × Obj)) : SetIn b o v ((b, .cells c t f) :: L) ((b, .cells (c.setIfInBounds o v) t f) :: L) :=
 ⟨0, c, t, f, rfl, rfl⟩
instance (priority := 1000) setIn_tail (b o : Nat) (v : Value) (p : Nat × Obj) (L L' : List (Nat × Obj)) [h : SetIn b o v L L'] : SetIn b o v (p :: L) (p :: L') := by
 obtain ⟨i, c, t, f, h1, h2⟩ := h.ex
 exact ⟨i + 1, c, t, f, by simpa using h1, by rw [h2]; rfl⟩
instance kn_alloc (X : List Nat) (w0 w : World) (L : List (Nat × Obj)) (o : Obj) (n : Nat) [h : Kn X w0 w L] [s : SizeIs w n] : Kn X w0 (w.alloc o) ((n, o) :: L) := by
 have hn := s.eq
 have hb : Below w.heap.size w (w.alloc o) := (Below.refl _ _).alloc (Nat.le_refl _) _
 have k := h.below hb
 refine ⟨k.os, k.tape, k.output, k.size, k.block, fun p hp => ?_, fun p hp => ?_, ?_⟩
 ·rcases List.mem_cons.1 hp with rfl | hp
  ·left; have := h.size; simp; omega
  ·exact h.own p hp
 ·rcases List.mem_cons.1 hp with rfl | hp
  ·show (w.heap.push o)[n]? = some o
   subst hn; simp
  ·exact k.has p hp
 ·rw [List.map_cons, List.nodup_cons]
  refine ⟨fun hm => ?_, h.nd⟩
  obtain ⟨q, hq, e⟩ := List.mem_map.1 hm
  have := h.lt hq
  simp only at e; omega
theorem set_same (w : World) (b o : Nat) (v : Value) (c : Array Value) (t : TypeId) (f : Nat × Nat) (h : w.heap[b]? = some (.cells c t f)) : (w.setCell ⟨b, o, none⟩ v).heap[b]? = some (.cells (c.setIfInBounds o v) t f) := by
 simp only [World.setCell, Array.getElem?_modify, if_true, h]; rfl
instance kn_setCell (X : List Nat) (w0 w : World) (L L' : List (Nat × Obj)) (b o : Nat) (v : Value) [h : Kn X w0 w L] [s : SetIn b o v L L'] : Kn X w0 (w.setCell ⟨b, o, none⟩ v) L' := by
 obtain ⟨i, c, t, f, hi, rfl⟩ := s.ex
 have hm : (b, Obj.cells c t f) ∈ L := List.mem_of_getElem? hi
 have hkeys : ((L.set i (b, Obj.cells (c.setIfInBounds o v) t f)).map (·.1)) = L.map (·.1) := by
  rw [List.map_set]
  apply List.ext_getElem?
  intro j
  rw [List.getElem?_set]
  split
  ·rename_i e; subst e
   split
   ·simp [hi]
   ·rename_i hn; simp at hn; simp [List.getElem?_eq_none hn]
  ·rfl
 have hmem : ∀ p ∈ L.set i (b, Obj.cells (c.setIfInBounds o v) t f), p = (b, Obj.cells (c.setIfInBounds o v) t f) ∨ (p ∈ L ∧ p.1 ≠ b) := by
  intro p hp
  obtain ⟨j, hj⟩ := List.mem_iff_getElem?.1 hp
  rw [List.getElem?_set] at hj
  split at hj
  ·split at hj
   ·left; exact (Option.some.inj hj).symm
   ·cases hj
  ·rename_i hij
   right
   refine ⟨List.mem_of_getElem? hj, fun e => hij ?_⟩
   obtain ⟨hjl, hje⟩ := List.getElem?_eq_some_iff.1 hj
   obtain ⟨hil, hie⟩ := List.getElem?_eq_some_iff.1 hi
   have h1 : (L.map (·.1))[i]'(by simpa using hil) = (L.map (·.1))[j]'(by simpa using hjl) := by simp [hje, hie, e]
   exact (List.getElem_inj h.nd).1 h1
 refine ⟨h.os, h.tape, h.output, by simpa using h.size, fun d hd hx => ?_, fun p hp => ?_, fun p hp => ?_, by rw [hkeys]; exact h.nd⟩
 ·have hdb : d ≠ b := by
   rintro rfl
   rcases h.own _ hm with e | e
   ·exact absurd hd (by simpa using e)
   ·exact hx e
  rw [Below.heap_setCell w ⟨b, o, none⟩ v d hdb]; exact h.block d hd hx
 ·rcases hmem p hp with rfl | ⟨hp, _⟩
  ·exact h.own (b, Obj.cells c t f) hm
  ·exact h.own p hp
 ·rcases hmem p hp with rfl | ⟨hp, hne⟩
  ·exact set_same w b o v c t f (h.has _ hm)
  ·rw [Below.heap_setCell w ⟨b, o, none⟩ v p.1 hne]; exact h.has p hp
theorem kn_same {X : List Nat} {w0 w w' : World} {L : List (Nat × Obj)} (h : Kn X w0 w L) (e1 : w'.heap = w.heap) (e2 : w'.os = w.os) (e3 : w'.tape = w.tape) (e4 : w'.output = w.output) : Kn X w0 w' L :=
 ⟨e2.trans h.os, e3.trans h.tape, e4.trans h.output, by rw [e1]; exact h.size, fun b hb hx => by rw [e1]; exact h.block b hb hx, h.own, fun p hp => by rw [e1]; exact h.has p hp, h.nd⟩
instance kn_drewN (X : List Nat) (w0 w : World) (L : List (Nat × Obj)) (n : Nat) [h : Kn X w0 w L] : Kn X w0 (w.drewN n) L := kn_same h rfl rfl rfl rfl
instance kn_drew (X : List Nat) (w0 w : World) (L : List (Nat × Obj)) [h : Kn X w0 w L] : Kn X w0 w.drew L := kn_same h rfl rfl rfl rfl
theorem kn_iter_below (w : World) (s : ByteArray) (k : Nat) : Below w.heap.size w (w.iter s k) := by
 unfold World.iter; exact (Below.refl _ _).alloc (Nat.le_refl _) _
instance kn_iter (X : List Nat) (w0 w : World) (L : List (Nat × Obj)) (s : ByteArray) (k : Nat) [h : Kn X w0 w L] : Kn X w0 (w.iter s k) L := h.below (kn_iter_below w s k)
/-- What the list says, as the walk uses it. -/
def Facts (w : World) : List (Nat × Obj) → Prop
 | [] => True
 | (b, .cells c _ (0, 0)) :: r => (∀ o, w.cell? ⟨b, o, none⟩ = c[o]?) ∧ (∀ o, w.frozen? ⟨b, o, none⟩ = false) ∧ b < w.heap.size ∧ Facts w r
 | (b, _) :: r => b < w.heap.size ∧ Facts w r
theorem facts_of_has {w : World} : ∀ {L : List (Nat × Obj)}, (∀ p ∈ L, w.heap[p.1]? = some p.2) → Facts w L := by
 intro L
 induction L with
 | nil => exact fun _ => trivial
 | cons p L ih =>
  intro h
  have hp := h p (by simp)
  have hr := ih (fun q hq => h q (List.mem_cons_of_mem _ hq))
  obtain ⟨b, ob⟩ := p
  unfold Facts
  split
  ·rename_i heq; cases heq
  ·rename_i heq; cases heq; exact ⟨fun o => by simp [World.cell?, hp], fun o => by simp [World.frozen?, hp], lt_of_has hp, hr⟩
  ·rename_i heq; cases heq; exact ⟨lt_of_has hp, hr⟩
/-- No two of the blocks are the same. -/
def Dist : List Nat → Prop
 | [] => True
 | b :: r => (∀ c ∈ r, b ≠ c ∧ c ≠ b) ∧ Dist r
theorem dist_of_nodup : ∀ {l : List Nat}, l.Nodup → Dist l := by
 intro l
 induction l with
 | nil => exact fun _ => trivial
 | cons b r ih =>
  intro h
  rw [List.nodup_cons] at h
  exact ⟨fun c hc => ⟨fun e => h.1 (e ▸ hc), fun e => h.1 (e ▸ hc)⟩, ih h.2⟩
theorem Kn.facts {X : List Nat} {w0 w : World} {L : List (Nat × Obj)} (h : Kn X w0 w L) : Facts w L ∧ Dist (L.map (·.1)) ∧ w0.heap.size ≤ w.heap.size ∧ (∀ b o, b < w0.heap.size → b ∉ X → w.cell? ⟨b, o, none⟩ = w0.cell? ⟨b, o, none⟩) ∧ (∀ b o, b < w0.heap.size → b ∉ X → w.frozen? ⟨b, o, none⟩ = w0.frozen? ⟨b, o, none⟩) :=
 ⟨facts_of_has h.has, dist_of_nodup h.nd, h.size, fun b o hb hx => World.cell?_of_block (w := w0) (h.block b hb hx), fun b o hb hx => World.frozen?_of_block (w := w0) (h.block b hb hx)⟩
/-! A world written out becomes a variable. -/
theorem kn_calls {P : Program} {f : FuncId} {args : Array Value} {Q : Ending → World → Prop} {X : List Nat} {w0 Xw : World} {L : List (Nat × Obj)} [h : Kn X w0 Xw L]
  (k : ∀ W, Kn X w0 W L → Calls P f args W Q) : Calls P f args Xw Q := k Xw h
theorem kn_wp {P : Program} {c : Code} {a : Act} {Q : Exit → Act → World → Prop} {X : List Nat} {w0 Xw : World} {L : List (Nat × Obj)} [h : Kn X w0 Xw L]
  (k : ∀ W, Kn X w0 W L → c.wp P Q a W) : c.wp P Q a Xw := k Xw h
theorem kn_list {P : Program} {ops : Array Oper} {l : List Oper} {a : Act} {Q : Exit → Act → World → Prop} {X : List Nat} {w0 Xw : World} {L : List (Nat × Obj)} [h : Kn X w0 Xw L]
  (k : ∀ W, Kn X w0 W L → wpList P ops Q l a W) : wpList P ops Q l a Xw := k Xw h
theorem kn_list_set {P : Program} {ops : Array Oper} {l : List Oper} {a : Act} {Q : Exit → Act → World → Prop} {X : List Nat} {w0 w : World} {p : Addr} {v : Value} {L : List (Nat × Obj)} [h : Kn X w0 (w.setCell p v) L]
  (k : ∀ W, Kn X w0 W L → wpList P ops Q l a W) : wpList P ops Q l a (w.setCell p v) := k _ h
theorem kn_body {P : Program} {fn : Func} {R : Ending → World → Prop} {x : Exit} {a : Act} {X : List Nat} {w0 Xw : World} {L : List (Nat × Obj)} [h : Kn X w0 Xw L]
  (k : ∀ W, Kn X w0 W L → bodyPost P fn R x a W) : bodyPost P fn R x a Xw := k Xw h
theorem kn_here {X : List Nat} {w0 w : World} {L : List (Nat × Obj)} [h : Kn X w0 w L] : Kn X w0 w L := h
/-! A region whose order is drawn. -/
section
variable {P : Program} {ops : Array Oper} {fl br pu : Nat → Bool} {Q : Act → World → Prop} {Qp : List PanicEntry → World → Prop} {X : List Nat} {w0 : World} {L Lw : List (Nat × Obj)} {a : Act} {rest : List Nat} {i : Nat} {o : Oper}
/-- The walk of such a region: L is what is known of the world, Lw what is known of it all the while. -/
def cwk (P : Program) (ops : Array Oper) (fl br pu : Nat → Bool) (Q : Act → World → Prop) (Qp : List PanicEntry → World → Prop) (X : List Nat) (w0 : World) (l : List Nat) (a : Act) (L Lw : List (Nat × Obj)) : Prop :=
 cw P ops fl br pu Q Qp l a (fun u => Kn X w0 u L) (fun u => Kn X w0 u Lw)
theorem kn_fam (X : List Nat) (w0 : World) (L : List (Nat × Obj)) (h : ∃ w, Kn X w0 w L) : ∃ (ι : Type) (F : ι → World), Nonempty ι ∧ (∀ w, Kn X w0 w L → ∃ n, w = F n) ∧ ∀ n, Kn X w0 (F n) L :=
 ⟨{ w : World // Kn X w0 w L }, Subtype.val, h.elim fun w hw => ⟨⟨w, hw⟩⟩, fun w hw => ⟨⟨w, hw⟩, rfl⟩, fun n => n.2⟩
theorem kn_region {id : Nat} {Q : Exit → Act → World → Prop} {w : World} {l : List Oper} [h : Kn X w0 w L] (order fls brs pus : List Nat) (hm : P.follows .mixedOrders = true)
  (hB : (Region.noSelect l.toArray && permB l.length order && okAll .any l.toArray (fun i => fls.contains i) (fun i => brs.contains i) (fun i => pus.contains i) order) = true) (hs : Lw.Sublist L)
  (k : ∀ (ι : Type) (F : ι → World) [Nonempty ι], (∀ w, Kn X w0 w Lw → ∃ n, w = F n) → (∀ n, Kn X w0 (F n) Lw) → cwk P l.toArray (fun i => fls.contains i) (fun i => brs.contains i) (fun i => pus.contains i) (Q .normal) (fun _ _ => False) X w0 order a L Lw) : (Code.region id l.toArray true).wp P Q a w := by
 obtain ⟨ι, F, hne, h1, h2⟩ := kn_fam X w0 Lw ⟨w, h.sub hs⟩
 exact wp_region_cw order fls brs pus (fun _ _ => False) hm hB (fun _ _ _ _ h => h.elim) _ _ (kn_drew X w0 w L) (fun u hu => hu.sub hs) (k ι F h1 h2)
theorem at_region (n : Nat) {ops : Array Oper} {d : Bool} {Q : Exit → Act → World → Prop} {w : World} (h : (Code.region n ops d).wp P Q a w) : (Code.region n ops d).wp P Q a w := h
def nth : List Oper → Nat → Option Oper
 | [], _ => none
 | o :: _, 0 => some o
 | _ :: r, n + 1 => nth r n
theorem nth_get : ∀ {l : List Oper} {i : Nat} {o : Oper}, nth l i = some o → l.toArray[i]? = some o := by
 intro l
 induction l with
 | nil => intro i o h; simp [nth] at h
 | cons x l ih =>
  intro i o h
  cases i with
  | zero => simpa [nth] using h
  | succ i => have := ih (i := i) (o := o) (by simpa [nth] using h); simpa using this
theorem cwk_nil (h : ∀ w, Kn X w0 w L → Q a w) : cwk P ops fl br pu Q Qp X w0 [] a L Lw := h
theorem cwk_skip {l : List Oper} (ho : nth l i = some o) (hw : Region.wanted o (yielded l.toArray a.tmps) = false) (h : cwk P l.toArray fl br pu Q Qp X w0 rest (a.put o.dst undef) L Lw) : cwk P l.toArray fl br pu Q Qp X w0 (i :: rest) a L Lw :=
 ⟨o, nth_get ho, .inr (.inr ⟨hw, h⟩)⟩
/-- Operations that enter nothing. -/
def noEnter : Op → Bool
 | .nilCheck _ | .move _ | .assign _ | .pick .. | .build .. | .load .. | .binOp .. | .unOp .. | .convert .. | .slice .. | .fieldAddr .. | .field .. | .indexAddr .. | .index .. | .extract .. | .lookup .. | .makeInterface .. => true
 | .call { callee := .builtin .len, .. } | .call { callee := .builtin .cap, .. } | .call { callee := .builtin .max, .. } | .call { callee := .builtin .min, .. } => true
 | _ => false
theorem val_run {s : Sem Value} {w : World} : (∃ v w', (Sem.run P (do pure (Next.value (← s)) : Sem Next) w) = .ok (.value v) w') ∨ ∃ h w', (Sem.run P (do pure (Next.value (← s)) : Sem Next) w) = .halt h w' := by
 rw [Sem.run_bind]
 cases s.run P w with
 | ok v w' => exact .inl ⟨v, w', rfl⟩
 | halt h w' => exact .inr ⟨h, w', rfl⟩
theorem nil_run (ρ : Operand → Value) (x : Operand) (dst : Option Tmp) (ty : TypeId) (pos : String) (after : Array Edge) (guard : Option (Nat × Bool)) (w : World) :
  (∃ v w', (execOp ρ ⟨dst, .nilCheck x, ty, pos, after, guard⟩).run P w = .ok (.value v) w') ∨ ∃ h w', (execOp ρ ⟨dst, .nilCheck x, ty, pos, after, guard⟩).run P w = .halt h w' := by
 simp only [execOp]
 split
 ·exact .inr ⟨_, _, rfl⟩
 ·exact .inr ⟨_, _, rfl⟩
 ·exact .inr ⟨_, _, rfl⟩
 ·split
  ·exact .inr ⟨_, _, rfl⟩
  ·rw [Sem.run_bind]
   cases (program).run P w with
   | halt x w' => exact .inr ⟨x, w', rfl⟩
   | ok p w' =>
    simp only [Result.andThen_ok]
    rw [Sem.run_bind]
    generalize (nilAhead _ _ _ _).run P w' = r
    cases r with
    | halt x w' => exact .inr ⟨x, w', rfl⟩
    | ok b w' =>
     simp only [Result.andThen_ok]
     split
     ·exact .inr ⟨_, _, rfl⟩
     ·exact .inl ⟨_, _, rfl⟩
  ·exact .inl ⟨_, _, rfl⟩
 ·exact .inl ⟨_, _, rfl⟩
theorem noEnter_run (ρ : Operand → Value) (o : Oper) (h : noEnter o.op = true) (w : World) : (∃ v w', (execOp ρ o).run P w = .ok (.value v) w') ∨ ∃ x w', (execOp ρ o).run P w = .halt x w' := by
 obtain ⟨dst, op, ty, pos, after, guard⟩ := o
 cases op
 case move x => exact .inl ⟨ρ x, w, rfl⟩
 case assign x => exact .inl ⟨ρ x, w, rfl⟩
 case pick c x y =>
  simp only [execOp]
  rw [Sem.run_bind]
  cases (asBool (ρ c)).run P w with
  | ok b w' => exact .inl ⟨_, w', rfl⟩
  | halt x w' => exact .inr ⟨x, w', rfl⟩
 case nilCheck x => exact nil_run ρ x dst ty pos after guard w
 case call c =>
  obtain ⟨callee, args, argTypes⟩ := c
  cases callee
  case builtin b =>
   simp only [execOp, resolve, pure_bind, invoke]
   cases b <;> simp only [noEnter, Bool.false_eq_true] at h <;> simp only [builtin] <;> exact val_run
  all_goals simp only [noEnter, Bool.false_eq_true] at h
 all_goals first | (simp only [noEnter, Bool.false_eq_true] at h; done) | exact val_run
theorem cwk_float {ι : Type} {F : ι → World} {l : List Oper} (ho : nth l i = some o) (hp : noEnter o.op = true) (hw : Region.wanted o (yielded l.toArray a.tmps) = true) (hf : fl i = true) (hu : pu i = false) (hC : ∀ w, Kn X w0 w Lw → ∃ n, w = F n)
  (h : ∀ K : Act → Prop, (∀ a, cwk P l.toArray fl br pu Q Qp X w0 rest a L Lw → K a) → o.quiet P a (fun w' => ∃ n, w' = F n) K) : cwk P l.toArray fl br pu Q Qp X w0 (i :: rest) a L Lw := by
 obtain ⟨v, h1, h2⟩ := h _ (fun _ h => h)
 refine ⟨o, nth_get ho, .inl ⟨hw, hf, v, fun w hk => ?_, h2⟩⟩
 have hk : Kn X w0 w Lw := hk.elim (fun e => by rw [hu] at e; cases e) id
 have h3 := h1 w (hC w hk)
 unfold Oper.quietAt at h3
 unfold floatAt
 rcases noEnter_run (P := P) a.eval o hp w with ⟨u, w', e⟩ | ⟨x, w', e⟩
 ·rw [e] at h3 ⊢; exact h3
 ·rw [e] at h3; exact h3.elim
/-- An operation that reads nothing. -/
theorem cwk_pure {l : List Oper} (ho : nth l i = some o) (hp : noEnter o.op = true) (hw : Region.wanted o (yielded l.toArray a.tmps) = true) (hf : fl i = true)
  (h : ∀ K : Act → Prop, (∀ a, cwk P l.toArray fl br pu Q Qp X w0 rest a L Lw → K a) → o.quiet P a (fun _ => True) K) : cwk P l.toArray fl br pu Q Qp X w0 (i :: rest) a L Lw := by
 obtain ⟨v, h1, h2⟩ := h _ (fun _ h => h)
 refine ⟨o, nth_get ho, .inl ⟨hw, hf, v, fun w _ => ?_, h2⟩⟩
 have h3 := h1 w trivial
 unfold Oper.quietAt at h3
 unfold floatAt
 rcases noEnter_run (P := P) a.eval o hp w with ⟨u, w', e⟩ | ⟨x, w', e⟩
 ·rw [e] at h3 ⊢; exact h3
 ·rw [e] at h3; exact h3.elim
/-- What is owed behind an operation that does not float. -/
def Owed (P : Program) (ops : Array Oper) (fl br pu : Nat → Bool) (Q : Act → World → Prop) (Qp : List PanicEntry → World → Prop) (X : List Nat) (w0 : World) (i : Nat) (rest : List Nat) (a : Act) (Lw : List (Nat × Obj)) (w' : World) : Prop :=
 ∃ L' Lw', Kn X w0 w' L' ∧ Lw'.Sublist L' ∧ (br i = true ∨ Lw.Sublist Lw') ∧ cwk P ops fl br pu Q Qp X w0 rest a L' Lw'
theorem cwk_call {f : FuncId} {args : Array Value} {l : List Oper} (ho : nth l i = some o) (hw : Region.wanted o (yielded l.toArray a.tmps) = true) (hf : fl i = false) (hx : ∀ w, (execOp a.eval o).run P w = .ok (.enter f args) w)
  (h : ∀ W, Kn X w0 W L → Calls P f args W fun e w' => ∃ v, e = .returned v ∧ Owed P l.toArray fl br pu Q Qp X w0 i rest (a.put o.dst v) Lw w') : cwk P l.toArray fl br pu Q Qp X w0 (i :: rest) a L Lw := by
 refine ⟨o, nth_get ho, .inr (.inl ⟨hw, hf, fun w hk => ?_⟩)⟩
 unfold anchAt
 rw [hx w]
 refine (h w hk).mono fun e w' hh => ?_
 obtain ⟨v, rfl, L', Lw', k1, k2, k3, k4⟩ := hh
 exact ⟨_, _, k1, fun u hu => hu.sub k2, k3.imp id fun k3 u hu => hu.sub k3, k4⟩
/-- Operations that enter nothing, but may make or write memory. -/
def plainOp : Op → Bool
 | .nilCheck _ | .move _ | .assign _ | .pick .. | .build .. | .load .. | .binOp .. | .unOp .. | .convert .. | .slice .. | .fieldAddr .. | .field .. | .indexAddr .. | .index .. | .extract .. | .lookup .. | .makeInterface .. => true
 | .alloc _ | .box .. | .buildSlice .. | .store .. | .makeFunc .. | .makeMap .. | .makeSlice .. | .mapUpdate .. | .insert .. | .mapEntry .. | .entryStore .. | .range .. | .next .. | .entry _ | .typeAssert .. => true
 | .call { callee := .builtin .len, .. } | .call { callee := .builtin .cap, .. } | .call { callee := .builtin .max, .. } | .call { callee := .builtin .min, .. } => true
 | .call { callee := .builtin .append, .. } | .call { callee := .builtin .copy, .. } | .call { callee := .builtin .delete, .. } | .call { callee := .builtin .clear, .. } => true
 | _ => false
theorem unit_run {s : Sem Unit} {w : World} : (∃ w', (Sem.run P (do s; pure .skip : Sem Next) w) = .ok .skip w') ∨ ∃ h w', (Sem.run P (do s; pure .skip : Sem Next) w) = .halt h w' := by
 rw [Sem.run_bind]
 cases s.run P w with
 | ok v w' => exact .inl ⟨w', rfl⟩
 | halt h w' => exact .inr ⟨h, w', rfl⟩
theorem plain_run (ρ : Operand → Value) (o : Oper) (h : plainOp o.op = true) (w : World) : (∃ v w', (execOp ρ o).run P w = .ok (.value v) w') ∨ (∃ w', (execOp ρ o).run P w = .ok .skip w') ∨ ∃ x w', (execOp ρ o).run P w = .halt x w' := by
 obtain ⟨dst, op, ty, pos, after, guard⟩ := o
 cases op
 case move x => exact .inl ⟨ρ x, w, rfl⟩
 case assign x => exact .inl ⟨ρ x, w, rfl⟩
 case pick c x y =>
  simp only [execOp]
  rw [Sem.run_bind]
  cases (asBool (ρ c)).run P w with
  | ok b w' => exact .inl ⟨_, w', rfl⟩
  | halt x w' => exact .inr (.inr ⟨x, w', rfl⟩)
 case nilCheck x => exact (nil_run ρ x dst ty pos after guard w).imp id .inr
 case call c =>
  obtain ⟨callee, args, argTypes⟩ := c
  cases callee
  case builtin b =>
   simp only [execOp, resolve, pure_bind, invoke]
   cases b <;> simp only [plainOp, Bool.false_eq_true] at h <;> simp only [builtin] <;> exact (val_run).imp id .inr
  all_goals simp only [plainOp, Bool.false_eq_true] at h
 all_goals first | (simp only [plainOp, Bool.false_eq_true] at h; done) | exact (val_run).imp id .inr | exact .inr unit_run
/-- .. and how such a one ends. -/
def AnchQ (P : Program) (ops : Array Oper) (fl br pu : Nat → Bool) (Q : Act → World → Prop) (Qp : List PanicEntry → World → Prop) (X : List Nat) (w0 : World) (i : Nat) (rest : List Nat) (Lw : List (Nat × Obj)) : Exit → Act → World → Prop
 | .normal, a, w => Owed P ops fl br pu Q Qp X w0 i rest a Lw w
 | .panic ch, _, w => Qp ch w
 | _, _, _ => False
theorem cwk_anch {l : List Oper} (ho : nth l i = some o) (hp : plainOp o.op = true) (hw : Region.wanted o (yielded l.toArray a.tmps) = true) (hf : fl i = false)
  (h : ∀ W, Kn X w0 W L → wpList P l.toArray (AnchQ P l.toArray fl br pu Q Qp X w0 i rest Lw) [o] a W) : cwk P l.toArray fl br pu Q Qp X w0 (i :: rest) a L Lw := by
 refine ⟨o, nth_get ho, .inr (.inl ⟨hw, hf, fun w hk => ?_⟩)⟩
 have h3 := h w hk
 unfold wpList at h3
 rw [if_pos hw] at h3
 have h4 : o.wp P a w (wpList P l.toArray (AnchQ P l.toArray fl br pu Q Qp X w0 i rest Lw) []) (AnchQ P l.toArray fl br pu Q Qp X w0 i rest Lw) := by
  rcases h3 with h3 | ⟨_, _, _, hh⟩
  ·exact h3
  ·exact hh.elim
 unfold anchAt
 unfold Oper.wp at h4
 rcases plain_run (P := P) a.eval o hp w with ⟨v, w', e⟩ | ⟨w', e⟩ | ⟨x, w', e⟩
 ·rw [e] at h4 ⊢
  obtain ⟨L', Lw', k1, k2, k3, k4⟩ : Owed P l.toArray fl br pu Q Qp X w0 i rest (a.put o.dst v) Lw w' := h4
  exact ⟨_, _, k1, fun u hu => hu.sub k2, k3.imp id fun k3 u hu => hu.sub k3, k4⟩
 ·rw [e] at h4 ⊢
  obtain ⟨L', Lw', k1, k2, k3, k4⟩ : Owed P l.toArray fl br pu Q Qp X w0 i rest (a.put o.dst undef) Lw w' := h4
  exact ⟨_, _, k1, fun u hu => hu.sub k2, k3.imp id fun k3 u hu => hu.sub k3, k4⟩
 ·rw [e] at h4 ⊢
  cases x <;> simp only [Oper.upon] at h4 ⊢ <;> (exact h4)
theorem anchQ_normal {w : World} (h : Owed P ops fl br pu Q Qp X w0 i rest a Lw w) : AnchQ P ops fl br pu Q Qp X w0 i rest Lw .normal a w := h
theorem owed0 (w' : World) {L' : List (Nat × Obj)} [k1 : Kn X w0 w' L'] (k2 : Lw.Sublist L') (k4 : cwk P ops fl br pu Q Qp X w0 rest a L' Lw) : Owed P ops fl br pu Q Qp X w0 i rest a Lw w' :=
 ⟨L', Lw, k1, k2, .inr (List.Sublist.refl _), k4⟩
/-- .. where everything that floats before it has come: all that is known may be used from here on. -/
theorem owedB (w' : World) {L' : List (Nat × Obj)} [k1 : Kn X w0 w' L'] (hb : br i = true) (k4 : ∀ (ι : Type) (F : ι → World) [Nonempty ι], (∀ w, Kn X w0 w L' → ∃ n, w = F n) → (∀ n, Kn X w0 (F n) L') → cwk P ops fl br pu Q Qp X w0 rest a L' L') : Owed P ops fl br pu Q Qp X w0 i rest a Lw w' := by
 obtain ⟨ι, F, hne, h1, h2⟩ := kn_fam X w0 L' ⟨w', k1⟩
 exact ⟨L', L', k1, List.Sublist.refl _, .inl hb, k4 ι F h1 h2⟩
theorem owed_ret {v : Value} {w' : World} {d : Option Tmp} (h : Owed P ops fl br pu Q Qp X w0 i rest (a.put d v) Lw w') : ∃ u, Ending.returned v = .returned u ∧ Owed P ops fl br pu Q Qp X w0 i rest (a.put d u) Lw w' := ⟨v, rfl, h⟩
end
end Go.Proofs.YtgboffbbpmileaaGreatDoor
