/- Lemmas and walks for the law of this seat (part 1). -/
import Derived.Test.YtfdlifhkeicnnaaGreatDoorCards
import Derived.Test.YtfdlifhkeicnnaaGreatDoorTie
import Derived.WalkKit
import Derived.ProofKit
import Derived.OpenShut
import Derived.ReadAgain
import Derived.ChangeSame
import Derived.Deep.DeepHandedRow
import Derived.Lib.LaidTab
import Derived.StillTail
import Derived.Deep.Quiet
import Derived.Deep.QuietTactic
import Derived.Below
import Derived.BigQuiet
import Derived.WalkSmall
/- From a law's contract ('it returns true, and what was in memory before is as it was') to its row and its card: arguments read again as they read before, whatever their types; a struct of integers opened cell by cell; a table of strings. -/
namespace Go.Proofs.YtfdlifhkeicnnaaGreatDoor
open Go Go.ChangeShapes Go.WideShapes Go.ChangeAt Go.RowKit
set_option linter.unusedVariables false
set_option linter.unusedSimpArgs false

section
variable {H : Type} {enc : TypeId × Value → H} {P : Program}
theorem trodAll_carry {w w' : World} {base : Nat} {sp : Nat → Bool} {held : Bool} : ∀ {ts : List TypeId} {vs : List Value} {ds : List (DataW H)} {ps : List MemPlace},
    DataW.TrodAll enc P w base sp held ts vs ds ps → (∀ p ∈ ps, w.sameAt w' p) → DataW.TrodAll enc P w' base sp held ts vs ds ps
  | [], [], [], _, h, _ => h
  | _ :: _, _ :: _, _ :: _, _, ⟨p, q, ⟨n, h1⟩, h2, e⟩, hs =>
    ⟨p, q, ⟨n, DataW.trod_carry n _ _ _ h1 (fun x hx => hs x (by rw [e]; exact List.mem_append_left _ hx))⟩, trodAll_carry h2 (fun x hx => hs x (by rw [e]; exact List.mem_append_right _ hx)), e⟩
/-- What a law's row asks, out of its contract. -/
theorem law_post {f : Func} {s : ChangeSpec} {W W' : World} {args : Array Value} {ds gs : List (DataW H)} {before : List MemPlace} {tb : TypeId}
    (K : Kids P (· < P.types.size)) (hz : ∀ t e, t < P.types.size → P.underlying t = some (.slice e) → 0 < P.cellsOf e) (hpar : ∀ t ∈ f.params.toList, t < P.types.size)
    (hvars0 : s.vars = []) (hrt : f.resultTypes = #[tb]) (htb : P.underlying tb = some .bool)
    (hW : DataW.Whole enc P f.params.toList s.vars false W args.toList ds gs before)
    (hf1 : (s.fn H (ds ++ gs)).results = [.lit (.bool true)]) (hf2 : (s.fn H (ds ++ gs)).args = ds) (hf3 : (s.fn H (ds ++ gs)).vars = [])
    (hb : Below W.heap.size W W') : s.post enc P f false true false false W args (.bool true) W' := by
  have hlt : ∀ p ∈ before, p.block < W.heap.size := fun p hp => hW.lt p hp
  have hold : ∀ p ∈ before, (fun b => decide (b < W.heap.size)) p.block = true := fun p hp => by simpa using hlt p hp
  have hW' := hW
  obtain ⟨p, q, hA, hV, hbef, hfz, hnd⟩ := hW
  rw [hvars0] at hV
  obtain ⟨hg, hq⟩ := trodVars_none hV
  subst hg; subst hq
  simp only [List.append_nil] at hbef hf1 hf2 hf3 hW'
  subst hbef
  have hargs : ∀ sp : Nat → Bool, (∀ x ∈ before, sp x.block = true) → DataW.TrodAll enc P W' 0 sp true f.params.toList args.toList ds before := fun sp hsp =>
    trodAll_carry (DataW.TrodAll.respare K hz hpar hA hsp) (fun x hx => hb.same (hlt x hx))
  have hres : ∀ (b : Nat) (sp : Nat → Bool) (hd : Bool), DataW.TrodAll enc P W' b sp hd f.resultTypes.toList ((Value.bool true).resultList f.resultTypes.size) [.lit (.bool true)] [] := fun b sp hd => by
    rw [hrt]
    exact trodAll_cons_mk (shut_bool htb _) trodAll_mk0
  have hvv : ∀ sp : Nat → Bool, DataW.TrodVars enc P W' sp s.vars (s.fn H (ds ++ [])).vars [] := fun sp => by
    rw [hvars0, List.append_nil, hf3]
    rfl
  refine ⟨ds, [], before, [], before, [], by exact hW', ?_, ?_, hvv _, World.keptBut_mono (fun x hx => ⟨hx, Or.inr (Or.inl hx)⟩) (hb.frame (· ∈ before)), fun h => (by cases h)⟩
  · rw [List.append_nil, hf1]; exact hres _ _ _
  · rw [List.append_nil, hf2]; exact hargs _ hold
/-- A table of strings, cell for cell. -/
theorem cells_of_strs {w : World} {base : Nat} {sp : Nat → Bool} {held : Bool} {fuel : Nat} {t e : TypeId} {n : Nat} {cs : List Value} {ss : List (List UInt8)} {p : List MemPlace}
    (ht : P.underlying t = some (.array n e)) (he : P.underlying e = some .string) (hce : P.cellsOf e = 1) (hct : P.cellsOf t = n)
    (h : DataW.trod enc P w base sp held fuel t cs = some (.agg (ss.map fun s => .lit (.string s)), p)) : cs = ss.map fun s => Value.string ⟨s.toArray⟩ := by
  obtain ⟨xs, m, hm, hx, hl, hxl, hi⟩ := DataW.trod_array ht h
  rw [hct] at hl
  rw [hce] at hi
  have hxs : xs.map (·.1) = ss.map fun s => (DataW.lit (.string s) : DataW H) := by
    have := congrArg Prod.fst hx
    simpa using this.symm
  have hsl : ss.length = n := by
    have := congrArg List.length hxs
    simp at this; omega
  apply List.ext_getElem?
  intro i
  by_cases hin : i < n
  · have h1 := hi i hin
    rw [Nat.mul_one, List.getElem?_eq_getElem (by omega : i < xs.length)] at h1
    obtain ⟨s, hc, hy, _⟩ := DataW.trod_string he h1
    have h2 : cs[i]? = some (.string s) := by
      have := congrArg (·[0]?) hc
      simpa [List.getElem?_take, List.getElem?_drop] using this
    have h3 : (xs.map (·.1))[i]? = some (DataW.lit (.string s.data.toList) : DataW H) := by simp [List.getElem?_eq_getElem (by omega : i < xs.length), hy]
    rw [hxs] at h3
    simp only [List.getElem?_map, Option.map_eq_some_iff, DataW.lit.injEq, Lit.string.injEq] at h3
    obtain ⟨z, hz, hz'⟩ := h3
    rw [h2, List.getElem?_map, hz, hz']
    simp
  · rw [List.getElem?_eq_none (by omega), List.getElem?_eq_none (by simp; omega)]
/-- Types whose cells are all integers of Go's type int. -/
def flatI (P : Program) : Nat → TypeId → Bool
  | 0, _ => false
  | d + 1, t => match P.underlying t with
    | some (.int .i64) => true
    | some (.struct fs) => fs.toList.all fun f => flatI P d f.type
    | some (.array _ e) => flatI P d e
    | _ => false
theorem sum_split : ∀ (l : List Nat) (p : Nat), p < l.sum → ∃ j, ∃ h : j < l.length, (l.take j).sum ≤ p ∧ p < (l.take j).sum + l[j] := by
  intro l
  induction l with
  | nil => intro p h; simp at h
  | cons a l ih =>
    intro p h
    by_cases ha : p < a
    · exact ⟨0, by simp, by simp, by simpa using ha⟩
    · simp only [List.sum_cons] at h
      obtain ⟨j, hj, h1, h2⟩ := ih (p - a) (by omega)
      exact ⟨j + 1, by simpa using hj, by simp; omega, by simp; omega⟩
theorem flat_ints {w : World} {base : Nat} {sp : Nat → Bool} {held : Bool} {T : TypeId → Prop} (K : Kids P T) (hone : ∀ t, T t → P.underlying t = some (.int .i64) → P.cellsOf t = 1) :
    ∀ (d fuel : Nat) (t : TypeId) (cs : List Value) (x : DataW H × List MemPlace), T t → flatI P d t = true → DataW.trod enc P w base sp held fuel t cs = some x →
      cs.length = P.cellsOf t ∧ ∀ p, p < cs.length → ∃ n, cs[p]? = some (.int .i64 n) ∧ (Lit.int .i64 n).wf = true := by
  intro d
  induction d with
  | zero => intro fuel t cs x _ h; simp [flatI] at h
  | succ d ih =>
    intro fuel t cs x hT hf h
    unfold flatI at hf
    cases hu : P.underlying t with
    | none => simp [hu] at hf
    | some u =>
      cases u <;> simp only [hu] at hf <;> try (cases hf; done)
      case int k =>
        cases k <;> simp at hf
        obtain ⟨n, rfl, _, hw⟩ := DataW.trod_int hu h
        refine ⟨by rw [hone t hT hu]; rfl, fun p hp => ?_⟩
        obtain rfl : p = 0 := by simpa using hp
        exact ⟨n, rfl, hw⟩
      case struct fs =>
        obtain ⟨hTf, hsum, hoff⟩ := K.struct hT hu
        obtain ⟨xs, m, hm, hx, hl, hxl, hi⟩ := DataW.trod_struct hu h
        refine ⟨hl, fun p hp => ?_⟩
        rw [hl, hsum] at hp
        obtain ⟨j, hj, h1, h2⟩ := sum_split _ p hp
        simp only [List.length_map] at hj
        have hfj : fs.toList[j]? = some fs.toList[j] := List.getElem?_eq_getElem hj
        have ho := hoff j _ hfj
        have hjs : j < fs.size := by simpa using hj
        have hfa : fs[j]? = some fs.toList[j] := by rw [Array.getElem?_eq_getElem hjs]; simp
        have ht := hi j _ hfa
        rw [List.getElem?_eq_getElem (by omega : j < xs.length)] at ht
        have hmem : fs.toList[j] ∈ fs.toList := List.getElem_mem hj
        obtain ⟨hlen, hall⟩ := ih m _ _ _ (hTf _ hmem) (List.all_eq_true.1 hf _ hmem) ht
        rw [List.map_take.symm, ← ho] at h1 h2
        simp only [List.getElem_map] at h2
        obtain ⟨n, hn, hw⟩ := hall (p - (fs.toList[j]).offset) (by rw [hlen]; omega)
        refine ⟨n, ?_, hw⟩
        rw [List.getElem?_take_of_lt (by omega), List.getElem?_drop] at hn
        rw [← hn]; congr 1; omega
      case array k e =>
        obtain ⟨hTe, hc⟩ := K.array hT hu
        obtain ⟨xs, m, hm, hx, hl, hxl, hi⟩ := DataW.trod_array hu h
        refine ⟨hl, fun p hp => ?_⟩
        rw [hl, hc] at hp
        have hpos : 0 < P.cellsOf e := Nat.pos_of_ne_zero (fun h0 => by rw [h0] at hp; simp at hp)
        have hd : p / P.cellsOf e < k := (Nat.div_lt_iff_lt_mul hpos).2 hp
        have ht := hi _ hd
        rw [List.getElem?_eq_getElem (by omega : p / P.cellsOf e < xs.length)] at ht
        obtain ⟨hlen, hall⟩ := ih m _ _ _ hTe hf ht
        have hmod := Nat.mod_lt p hpos
        have hdm := Nat.div_add_mod p (P.cellsOf e)
        obtain ⟨n, hn, hw⟩ := hall (p % P.cellsOf e) (by rw [hlen]; exact hmod)
        refine ⟨n, ?_, hw⟩
        rw [List.getElem?_take_of_lt hmod, List.getElem?_drop] at hn
        rw [← hn]; congr 1; rw [Nat.mul_comm]; omega
end
end Go.Proofs.YtfdlifhkeicnnaaGreatDoor
/- The variables that a row lists, one after the other: tables of numbers, tables of strings. -/
namespace Go.Proofs.YtfdlifhkeicnnaaGreatDoor
open Go Go.ChangeShapes Go.WideShapes Go.ChangeAt Go.RowKit
set_option linter.unusedVariables false
section
variable {P : Program} {W : World} {name : String} {rest : List (String × DataW Unit)} {g : Nat} {t e : TypeId} {n : Nat} {ps : List MemPlace}
theorem laid_tab {k : IntKind} {zs : List Int} (hg : P.globalNamed name = some g) (hty : (P.globals[g]?).map (·.type) = some t) (ht : P.underlying t = some (.array n e)) (he : P.underlying e = some (.int k)) (hce : P.cellsOf e = 1) (hct : P.cellsOf t = n)
    (h : DataW.LaidVars P W ((name, Lib.tabData k zs) :: rest) ps) : Lib.TabIs P W name k zs ∧ ∃ qs, DataW.LaidVars P W rest qs := by
  obtain ⟨g', t', cs, fuel, p, q, hg', ht', hvar, hd, hr, _⟩ := h
  obtain rfl := Option.some.inj (hg.symm.trans hg')
  obtain rfl := Option.some.inj (hty.symm.trans ht')
  refine ⟨?_, q, hr⟩
  unfold Lib.TabIs
  rw [hvar, ← Lib.cells_of_tab ht he hce hct hd]
theorem laid_strs {ss : List (List UInt8)} (hg : P.globalNamed name = some g) (hty : (P.globals[g]?).map (·.type) = some t) (ht : P.underlying t = some (.array n e)) (he : P.underlying e = some .string) (hce : P.cellsOf e = 1) (hct : P.cellsOf t = n)
    (h : DataW.LaidVars P W ((name, .agg (ss.map fun s => .lit (.string s))) :: rest) ps) : (∀ k : Nat, W.cell? ⟨g, k, none⟩ = (ss.map fun s => Value.string ⟨s.toArray⟩)[k]?) ∧ ∃ qs, DataW.LaidVars P W rest qs := by
  obtain ⟨g', t', cs, fuel, p, q, hg', ht', hvar, hd, hr, _⟩ := h
  obtain rfl := Option.some.inj (hg.symm.trans hg')
  obtain rfl := Option.some.inj (hty.symm.trans ht')
  refine ⟨fun k => ?_, q, hr⟩
  have hs := cells_of_strs ht he hce hct hd
  rw [World.var?_cell hg hvar k, ← hs]; simp
theorem laid_skip {d : DataW Unit} (h : DataW.LaidVars P W ((name, d) :: rest) ps) : ∃ qs, DataW.LaidVars P W rest qs := by
  obtain ⟨g', t', cs, fuel, p, q, hg', ht', hvar, hd, hr, _⟩ := h
  exact ⟨q, hr⟩
theorem laid_iface {nm : String} {d : DataW Unit} {ms : Array (String × TypeId)} (hg : P.globalNamed name = some g) (hty : (P.globals[g]?).map (·.type) = some t) (ht : P.underlying t = some (.interface ms))
    (h : DataW.LaidVars P W ((name, .iface nm d) :: rest) ps) : (∃ u v, W.var? P name = some #[.iface u v]) ∧ ∃ qs, DataW.LaidVars P W rest qs := by
  obtain ⟨g', t', cs, fuel, p, q, hg', ht', hvar, hd, hr, _⟩ := h
  obtain rfl := Option.some.inj (hg.symm.trans hg')
  obtain rfl := Option.some.inj (hty.symm.trans ht')
  obtain ⟨_, u, v, hc, _⟩ := iface_of_trod ht hd
  refine ⟨⟨u, v, ?_⟩, q, hr⟩
  rw [hvar]; congr 1
  rw [← Array.toArray_toList (xs := cs), hc]
end
end Go.Proofs.YtfdlifhkeicnnaaGreatDoor
/- A region whose order is drawn, walked once in an order of one's own choice: operations that leave the world alone come as early as they can; the others (calls, stores, new memory), whose order the edges fix, may hand back whatever they like. -/
namespace Go.Proofs.YtfdlifhkeicnnaaGreatDoor
open Go Go.RowKit
set_option linter.unusedVariables false
set_option linter.unusedSimpArgs false

section
variable {P : Program} {ops : Array Oper} {md : Region.Mode}
/-- An operation that leaves the world alone and yields v. -/
def floatAt (P : Program) (o : Oper) (a : Act) (w : World) (v : Value) : Prop :=
  match (execOp a.eval o).run P w with
  | .ok (.value u) w' => w' = w ∧ u = v
  | .ok .skip w' => w' = w ∧ v = undef
  | _ => False
/-- Any operation: what it yields, and the world behind it; where it panics. -/
def anchAt (P : Program) (o : Oper) (a : Act) (w : World) (K : Value → World → Prop) (Qp : List PanicEntry → World → Prop) : Prop :=
  match (execOp a.eval o).run P w with
  | .ok (.value u) w' => K u w'
  | .ok .skip w' => K undef w'
  | .ok (.enter f args) w' => Calls P f args w' fun
      | .returned v, w'' => K v w''
      | .panicked ch, w'' => Qp ch w''
      | .outgrown, _ => False
  | .halt (.panic v) w' => Qp [{ v, recovered := false }] w'
  | _ => False
theorem anchAt_mono {o : Oper} {a : Act} {w : World} {K K' : Value → World → Prop} {Qp : List PanicEntry → World → Prop} (h : ∀ v w, K v w → K' v w) (hh : anchAt P o a w K Qp) : anchAt P o a w K' Qp := by
  unfold anchAt at *
  generalize (execOp a.eval o).run P w = r at *
  cases r with
  | ok n w' =>
    cases n <;> simp only at hh ⊢
    case value u => exact h _ _ hh
    case skip => exact h _ _ hh
    case enter f args => exact hh.mono fun e w'' he => by cases e <;> first | exact h _ _ he | exact he
    all_goals exact hh.elim
  | halt x w' => cases x <;> simp only at hh ⊢ <;> first | exact hh | exact hh.elim

/-- The walk in the order chosen: S what is known of the world, Wk what is known of every world in which an operation that floats may run. -/
def cw (P : Program) (ops : Array Oper) (fl br pu : Nat → Bool) (Q : Act → World → Prop) (Qp : List PanicEntry → World → Prop) : List Nat → Act → (World → Prop) → (World → Prop) → Prop
  | [], a, S, _ => ∀ w, S w → Q a w
  | i :: rest, a, S, Wk => ∃ o, ops[i]? = some o ∧
      ((Region.wanted o (yielded ops a.tmps) = true ∧ fl i = true ∧ ∃ v, (∀ w, pu i = true ∨ Wk w → floatAt P o a w v) ∧ cw P ops fl br pu Q Qp rest (a.put o.dst v) S Wk) ∨
       (Region.wanted o (yielded ops a.tmps) = true ∧ fl i = false ∧ ∀ w, S w → anchAt P o a w (fun v w' => ∃ S' Wk' : World → Prop, S' w' ∧ (∀ u, S' u → Wk' u) ∧ (br i = true ∨ ∀ u, Wk' u → Wk u) ∧ cw P ops fl br pu Q Qp rest (a.put o.dst v) S' Wk') Qp) ∨
       (Region.wanted o (yielded ops a.tmps) = false ∧ cw P ops fl br pu Q Qp rest (a.put o.dst undef) S Wk))

/-- Of what follows i: it waits for i, or i floats and the two are apart. -/
def okFrom (md : Region.Mode) (ops : Array Oper) (fl br pu : Nat → Bool) (i : Nat) : List Nat → List Nat → Bool
  | _, [] => true
  | D, j :: r =>
    match ops[i]?, ops[j]? with
    | some oi, some oj =>
      if oj.after.any (fun e => Region.binds md e && D.contains e.on) then okFrom md ops fl br pu i (j :: D) r
      else (fl i && (!br j || pu i) && oi.apart ops oj) && okFrom md ops fl br pu i D r
    | _, _ => false
def okAll (md : Region.Mode) (ops : Array Oper) (fl br pu : Nat → Bool) : List Nat → Bool
  | [] => true
  | i :: r =>
    (match ops[i]? with | some o => o.after.all (fun e => !Region.binds md e || (decide (e.on < ops.size) && !(i :: r).contains e.on)) | none => false) &&
    !r.contains i && okFrom md ops fl br pu i [i] r && okAll md ops fl br pu r

theorem okFrom_drop {fl br pu : Nat → Bool} {i k : Nat} {oi ok : Oper} (hi : ops[i]? = some oi) (hk : ops[k]? = some ok) {rest : List Nat} (hr : ∀ e ∈ ok.after, Region.binds md e = true → e.on ∉ rest) :
    ∀ (pre post D : List Nat), (∀ d ∈ D, d ∈ rest) → (∀ j ∈ pre, j ∈ rest) → okFrom md ops fl br pu i D (pre ++ k :: post) = true →
    (fl i = true ∧ (br k = false ∨ pu i = true)) ∧ oi.apart ops ok = true ∧ okFrom md ops fl br pu i D (pre ++ post) = true := by
  intro pre
  induction pre with
  | nil =>
    intro post D hD _ h
    simp only [List.nil_append, okFrom, hi, hk] at h ⊢
    have : ok.after.any (fun e => Region.binds md e && D.contains e.on) = false := by
      rw [Bool.eq_false_iff]
      intro ha
      obtain ⟨e, he, hb⟩ := Array.any_eq_true'.1 ha
      simp only [Bool.and_eq_true, List.contains_iff_mem] at hb
      exact hr e he hb.1 (hD _ hb.2)
    rw [if_neg (by rw [this]; simp)] at h
    simp only [Bool.and_eq_true, Bool.or_eq_true, Bool.not_eq_true'] at h
    exact ⟨h.1.1, h.1.2, h.2⟩
  | cons j pre ih =>
    intro post D hD hp h
    simp only [List.cons_append, okFrom, hi] at h ⊢
    cases hj : ops[j]? with
    | none => simp [hj] at h
    | some oj =>
      simp only [hj] at h ⊢
      split at h
      · rename_i ha
        rw [if_pos ha]
        exact ih post (j :: D) (fun d hd => by rcases List.mem_cons.1 hd with rfl | hd; exact hp _ (by simp); exact hD _ hd) (fun x hx => hp x (List.mem_cons_of_mem _ hx)) h
      · rename_i ha
        rw [if_neg ha]
        simp only [Bool.and_eq_true] at h ⊢
        obtain ⟨h1, h2, h3⟩ := ih post D hD (fun x hx => hp x (List.mem_cons_of_mem _ hx)) h.2
        exact ⟨h1, h2, h.1, h3⟩

theorem okAll_drop {fl br pu : Nat → Bool} {k : Nat} {ok : Oper} (hk : ops[k]? = some ok) : ∀ (pre post rest : List Nat), (∀ e ∈ ok.after, Region.binds md e = true → e.on ∉ rest) → (∀ j ∈ pre ++ k :: post, j ∈ rest) → okAll md ops fl br pu (pre ++ k :: post) = true →
    (∀ i ∈ pre, ∃ oi, ops[i]? = some oi ∧ (fl i = true ∧ (br k = false ∨ pu i = true)) ∧ oi.apart ops ok = true) ∧ okAll md ops fl br pu (pre ++ post) = true ∧ k ∉ pre ++ post := by
  intro pre
  induction pre with
  | nil =>
    intro post rest hr hm h
    simp only [List.nil_append, okAll, Bool.and_eq_true, Bool.not_eq_true', ← Bool.not_eq_true, List.contains_iff_mem] at h ⊢
    exact ⟨fun i hi => (by cases hi), h.2, h.1.1.2⟩
  | cons i pre ih =>
    intro post rest hr hm h
    simp only [List.cons_append, okAll, Bool.and_eq_true, Bool.not_eq_true', ← Bool.not_eq_true, List.contains_iff_mem] at h ⊢
    obtain ⟨⟨⟨h1, h2⟩, h3⟩, h4⟩ := h
    obtain ⟨a1, a2, a3⟩ := ih post rest hr (fun j hj => hm j (by simp only [List.cons_append]; exact List.mem_cons_of_mem _ hj)) h4
    cases hi : ops[i]? with
    | none => simp [hi] at h1
    | some oi =>
      obtain ⟨b1, b2, b3⟩ := okFrom_drop hi hk hr pre post [i] (fun d hd => by simp at hd; subst hd; exact hm _ (by simp)) (fun j hj => hm j (by simp [hj])) h3
      refine ⟨fun x hx => ?_, ⟨⟨⟨?_, ?_⟩, b3⟩, a2⟩, ?_⟩
      · rcases List.mem_cons.1 hx with rfl | hx
        · exact ⟨oi, hi, ⟨b1.1, b1.2.imp (fun e => by simp [e]) id⟩, b2⟩
        · obtain ⟨ox, y1, ⟨y2, y3⟩, y4⟩ := a1 x hx
          exact ⟨ox, y1, ⟨y2, y3.imp (fun e => by simp [e]) id⟩, y4⟩
      · simp only [hi, Array.all_eq_true_iff_forall_mem] at h1 ⊢
        intro e he
        have := h1 e he
        simp only [Bool.or_eq_true, Bool.and_eq_true, Bool.not_eq_true', decide_eq_true_eq, ← Bool.not_eq_true, List.contains_iff_mem] at this ⊢
        rcases this with h | ⟨h, hn⟩
        · exact .inl h
        · refine .inr ⟨h, fun hmem => hn ?_⟩
          simp only [List.mem_cons, List.mem_append] at hmem ⊢
          rcases hmem with h | h | h <;> simp [h]
      · intro hmem
        apply h2
        simp only [List.mem_append, List.mem_cons] at hmem ⊢
        rcases hmem with h | h <;> simp [h]
      · intro hmem
        simp only [List.mem_cons] at hmem
        rcases hmem with rfl | hmem
        · exact h2 (by simp)
        · exact a3 hmem

theorem floatAt_put {o : Oper} {a : Act} {dst : Option Tmp} {u v : Value} {w : World} (hs : ∀ cs b, o.op ≠ .select cs b) (h : ∀ d, dst = some d → d ∉ o.looksAt ops) : floatAt P o (a.put dst u) w v ↔ floatAt P o a w v := by
  unfold floatAt; rw [execOp_put o hs a dst u h]
theorem anchAt_put {o : Oper} {a : Act} {dst : Option Tmp} {u : Value} {w : World} {K : Value → World → Prop} {Qp : List PanicEntry → World → Prop} (hs : ∀ cs b, o.op ≠ .select cs b) (h : ∀ d, dst = some d → d ∉ o.looksAt ops) : anchAt P o (a.put dst u) w K Qp ↔ anchAt P o a w K Qp := by
  unfold anchAt; rw [execOp_put o hs a dst u h]

/-- Operation k, taken ahead of those that float before it. -/
def First (P : Program) (ops : Array Oper) (fl br pu : Nat → Bool) (Q : Act → World → Prop) (Qp : List PanicEntry → World → Prop) (k : Nat) (o : Oper) (rest : List Nat) (a : Act) (S Wk : World → Prop) : Prop :=
  (Region.wanted o (yielded ops a.tmps) = true ∧ fl k = true ∧ ∃ v, (∀ w, pu k = true ∨ Wk w → floatAt P o a w v) ∧ cw P ops fl br pu Q Qp rest (a.put o.dst v) S Wk) ∨
  (Region.wanted o (yielded ops a.tmps) = true ∧ fl k = false ∧ ∀ w, S w → anchAt P o a w (fun v w' => ∃ S' Wk' : World → Prop, S' w' ∧ (∀ u, S' u → Wk' u) ∧ (br k = true ∨ ∀ u, Wk' u → Wk u) ∧ cw P ops fl br pu Q Qp rest (a.put o.dst v) S' Wk') Qp) ∨
  (Region.wanted o (yielded ops a.tmps) = false ∧ cw P ops fl br pu Q Qp rest (a.put o.dst undef) S Wk)

theorem cw_first {fl br pu : Nat → Bool} {Q : Act → World → Prop} {Qp : List PanicEntry → World → Prop} (hsel : ∀ (j : Nat) (o : Oper) cs b, ops[j]? = some o → o.op ≠ .select cs b) {k : Nat} {o : Oper} (hk : ops[k]? = some o) (post : List Nat) :
    ∀ (pre : List Nat) (a : Act) (S Wk : World → Prop), (∀ i ∈ pre, ∃ oi, ops[i]? = some oi ∧ (fl i = true ∧ (br k = false ∨ pu i = true)) ∧ oi.apart ops o = true) → cw P ops fl br pu Q Qp (pre ++ k :: post) a S Wk → First P ops fl br pu Q Qp k o (pre ++ post) a S Wk := by
  intro pre
  induction pre with
  | nil =>
    intro a S Wk _ h
    obtain ⟨o', ho', h⟩ := h
    obtain rfl : o' = o := Option.some.inj (ho'.symm.trans hk)
    exact h
  | cons i pre ih =>
    intro a S Wk hp h
    obtain ⟨oi, hoi, ⟨hfl, hbr⟩, hap⟩ := hp i (by simp)
    obtain ⟨h1, h2, h3⟩ := Oper.apart_spec hap
    have hsk : ∀ cs b, o.op ≠ .select cs b := fun cs b => hsel k o cs b hk
    have hsi : ∀ cs b, oi.op ≠ .select cs b := fun cs b => hsel i oi cs b hoi
    have hp' : ∀ x ∈ pre, ∃ oi, ops[x]? = some oi ∧ (fl x = true ∧ (br k = false ∨ pu x = true)) ∧ oi.apart ops o = true := fun x hx => hp x (List.mem_cons_of_mem _ hx)
    obtain ⟨oi', hoi', h⟩ := h
    obtain rfl : oi' = oi := Option.some.inj (hoi'.symm.trans hoi)
    rcases h with ⟨hw, _, u, hu, hn⟩ | ⟨_, hf, _⟩ | ⟨hw, hn⟩
    · have F := ih _ _ _ hp' hn
      rcases F with ⟨kw, kf, v, hv, kn⟩ | ⟨kw, kf, kn⟩ | ⟨kw, kn⟩
      · refine .inl ⟨by rwa [wanted_put o a oi'.dst u h1] at kw, kf, v, fun w hw' => (floatAt_put hsk h1).1 (hv w hw'), ?_⟩
        exact ⟨oi', hoi, .inl ⟨by rwa [wanted_put oi' a o.dst v h3], hfl, u, fun w hw' => (floatAt_put hsi h3).2 (hu w hw'), by rw [← Act.put_comm a u v h2]; exact kn⟩⟩
      · refine .inr (.inl ⟨by rwa [wanted_put o a oi'.dst u h1] at kw, kf, fun w hw' => ?_⟩)
        refine anchAt_mono (fun v w1 hx => ?_) ((anchAt_put hsk h1).1 (kn w hw'))
        obtain ⟨S', Wk', s1, s2, s3, s4⟩ := hx
        have s3' : ∀ u, pu i = true ∨ Wk' u → pu i = true ∨ Wk u := fun u hu => by
          rcases hbr with hbr | hpu
          · rcases s3 with e | e
            · rw [hbr] at e; cases e
            · exact hu.imp id (e u)
          · exact .inl hpu
        exact ⟨S', Wk', s1, s2, s3, oi', hoi, .inl ⟨by rwa [wanted_put oi' a o.dst v h3], hfl, u, fun w hw' => (floatAt_put hsi h3).2 (hu w (s3' w hw')), by rw [← Act.put_comm a u v h2]; exact s4⟩⟩
      · refine .inr (.inr ⟨by rwa [wanted_put o a oi'.dst u h1] at kw, ?_⟩)
        exact ⟨oi', hoi, .inl ⟨by rwa [wanted_put oi' a o.dst undef h3], hfl, u, fun w hw' => (floatAt_put hsi h3).2 (hu w hw'), by rw [← Act.put_comm a u undef h2]; exact kn⟩⟩
    · rw [hfl] at hf; cases hf
    · have F := ih _ _ _ hp' hn
      rcases F with ⟨kw, kf, v, hv, kn⟩ | ⟨kw, kf, kn⟩ | ⟨kw, kn⟩
      · refine .inl ⟨by rwa [wanted_put o a oi'.dst undef h1] at kw, kf, v, fun w hw' => (floatAt_put hsk h1).1 (hv w hw'), ?_⟩
        exact ⟨oi', hoi, .inr (.inr ⟨by rwa [wanted_put oi' a o.dst v h3], by rw [← Act.put_comm a undef v h2]; exact kn⟩)⟩
      · refine .inr (.inl ⟨by rwa [wanted_put o a oi'.dst undef h1] at kw, kf, fun w hw' => ?_⟩)
        refine anchAt_mono (fun v w1 hx => ?_) ((anchAt_put hsk h1).1 (kn w hw'))
        obtain ⟨S', Wk', s1, s2, s3, s4⟩ := hx
        exact ⟨S', Wk', s1, s2, s3, oi', hoi, .inr (.inr ⟨by rwa [wanted_put oi' a o.dst v h3], by rw [← Act.put_comm a undef v h2]; exact s4⟩)⟩
      · refine .inr (.inr ⟨by rwa [wanted_put o a oi'.dst undef h1] at kw, ?_⟩)
        exact ⟨oi', hoi, .inr (.inr ⟨by rwa [wanted_put oi' a o.dst undef h3], by rw [← Act.put_comm a undef undef h2]; exact kn⟩)⟩

theorem put_defers (a : Act) (d : Option Tmp) (v : Value) : (a.put d v).defers = a.defers := by cases d <;> rfl

theorem wpAny_of_cw {fl br pu : Nat → Bool} {Qp : List PanicEntry → World → Prop} {Q : Exit → Act → World → Prop} {ds : List Deferred} (hsel : ∀ (j : Nat) (o : Oper) cs b, ops[j]? = some o → o.op ≠ .select cs b)
    (hQp : ∀ ch a w, a.defers = ds → Qp ch w → Q (.panic ch) a w) :
    ∀ (f : Nat) (rest : List Nat) (listed : Array Bool) (a : Act) (w : World) (S Wk : World → Prop), rest.length = f → listed.size = ops.size → (∀ j, j < ops.size → (listed.getD j false = true ↔ j ∉ rest)) → (∀ j ∈ rest, j < ops.size) →
      okAll md ops fl br pu rest = true → a.defers = ds → S w → (∀ u, S u → Wk u) → cw P ops fl br pu (Q .normal) Qp rest a S Wk → wpAny P md ops Q f listed a w := by
  intro f
  induction f with
  | zero =>
    intro rest listed a w S Wk hlen hsz hl hlt hok hd hS hSW h
    obtain rfl : rest = [] := List.length_eq_zero_iff.1 hlen
    refine ⟨?_, h w hS⟩
    apply List.eq_nil_iff_forall_not_mem.2
    intro j hj
    obtain ⟨h0, o, ho, _⟩ := mem_ready.1 hj
    have hlj := (Array.getElem?_eq_some_iff.1 ho).1
    have := (hl j hlj).2 (by simp)
    rw [getD_both h0] at this; cases this
  | succ f ih =>
    intro rest listed a w S Wk hlen hsz hl hlt hok hd hS hSW h
    refine ⟨fun h0 => ?_, fun k hk => ?_⟩
    · exfalso
      cases rest with
      | nil => simp at hlen
      | cons i r =>
        simp only [okAll, Bool.and_eq_true] at hok
        have hi := hlt i (by simp)
        have hoi : ops[i]? = some ops[i] := Array.getElem?_eq_getElem hi
        have hready : i ∈ Region.ready md ops listed := by
          refine mem_ready.2 ⟨?_, ops[i], hoi, fun e he hb => ?_⟩
          · have : listed.getD i false = false := by
              rw [Bool.eq_false_iff]; intro ht; exact (hl i hi).1 ht (by simp)
            have hs : i < listed.size := by rw [hsz]; exact hi
            simpa [Array.getD, hs] using this
          · have h1 := hok.1.1.1
            simp only [hoi, Array.all_eq_true_iff_forall_mem] at h1
            have := h1 e he
            simp only [hb, Bool.not_true, Bool.false_or, Bool.and_eq_true, decide_eq_true_eq, Bool.not_eq_true', ← Bool.not_eq_true, List.contains_iff_mem] at this
            exact (hl e.on this.1).2 this.2
        rw [h0] at hready; cases hready
    · obtain ⟨hun, o, ho, hall⟩ := mem_ready.1 hk
      have hlt_k := (Array.getElem?_eq_some_iff.1 ho).1
      have hmem : k ∈ rest := by
        apply Classical.byContradiction
        intro hn
        have := (hl k hlt_k).2 hn
        rw [getD_both hun] at this; cases this
      obtain ⟨pre, post, rfl⟩ := List.append_of_mem hmem
      have hr : ∀ e ∈ o.after, Region.binds md e = true → e.on ∉ pre ++ k :: post := fun e he hb hm => by
        have h1 := hall e he hb
        exact (hl e.on (hlt _ hm)).1 h1 hm
      obtain ⟨a1, a2, a3⟩ := okAll_drop ho pre post _ hr (fun j hj => hj) hok
      have F := cw_first hsel ho post pre a S Wk a1 h
      have hlen' : (pre ++ post).length = f := by simp at hlen ⊢; omega
      have hsz' : (listed.setIfInBounds k true).size = ops.size := by simp [hsz]
      have hl' : ∀ j, j < ops.size → ((listed.setIfInBounds k true).getD j false = true ↔ j ∉ pre ++ post) := fun j hj => by
        by_cases hjk : k = j
        · subst hjk
          have hs : k < listed.size := by rw [hsz]; exact hj
          simp only [a3, not_false_eq_true, iff_true]
          simp [hs]
        · rw [getD_set_ne false hjk, hl j hj]
          simp only [List.mem_append, List.mem_cons, not_or]
          constructor
          · rintro ⟨h1, _, h3⟩; exact ⟨h1, h3⟩
          · rintro ⟨h1, h3⟩; exact ⟨h1, fun e => hjk e.symm, h3⟩
      have hlt' : ∀ j ∈ pre ++ post, j < ops.size := fun j hj => hlt j (by simp only [List.mem_append, List.mem_cons] at hj ⊢; rcases hj with h | h <;> simp [h])
      unfold wpOp
      simp only [ho]
      rcases F with ⟨kw, kf, v, hv, kn⟩ | ⟨kw, kf, kn⟩ | ⟨kw, kn⟩
      · rw [if_pos kw]
        left
        have h3 := hv w (.inr (hSW w hS))
        unfold floatAt at h3
        unfold Oper.wp
        generalize (execOp a.eval o).run P w = r at *
        cases r with
        | ok n w' =>
          cases n <;> simp only at h3 <;> simp only [Oper.upon]
          case value u =>
            obtain ⟨e1, e2⟩ := h3
            subst e1; subst e2
            exact ih _ _ _ _ _ _ hlen' hsz' hl' hlt' a2 (by rw [put_defers]; exact hd) hS hSW kn
          case skip =>
            obtain ⟨e1, e2⟩ := h3
            subst e1; subst e2
            exact ih _ _ _ _ _ _ hlen' hsz' hl' hlt' a2 (by rw [put_defers]; exact hd) hS hSW kn
        | halt x w' => simp only at h3
      · rw [if_pos kw]
        left
        have h3 := kn w hS
        unfold anchAt at h3
        unfold Oper.wp
        generalize (execOp a.eval o).run P w = r at *
        cases r with
        | ok n w' =>
          cases n <;> simp only at h3 <;> simp only [Oper.upon]
          case value u =>
            obtain ⟨S', Wk', s1, s2, s3, s4⟩ := h3
            exact ih _ _ _ _ _ _ hlen' hsz' hl' hlt' a2 (by rw [put_defers]; exact hd) s1 s2 s4
          case skip =>
            obtain ⟨S', Wk', s1, s2, s3, s4⟩ := h3
            exact ih _ _ _ _ _ _ hlen' hsz' hl' hlt' a2 (by rw [put_defers]; exact hd) s1 s2 s4
          case enter f' args =>
            refine h3.mono fun e w'' he => ?_
            cases e with
            | returned v =>
              obtain ⟨S', Wk', s1, s2, s3, s4⟩ := he
              exact ih _ _ _ _ _ _ hlen' hsz' hl' hlt' a2 (by rw [put_defers]; exact hd) s1 s2 s4
            | panicked ch => exact hQp _ _ _ hd he
            | outgrown => exact he.elim
        | halt x w' =>
          cases x <;> simp only at h3 <;> simp only [Oper.upon]
          exact hQp _ _ _ hd h3
      · rw [if_neg (by rw [kw]; simp)]
        exact ih _ _ _ _ _ _ hlen' hsz' hl' hlt' a2 (by rw [put_defers]; exact hd) hS hSW kn

def permB (n : Nat) (l : List Nat) : Bool := decide (l.length = n) && l.all (fun j => decide (j < n)) && (List.range n).all (fun j => l.contains j)
theorem wp_region_cw {id : Nat} {Q : Exit → Act → World → Prop} {a : Act} {w : World} {l : List Oper} (order fls brs pus : List Nat) (Qp : List PanicEntry → World → Prop) (hm : P.follows .mixedOrders = true)
    (hB : (Region.noSelect l.toArray && permB l.length order && okAll .any l.toArray (fun i => fls.contains i) (fun i => brs.contains i) (fun i => pus.contains i) order) = true)
    (hQp : ∀ ch a' w', a'.defers = a.defers → Qp ch w' → Q (.panic ch) a' w')
    (S Wk : World → Prop) (hS : S w.drew) (hSW : ∀ u, S u → Wk u) (h : cw P l.toArray (fun i => fls.contains i) (fun i => brs.contains i) (fun i => pus.contains i) (Q .normal) Qp order a S Wk) : (Code.region id l.toArray true).wp P Q a w := by
  simp only [Bool.and_eq_true] at hB
  obtain ⟨⟨hsel, hp⟩, hok⟩ := hB
  simp only [permB, Bool.and_eq_true, decide_eq_true_eq, List.all_eq_true, List.mem_range, List.contains_iff_mem] at hp
  obtain ⟨⟨hp1, hp2⟩, hp3⟩ := hp
  refine wp_region_any hm ?_
  refine wpAny_of_cw (md := .any) (Region.noSelect_spec hsel) hQp _ order _ a w.drew S Wk (by simpa using hp1) (by simp) (fun j hj => ?_) (fun j hj => by simpa using hp2 j hj) hok rfl hS hSW h
  have : j ∈ order := hp3 j (by simpa using hj)
  simp only [this, not_true, iff_false, Bool.not_eq_true]
  exact getD_replicate_false _ _
end
end Go.Proofs.YtfdlifhkeicnnaaGreatDoor
