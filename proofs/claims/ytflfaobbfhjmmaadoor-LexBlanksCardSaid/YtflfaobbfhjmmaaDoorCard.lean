/- From a law's contract ('it returns true, and what was in memory before is as it was') to its row and its card: arguments read again as they read before, whatever their types; a struct of integers opened cell by cell; a table of strings. -/
import Derived.Test.YtflfaobbfhjmmaaDoorCards
import Derived.Test.YtflfaobbfhjmmaaDoorTie
import Derived.WalkKit
import Derived.ProofKit
import Derived.OpenShut
import Derived.ReadAgain
import Derived.ChangeSame
import Derived.Deep.DeepHandedRow
import Derived.Lib.LaidTab
namespace Go.Proofs.YtflfaobbfhjmmaaDoor
open Go Go.ChangeShapes Go.WideShapes Go.ChangeAt Go.RowKit
set_option linter.unusedVariables false
set_option linter.unusedSimpArgs false

section
variable {H : Type} {enc : TypeId × Value → H} {P : Program}
theorem trodAll_carry {w w' : World} {base : Nat} {sp : Nat → Bool} {held : Bool} : ∀ {ts : List TypeId} {vs : List Value} {ds : List (DataW H)} {ps : List MemPlace},
    DataW.TrodAll enc P w base sp held ts vs ds ps → (∀ p ∈ ps, w.sameAt w' p) → DataW.TrodAll enc P w' base sp held ts vs ds ps
  | [], [], [], _, h, _ => h
  | _ :: _, _ :: _, _ :: _, _, ⟨p, q, ⟨n, h1⟩, h2, e⟩, hs =>
    ⟨p, q, ⟨n, DataW.trod_carry n _ _ _ h1 (fun x hx => hs x (by rw [e]; exact List.mem_append_left _ hx))⟩, trodAll_carry h2 (fun x hx => hs x (by rw [e]; exact List.mem_append_right _ hx)), e⟩
/-- What a law's row asks, out of its contract. -/
theorem law_post {f : Func} {s : ChangeSpec} {W W' : World} {args : Array Value} {ds gs : List (DataW H)} {before : List MemPlace} {tb : TypeId}
    (K : Kids P (· < P.types.size)) (hz : ∀ t e, t < P.types.size → P.underlying t = some (.slice e) → 0 < P.cellsOf e) (hpar : ∀ t ∈ f.params.toList, t < P.types.size)
    (hvars0 : s.vars = []) (hrt : f.resultTypes = #[tb]) (htb : P.underlying tb = some .bool)
    (hW : DataW.Whole enc P f.params.toList s.vars false W args.toList ds gs before)
    (hf1 : (s.fn H (ds ++ gs)).results = [.lit (.bool true)]) (hf2 : (s.fn H (ds ++ gs)).args = ds) (hf3 : (s.fn H (ds ++ gs)).vars = [])
    (hb : Below W.heap.size W W') : s.post enc P f false true false false W args (.bool true) W' := by
  have hlt : ∀ p ∈ before, p.block < W.heap.size := fun p hp => hW.lt p hp
  have hold : ∀ p ∈ before, (fun b => decide (b < W.heap.size)) p.block = true := fun p hp => by simpa using hlt p hp
  have hW' := hW
  obtain ⟨p, q, hA, hV, hbef, hfz, hnd⟩ := hW
  rw [hvars0] at hV
  obtain ⟨hg, hq⟩ := trodVars_none hV
  subst hg; subst hq
  simp only [List.append_nil] at hbef hf1 hf2 hf3 hW'
  subst hbef
  have hargs : ∀ sp : Nat → Bool, (∀ x ∈ before, sp x.block = true) → DataW.TrodAll enc P W' 0 sp true f.params.toList args.toList ds before := fun sp hsp =>
    trodAll_carry (DataW.TrodAll.respare K hz hpar hA hsp) (fun x hx => hb.same (hlt x hx))
  have hres : ∀ (b : Nat) (sp : Nat → Bool) (hd : Bool), DataW.TrodAll enc P W' b sp hd f.resultTypes.toList ((Value.bool true).resultList f.resultTypes.size) [.lit (.bool true)] [] := fun b sp hd => by
    rw [hrt]
    exact trodAll_cons_mk (shut_bool htb _) trodAll_mk0
  have hvv : ∀ sp : Nat → Bool, DataW.TrodVars enc P W' sp s.vars (s.fn H (ds ++ [])).vars [] := fun sp => by
    rw [hvars0, List.append_nil, hf3]
    rfl
  refine ⟨ds, [], before, [], before, [], by exact hW', ?_, ?_, hvv _, World.keptBut_mono (fun x hx => ⟨hx, Or.inr (Or.inl hx)⟩) (hb.frame (· ∈ before)), fun h => (by cases h)⟩
  · rw [List.append_nil, hf1]; exact hres _ _ _
  · rw [List.append_nil, hf2]; exact hargs _ hold
/-- A table of strings, cell for cell. -/
theorem cells_of_strs {w : World} {base : Nat} {sp : Nat → Bool} {held : Bool} {fuel : Nat} {t e : TypeId} {n : Nat} {cs : List Value} {ss : List (List UInt8)} {p : List MemPlace}
    (ht : P.underlying t = some (.array n e)) (he : P.underlying e = some .string) (hce : P.cellsOf e = 1) (hct : P.cellsOf t = n)
    (h : DataW.trod enc P w base sp held fuel t cs = some (.agg (ss.map fun s => .lit (.string s)), p)) : cs = ss.map fun s => Value.string ⟨s.toArray⟩ := by
  obtain ⟨xs, m, hm, hx, hl, hxl, hi⟩ := DataW.trod_array ht h
  rw [hct] at hl
  rw [hce] at hi
  have hxs : xs.map (·.1) = ss.map fun s => (DataW.lit (.string s) : DataW H) := by
    have := congrArg Prod.fst hx
    simpa using this.symm
  have hsl : ss.length = n := by
    have := congrArg List.length hxs
    simp at this; omega
  apply List.ext_getElem?
  intro i
  by_cases hin : i < n
  · have h1 := hi i hin
    rw [Nat.mul_one, List.getElem?_eq_getElem (by omega : i < xs.length)] at h1
    obtain ⟨s, hc, hy, _⟩ := DataW.trod_string he h1
    have h2 : cs[i]? = some (.string s) := by
      have := congrArg (·[0]?) hc
      simpa [List.getElem?_take, List.getElem?_drop] using this
    have h3 : (xs.map (·.1))[i]? = some (DataW.lit (.string s.data.toList) : DataW H) := by simp [List.getElem?_eq_getElem (by omega : i < xs.length), hy]
    rw [hxs] at h3
    simp only [List.getElem?_map, Option.map_eq_some_iff, DataW.lit.injEq, Lit.string.injEq] at h3
    obtain ⟨z, hz, hz'⟩ := h3
    rw [h2, List.getElem?_map, hz, hz']
    simp
  · rw [List.getElem?_eq_none (by omega), List.getElem?_eq_none (by simp; omega)]
/-- Types whose cells are all integers of Go's type int. -/
def flatI (P : Program) : Nat → TypeId → Bool
  | 0, _ => false
  | d + 1, t => match P.underlying t with
    | some (.int .i64) => true
    | some (.struct fs) => fs.toList.all fun f => flatI P d f.type
    | some (.array _ e) => flatI P d e
    | _ => false
theorem sum_split : ∀ (l : List Nat) (p : Nat), p < l.sum → ∃ j, ∃ h : j < l.length, (l.take j).sum ≤ p ∧ p < (l.take j).sum + l[j] := by
  intro l
  induction l with
  | nil => intro p h; simp at h
  | cons a l ih =>
    intro p h
    by_cases ha : p < a
    · exact ⟨0, by simp, by simp, by simpa using ha⟩
    · simp only [List.sum_cons] at h
      obtain ⟨j, hj, h1, h2⟩ := ih (p - a) (by omega)
      exact ⟨j + 1, by simpa using hj, by simp; omega, by simp; omega⟩
theorem flat_ints {w : World} {base : Nat} {sp : Nat → Bool} {held : Bool} {T : TypeId → Prop} (K : Kids P T) (hone : ∀ t, T t → P.underlying t = some (.int .i64) → P.cellsOf t = 1) :
    ∀ (d fuel : Nat) (t : TypeId) (cs : List Value) (x : DataW H × List MemPlace), T t → flatI P d t = true → DataW.trod enc P w base sp held fuel t cs = some x →
      cs.length = P.cellsOf t ∧ ∀ p, p < cs.length → ∃ n, cs[p]? = some (.int .i64 n) ∧ (Lit.int .i64 n).wf = true := by
  intro d
  induction d with
  | zero => intro fuel t cs x _ h; simp [flatI] at h
  | succ d ih =>
    intro fuel t cs x hT hf h
    unfold flatI at hf
    cases hu : P.underlying t with
    | none => simp [hu] at hf
    | some u =>
      cases u <;> simp only [hu] at hf <;> try (cases hf; done)
      case int k =>
        cases k <;> simp at hf
        obtain ⟨n, rfl, _, hw⟩ := DataW.trod_int hu h
        refine ⟨by rw [hone t hT hu]; rfl, fun p hp => ?_⟩
        obtain rfl : p = 0 := by simpa using hp
        exact ⟨n, rfl, hw⟩
      case struct fs =>
        obtain ⟨hTf, hsum, hoff⟩ := K.struct hT hu
        obtain ⟨xs, m, hm, hx, hl, hxl, hi⟩ := DataW.trod_struct hu h
        refine ⟨hl, fun p hp => ?_⟩
        rw [hl, hsum] at hp
        obtain ⟨j, hj, h1, h2⟩ := sum_split _ p hp
        simp only [List.length_map] at hj
        have hfj : fs.toList[j]? = some fs.toList[j] := List.getElem?_eq_getElem hj
        have ho := hoff j _ hfj
        have hjs : j < fs.size := by simpa using hj
        have hfa : fs[j]? = some fs.toList[j] := by rw [Array.getElem?_eq_getElem hjs]; simp
        have ht := hi j _ hfa
        rw [List.getElem?_eq_getElem (by omega : j < xs.length)] at ht
        have hmem : fs.toList[j] ∈ fs.toList := List.getElem_mem hj
        obtain ⟨hlen, hall⟩ := ih m _ _ _ (hTf _ hmem) (List.all_eq_true.1 hf _ hmem) ht
        rw [List.map_take.symm, ← ho] at h1 h2
        simp only [List.getElem_map] at h2
        obtain ⟨n, hn, hw⟩ := hall (p - (fs.toList[j]).offset) (by rw [hlen]; omega)
        refine ⟨n, ?_, hw⟩
        rw [List.getElem?_take_of_lt (by omega), List.getElem?_drop] at hn
        rw [← hn]; congr 1; omega
      case array k e =>
        obtain ⟨hTe, hc⟩ := K.array hT hu
        obtain ⟨xs, m, hm, hx, hl, hxl, hi⟩ := DataW.trod_array hu h
        refine ⟨hl, fun p hp => ?_⟩
        rw [hl, hc] at hp
        have hpos : 0 < P.cellsOf e := Nat.pos_of_ne_zero (fun h0 => by rw [h0] at hp; simp at hp)
        have hd : p / P.cellsOf e < k := (Nat.div_lt_iff_lt_mul hpos).2 hp
        have ht := hi _ hd
        rw [List.getElem?_eq_getElem (by omega : p / P.cellsOf e < xs.length)] at ht
        obtain ⟨hlen, hall⟩ := ih m _ _ _ hTe hf ht
        have hmod := Nat.mod_lt p hpos
        have hdm := Nat.div_add_mod p (P.cellsOf e)
        obtain ⟨n, hn, hw⟩ := hall (p % P.cellsOf e) (by rw [hlen]; exact hmod)
        refine ⟨n, ?_, hw⟩
        rw [List.getElem?_take_of_lt hmod, List.getElem?_drop] at hn
        rw [← hn]; congr 1; rw [Nat.mul_comm]; omega
end
end Go.Proofs.YtflfaobbfhjmmaaDoor
