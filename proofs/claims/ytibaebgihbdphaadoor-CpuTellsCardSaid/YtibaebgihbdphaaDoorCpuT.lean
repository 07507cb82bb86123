import Derived.Test.YtibaebgihbdphaaDoorCard
import Derived.Test.YtibaebgihbdphaaDoorCpuS
namespace Go.Proofs.YtibaebgihbdphaaDoor
open Go Go.ChangeShapes Go.WideShapes Go.ChangeAt Go.RowKit
theorem own : ownKnob Tryd.prog.godebug = none := by kernel_rfl
theorem kids : Kids Tryd.prog (· < Tryd.prog.types.size) := kids_rows (by kernel_rfl) (by kernel_rfl)
theorem slices : ∀ t e, t < Tryd.prog.types.size → Tryd.prog.underlying t = some (.slice e) → 0 < Tryd.prog.cellsOf e := slices_full_of _ (by kernel_rfl)
theorem ints_one : ∀ t, t < Tryd.prog.types.size → Tryd.prog.underlying t = some (.int .i64) → Tryd.prog.cellsOf t = 1 := by
  intro t ht hu
  have h : (List.range Tryd.prog.types.size).all (fun t => match Tryd.prog.underlying t with | some (.int .i64) => Tryd.prog.cellsOf t == 1 | _ => true) = true := by kernel_rfl
  have := List.all_eq_true.1 h t (List.mem_range.2 ht)
  simpa [hu] using this
theorem gForms : Tryd.prog.globalNamed "rehearsal/isa.forms" = some 1 := by kernel_rfl
theorem gFormsType : (Tryd.prog.globals[1]?).map (·.type) = some 53 := by kernel_rfl
theorem gOps : Tryd.prog.globalNamed "rehearsal/isa.operands" = some 0 := by kernel_rfl
theorem gOpsType : (Tryd.prog.globals[0]?).map (·.type) = some 52 := by kernel_rfl
theorem c32 : Tryd.prog.cellsOf 53 = 32 := by kernel_rfl
theorem c7 : Tryd.prog.cellsOf 52 = 7 := by kernel_rfl
theorem cInt : Tryd.prog.cellsOf 3 = 1 := by kernel_rfl
theorem cStr : Tryd.prog.cellsOf 9 = 1 := by kernel_rfl
def laidList : List (String × DataW Unit) := [("rehearsal/isa.forms", Rows.laid_rehearsal_isa_forms), ("rehearsal/isa.operands", Rows.laid_rehearsal_isa_operands)]
/-- What the row's list gives: the two tables. -/
theorem tables {W : World} (h : laidMetH Tryd.prog laidList W) : Tab W := by
  have h' : laidMet Tryd.prog laidList W := h
  have T1 : Lib.TabIs Tryd.prog W "rehearsal/isa.forms" .i64 formsL :=
    Lib.tabIs_of_head (rest := [("rehearsal/isa.operands", Rows.laid_rehearsal_isa_operands)]) gForms gFormsType Tryd.underlying53 Tryd.underlying3 cInt c32 h'
  obtain ⟨ps, ⟨g, t, cs, fuel, p, q, h1, h2, h3, h4, ⟨g', t', cs', fuel', p', q', k1, k2, k3, k4, _, _⟩, _⟩, _⟩ := h'
  obtain rfl := Option.some.inj (gOps.symm.trans k1)
  obtain rfl := Option.some.inj (gOpsType.symm.trans k2)
  have hs := cells_of_strs (ss := [[], [114], [114, 114], [114, 114, 114], [114, 114, 111], [114, 110], [110]]) Tryd.underlying52 Tryd.underlying9 cStr c7 k4
  have hc : ∀ k : Nat, W.cell? ⟨0, k, none⟩ = cs'.toList[k]? := fun k => by rw [World.var?_cell gOps k3 k]; simp
  have hfc : ∀ k : Nat, k < 32 → W.cell? ⟨1, k, none⟩ = some (.int .i64 (formsL.getD k 0)) := fun k hk => T1.cell gForms k hk
  refine ⟨?_, hfc, fun k hk => ?_⟩
  · have h0 := hfc 0 (by decide)
    simp only [World.cell?] at h0
    split at h0
    · rename_i he; have := lt_of_has he; omega
    · cases h0
  · rw [hc, hs]
    have : k = 0 ∨ k = 1 ∨ k = 2 ∨ k = 3 ∨ k = 4 ∨ k = 5 ∨ k = 6 := by omega
    rcases this with h | h | h | h | h | h | h <;> subst h <;> rfl
section
variable {H : Type} {enc : TypeId × Value → H}
/-- An argument of a struct of integers. -/
theorem open_flat {W : World} {base b0 : Nat} {sp : Nat → Bool} {hd : Bool} {r : Reach} {t : TypeId} {v : Value} {d : DataW H} {ps : List MemPlace} {fs : Array Field} (ht : t < Tryd.prog.types.size) (hu : Tryd.prog.underlying t = some (.struct fs)) (hf : flatI Tryd.prog 4 t = true)
    (hval : Value.okWide Tryd.prog W r b0 t v) (h : DataW.Trod enc Tryd.prog W base sp hd t v d ps) : ∃ cs : Array Value, v = .agg cs ∧ cs.size = Tryd.prog.cellsOf t ∧ ∀ p, p < cs.size → ∃ n, cs[p]? = some (.int .i64 n) := by
  obtain ⟨cs, rfl, hc⟩ := okWide_struct hu hval
  obtain ⟨n, hn⟩ := h
  obtain ⟨h1, h2⟩ := flat_ints kids ints_one 4 n t _ _ ht hf hn
  refine ⟨cs, rfl, hc, fun p hp => ?_⟩
  obtain ⟨m, hm, _⟩ := h2 p (by simpa [Value.cells] using hp)
  exact ⟨m, by simpa [Value.cells] using hm⟩
theorem open_regs {W : World} {base b0 : Nat} {sp : Nat → Bool} {hd : Bool} {r : Reach} {v : Value} {d : DataW H} {ps : List MemPlace}
    (hval : Value.okWide Tryd.prog W r b0 24 v) (h : DataW.Trod enc Tryd.prog W base sp hd 24 v d ps) : ∃ r : Rg, v = .agg #[.int .i64 r.r0, .int .i64 r.r1, .int .i64 r.r2, .int .i64 r.r3, .int .i64 r.r4, .int .i64 r.r5, .int .i64 r.r6, .int .i64 r.r7, .int .i64 r.pc] := by
  obtain ⟨cs, rfl, hc, hi⟩ := open_flat (of_decide_eq_true (by kernel_rfl)) Tryd.underlying24 (by kernel_rfl) hval h
  have hc : cs.size = 9 := hc.trans (by kernel_rfl)
  obtain ⟨n0, h0⟩ := hi 0 (by omega)
  obtain ⟨n1, h1⟩ := hi 1 (by omega)
  obtain ⟨n2, h2⟩ := hi 2 (by omega)
  obtain ⟨n3, h3⟩ := hi 3 (by omega)
  obtain ⟨n4, h4⟩ := hi 4 (by omega)
  obtain ⟨n5, h5⟩ := hi 5 (by omega)
  obtain ⟨n6, h6⟩ := hi 6 (by omega)
  obtain ⟨n7, h7⟩ := hi 7 (by omega)
  obtain ⟨n8, h8⟩ := hi 8 (by omega)
  refine ⟨⟨n0, n1, n2, n3, n4, n5, n6, n7, n8⟩, congrArg Value.agg ?_⟩
  apply Array.ext_getElem?
  intro i
  by_cases hl : i < 9
  · have : i = 0 ∨ i = 1 ∨ i = 2 ∨ i = 3 ∨ i = 4 ∨ i = 5 ∨ i = 6 ∨ i = 7 ∨ i = 8 := by omega
    rcases this with e | e | e | e | e | e | e | e | e <;> subst e <;> simp [*]
  · rw [Array.getElem?_eq_none (by omega), Array.getElem?_eq_none (by simp; omega)]
theorem open_ins {W : World} {base b0 : Nat} {sp : Nat → Bool} {hd : Bool} {r : Reach} {v : Value} {d : DataW H} {ps : List MemPlace}
    (hval : Value.okWide Tryd.prog W r b0 29 v) (h : DataW.Trod enc Tryd.prog W base sp hd 29 v d ps) : ∃ op a b c : Int, v = .agg #[.int .i64 op, .int .i64 a, .int .i64 b, .int .i64 c] := by
  obtain ⟨cs, rfl, hc, hi⟩ := open_flat (of_decide_eq_true (by kernel_rfl)) Tryd.underlying29 (by kernel_rfl) hval h
  have hc : cs.size = 4 := hc.trans (by kernel_rfl)
  obtain ⟨n0, h0⟩ := hi 0 (by omega)
  obtain ⟨n1, h1⟩ := hi 1 (by omega)
  obtain ⟨n2, h2⟩ := hi 2 (by omega)
  obtain ⟨n3, h3⟩ := hi 3 (by omega)
  refine ⟨n0, n1, n2, n3, congrArg Value.agg ?_⟩
  apply Array.ext_getElem?
  intro i
  by_cases hl : i < 4
  · have : i = 0 ∨ i = 1 ∨ i = 2 ∨ i = 3 := by omega
    rcases this with e | e | e | e <;> subst e <;> simp [*]
  · rw [Array.getElem?_eq_none (by omega), Array.getElem?_eq_none (by simp; omega)]
theorem open_eff {W : World} {base b0 : Nat} {sp : Nat → Bool} {hd : Bool} {r : Reach} {v : Value} {d : DataW H} {ps : List MemPlace}
    (hval : Value.okWide Tryd.prog W r b0 35 v) (h : DataW.Trod enc Tryd.prog W base sp hd 35 v d ps) : ∃ f : Ef, v = .agg #[.int .i64 f.kind, .int .i64 f.at_, .int .i64 f.size, .int .i64 f.reg, .int .i64 f.value, .int .i64 f.n] := by
  obtain ⟨cs, rfl, hc, hi⟩ := open_flat (of_decide_eq_true (by kernel_rfl)) Tryd.underlying35 (by kernel_rfl) hval h
  have hc : cs.size = 6 := hc.trans (by kernel_rfl)
  obtain ⟨n0, h0⟩ := hi 0 (by omega)
  obtain ⟨n1, h1⟩ := hi 1 (by omega)
  obtain ⟨n2, h2⟩ := hi 2 (by omega)
  obtain ⟨n3, h3⟩ := hi 3 (by omega)
  obtain ⟨n4, h4⟩ := hi 4 (by omega)
  obtain ⟨n5, h5⟩ := hi 5 (by omega)
  refine ⟨⟨n0, n1, n2, n3, n4, n5⟩, congrArg Value.agg ?_⟩
  apply Array.ext_getElem?
  intro i
  by_cases hl : i < 6
  · have : i = 0 ∨ i = 1 ∨ i = 2 ∨ i = 3 ∨ i = 4 ∨ i = 5 := by omega
    rcases this with e | e | e | e | e | e <;> subst e <;> simp [*]
  · rw [Array.getElem?_eq_none (by omega), Array.getElem?_eq_none (by simp; omega)]
end
end Go.Proofs.YtibaebgihbdphaaDoor
