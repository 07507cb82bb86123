import Derived.Test.YtedifjdhdhcbhaaDoorProg
import Derived.WalkKit
import Derived.Handy
import Derived.Deep.Light
import Derived.WalkSmall
import Derived.StillTailTactics
import Derived.Lib.Hide
import Derived.Test.YtedifjdhdhcbhaaDoorW0
import Derived.Test.YtedifjdhdhcbhaaDoorIt
import Derived.Test.YtedifjdhdhcbhaaDoorW24
namespace Go.Proofs.YtedifjdhdhcbhaaDoor
open Go Go.RowKit
set_option linter.unusedSimpArgs false
set_option linter.unusedVariables false

theorem own0 {w W : World} {L : List (Nat × Obj)} {p : Nat × Obj} (hL : Kn [] w W L) (hm : p ∈ L) : w.heap.size ≤ p.1 := by
  have := hL.own p hm; simpa using this
theorem encV_back (v : Val) (hn : -9223372036854775808 ≤ v.n ∧ v.n ≤ 9223372036854775807) (hls : ∀ x ∈ v.l, -9223372036854775808 ≤ x ∧ x ≤ 9223372036854775807) (hf : FewOne v) (z : Bytes) :
    (kindI v.k = 0 → natR ⟨encV v ++ z, false⟩ = (posI v.n, ⟨z, false⟩)) ∧ (kindI v.k = 1 → intR ⟨encV v ++ z, false⟩ = (v.n, ⟨z, false⟩)) ∧ (kindI v.k = 2 → textR ⟨encV v ++ z, false⟩ = (v.s.data.toList, ⟨z, false⟩)) ∧
    (kindI v.k = 3 → numsR ⟨encV v ++ z, false⟩ = (v.l, ⟨z, false⟩)) ∧ (kindI v.k = 4 → textsR ⟨encV v ++ z, false⟩ = (v.t.map fun x => x.data.toList, ⟨z, false⟩)) := by
  obtain ⟨f1, f2, f3, f4⟩ := hf
  have hp := pos_range hn
  refine ⟨fun hc => ?_, fun hc => ?_, fun hc => ?_, fun hc => ?_, fun hc => ?_⟩
  · rw [show encV v = encInt (posI v.n) by simp [encV, hc, encNum]; omega]
    exact nat_back _ z hp.1 hp.2
  · rw [show encV v = encInt v.n by simp [encV, hc]]
    exact int_back _ z ⟨hn.1, hn.2⟩
  · rw [show encV v = encT v.s by simp [encV, hc]]
    exact text_back _ z (by have : v.s.data.toList.length = v.s.size := by simp
                            unfold maxInt; omega)
  · rw [show encV v = encNums v.l by simp [encV, hc]]
    exact nums_back _ z (fun x hx => hls x hx) (by unfold maxInt; omega)
  · rw [show encV v = encTexts (v.t.map fun x => x.data.toList) by simp [encV, hc]]
    refine texts_back _ z (fun x hx => ?_) (by rw [List.length_map]; unfold maxInt; omega)
    obtain ⟨y, hy, rfl⟩ := List.mem_map.1 hx
    have := f4 y hy
    have h2 : y.data.toList.length = y.size := by simp
    unfold okT maxInt; omega
/-- Where one encoding begins with another of the same kind, it is no longer. -/
theorem encV_prefix (x y : Val) (hxn : -9223372036854775808 ≤ x.n ∧ x.n ≤ 9223372036854775807) (hxl : ∀ z ∈ x.l, -9223372036854775808 ≤ z ∧ z ≤ 9223372036854775807) (hx : FewOne x)
    (hyn : -9223372036854775808 ≤ y.n ∧ y.n ≤ 9223372036854775807) (hyl : ∀ z ∈ y.l, -9223372036854775808 ≤ z ∧ z ≤ 9223372036854775807) (hy : FewOne y) (hk : kindI x.k = kindI y.k) (z : Bytes) (h : encV y = encV x ++ z) : z = [] := by
  have hkr := kind_range x.k
  have hcase : kindI x.k = 0 ∨ kindI x.k = 1 ∨ kindI x.k = 2 ∨ kindI x.k = 3 ∨ kindI x.k = 4 := by omega
  obtain ⟨a0, a1, a2, a3, a4⟩ := encV_back x hxn hxl hx z
  obtain ⟨b0, b1, b2, b3, b4⟩ := encV_back y hyn hyl hy []
  rw [List.append_nil, h] at b0 b1 b2 b3 b4
  rw [hk] at hcase a0 a1 a2 a3 a4
  rcases hcase with hc | hc | hc | hc | hc
  · have := (a0 hc).symm.trans (b0 hc); injection this with _ e; injection e
  · have := (a1 hc).symm.trans (b1 hc); injection this with _ e; injection e
  · have := (a2 hc).symm.trans (b2 hc); injection this with _ e; injection e
  · have := (a3 hc).symm.trans (b3 hc); injection this with _ e; injection e
  · have := (a4 hc).symm.trans (b4 hc); injection this with _ e; injection e
theorem equal_is (v : Val) (b : Nat) (s z : ByteArray) (w0 w : World) (hT : Tab w) (hv : ValIn w0 v) (ho : Old w0 w) (hsz : w0.heap.size ≤ w.heap.size) (hb0 : w0.heap.size ≤ b) (hb6 : 6 ≤ b) (hs : w.heap[b]? = some (.cells #[.string s, .bool false] 54 (0, 0))) (hf : FewOne v) (hs1 : s.size ≤ 100000000)
    (hsp : s.data.toList = encV v ++ z.data.toList) :
    Calls Tryd.prog 31 #[.pointer (some ⟨b, 0, none⟩), .agg #[.int .i64 v.k, .int .i64 v.n, .string v.s, v.lv, v.tv]] w fun e w' => e = .returned (.bool true) ∧ Kn [b] w w' [(b, .cells #[.string z, .bool false] 54 (0, 0))] := by
  have hkr := kind_range v.k
  have hcase : kindI v.k = 0 ∨ kindI v.k = 1 ∨ kindI v.k = 2 ∨ kindI v.k = 3 ∨ kindI v.k = 4 := by omega
  obtain ⟨a0, a1, a2, a3, a4⟩ := encV_back v hv.n hv.ls hf z.data.toList
  rw [← hsp] at a0 a1 a2 a3 a4
  rcases hcase with hc | hc | hc | hc | hc
  · exact equal_0 v b s z w0 w hT hv ho hsz hb0 hb6 hs hc hs1 (a0 hc)
  · exact equal_1 v b s z w0 w hT hv ho hsz hb0 hb6 hs hc hs1 (a1 hc)
  · exact equal_2 v b s z w0 w hT hv ho hsz hb0 hb6 hs hc hs1 (a2 hc)
  · by_cases h0 : v.l.length = 0
    · exact equal_3e v b s z w0 w hT hv ho hsz hb0 hb6 hs hc hs1 h0 (a3 hc)
    · exact equal_3 v b s z w0 w hT hv ho hsz hb0 hb6 hs hc hs1 h0 (a3 hc)
  · by_cases h0 : v.t.length = 0
    · exact equal_4e v b s z w0 w hT hv ho hsz hb0 hb6 hs hc hs1 h0 (a4 hc)
    · exact equal_4 v b s z w0 w hT hv ho hsz hb0 hb6 hs hc hs1 h0 (a4 hc)
theorem encV_len (v : Val) (hn : -9223372036854775808 ≤ v.n ∧ v.n ≤ 9223372036854775807) (hls : ∀ x ∈ v.l, -9223372036854775808 ≤ x ∧ x ≤ 9223372036854775807) (hf : FewOne v) : (encV v).length ≤ 200000 := by
  obtain ⟨f1, f2, f3, f4⟩ := hf
  have hp := pos_range hn
  have b1 := flat_le encInt 21 v.l (fun x hx => int_len (hls x hx))
  have hb : ∀ s ∈ v.t.map fun x => x.data.toList, s.length ≤ 400 := fun s hs => by
    obtain ⟨x, hx, rfl⟩ := List.mem_map.1 hs
    have := f4 x hx
    simpa using this
  have b2 := flat_le encText 422 (v.t.map fun x => x.data.toList) (fun x hx => by have := hb x hx; have := text_len (s := x) (by omega); omega)
  rw [List.length_map] at b2
  have m1 : v.l.length * 21 ≤ 400 * 21 := Nat.mul_le_mul_right _ f1
  have m2 : v.t.length * 422 ≤ 400 * 422 := Nat.mul_le_mul_right _ f2
  have i1 := itoa_len (n := v.l.length) (by unfold minInt; omega) (by unfold maxInt; omega)
  have i2 := itoa_len (n := v.t.length) (by unfold minInt; omega) (by unfold maxInt; omega)
  have i3 := int_len (n := posI v.n) (by omega)
  have i4 := int_len hn
  have h2 : v.s.data.toList.length = v.s.size := by simp
  have i5 := text_len (s := v.s.data.toList) (by omega)
  unfold encV
  split
  · unfold encNum; split
    · simp
    · omega
  · split
    · omega
    · split
      · unfold encT; omega
      · split
        · unfold encNums; simp only [List.length_append, List.length_cons, List.length_nil]; omega
        · unfold encTexts; simp only [List.length_append, List.length_cons, List.length_nil, List.length_map]; omega

end Go.Proofs.YtedifjdhdhcbhaaDoor
