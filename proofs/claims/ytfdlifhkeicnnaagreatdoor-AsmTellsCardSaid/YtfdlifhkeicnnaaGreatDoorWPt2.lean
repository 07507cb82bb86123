/- Lemmas and walks for the law LawTells (part 2). -/
import Derived.Test.YtfdlifhkeicnnaaGreatDoorWPt1
import Derived.Test.YtfdlifhkeicnnaaGreatDoorWSx
import Derived.Deep.Slices
import Derived.Deep.Strs
import Derived.Deep.Fields
import Derived.Shelf.Strings.Builder1
import Derived.Shelf.Strings.Builder2
import Derived.Shelf.Strings.OnBuilder
import Derived.Shelf.Strings.Trim
import Derived.Shelf.Small.Utf8
import Derived.Shelf.Small.Strs
import Derived.Shelf.Strings.BuilderF
import Derived.Shelf.Strings.BuilderK
import Derived.Shelf.Utf8.RuneCount
import Derived.Shelf.Strings.Builder2Cap
import Derived.Shelf.Strconv.Itoa0
import Derived.Shelf.Strconv.Itoa1
import Derived.Shelf.LaysM
import Derived.Shelf.Strconv.Itoa2
import Derived.Shelf.Strconv.Itoa3
import Derived.Shelf.Strconv.Itoa4
import Derived.Shelf.Strconv.ParseIntEmpty
import Derived.Shelf.Strconv.Clone
import Derived.Shelf.Strconv.SyntaxError
import Derived.Shelf.LaysC
import Derived.Shelf.Strconv.ToError
import Derived.Shelf.Strconv.Lower
import Derived.Shelf.Strconv.ParseUint10
import Derived.Shelf.Strconv.ParseUint10Empty
import Derived.Shelf.Strconv.ParseUint10Any
import Derived.Shelf.Strconv.ParseInt10
import Derived.Shelf.Strconv.RangeError
import Derived.Shelf.Strconv.ToErrorRange
import Derived.Shelf.Strconv.ParseUintEmpty
import Derived.Shelf.Strconv.ParseUint10b64
import Derived.Shelf.Strconv.ParseUint10b32
import Derived.Shelf.Strconv.ParseUint10b16
import Derived.Shelf.Strconv.ParseUint10b8
import Derived.Shelf.Strconv.ParseUint10At
import Derived.Shelf.Strconv.ParseInt10At64
import Derived.Shelf.Strconv.ParseInt10At32
import Derived.Shelf.Strconv.ParseInt10At16
import Derived.Shelf.Strconv.ParseInt10At8
import Derived.Shelf.Strconv.ParseInt10All
import Derived.Shelf.Strconv.ParseIntPublic10
import Derived.Shelf.Strconv.ErrVarParseInt
import Derived.Shelf.Strings.Search1
import Derived.Shelf.Strings.Search2
import Derived.Shelf.Strings.Search3
import Derived.Shelf.Strings.Count
import Derived.Shelf.Strings.Shaped
import Derived.Shelf.Strings.Prefix
import Derived.Shelf.Strings.Split
import Derived.Shelf.Strings.Fields
import Derived.Shelf.Strings.SplitShaped
import Derived.Shelf.Unicode.Latin
import Derived.Shelf.Unicode.Decode
import Derived.Shelf.Strings.Runes
import Derived.Shelf.Strings.RuneCount
import Derived.Shelf.Strings.IndexAny
import Derived.Shelf.Strings.AsciiSet
import Derived.Shelf.Strings.IndexAnyAll
import Derived.Shelf.Strings.Explode
import Derived.Shelf.Unicode.DecodeSlow
import Derived.Shelf.Unicode.DecodeAny
import Derived.Shelf.Unicode.Is16White
import Derived.Shelf.Unicode.IsSpaceAny
import Derived.Shelf.Unicode.DecodeLast
import Derived.Shelf.Unicode.Is16WhiteD
import Derived.Shelf.Unicode.IsSpaceAnyD
import Derived.Shelf.Strings.FieldsAny
import Derived.Shelf.Strings.FieldsFuncAny
import Derived.Shelf.Unicode.Is16Any
import Derived.Shelf.Unicode.Is32Any
import Derived.Shelf.Unicode.ExclAny
import Derived.Shelf.Strings.FieldsFuncGrows
import Derived.Shelf.Strings.BuilderCap
import Derived.Shelf.Slices.Turned
import Derived.Test.YtfdlifhkeicnnaaGreatDoorProg
import Derived.WalkKit
import Derived.Lib.LaidTab
import Derived.Sort.Grow
import Derived.Lib.OthersKept
/- The elements of a slice stand in a world (Row: one cell an element; RowK: k cells an element); an argument that is a slice is opened into its list. Of no program. -/
set_option linter.unusedVariables false
set_option linter.unusedSimpArgs false
namespace Go.Proofs.YtfdlifhkeicnnaaGreatDoor
open Go Go.ChangeShapes Go.WideShapes Go.RowKit
def Row (w : World) (v : Value) (xs : List Value) : Prop :=
 ∃ ao cap, v = .slice ao xs.length cap ∧ ∀ (j : Nat) x, xs[j]? = some x → ∃ g o, ao = some ⟨g, o, none⟩ ∧ w.cell? ⟨g, o + j, none⟩ = some x
def RowK (k : Nat) (w : World) (v : Value) (xs : List (List Value)) : Prop :=
 ∃ ao cap, v = .slice ao xs.length cap ∧ ∀ (j : Nat) cs, xs[j]? = some cs → ∃ g o, ao = some ⟨g, o, none⟩ ∧ ∀ (c : Nat) x, cs[c]? = some x → w.cell? ⟨g, o + j * k + c, none⟩ = some x
theorem cell_lt {w : World} {g j : Nat} {x : Value} (h : w.cell? ⟨g, j, none⟩ = some x) : g < w.heap.size := by
 rcases Nat.lt_or_ge g w.heap.size with h' | h'
 ·exact h'
 ·simp [World.cell?, Array.getElem?_eq_none h'] at h
theorem cell_same {w w' : World} {g j : Nat} (h : w'.heap[g]? = w.heap[g]?) : w'.cell? ⟨g, j, none⟩ = w.cell? ⟨g, j, none⟩ := by
 unfold World.cell?; simp only [h]
theorem cell_ext {w w' : World} {g j : Nat} {x : Value} (h : w.cell? ⟨g, j, none⟩ = some x) (k : Below w.heap.size w w') : w'.cell? ⟨g, j, none⟩ = some x :=
 (cell_same (k.block g (cell_lt h))).trans h
theorem Row.ext {w w' : World} {v : Value} {xs : List Value} (h : Row w v xs) (k : Below w.heap.size w w') : Row w' v xs := by
 obtain ⟨ao, cap, hv, hc⟩ := h
 refine ⟨ao, cap, hv, fun j x hx => ?_⟩
 obtain ⟨g, o, hg, hx⟩ := hc j x hx
 exact ⟨g, o, hg, cell_ext hx k⟩
theorem RowK.ext {k : Nat} {w w' : World} {v : Value} {xs : List (List Value)} (h : RowK k w v xs) (b : Below w.heap.size w w') : RowK k w' v xs := by
 obtain ⟨ao, cap, hv, hc⟩ := h
 refine ⟨ao, cap, hv, fun j x hx => ?_⟩
 obtain ⟨g, o, hg, hx⟩ := hc j x hx
 exact ⟨g, o, hg, fun c y hy => cell_ext (hx c y hy) b⟩
theorem Row.kn {X : List Nat} {w w' : World} {L : List (Nat × Obj)} {v : Value} {xs : List Value} (h : Row w v xs) (k : Kn X w w' L) (hx : ∀ x ∈ X, w.heap.size ≤ x) : Row w' v xs := by
 obtain ⟨ao, cap, hv, hc⟩ := h
 refine ⟨ao, cap, hv, fun j x hx' => ?_⟩
 obtain ⟨g, o, hg, hx'⟩ := hc j x hx'
 exact ⟨g, o, hg, (cell_same (k.block g (cell_lt hx') fun hm => by have := hx g hm; have := cell_lt hx'; omega)).trans hx'⟩
theorem RowK.kn {n : Nat} {X : List Nat} {w w' : World} {L : List (Nat × Obj)} {v : Value} {xs : List (List Value)} (h : RowK n w v xs) (k : Kn X w w' L) (hx : ∀ x ∈ X, w.heap.size ≤ x) : RowK n w' v xs := by
 obtain ⟨ao, cap, hv, hc⟩ := h
 refine ⟨ao, cap, hv, fun j x hx' => ?_⟩
 obtain ⟨g, o, hg, hx'⟩ := hc j x hx'
 exact ⟨g, o, hg, fun c y hy => (cell_same (k.block g (cell_lt (hx' c y hy)) fun hm => by have := hx g hm; have := cell_lt (hx' c y hy); omega)).trans (hx' c y hy)⟩
/-- What stood in w stands in w'. -/
def Old (w w' : World) : Prop := ∀ g, g < w.heap.size → w'.heap[g]? = w.heap[g]?
theorem Old.refl (w : World) : Old w w := fun _ _ => rfl
theorem Old.kn {X : List Nat} {w0 w w' : World} {L : List (Nat × Obj)} (h : Old w0 w) (k : Kn X w w' L) (hs : w0.heap.size ≤ w.heap.size) (hx : ∀ x ∈ X, w0.heap.size ≤ x) : Old w0 w' := fun g hg =>
 (k.block g (Nat.lt_of_lt_of_le hg hs) (fun hm => by have := hx g hm; omega)).trans (h g hg)
theorem Kn.old {X : List Nat} {w w' : World} {L : List (Nat × Obj)} (k : Kn X w w' L) (hx : ∀ x ∈ X, w.heap.size ≤ x) : Old w w' := fun g hg => k.block g hg (fun hm => by have := hx g hm; omega)
theorem Row.old {w w' : World} {v : Value} {xs : List Value} (h : Row w v xs) (k : Old w w') : Row w' v xs := by
 obtain ⟨ao, cap, hv, hc⟩ := h
 refine ⟨ao, cap, hv, fun j x hx' => ?_⟩
 obtain ⟨g, o, hg, hx'⟩ := hc j x hx'
 exact ⟨g, o, hg, (cell_same (k g (cell_lt hx'))).trans hx'⟩
theorem RowK.old {n : Nat} {w w' : World} {v : Value} {xs : List (List Value)} (h : RowK n w v xs) (k : Old w w') : RowK n w' v xs := by
 obtain ⟨ao, cap, hv, hc⟩ := h
 refine ⟨ao, cap, hv, fun j x hx' => ?_⟩
 obtain ⟨g, o, hg, hx'⟩ := hc j x hx'
 exact ⟨g, o, hg, fun c y hy => (cell_same (k g (cell_lt (hx' c y hy)))).trans (hx' c y hy)⟩
theorem Row.one {v : Value} {xs : List Value} {w : World} (h : Row w v xs) : v.oneCell' = true := by
 obtain ⟨ao, cap, rfl, _⟩ := h; rfl
section
variable {H : Type} {enc : TypeId × Value → H} {P : Program} {w : World} {base : Nat} {sp : Nat → Bool} {held : Bool}
end
end Go.Proofs.YtfdlifhkeicnnaaGreatDoor
namespace Go.Proofs.YtfdlifhkeicnnaaGreatDoor
open Go
open Go.Shelf
def Tryz.lays169_ren : Go.Shelf.Ren := ⟨fun | 169 => 29 | n => n, fun | 70 => 46 | 9 => 9 | 0 => 0 | 72 => 49 | 37 => 47 | 127 => 101 | 3 => 3 | 5 => 5 | n => n, fun | n => n⟩
theorem Tryz.lays169 : Go.Proofs.Lays.n169 Tryz.prog Tryz.lays169_ren := {
 mixed := by kernel_rfl
 f169 := Tryz.func29.trans (congrArg some (by kernel_rfl))
 t0 := Tryz.underlying0
 a0 := Tryz.isAgg0
 z0 := Tryz.sizeOf0
 v0 := Tryz.zeroValue0
 t3 := Tryz.underlying3
 a3 := Tryz.isAgg3
 z3 := Tryz.sizeOf3
 v3 := Tryz.zeroValue3
 t9 := Tryz.underlying9
 a9 := Tryz.isAgg9
 z9 := Tryz.sizeOf9
 v9 := Tryz.zeroValue9
 t37 := Tryz.underlying47
 a37 := Tryz.isAgg47
 z37 := Tryz.sizeOf47
 v37 := Tryz.zeroValue47
 t70 := Tryz.underlying46
 a70 := Tryz.isAgg46
 z70 := Tryz.sizeOf46
 v70 := Tryz.zeroValue46
 t72 := Tryz.underlying49
 a72 := Tryz.isAgg49
 z72 := Tryz.sizeOf49
 v72 := Tryz.zeroValue49
 t127 := Tryz.underlying101
 a127 := Tryz.isAgg101
 z127 := Tryz.sizeOf101
 v127 := Tryz.zeroValue101 }
theorem Tryz.Builder_Extra_169 : Builder.Extra Tryz.prog Tryz.lays169_ren := {
 sizeBuilder := by kernel_rfl
 liesBuilder := by kernel_rfl
 t5 := Tryz.underlying5
 a5 := Tryz.isAgg5
 z5 := Tryz.sizeOf5
 v5 := Tryz.zeroValue5
 infoByte := by kernel_rfl
 cellsByte := by kernel_rfl
 sizeByte := by kernel_rfl
 neB5 := by decide }
def Tryz.lays156_ren : Go.Shelf.Ren := ⟨fun | 156 => 41 | 165 => 68 | 166 => 28 | 169 => 29 | 240 => 56 | 241 => 108 | 276 => 83 | 277 => 133 | n => n, fun | 31 => 35 | 9 => 9 | 3 => 3 | 4 => 4 | 0 => 0 | 20 => 20 | 72 => 49 | 76 => 53 | 70 => 46 | 37 => 47 | 75 => 51 | 127 => 101 | 164 => 119 | 5 => 5 | 80 => 55 | n => n, fun | n => n⟩
theorem Tryz.lays156 : Go.Proofs.Lays.n156 Tryz.prog Tryz.lays156_ren := {
 mixed := by kernel_rfl
 f156 := Tryz.func41.trans (congrArg some (by kernel_rfl))
 f165 := Tryz.func68.trans (congrArg some (by kernel_rfl))
 f166 := Tryz.func28.trans (congrArg some (by kernel_rfl))
 f169 := Tryz.func29.trans (congrArg some (by kernel_rfl))
 f240 := Tryz.func56.trans (congrArg some (by kernel_rfl))
 f241 := Tryz.func108.trans (congrArg some (by kernel_rfl))
 f276 := Tryz.func83.trans (congrArg some (by kernel_rfl))
 f277 := Tryz.func133.trans (congrArg some (by kernel_rfl))
 t0 := Tryz.underlying0
 a0 := Tryz.isAgg0
 z0 := Tryz.sizeOf0
 v0 := Tryz.zeroValue0
 t3 := Tryz.underlying3
 a3 := Tryz.isAgg3
 z3 := Tryz.sizeOf3
 v3 := Tryz.zeroValue3
 t4 := Tryz.underlying4
 a4 := Tryz.isAgg4
 z4 := Tryz.sizeOf4
 v4 := Tryz.zeroValue4
 t9 := Tryz.underlying9
 a9 := Tryz.isAgg9
 z9 := Tryz.sizeOf9
 v9 := Tryz.zeroValue9
 t20 := Tryz.underlying20
 a20 := Tryz.isAgg20
 z20 := Tryz.sizeOf20
 v20 := Tryz.zeroValue20
 t31 := Tryz.underlying35
 a31 := Tryz.isAgg35
 z31 := Tryz.sizeOf35
 v31 := Tryz.zeroValue35
 t37 := Tryz.underlying47
 a37 := Tryz.isAgg47
 z37 := Tryz.sizeOf47
 v37 := Tryz.zeroValue47
 t70 := Tryz.underlying46
 a70 := Tryz.isAgg46
 z70 := Tryz.sizeOf46
 v70 := Tryz.zeroValue46
 t72 := Tryz.underlying49
 a72 := Tryz.isAgg49
 z72 := Tryz.sizeOf49
 v72 := Tryz.zeroValue49
 t75 := Tryz.underlying51
 a75 := Tryz.isAgg51
 z75 := Tryz.sizeOf51
 v75 := Tryz.zeroValue51
 t76 := Tryz.underlying53
 a76 := Tryz.isAgg53
 z76 := Tryz.sizeOf53
 v76 := Tryz.zeroValue53
 t127 := Tryz.underlying101
 a127 := Tryz.isAgg101
 z127 := Tryz.sizeOf101
 v127 := Tryz.zeroValue101
 t164 := Tryz.underlying119
 a164 := Tryz.isAgg119
 z164 := Tryz.sizeOf119
 v164 := Tryz.zeroValue119 }
theorem Tryz.Builder_Extra_156 : Builder.Extra Tryz.prog Tryz.lays156_ren := {
 sizeBuilder := by kernel_rfl
 liesBuilder := by kernel_rfl
 t5 := Tryz.underlying5
 a5 := Tryz.isAgg5
 z5 := Tryz.sizeOf5
 v5 := Tryz.zeroValue5
 infoByte := by kernel_rfl
 cellsByte := by kernel_rfl
 sizeByte := by kernel_rfl
 neB5 := by decide }
open Go.RowKit in
theorem Tryz.strings_Join (bk o c : Nat) (xs : List ByteArray) (sep : ByteArray) (w : World) (hcells : ∀ (j : Nat) x, xs[j]? = some x → w.cell? ⟨bk, o + j, none⟩ = some (.string x)) (hbk : bk < w.heap.size) (hN : xs.length ≤ 140737488355328) (hcap : xs.length ≤ c) (hlen : (Lib.join (xs.map (·.data.toList)) sep.data.toList).length ≤ 140737488355328) :
  Calls Tryz.prog 41 #[.slice (some ⟨bk, o, none⟩) xs.length c, .string sep] w fun e w' => e = .returned (.string ⟨(Lib.join (xs.map (·.data.toList)) sep.data.toList).toArray⟩) ∧ Below w.heap.size w w' := Any.strings_Join Tryz.lays156 Tryz.Builder_Extra_156 bk o c xs sep w hcells hbk hN hcap hlen
def Tryz.lays160_ren : Go.Shelf.Ren := ⟨fun | 160 => 58 | 232 => 86 | 231 => 85 | 227 => 87 | 234 => 89 | 233 => 88 | 236 => 91 | 235 => 90 | 228 => 94 | 271 => 121 | 151 => 120 | 197 => 119 | 120 => 142 | 152 => 92 | 260 => 141 | 137 => 122 | 119 => 123 | 224 => 124 | 225 => 125 | 217 => 143 | 266 => 149 | n => n, fun | 9 => 9 | 4 => 4 | 3 => 3 | 5 => 5 | 117 => 125 | 116 => 124 | 0 => 0 | 124 => 128 | 21 => 21 | 105 => 152 | 46 => 81 | 119 => 116 | 139 => 180 | 138 => 179 | n => n, fun | 3 => 7 | 4 => 8 | n => n⟩
theorem Tryz.lays160 : Go.Proofs.Lays.n160 Tryz.prog Tryz.lays160_ren := {
 mixed := by kernel_rfl
 f119 := Tryz.func123.trans (congrArg some (by kernel_rfl))
 f120 := Tryz.func142.trans (congrArg some (by kernel_rfl))
 f137 := Tryz.func122.trans (congrArg some (by kernel_rfl))
 f151 := Tryz.func120.trans (congrArg some (by kernel_rfl))
 f152 := Tryz.func92.trans (congrArg some (by kernel_rfl))
 f160 := Tryz.func58.trans (congrArg some (by kernel_rfl))
 f197 := Tryz.func119.trans (congrArg some (by kernel_rfl))
 f217 := Tryz.func143.trans (congrArg some (by kernel_rfl))
 f224 := Tryz.func124.trans (congrArg some (by kernel_rfl))
 f225 := Tryz.func125.trans (congrArg some (by kernel_rfl))
 f227 := Tryz.func87.trans (congrArg some (by kernel_rfl))
 f228 := Tryz.func94.trans (congrArg some (by kernel_rfl))
 f231 := Tryz.func85.trans (congrArg some (by kernel_rfl))
 f232 := Tryz.func86.trans (congrArg some (by kernel_rfl))
 f233 := Tryz.func88.trans (congrArg some (by kernel_rfl))
 f234 := Tryz.func89.trans (congrArg some (by kernel_rfl))
 f235 := Tryz.func90.trans (congrArg some (by kernel_rfl))
 f236 := Tryz.func91.trans (congrArg some (by kernel_rfl))
 f260 := Tryz.func141.trans (congrArg some (by kernel_rfl))
 f266 := Tryz.func149.trans (congrArg some (by kernel_rfl))
 f271 := Tryz.func121.trans (congrArg some (by kernel_rfl))
 t0 := Tryz.underlying0
 a0 := Tryz.isAgg0
 z0 := Tryz.sizeOf0
 v0 := Tryz.zeroValue0
 t3 := Tryz.underlying3
 a3 := Tryz.isAgg3
 z3 := Tryz.sizeOf3
 v3 := Tryz.zeroValue3
 t4 := Tryz.underlying4
 a4 := Tryz.isAgg4
 z4 := Tryz.sizeOf4
 v4 := Tryz.zeroValue4
 t5 := Tryz.underlying5
 a5 := Tryz.isAgg5
 z5 := Tryz.sizeOf5
 v5 := Tryz.zeroValue5
 t9 := Tryz.underlying9
 a9 := Tryz.isAgg9
 z9 := Tryz.sizeOf9
 v9 := Tryz.zeroValue9
 t21 := Tryz.underlying21
 a21 := Tryz.isAgg21
 z21 := Tryz.sizeOf21
 v21 := Tryz.zeroValue21
 t46 := Tryz.underlying81
 a46 := Tryz.isAgg81
 z46 := Tryz.sizeOf81
 v46 := Tryz.zeroValue81
 t105 := Tryz.underlying152
 a105 := Tryz.isAgg152
 z105 := Tryz.sizeOf152
 v105 := Tryz.zeroValue152
 t116 := Tryz.underlying124
 a116 := Tryz.isAgg124
 z116 := Tryz.sizeOf124
 t117 := Tryz.underlying125
 a117 := Tryz.isAgg125
 z117 := Tryz.sizeOf125
 v117 := Tryz.zeroValue125
 t119 := Tryz.underlying116
 a119 := Tryz.isAgg116
 z119 := Tryz.sizeOf116
 t124 := Tryz.underlying128
 a124 := Tryz.isAgg128
 z124 := Tryz.sizeOf128
 v124 := Tryz.zeroValue128
 t138 := Tryz.underlying179
 a138 := Tryz.isAgg179
 z138 := Tryz.sizeOf179
 v138 := Tryz.zeroValue179
 t139 := Tryz.underlying180
 a139 := Tryz.isAgg180
 z139 := Tryz.sizeOf180
 v139 := Tryz.zeroValue180
 g3 := by kernel_rfl
 g4 := by kernel_rfl }
def Tryz.lays119_ren : Go.Shelf.Ren := ⟨fun | 119 => 123 | n => n, fun | 21 => 21 | 4 => 4 | n => n, fun | n => n⟩
theorem Tryz.lays119 : Go.Proofs.Lays.n119 Tryz.prog Tryz.lays119_ren := {
 mixed := by kernel_rfl
 f119 := Tryz.func123.trans (congrArg some (by kernel_rfl))
 t4 := Tryz.underlying4
 a4 := Tryz.isAgg4
 z4 := Tryz.sizeOf4
 v4 := Tryz.zeroValue4
 t21 := Tryz.underlying21
 a21 := Tryz.isAgg21
 z21 := Tryz.sizeOf21
 v21 := Tryz.zeroValue21 }
theorem Tryz.utf8_ValidRune (r : Int) (w : World) :
  Calls Tryz.prog 123 #[.int .i32 r] w fun e w' => e = .returned (.bool (Lib.validRune r)) ∧ w' = w := Any.utf8_ValidRune Tryz.lays119 r w
def Tryz.lays137_ren : Go.Shelf.Ren := ⟨fun | 137 => 122 | 217 => 143 | 266 => 149 | n => n, fun | 9 => 9 | 5 => 5 | 3 => 3 | n => n, fun | n => n⟩
theorem Tryz.lays137 : Go.Proofs.Lays.n137 Tryz.prog Tryz.lays137_ren := {
 mixed := by kernel_rfl
 f137 := Tryz.func122.trans (congrArg some (by kernel_rfl))
 f217 := Tryz.func143.trans (congrArg some (by kernel_rfl))
 f266 := Tryz.func149.trans (congrArg some (by kernel_rfl))
 t3 := Tryz.underlying3
 a3 := Tryz.isAgg3
 z3 := Tryz.sizeOf3
 v3 := Tryz.zeroValue3
 t5 := Tryz.underlying5
 a5 := Tryz.isAgg5
 z5 := Tryz.sizeOf5
 v5 := Tryz.zeroValue5
 t9 := Tryz.underlying9
 a9 := Tryz.isAgg9
 z9 := Tryz.sizeOf9
 v9 := Tryz.zeroValue9 }
open Go.RowKit in
theorem Tryz.strings_IndexByte (s : ByteArray) (c : Int) (w : World) :
  Calls Tryz.prog 122 #[.string s, .int .u8 c] w fun e w' => e = .returned (.int .i64 (Lib.indexByte s.data.toList c.toNat.toUInt8)) ∧ w' = w := Any.strings_IndexByte Tryz.lays137 s c w
open Go.RowKit in
theorem Tryz.Builder_String_any_k (B b : Nat) (l : List UInt8) (w : World) (h : Lib.IsBuilderF 49 5 B b (Lib.byteCells l) w) (hBw : B ≤ w.heap.size) :
  Calls Tryz.prog 29 #[.pointer (some ⟨b, 0, none⟩)] w fun e w' => e = .returned (.string ⟨l.toArray⟩) ∧ (Lib.IsBuilderF 49 5 B b (Lib.byteCells l) w' ∧ Below B w w' ∧ Lib.OthersKept 5 (some b) w w') := Any.Builder_String_any_k Tryz.lays169 Tryz.Builder_Extra_169 B b l w h hBw
def Tryz.laysM171_ren : Go.Shelf.Ren := ⟨fun | 171 => 30 | 243 => 57 | 246 => 84 | 283 => 115 | 284 => 116 | 285 => 117 | 286 => 118 | 129 => 137 | 317 => 136 | 318 => 138 | 319 => 139 | 320 => 140 | 337 => 147 | 338 => 148 | n => n, fun | 3 => 3 | 9 => 9 | 2 => 2 | 4 => 4 | 171 => 146 | 0 => 0 | 53 => 147 | 37 => 47 | 5 => 5 | 173 => 150 | 212 => 170 | 51 => 143 | 20 => 20 | 213 => 171 | 46 => 81 | 232 => 184 | 233 => 185 | n => n, fun | 17 => 5 | 18 => 9 | 19 => 10 | n => n⟩
theorem Tryz.laysM171 : Go.Proofs.LaysM.n171 Tryz.prog Tryz.laysM171_ren := {
 mixed := by kernel_rfl
 f129 := Tryz.func137.trans (congrArg some (by kernel_rfl))
 f171 := Tryz.func30.trans (congrArg some (by kernel_rfl))
 f243 := Tryz.func57.trans (congrArg some (by kernel_rfl))
 f246 := Tryz.func84.trans (congrArg some (by kernel_rfl))
 f283 := Tryz.func115.trans (congrArg some (by kernel_rfl))
 f284 := Tryz.func116.trans (congrArg some (by kernel_rfl))
 f285 := Tryz.func117.trans (congrArg some (by kernel_rfl))
 f286 := Tryz.func118.trans (congrArg some (by kernel_rfl))
 f317 := Tryz.func136.trans (congrArg some (by kernel_rfl))
 f318 := Tryz.func138.trans (congrArg some (by kernel_rfl))
 f319 := Tryz.func139.trans (congrArg some (by kernel_rfl))
 f320 := Tryz.func140.trans (congrArg some (by kernel_rfl))
 f337 := Tryz.func147.trans (congrArg some (by kernel_rfl))
 f338 := Tryz.func148.trans (congrArg some (by kernel_rfl))
 t0 := Tryz.underlying0
 a0 := Tryz.isAgg0
 z0 := Tryz.sizeOf0
 v0 := Tryz.zeroValue0
 t2 := Tryz.underlying2
 a2 := Tryz.isAgg2
 z2 := Tryz.sizeOf2
 v2 := Tryz.zeroValue2
 t3 := Tryz.underlying3
 a3 := Tryz.isAgg3
 z3 := Tryz.sizeOf3
 v3 := Tryz.zeroValue3
 t4 := Tryz.underlying4
 a4 := Tryz.isAgg4
 z4 := Tryz.sizeOf4
 v4 := Tryz.zeroValue4
 t5 := Tryz.underlying5
 a5 := Tryz.isAgg5
 z5 := Tryz.sizeOf5
 v5 := Tryz.zeroValue5
 t9 := Tryz.underlying9
 a9 := Tryz.isAgg9
 z9 := Tryz.sizeOf9
 v9 := Tryz.zeroValue9
 t20 := Tryz.underlying20
 a20 := Tryz.isAgg20
 z20 := Tryz.sizeOf20
 v20 := Tryz.zeroValue20
 t37 := Tryz.underlying47
 a37 := Tryz.isAgg47
 z37 := Tryz.sizeOf47
 v37 := Tryz.zeroValue47
 t46 := Tryz.underlying81
 a46 := Tryz.isAgg81
 z46 := Tryz.sizeOf81
 v46 := Tryz.zeroValue81
 t51 := Tryz.underlying143
 a51 := Tryz.isAgg143
 z51 := Tryz.sizeOf143
 v51 := Tryz.zeroValue143
 t53 := Tryz.underlying147
 a53 := Tryz.isAgg147
 z53 := Tryz.sizeOf147
 v53 := Tryz.zeroValue147
 t171 := Tryz.underlying146
 a171 := Tryz.isAgg146
 z171 := Tryz.sizeOf146
 v171 := Tryz.zeroValue146
 t173 := Tryz.underlying150
 a173 := Tryz.isAgg150
 z173 := Tryz.sizeOf150
 v173 := Tryz.zeroValue150
 t212 := Tryz.underlying170
 a212 := Tryz.isAgg170
 z212 := Tryz.sizeOf170
 v212 := Tryz.zeroValue170
 t213 := Tryz.underlying171
 a213 := Tryz.isAgg171
 z213 := Tryz.sizeOf171
 t232 := Tryz.underlying184
 a232 := Tryz.isAgg184
 z232 := Tryz.sizeOf184
 v232 := Tryz.zeroValue184
 t233 := Tryz.underlying185
 a233 := Tryz.isAgg185
 z233 := Tryz.sizeOf185
 v233 := Tryz.zeroValue185
 g17 := by kernel_rfl
 g18 := by kernel_rfl
 g19 := by kernel_rfl
 i0 := by kernel_rfl
 i2 := by kernel_rfl
 i3 := by kernel_rfl
 i4 := by kernel_rfl
 i5 := by kernel_rfl
 i9 := by kernel_rfl
 i20 := by kernel_rfl
 i37 := by kernel_rfl
 i46 := by kernel_rfl
 i51 := by kernel_rfl
 i53 := by kernel_rfl
 i171 := by kernel_rfl
 i173 := by kernel_rfl
 i212 := by kernel_rfl
 i232 := by kernel_rfl
 i233 := by kernel_rfl
 m17 := by kernel_rfl
 m18 := by kernel_rfl
 m19 := by kernel_rfl }
open Go.RowKit Go.Sort Go.Lib in
theorem Tryz.strconv_Itoa (n : Int) (h0 : -9223372036854775808 ≤ n) (h1 : n ≤ 9223372036854775807) (w : World) (htab : Lib.TabIs Tryz.prog w "internal/strconv.uint64pow10" .u64 Lib.pow10Tab) :
  Calls Tryz.prog 30 #[.int .i64 n] w fun e w' => e = .returned (.string ⟨(Lib.itoa n).toArray⟩) ∧ ∃ k os, w' = grow (w.drewN k) os := Any.strconv_Itoa Tryz.laysM171 n h0 h1 w htab
def Tryz.laysM173_ren : Go.Shelf.Ren := ⟨fun | 173 => 145 | 246 => 84 | 283 => 115 | 284 => 116 | 285 => 117 | 286 => 118 | 129 => 137 | 317 => 136 | 318 => 138 | 319 => 139 | 320 => 140 | 337 => 147 | 338 => 148 | n => n, fun | 2 => 2 | 3 => 3 | 9 => 9 | 4 => 4 | 171 => 146 | 0 => 0 | 53 => 147 | 37 => 47 | 5 => 5 | 173 => 150 | 212 => 170 | 51 => 143 | 20 => 20 | 213 => 171 | 46 => 81 | 232 => 184 | 233 => 185 | n => n, fun | 17 => 5 | 18 => 9 | 19 => 10 | n => n⟩
theorem Tryz.laysM173 : Go.Proofs.LaysM.n173 Tryz.prog Tryz.laysM173_ren := {
 mixed := by kernel_rfl
 f129 := Tryz.func137.trans (congrArg some (by kernel_rfl))
 f173 := Tryz.func145.trans (congrArg some (by kernel_rfl))
 f246 := Tryz.func84.trans (congrArg some (by kernel_rfl))
 f283 := Tryz.func115.trans (congrArg some (by kernel_rfl))
 f284 := Tryz.func116.trans (congrArg some (by kernel_rfl))
 f285 := Tryz.func117.trans (congrArg some (by kernel_rfl))
 f286 := Tryz.func118.trans (congrArg some (by kernel_rfl))
 f317 := Tryz.func136.trans (congrArg some (by kernel_rfl))
 f318 := Tryz.func138.trans (congrArg some (by kernel_rfl))
 f319 := Tryz.func139.trans (congrArg some (by kernel_rfl))
 f320 := Tryz.func140.trans (congrArg some (by kernel_rfl))
 f337 := Tryz.func147.trans (congrArg some (by kernel_rfl))
 f338 := Tryz.func148.trans (congrArg some (by kernel_rfl))
 t0 := Tryz.underlying0
 a0 := Tryz.isAgg0
 z0 := Tryz.sizeOf0
 v0 := Tryz.zeroValue0
 t2 := Tryz.underlying2
 a2 := Tryz.isAgg2
 z2 := Tryz.sizeOf2
 v2 := Tryz.zeroValue2
 t3 := Tryz.underlying3
 a3 := Tryz.isAgg3
 z3 := Tryz.sizeOf3
 v3 := Tryz.zeroValue3
 t4 := Tryz.underlying4
 a4 := Tryz.isAgg4
 z4 := Tryz.sizeOf4
 v4 := Tryz.zeroValue4
 t5 := Tryz.underlying5
 a5 := Tryz.isAgg5
 z5 := Tryz.sizeOf5
 v5 := Tryz.zeroValue5
 t9 := Tryz.underlying9
 a9 := Tryz.isAgg9
 z9 := Tryz.sizeOf9
 v9 := Tryz.zeroValue9
 t20 := Tryz.underlying20
 a20 := Tryz.isAgg20
 z20 := Tryz.sizeOf20
 v20 := Tryz.zeroValue20
 t37 := Tryz.underlying47
 a37 := Tryz.isAgg47
 z37 := Tryz.sizeOf47
 v37 := Tryz.zeroValue47
 t46 := Tryz.underlying81
 a46 := Tryz.isAgg81
 z46 := Tryz.sizeOf81
 v46 := Tryz.zeroValue81
 t51 := Tryz.underlying143
 a51 := Tryz.isAgg143
 z51 := Tryz.sizeOf143
 v51 := Tryz.zeroValue143
 t53 := Tryz.underlying147
 a53 := Tryz.isAgg147
 z53 := Tryz.sizeOf147
 v53 := Tryz.zeroValue147
 t171 := Tryz.underlying146
 a171 := Tryz.isAgg146
 z171 := Tryz.sizeOf146
 v171 := Tryz.zeroValue146
 t173 := Tryz.underlying150
 a173 := Tryz.isAgg150
 z173 := Tryz.sizeOf150
 v173 := Tryz.zeroValue150
 t212 := Tryz.underlying170
 a212 := Tryz.isAgg170
 z212 := Tryz.sizeOf170
 v212 := Tryz.zeroValue170
 t213 := Tryz.underlying171
 a213 := Tryz.isAgg171
 z213 := Tryz.sizeOf171
 t232 := Tryz.underlying184
 a232 := Tryz.isAgg184
 z232 := Tryz.sizeOf184
 v232 := Tryz.zeroValue184
 t233 := Tryz.underlying185
 a233 := Tryz.isAgg185
 z233 := Tryz.sizeOf185
 v233 := Tryz.zeroValue185
 g17 := by kernel_rfl
 g18 := by kernel_rfl
 g19 := by kernel_rfl
 i0 := by kernel_rfl
 i2 := by kernel_rfl
 i3 := by kernel_rfl
 i4 := by kernel_rfl
 i5 := by kernel_rfl
 i9 := by kernel_rfl
 i20 := by kernel_rfl
 i37 := by kernel_rfl
 i46 := by kernel_rfl
 i51 := by kernel_rfl
 i53 := by kernel_rfl
 i171 := by kernel_rfl
 i173 := by kernel_rfl
 i212 := by kernel_rfl
 i232 := by kernel_rfl
 i233 := by kernel_rfl
 m17 := by kernel_rfl
 m18 := by kernel_rfl
 m19 := by kernel_rfl }
open Go.RowKit Go.Sort Go.Lib in
theorem Tryz.strconv_FormatInt_10 (n : Int) (h0 : -9223372036854775808 ≤ n) (h1 : n ≤ 9223372036854775807) (w : World) (htab : Lib.TabIs Tryz.prog w "internal/strconv.uint64pow10" .u64 Lib.pow10Tab) :
  Calls Tryz.prog 145 #[.int .i64 n, .int .i64 10] w fun e w' => e = .returned (.string ⟨(Lib.itoa n).toArray⟩) ∧ ∃ k os, w' = grow (w.drewN k) os := Any.strconv_FormatInt_10 Tryz.laysM173 n h0 h1 w htab
def Tryz.laysC174_ren : Go.Shelf.Ren := ⟨fun | 174 => 144 | 247 => 150 | 245 => 151 | 287 => 153 | 279 => 154 | 280 => 155 | 281 => 156 | 282 => 157 | 321 => 158 | 322 => 159 | 316 => 160 | 171 => 30 | 205 => 161 | 243 => 57 | 246 => 84 | 283 => 115 | 284 => 116 | 285 => 117 | 286 => 118 | 129 => 137 | 317 => 136 | 318 => 138 | 319 => 139 | 320 => 140 | 337 => 147 | 338 => 148 | n => n, fun | 9 => 9 | 3 => 3 | 2 => 2 | 75 => 51 | 85 => 173 | 4 => 4 | 167 => 186 | 5 => 5 | 53 => 147 | 175 => 187 | 46 => 81 | 168 => 189 | 37 => 47 | 0 => 0 | 210 => 193 | 21 => 21 | 127 => 101 | 145 => 197 | 143 => 195 | 171 => 146 | 173 => 150 | 212 => 170 | 51 => 143 | 20 => 20 | 213 => 171 | 232 => 184 | 233 => 185 | 80 => 55 | n => n, fun | 15 => 11 | 16 => 12 | 17 => 5 | 18 => 9 | 19 => 10 | n => n⟩
theorem Tryz.laysC174 : Go.Proofs.LaysC.n174 Tryz.prog Tryz.laysC174_ren := {
 mixed := by kernel_rfl
 f129 := Tryz.func137.trans (congrArg some (by kernel_rfl))
 f171 := Tryz.func30.trans (congrArg some (by kernel_rfl))
 f174 := Tryz.func144.trans (congrArg some (by kernel_rfl))
 f205 := Tryz.func161.trans (congrArg some (by kernel_rfl))
 f243 := Tryz.func57.trans (congrArg some (by kernel_rfl))
 f245 := Tryz.func151.trans (congrArg some (by kernel_rfl))
 f246 := Tryz.func84.trans (congrArg some (by kernel_rfl))
 f247 := Tryz.func150.trans (congrArg some (by kernel_rfl))
 f279 := Tryz.func154.trans (congrArg some (by kernel_rfl))
 f280 := Tryz.func155.trans (congrArg some (by kernel_rfl))
 f281 := Tryz.func156.trans (congrArg some (by kernel_rfl))
 f282 := Tryz.func157.trans (congrArg some (by kernel_rfl))
 f283 := Tryz.func115.trans (congrArg some (by kernel_rfl))
 f284 := Tryz.func116.trans (congrArg some (by kernel_rfl))
 f285 := Tryz.func117.trans (congrArg some (by kernel_rfl))
 f286 := Tryz.func118.trans (congrArg some (by kernel_rfl))
 f287 := Tryz.func153.trans (congrArg some (by kernel_rfl))
 f316 := Tryz.func160.trans (congrArg some (by kernel_rfl))
 f317 := Tryz.func136.trans (congrArg some (by kernel_rfl))
 f318 := Tryz.func138.trans (congrArg some (by kernel_rfl))
 f319 := Tryz.func139.trans (congrArg some (by kernel_rfl))
 f320 := Tryz.func140.trans (congrArg some (by kernel_rfl))
 f321 := Tryz.func158.trans (congrArg some (by kernel_rfl))
 f322 := Tryz.func159.trans (congrArg some (by kernel_rfl))
 f337 := Tryz.func147.trans (congrArg some (by kernel_rfl))
 f338 := Tryz.func148.trans (congrArg some (by kernel_rfl))
 t0 := Tryz.underlying0
 a0 := Tryz.isAgg0
 z0 := Tryz.sizeOf0
 v0 := Tryz.zeroValue0
 t2 := Tryz.underlying2
 a2 := Tryz.isAgg2
 z2 := Tryz.sizeOf2
 v2 := Tryz.zeroValue2
 t3 := Tryz.underlying3
 a3 := Tryz.isAgg3
 z3 := Tryz.sizeOf3
 v3 := Tryz.zeroValue3
 t4 := Tryz.underlying4
 a4 := Tryz.isAgg4
 z4 := Tryz.sizeOf4
 v4 := Tryz.zeroValue4
 t5 := Tryz.underlying5
 a5 := Tryz.isAgg5
 z5 := Tryz.sizeOf5
 v5 := Tryz.zeroValue5
 t9 := Tryz.underlying9
 a9 := Tryz.isAgg9
 z9 := Tryz.sizeOf9
 v9 := Tryz.zeroValue9
 t20 := Tryz.underlying20
 a20 := Tryz.isAgg20
 z20 := Tryz.sizeOf20
 v20 := Tryz.zeroValue20
 t21 := Tryz.underlying21
 a21 := Tryz.isAgg21
 z21 := Tryz.sizeOf21
 v21 := Tryz.zeroValue21
 t37 := Tryz.underlying47
 a37 := Tryz.isAgg47
 z37 := Tryz.sizeOf47
 v37 := Tryz.zeroValue47
 t46 := Tryz.underlying81
 a46 := Tryz.isAgg81
 z46 := Tryz.sizeOf81
 v46 := Tryz.zeroValue81
 t51 := Tryz.underlying143
 a51 := Tryz.isAgg143
 z51 := Tryz.sizeOf143
 v51 := Tryz.zeroValue143
 t53 := Tryz.underlying147
 a53 := Tryz.isAgg147
 z53 := Tryz.sizeOf147
 v53 := Tryz.zeroValue147
 t75 := Tryz.underlying51
 a75 := Tryz.isAgg51
 z75 := Tryz.sizeOf51
 v75 := Tryz.zeroValue51
 t85 := Tryz.underlying173
 a85 := Tryz.isAgg173
 z85 := Tryz.sizeOf173
 v85 := Tryz.zeroValue173
 t127 := Tryz.underlying101
 a127 := Tryz.isAgg101
 z127 := Tryz.sizeOf101
 v127 := Tryz.zeroValue101
 t143 := Tryz.underlying195
 a143 := Tryz.isAgg195
 z143 := Tryz.sizeOf195
 v143 := Tryz.zeroValue195
 t145 := Tryz.underlying197
 a145 := Tryz.isAgg197
 z145 := Tryz.sizeOf197
 v145 := Tryz.zeroValue197
 t167 := Tryz.underlying186
 a167 := Tryz.isAgg186
 z167 := Tryz.sizeOf186
 v167 := Tryz.zeroValue186
 t168 := Tryz.underlying189
 a168 := Tryz.isAgg189
 z168 := Tryz.sizeOf189
 v168 := Tryz.zeroValue189
 t171 := Tryz.underlying146
 a171 := Tryz.isAgg146
 z171 := Tryz.sizeOf146
 v171 := Tryz.zeroValue146
 t173 := Tryz.underlying150
 a173 := Tryz.isAgg150
 z173 := Tryz.sizeOf150
 v173 := Tryz.zeroValue150
 t175 := Tryz.underlying187
 a175 := Tryz.isAgg187
 z175 := Tryz.sizeOf187
 v175 := Tryz.zeroValue187
 t210 := Tryz.underlying193
 a210 := Tryz.isAgg193
 z210 := Tryz.sizeOf193
 v210 := Tryz.zeroValue193
 t212 := Tryz.underlying170
 a212 := Tryz.isAgg170
 z212 := Tryz.sizeOf170
 v212 := Tryz.zeroValue170
 t213 := Tryz.underlying171
 a213 := Tryz.isAgg171
 z213 := Tryz.sizeOf171
 t232 := Tryz.underlying184
 a232 := Tryz.isAgg184
 z232 := Tryz.sizeOf184
 v232 := Tryz.zeroValue184
 t233 := Tryz.underlying185
 a233 := Tryz.isAgg185
 z233 := Tryz.sizeOf185
 v233 := Tryz.zeroValue185
 g15 := by kernel_rfl
 g16 := by kernel_rfl
 g17 := by kernel_rfl
 g18 := by kernel_rfl
 g19 := by kernel_rfl
 t80 := Tryz.underlying55
 a80 := Tryz.isAgg55
 z80 := Tryz.sizeOf55
 v80 := Tryz.zeroValue55
 i0 := by kernel_rfl
 i2 := by kernel_rfl
 i3 := by kernel_rfl
 i4 := by kernel_rfl
 i5 := by kernel_rfl
 i9 := by kernel_rfl
 i20 := by kernel_rfl
 i21 := by kernel_rfl
 i37 := by kernel_rfl
 i46 := by kernel_rfl
 i51 := by kernel_rfl
 i53 := by kernel_rfl
 i75 := by kernel_rfl
 i80 := by kernel_rfl
 i85 := by kernel_rfl
 i127 := by kernel_rfl
 i143 := by kernel_rfl
 i145 := by kernel_rfl
 i167 := by kernel_rfl
 i168 := by kernel_rfl
 i171 := by kernel_rfl
 i173 := by kernel_rfl
 i175 := by kernel_rfl
 i210 := by kernel_rfl
 i212 := by kernel_rfl
 i232 := by kernel_rfl
 i233 := by kernel_rfl
 m15 := by kernel_rfl
 m16 := by kernel_rfl
 m17 := by kernel_rfl
 m18 := by kernel_rfl
 m19 := by kernel_rfl
 c0 := by kernel_rfl
 c2 := by kernel_rfl
 c3 := by kernel_rfl
 c4 := by kernel_rfl
 c5 := by kernel_rfl
 c9 := by kernel_rfl
 c20 := by kernel_rfl
 c21 := by kernel_rfl
 c37 := by kernel_rfl
 c46 := by kernel_rfl
 c51 := by kernel_rfl
 c53 := by kernel_rfl
 c75 := by kernel_rfl
 c80 := by kernel_rfl
 c85 := by kernel_rfl
 c127 := by kernel_rfl
 c143 := by kernel_rfl
 c145 := by kernel_rfl
 c167 := by kernel_rfl
 c168 := by kernel_rfl
 c171 := by kernel_rfl
 c173 := by kernel_rfl
 c175 := by kernel_rfl
 c210 := by kernel_rfl
 c212 := by kernel_rfl
 c213 := by kernel_rfl
 c232 := by kernel_rfl
 c233 := by kernel_rfl }
open Go.RowKit in
theorem Tryz.strconv_ParseInt_10_at64_ok (s : ByteArray) (hmax : s.size ≤ 9223372036854775806) (v : Int) (h : Lib.parseIntB 64 s.data.toList = .ok v) (w : World) :
  Calls Tryz.prog 144 #[.string s, .int .i64 10, .int .i64 64] w fun e w' => e = .returned (.tuple #[.int .i64 v, .nilIface]) ∧ (w' = w ∨ ∃ t, w' = Lib.bytesWorld w 5 t) := Any.strconv_ParseInt_10_at64_ok Tryz.laysC174 s hmax v h w
open Go.RowKit in
theorem Tryz.strconv_ParseInt_10_at64_syntax_var (s : ByteArray) (hlim : s.size ≤ 281474976710656) (h : Lib.parseIntB 64 s.data.toList = .«syntax») (tp : TypeId) (p : Value) (w : World) (hvar : w.var? Tryz.prog "strconv.ErrSyntax" = some #[.iface tp p]) :
  Calls Tryz.prog 144 #[.string s, .int .i64 10, .int .i64 64] w fun e w' => ∃ N, e = .returned (.tuple #[.int .i64 (0), .iface 189 (.pointer (some ⟨N, 0, none⟩))]) ∧ w.heap.size ≤ N ∧ w'.heap[N]? = some (.cells #[.string ⟨#[80, 97, 114, 115, 101, 73, 110, 116]⟩, .string s, .iface tp p] 193 (0, 0)) ∧ Below w.heap.size w w' := Any.strconv_ParseInt_10_at64_syntax_var Tryz.laysC174 s hlim h tp p w hvar
open Go.RowKit in
theorem Tryz.strconv_ParseInt_10_at64_range_var (s : ByteArray) (hlim : s.size ≤ 281474976710656) (h : Lib.parseIntB 64 s.data.toList = .range) (tp : TypeId) (p : Value) (w : World) (hvar : w.var? Tryz.prog "strconv.ErrRange" = some #[.iface tp p]) :
  Calls Tryz.prog 144 #[.string s, .int .i64 10, .int .i64 64] w fun e w' => ∃ N, e = .returned (.tuple #[.int .i64 (Lib.intSat 64 s.data.toList), .iface 189 (.pointer (some ⟨N, 0, none⟩))]) ∧ w.heap.size ≤ N ∧ w'.heap[N]? = some (.cells #[.string ⟨#[80, 97, 114, 115, 101, 73, 110, 116]⟩, .string s, .iface tp p] 193 (0, 0)) ∧ Below w.heap.size w w' := Any.strconv_ParseInt_10_at64_range_var Tryz.laysC174 s hlim h tp p w hvar
def Tryz.lays102_ren : Go.Shelf.Ren := ⟨fun | 102 => 38 | 209 => 67 | 207 => 107 | n => n, fun | 9 => 9 | 4 => 4 | 3 => 3 | n => n, fun | n => n⟩
theorem Tryz.lays102 : Go.Proofs.Lays.n102 Tryz.prog Tryz.lays102_ren := {
 mixed := by kernel_rfl
 f102 := Tryz.func38.trans (congrArg some (by kernel_rfl))
 f207 := Tryz.func107.trans (congrArg some (by kernel_rfl))
 f209 := Tryz.func67.trans (congrArg some (by kernel_rfl))
 t3 := Tryz.underlying3
 a3 := Tryz.isAgg3
 z3 := Tryz.sizeOf3
 v3 := Tryz.zeroValue3
 t4 := Tryz.underlying4
 a4 := Tryz.isAgg4
 z4 := Tryz.sizeOf4
 v4 := Tryz.zeroValue4
 t9 := Tryz.underlying9
 a9 := Tryz.isAgg9
 z9 := Tryz.sizeOf9
 v9 := Tryz.zeroValue9 }
open Go.RowKit Go.Lib in
theorem Tryz.strings_TrimSuffix (s p : ByteArray) (w : World) (hs : s.size ≤ 9223372036854775807) :
  Calls Tryz.prog 38 #[.string s, .string p] w fun e w' => e = .returned (.string ⟨(Lib.trimSuffix s.data.toList p.data.toList).toArray⟩) ∧ w' = w := Any.strings_TrimSuffix Tryz.lays102 s p w hs
def Tryz.lays146_ren : Go.Shelf.Ren := ⟨fun | 146 => 37 | 221 => 66 | 268 => 104 | 138 => 105 | 143 => 106 | 195 => 130 | 197 => 119 | 218 => 131 | 219 => 132 | 260 => 141 | 217 => 143 | 225 => 125 | 224 => 124 | 267 => 146 | 266 => 149 | 314 => 152 | n => n, fun | 9 => 9 | 31 => 35 | 3 => 3 | 4 => 4 | 0 => 0 | 105 => 152 | 21 => 21 | 5 => 5 | 46 => 81 | 119 => 116 | 139 => 180 | 138 => 179 | 146 => 182 | 51 => 143 | n => n, fun | 1 => 6 | 3 => 7 | 4 => 8 | n => n⟩
theorem Tryz.lays146 : Go.Proofs.Lays.n146 Tryz.prog Tryz.lays146_ren := {
 mixed := by kernel_rfl
 f138 := Tryz.func105.trans (congrArg some (by kernel_rfl))
 f143 := Tryz.func106.trans (congrArg some (by kernel_rfl))
 f146 := Tryz.func37.trans (congrArg some (by kernel_rfl))
 f195 := Tryz.func130.trans (congrArg some (by kernel_rfl))
 f197 := Tryz.func119.trans (congrArg some (by kernel_rfl))
 f217 := Tryz.func143.trans (congrArg some (by kernel_rfl))
 f218 := Tryz.func131.trans (congrArg some (by kernel_rfl))
 f219 := Tryz.func132.trans (congrArg some (by kernel_rfl))
 f221 := Tryz.func66.trans (congrArg some (by kernel_rfl))
 f224 := Tryz.func124.trans (congrArg some (by kernel_rfl))
 f225 := Tryz.func125.trans (congrArg some (by kernel_rfl))
 f260 := Tryz.func141.trans (congrArg some (by kernel_rfl))
 f266 := Tryz.func149.trans (congrArg some (by kernel_rfl))
 f267 := Tryz.func146.trans (congrArg some (by kernel_rfl))
 f268 := Tryz.func104.trans (congrArg some (by kernel_rfl))
 f314 := Tryz.func152.trans (congrArg some (by kernel_rfl))
 t0 := Tryz.underlying0
 a0 := Tryz.isAgg0
 z0 := Tryz.sizeOf0
 v0 := Tryz.zeroValue0
 t3 := Tryz.underlying3
 a3 := Tryz.isAgg3
 z3 := Tryz.sizeOf3
 v3 := Tryz.zeroValue3
 t4 := Tryz.underlying4
 a4 := Tryz.isAgg4
 z4 := Tryz.sizeOf4
 v4 := Tryz.zeroValue4
 t5 := Tryz.underlying5
 a5 := Tryz.isAgg5
 z5 := Tryz.sizeOf5
 v5 := Tryz.zeroValue5
 t9 := Tryz.underlying9
 a9 := Tryz.isAgg9
 z9 := Tryz.sizeOf9
 v9 := Tryz.zeroValue9
 t21 := Tryz.underlying21
 a21 := Tryz.isAgg21
 z21 := Tryz.sizeOf21
 v21 := Tryz.zeroValue21
 t31 := Tryz.underlying35
 a31 := Tryz.isAgg35
 z31 := Tryz.sizeOf35
 v31 := Tryz.zeroValue35
 t46 := Tryz.underlying81
 a46 := Tryz.isAgg81
 z46 := Tryz.sizeOf81
 v46 := Tryz.zeroValue81
 t51 := Tryz.underlying143
 a51 := Tryz.isAgg143
 z51 := Tryz.sizeOf143
 v51 := Tryz.zeroValue143
 t105 := Tryz.underlying152
 a105 := Tryz.isAgg152
 z105 := Tryz.sizeOf152
 v105 := Tryz.zeroValue152
 t119 := Tryz.underlying116
 a119 := Tryz.isAgg116
 z119 := Tryz.sizeOf116
 t138 := Tryz.underlying179
 a138 := Tryz.isAgg179
 z138 := Tryz.sizeOf179
 v138 := Tryz.zeroValue179
 t139 := Tryz.underlying180
 a139 := Tryz.isAgg180
 z139 := Tryz.sizeOf180
 v139 := Tryz.zeroValue180
 t146 := Tryz.underlying182
 a146 := Tryz.isAgg182
 z146 := Tryz.sizeOf182
 v146 := Tryz.zeroValue182
 g1 := by kernel_rfl
 g3 := by kernel_rfl
 g4 := by kernel_rfl }
open Go.RowKit Go.Lib in
theorem Tryz.strings_Split (s sep : ByteArray) (m : Int) (w : World) (hs : s.size < 4294967281) (hm : w.cell? ⟨6, 0, none⟩ = some (.int .i64 m)) (h1 : 1 ≤ sep.size) :
  Calls Tryz.prog 37 #[.string s, .string sep] w fun e w' =>
   e = .returned (.slice (some ⟨w.heap.size, 0, none⟩) (Lib.countB s sep + 1) (Lib.countB s sep + 1)) ∧ w' = w.alloc (.cells ((Lib.splitB sep 0 (Lib.countB s sep) s).map Value.string).toArray 9) := Any.strings_Split Tryz.lays146 (by kernel_rfl) s sep m w hs hm h1
def Tryz.laysM157_ren : Go.Shelf.Ren := ⟨fun | 157 => 50 | 229 => 81 | 199 => 82 | 261 => 114 | 311 => 134 | 312 => 135 | n => n, fun | 9 => 9 | 31 => 35 | 3 => 3 | 5 => 5 | 4 => 4 | 119 => 116 | 0 => 0 | 40 => 118 | 152 => 140 | 21 => 21 | 154 => 142 | 51 => 143 | 141 => 145 | 196 => 162 | 193 => 159 | 198 => 164 | 49 => 99 | 194 => 160 | 201 => 167 | 226 => 175 | 46 => 81 | 227 => 176 | n => n, fun | 0 => 3 | 6 => 4 | n => n⟩
theorem Tryz.laysM157 : Go.Proofs.LaysM.n157 Tryz.prog Tryz.laysM157_ren := {
 mixed := by kernel_rfl
 f157 := Tryz.func50.trans (congrArg some (by kernel_rfl))
 f199 := Tryz.func82.trans (congrArg some (by kernel_rfl))
 f229 := Tryz.func81.trans (congrArg some (by kernel_rfl))
 f261 := Tryz.func114.trans (congrArg some (by kernel_rfl))
 f311 := Tryz.func134.trans (congrArg some (by kernel_rfl))
 f312 := Tryz.func135.trans (congrArg some (by kernel_rfl))
 t0 := Tryz.underlying0
 a0 := Tryz.isAgg0
 z0 := Tryz.sizeOf0
 v0 := Tryz.zeroValue0
 t3 := Tryz.underlying3
 a3 := Tryz.isAgg3
 z3 := Tryz.sizeOf3
 v3 := Tryz.zeroValue3
 t4 := Tryz.underlying4
 a4 := Tryz.isAgg4
 z4 := Tryz.sizeOf4
 v4 := Tryz.zeroValue4
 t5 := Tryz.underlying5
 a5 := Tryz.isAgg5
 z5 := Tryz.sizeOf5
 v5 := Tryz.zeroValue5
 t9 := Tryz.underlying9
 a9 := Tryz.isAgg9
 z9 := Tryz.sizeOf9
 v9 := Tryz.zeroValue9
 t21 := Tryz.underlying21
 a21 := Tryz.isAgg21
 z21 := Tryz.sizeOf21
 v21 := Tryz.zeroValue21
 t31 := Tryz.underlying35
 a31 := Tryz.isAgg35
 z31 := Tryz.sizeOf35
 v31 := Tryz.zeroValue35
 t40 := Tryz.underlying118
 a40 := Tryz.isAgg118
 z40 := Tryz.sizeOf118
 v40 := Tryz.zeroValue118
 t46 := Tryz.underlying81
 a46 := Tryz.isAgg81
 z46 := Tryz.sizeOf81
 v46 := Tryz.zeroValue81
 t49 := Tryz.underlying99
 a49 := Tryz.isAgg99
 z49 := Tryz.sizeOf99
 v49 := Tryz.zeroValue99
 t51 := Tryz.underlying143
 a51 := Tryz.isAgg143
 z51 := Tryz.sizeOf143
 v51 := Tryz.zeroValue143
 t119 := Tryz.underlying116
 a119 := Tryz.isAgg116
 z119 := Tryz.sizeOf116
 t141 := Tryz.underlying145
 a141 := Tryz.isAgg145
 z141 := Tryz.sizeOf145
 v141 := Tryz.zeroValue145
 t152 := Tryz.underlying140
 a152 := Tryz.isAgg140
 z152 := Tryz.sizeOf140
 v152 := Tryz.zeroValue140
 t154 := Tryz.underlying142
 a154 := Tryz.isAgg142
 z154 := Tryz.sizeOf142
 v154 := Tryz.zeroValue142
 t193 := Tryz.underlying159
 a193 := Tryz.isAgg159
 z193 := Tryz.sizeOf159
 v193 := Tryz.zeroValue159
 t194 := Tryz.underlying160
 a194 := Tryz.isAgg160
 z194 := Tryz.sizeOf160
 v194 := Tryz.zeroValue160
 t196 := Tryz.underlying162
 a196 := Tryz.isAgg162
 z196 := Tryz.sizeOf162
 v196 := Tryz.zeroValue162
 t198 := Tryz.underlying164
 a198 := Tryz.isAgg164
 z198 := Tryz.sizeOf164
 v198 := Tryz.zeroValue164
 t201 := Tryz.underlying167
 a201 := Tryz.isAgg167
 z201 := Tryz.sizeOf167
 v201 := Tryz.zeroValue167
 t226 := Tryz.underlying175
 a226 := Tryz.isAgg175
 z226 := Tryz.sizeOf175
 v226 := Tryz.zeroValue175
 t227 := Tryz.underlying176
 a227 := Tryz.isAgg176
 z227 := Tryz.sizeOf176
 v227 := Tryz.zeroValue176
 g0 := by kernel_rfl
 g6 := by kernel_rfl
 i0 := by kernel_rfl
 i3 := by kernel_rfl
 i4 := by kernel_rfl
 i5 := by kernel_rfl
 i9 := by kernel_rfl
 i21 := by kernel_rfl
 i31 := by kernel_rfl
 i40 := by kernel_rfl
 i46 := by kernel_rfl
 i49 := by kernel_rfl
 i51 := by kernel_rfl
 i141 := by kernel_rfl
 i152 := by kernel_rfl
 i154 := by kernel_rfl
 i193 := by kernel_rfl
 i194 := by kernel_rfl
 i196 := by kernel_rfl
 i198 := by kernel_rfl
 i201 := by kernel_rfl
 i226 := by kernel_rfl
 i227 := by kernel_rfl
 m0 := by kernel_rfl
 m6 := by kernel_rfl }
open Go.RowKit Go.Lib in
theorem Tryz.strings_Fields_laid (s : ByteArray) (w : World) (hs : s.size < 4294967281) (hascii : ∀ (j : Nat) b, s.data.toList[j]? = some b → b.toNat < 128) (htab : Lib.TabIs Tryz.prog w "strings.asciiSpace" .u8 Lib.asciiSpaceTab) :
  Calls Tryz.prog 50 #[.string s] w fun e w' =>
   e = .returned (.slice (some ⟨w.heap.size, 0, none⟩) (Lib.fields s.data.toList).length (Lib.fields s.data.toList).length) ∧ w' = w.alloc (.cells ((Lib.fields s.data.toList).map fun l => Value.string ⟨l.toArray⟩).toArray 9) := Any.strings_Fields_laid Tryz.laysM157 s w hs hascii htab
def Tryz.lays152_ren : Go.Shelf.Ren := ⟨fun | 152 => 92 | 137 => 122 | 119 => 123 | 224 => 124 | 225 => 125 | 217 => 143 | 266 => 149 | n => n, fun | 9 => 9 | 21 => 21 | 3 => 3 | 4 => 4 | 5 => 5 | 0 => 0 | 46 => 81 | n => n, fun | n => n⟩
theorem Tryz.lays152 : Go.Proofs.Lays.n152 Tryz.prog Tryz.lays152_ren := {
 mixed := by kernel_rfl
 f119 := Tryz.func123.trans (congrArg some (by kernel_rfl))
 f137 := Tryz.func122.trans (congrArg some (by kernel_rfl))
 f152 := Tryz.func92.trans (congrArg some (by kernel_rfl))
 f217 := Tryz.func143.trans (congrArg some (by kernel_rfl))
 f224 := Tryz.func124.trans (congrArg some (by kernel_rfl))
 f225 := Tryz.func125.trans (congrArg some (by kernel_rfl))
 f266 := Tryz.func149.trans (congrArg some (by kernel_rfl))
 t0 := Tryz.underlying0
 a0 := Tryz.isAgg0
 z0 := Tryz.sizeOf0
 v0 := Tryz.zeroValue0
 t3 := Tryz.underlying3
 a3 := Tryz.isAgg3
 z3 := Tryz.sizeOf3
 v3 := Tryz.zeroValue3
 t4 := Tryz.underlying4
 a4 := Tryz.isAgg4
 z4 := Tryz.sizeOf4
 v4 := Tryz.zeroValue4
 t5 := Tryz.underlying5
 a5 := Tryz.isAgg5
 z5 := Tryz.sizeOf5
 v5 := Tryz.zeroValue5
 t9 := Tryz.underlying9
 a9 := Tryz.isAgg9
 z9 := Tryz.sizeOf9
 v9 := Tryz.zeroValue9
 t21 := Tryz.underlying21
 a21 := Tryz.isAgg21
 z21 := Tryz.sizeOf21
 v21 := Tryz.zeroValue21
 t46 := Tryz.underlying81
 a46 := Tryz.isAgg81
 z46 := Tryz.sizeOf81
 v46 := Tryz.zeroValue81 }
open Go.RowKit Go.Lib in
theorem Tryz.strings_IndexRune_ascii (s : ByteArray) (r : Int) (w : World) (h0 : 0 ≤ r) (h1 : r < 128) :
  Calls Tryz.prog 92 #[.string s, .int .i32 r] w fun e w' => e = .returned (.int .i64 (Lib.indexByte s.data.toList r.toNat.toUInt8)) ∧ w' = w := Any.strings_IndexRune_ascii Tryz.lays152 s r w h0 h1
def Tryz.lays153_ren : Go.Shelf.Ren := ⟨fun | 153 => 60 | 152 => 92 | 226 => 93 | 227 => 87 | 228 => 94 | 137 => 122 | 119 => 123 | 224 => 124 | 225 => 125 | 217 => 143 | 266 => 149 | n => n, fun | 9 => 9 | 3 => 3 | 4 => 4 | 5 => 5 | 21 => 21 | 117 => 125 | 116 => 124 | 0 => 0 | 46 => 81 | 124 => 128 | n => n, fun | n => n⟩
theorem Tryz.lays153 : Go.Proofs.Lays.n153 Tryz.prog Tryz.lays153_ren := {
 mixed := by kernel_rfl
 f119 := Tryz.func123.trans (congrArg some (by kernel_rfl))
 f137 := Tryz.func122.trans (congrArg some (by kernel_rfl))
 f152 := Tryz.func92.trans (congrArg some (by kernel_rfl))
 f153 := Tryz.func60.trans (congrArg some (by kernel_rfl))
 f217 := Tryz.func143.trans (congrArg some (by kernel_rfl))
 f224 := Tryz.func124.trans (congrArg some (by kernel_rfl))
 f225 := Tryz.func125.trans (congrArg some (by kernel_rfl))
 f226 := Tryz.func93.trans (congrArg some (by kernel_rfl))
 f227 := Tryz.func87.trans (congrArg some (by kernel_rfl))
 f228 := Tryz.func94.trans (congrArg some (by kernel_rfl))
 f266 := Tryz.func149.trans (congrArg some (by kernel_rfl))
 t0 := Tryz.underlying0
 a0 := Tryz.isAgg0
 z0 := Tryz.sizeOf0
 v0 := Tryz.zeroValue0
 t3 := Tryz.underlying3
 a3 := Tryz.isAgg3
 z3 := Tryz.sizeOf3
 v3 := Tryz.zeroValue3
 t4 := Tryz.underlying4
 a4 := Tryz.isAgg4
 z4 := Tryz.sizeOf4
 v4 := Tryz.zeroValue4
 t5 := Tryz.underlying5
 a5 := Tryz.isAgg5
 z5 := Tryz.sizeOf5
 v5 := Tryz.zeroValue5
 t9 := Tryz.underlying9
 a9 := Tryz.isAgg9
 z9 := Tryz.sizeOf9
 v9 := Tryz.zeroValue9
 t21 := Tryz.underlying21
 a21 := Tryz.isAgg21
 z21 := Tryz.sizeOf21
 v21 := Tryz.zeroValue21
 t46 := Tryz.underlying81
 a46 := Tryz.isAgg81
 z46 := Tryz.sizeOf81
 v46 := Tryz.zeroValue81
 t116 := Tryz.underlying124
 a116 := Tryz.isAgg124
 z116 := Tryz.sizeOf124
 t117 := Tryz.underlying125
 a117 := Tryz.isAgg125
 z117 := Tryz.sizeOf125
 v117 := Tryz.zeroValue125
 t124 := Tryz.underlying128
 a124 := Tryz.isAgg128
 z124 := Tryz.sizeOf128
 v124 := Tryz.zeroValue128 }
open Go.RowKit Go.Lib in
theorem Tryz.strings_IndexAny_long (hv116 : ∀ w, (zeroValue 124).run Tryz.prog w = .ok (.agg (Array.replicate 256 (.bool false))) w) (s chars : ByteArray) (w : World) (h2 : 2 ≤ chars.size) (h8 : 8 < s.size) (hs : s.size < 4294967281) (hcs : chars.size < 4294967281) (hascii : ∀ (j : Nat) b, chars.data.toList[j]? = some b → b.toNat < 128) :
  Calls Tryz.prog 60 #[.string s, .string chars] w fun e w' => e = .returned (.int .i64 (Lib.indexAny s.data.toList chars.data.toList)) ∧ w' = ((w.alloc (.cells (Lib.setCells chars.data.toList) 124)).alloc (.cells (Lib.setCells chars.data.toList) 124)) := Any.strings_IndexAny_long Tryz.lays153 hv116 (by kernel_rfl) s chars w h2 h8 hs hcs hascii
open Go.RowKit Go.Lib in
theorem Tryz.strings_IndexAny_laid (s chars : ByteArray) (w : World) (hs : s.size < 4294967281) (hcs : chars.size < 4294967281) (has : ∀ (j : Nat) b, s.data.toList[j]? = some b → b.toNat < 128) (hac : ∀ (j : Nat) b, chars.data.toList[j]? = some b → b.toNat < 128) :
  Calls Tryz.prog 60 #[.string s, .string chars] w fun e w' => e = .returned (.int .i64 (Lib.indexAny s.data.toList chars.data.toList)) ∧ Below w.heap.size w w' := Any.strings_IndexAny_laid Tryz.lays153 (by kernel_rfl) s chars w hs hcs has hac
def Tryz.lays109_ren : Go.Shelf.Ren := ⟨fun | 109 => 51 | n => n, fun | 31 => 35 | 9 => 9 | 3 => 3 | 0 => 0 | 4 => 4 | n => n, fun | n => n⟩
theorem Tryz.lays109 : Go.Proofs.Lays.n109 Tryz.prog Tryz.lays109_ren := {
 mixed := by kernel_rfl
 f109 := Tryz.func51.trans (congrArg some (by kernel_rfl))
 t0 := Tryz.underlying0
 a0 := Tryz.isAgg0
 z0 := Tryz.sizeOf0
 v0 := Tryz.zeroValue0
 t3 := Tryz.underlying3
 a3 := Tryz.isAgg3
 z3 := Tryz.sizeOf3
 v3 := Tryz.zeroValue3
 t4 := Tryz.underlying4
 a4 := Tryz.isAgg4
 z4 := Tryz.sizeOf4
 v4 := Tryz.zeroValue4
 t9 := Tryz.underlying9
 a9 := Tryz.isAgg9
 z9 := Tryz.sizeOf9
 v9 := Tryz.zeroValue9
 t31 := Tryz.underlying35
 a31 := Tryz.isAgg35
 z31 := Tryz.sizeOf35
 v31 := Tryz.zeroValue35 }
open Go.Lib in
theorem Tryz.slices_Index_string (b off n c : Nat) (zs : List ByteArray) (x : ByteArray) (w : World) (hz : n ≤ zs.length) (hbig : n ≤ 9223372036854775807) (hc : ∀ j, j < zs.length → w.cell? ⟨b, off + j, none⟩ = some (.string (zs.getD j ByteArray.empty))) :
  Calls Tryz.prog 51 #[.slice (some ⟨b, off, none⟩) n c, .string x] w fun e w' => e = .returned (.int .i64 (Lib.idxOfS (zs.take n) x)) ∧ w' = w := Any.slices_Index_string Tryz.lays109 b off n c zs x w hz hbig hc
end Go.Proofs.YtfdlifhkeicnnaaGreatDoor
namespace Go.Proofs.YtfdlifhkeicnnaaGreatDoor
open Go Go.RowKit
def Tab (w : World) : Prop := 14 ≤ w.heap.size ∧ Lib.TabIs Tryz.prog w "internal/strconv.uint64pow10" .u64 Lib.pow10Tab ∧ (∃ tp p, w.var? Tryz.prog "strconv.ErrSyntax" = some #[.iface tp p]) ∧ (∃ tp p, w.var? Tryz.prog "strconv.ErrRange" = some #[.iface tp p]) ∧ (∃ m : Int, w.cell? ⟨6, 0, none⟩ = some (.int .i64 m))
theorem var_same {w w' : World} {n : String} {g : Nat} (hg : Tryz.prog.globalNamed n = some g) (h : w'.heap[g]? = w.heap[g]?) : w'.var? Tryz.prog n = w.var? Tryz.prog n := by
 unfold World.var?
 rw [hg]
 simp only [Option.bind_some, h]
theorem gPow : Tryz.prog.globalNamed "internal/strconv.uint64pow10" = some 5 := by kernel_rfl
theorem gSyn : Tryz.prog.globalNamed "strconv.ErrSyntax" = some 11 := by kernel_rfl
theorem gRan : Tryz.prog.globalNamed "strconv.ErrRange" = some 12 := by kernel_rfl
theorem Tab.same {w w' : World} (h : Tab w) (hs : w.heap.size ≤ w'.heap.size) (hb : ∀ g, g < 14 → w'.heap[g]? = w.heap[g]?) : Tab w' := by
 obtain ⟨h1, h2, h3, h4, m, h5⟩ := h
 refine ⟨Nat.le_trans h1 hs, ?_, ?_, ?_, m, ?_⟩
 ·unfold Lib.TabIs at h2 ⊢; rw [var_same gPow (hb _ (by decide))]; exact h2
 ·obtain ⟨tp, p, e⟩ := h3; exact ⟨tp, p, by rw [var_same gSyn (hb _ (by decide))]; exact e⟩
 ·obtain ⟨tp, p, e⟩ := h4; exact ⟨tp, p, by rw [var_same gRan (hb _ (by decide))]; exact e⟩
 ·unfold World.cell? at h5 ⊢; rw [hb _ (by decide)]; exact h5
theorem Tab.ext {w w' : World} (h : Tab w) (hb : Below w.heap.size w w') : Tab w' := h.same hb.size fun g hg => hb.block g (Nat.lt_of_lt_of_le hg h.1)
theorem Tab.kn {X : List Nat} {w w' : World} {L : List (Nat × Obj)} (h : Tab w) (k : Kn X w w' L) (hx : ∀ x ∈ X, 14 ≤ x) : Tab w' :=
 h.same k.size fun g hg => k.block g (Nat.lt_of_lt_of_le hg h.1) fun hm => by have := hx g hm; omega
theorem below_grow (w : World) (k : Nat) (os : Array Obj) : Below w.heap.size w (Go.Sort.grow (w.drewN k) os) :=
 ⟨rfl, rfl, rfl, (by show w.heap.size ≤ (w.heap ++ os).size; simp), fun b hb => (by show (w.heap ++ os)[b]? = w.heap[b]?; rw [Array.getElem?_append_left hb])⟩
def numS (n : Int) : ByteArray := ⟨(Lib.itoa n).toArray⟩
theorem Itoa_any (n : Int) (h0 : -9223372036854775808 ≤ n) (h1 : n ≤ 9223372036854775807) (w : World) (hT : Tab w) :
  Calls Tryz.prog 30 #[.int .i64 n] w fun e w' => e = .returned (.string (numS n)) ∧ Below w.heap.size w w' :=
 (Tryz.strconv_Itoa n h0 h1 w hT.2.1).mono fun e w' ⟨he, k, os, hw⟩ => ⟨he, by rw [hw]; exact below_grow w k os⟩
theorem Format_any (n : Int) (h0 : -9223372036854775808 ≤ n) (h1 : n ≤ 9223372036854775807) (w : World) (hT : Tab w) :
  Calls Tryz.prog 145 #[.int .i64 n, .int .i64 10] w fun e w' => e = .returned (.string (numS n)) ∧ Below w.heap.size w w' :=
 (Tryz.strconv_FormatInt_10 n h0 h1 w hT.2.1).mono fun e w' ⟨he, k, os, hw⟩ => ⟨he, by rw [hw]; exact below_grow w k os⟩
end Go.Proofs.YtfdlifhkeicnnaaGreatDoor
namespace Go.Proofs.YtfdlifhkeicnnaaGreatDoor
open Go Go.RowKit Go.Lib
/-- One known block is replaced. -/
theorem kn_put {X : List Nat} {w0 w w' : World} {L : List (Nat × Obj)} {i b : Nat} {ob ob' : Obj} (h : Kn X w0 w L) (hi : L[i]? = some (b, ob)) (e1 : w'.os = w.os) (e2 : w'.tape = w.tape) (e3 : w'.output = w.output) (e4 : w'.heap.size = w.heap.size)
  (e5 : w'.heap[b]? = some ob') (e6 : ∀ c, c ≠ b → w'.heap[c]? = w.heap[c]?) : Kn X w0 w' (L.set i (b, ob')) := by
 have hm : (b, ob) ∈ L := List.mem_of_getElem? hi
 have hkeys : ((L.set i (b, ob')).map (·.1)) = L.map (·.1) := by
  rw [List.map_set]
  apply List.ext_getElem?
  intro j
  rw [List.getElem?_set]
  split
  ·rename_i e; subst e
   split
   ·simp [hi]
   ·rename_i hn; simp at hn; simp [List.getElem?_eq_none hn]
  ·rfl
 have hmem : ∀ p ∈ L.set i (b, ob'), p = (b, ob') ∨ (p ∈ L ∧ p.1 ≠ b) := by
  intro p hp
  obtain ⟨j, hj⟩ := List.mem_iff_getElem?.1 hp
  rw [List.getElem?_set] at hj
  split at hj
  ·split at hj
   ·left; exact (Option.some.inj hj).symm
   ·cases hj
  ·rename_i hij
   right
   refine ⟨List.mem_of_getElem? hj, fun e => hij ?_⟩
   obtain ⟨hjl, hje⟩ := List.getElem?_eq_some_iff.1 hj
   obtain ⟨hil, hie⟩ := List.getElem?_eq_some_iff.1 hi
   have h1 : (L.map (·.1))[i]'(by simpa using hil) = (L.map (·.1))[j]'(by simpa using hjl) := by simp [hje, hie, e]
   exact (List.getElem_inj h.nd).1 h1
 refine ⟨e1.trans h.os, e2.trans h.tape, e3.trans h.output, by rw [e4]; exact h.size, fun d hd hx => ?_, fun p hp => ?_, fun p hp => ?_, by rw [hkeys]; exact h.nd⟩
 ·have hdb : d ≠ b := by
   rintro rfl
   rcases h.own _ hm with e | e
   ·exact absurd hd (by simpa using e)
   ·exact hx e
  rw [e6 d hdb]; exact h.block d hd hx
 ·rcases hmem p hp with rfl | ⟨hp, _⟩
  ·exact h.own (b, ob) hm
  ·exact h.own p hp
 ·rcases hmem p hp with rfl | ⟨hp, hne⟩
  ·exact e5
  ·rw [e6 p.1 hne]; exact h.has p hp
instance (priority := 3000) kn_iter_new (X : List Nat) (w0 w : World) (L : List (Nat × Obj)) (s : ByteArray) (k n : Nat) [h : Kn X w0 w L] [z : SizeIs w n] : Kn X w0 (w.iter s k) ((n, .stringIter s k) :: L) := by
 unfold World.iter; exact kn_alloc X w0 w L _ n
class IterIn (b : Nat) (s : ByteArray) (p : Nat) (L : List (Nat × Obj)) (L' : outParam (List (Nat × Obj))) : Prop where
 ex : ∃ i s0 k, L[i]? = some (b, .stringIter s0 k) ∧ L' = L.set i (b, .stringIter s p)
instance (priority := 2000) iterIn_head (b p : Nat) (s s0 : ByteArray) (k : Nat) (L : List (Nat × Obj)) : IterIn b s p ((b, .stringIter s0 k) :: L) ((b, .stringIter s p) :: L) := ⟨0, s0, k, rfl, rfl⟩
instance (priority := 1000) iterIn_tail (b p : Nat) (s : ByteArray) (q : Nat × Obj) (L L' : List (Nat × Obj)) [h : IterIn b s p L L'] : IterIn b s p (q :: L) (q :: L') := by
 obtain ⟨i, s0, k, h1, h2⟩ := h.ex
 exact ⟨i + 1, s0, k, by simpa using h1, by rw [h2]; rfl⟩
instance kn_iterAt (X : List Nat) (w0 w : World) (L L' : List (Nat × Obj)) (b p : Nat) (s : ByteArray) [h : Kn X w0 w L] [z : IterIn b s p L L'] : Kn X w0 (w.iterAt b s p) L' := by
 obtain ⟨i, s0, k, hi, rfl⟩ := z.ex
 have hl := lt_of_has (h.has _ (List.mem_of_getElem? hi))
 exact kn_put h hi rfl rfl rfl (iterAt_size w b s p) (by simp only at hl; simp [World.iterAt, hl]) (fun c hc => iterAt_other w b c s p hc)
instance sizeIs_iterAt (w : World) (b p n : Nat) (s : ByteArray) [h : SizeIs w n] : SizeIs (w.iterAt b s p) n := ⟨by rw [iterAt_size, h.eq]⟩
section
variable {P : Program} {X : List Nat} {w0 w : World} {L : List (Nat × Obj)} {b : Nat} {s : ByteArray} {pos : Nat}
theorem next_in (h : Kn X w0 w L) (hm : (b, Obj.stringIter s pos) ∈ L) (c : Nat) (hc : s.data[pos]? = some (UInt8.ofNat c)) (hlt : c < 128) (ty : TypeId) :
  (Instr.next (.pointer (some ⟨b, 0, none⟩)) true ty).run P w = .ok (.tuple #[.bool true, .int .i64 pos, .int .i32 c]) (w.iterAt b s (pos + 1)) := by
 obtain ⟨hl, he⟩ := Array.getElem?_eq_some_iff.1 hc
 have e : (s[pos]'hl).toNat = c := by
  show (s.data[pos]'hl).toNat = c
  rw [he]; simp; omega
 rw [run_next_ascii_at w b s pos ty (h.has _ hm) hl (by omega), e]
theorem next_out (h : Kn X w0 w L) (hm : (b, Obj.stringIter s pos) ∈ L) (hs : ¬ pos < s.size) (ty : TypeId) : (Instr.next (.pointer (some ⟨b, 0, none⟩)) true ty).run P w = .ok (.tuple #[.bool false]) w :=
 run_next_end_at w b s pos ty (h.has _ hm) hs
end
section
variable {P : Program} {ops : Array Oper} {fl br pu : Nat → Bool} {Q : Act → World → Prop} {Qp : List PanicEntry → World → Prop} {X : List Nat} {w0 : World} {L Lw : List (Nat × Obj)} {a : Act} {rest : List Nat} {i : Nat}
/-- Behind an operation that leaves something new, and turns nothing that was known: from here on all of it may be read. -/
theorem owedS (w' : World) {L' : List (Nat × Obj)} [k1 : Kn X w0 w' L'] (k2 : Lw.Sublist L') (k4 : ∀ (ι : Type) (F : ι → World) [Nonempty ι], (∀ w, Kn X w0 w L' → ∃ n, w = F n) → (∀ n, Kn X w0 (F n) L') → cwk P ops fl br pu Q Qp X w0 rest a L' L') : Owed P ops fl br pu Q Qp X w0 i rest a Lw w' := by
 obtain ⟨ι, F, hne, h1, h2⟩ := kn_fam X w0 L' ⟨w', k1⟩
 exact ⟨L', L', k1, List.Sublist.refl _, .inr k2, k4 ι F h1 h2⟩
end
end Go.Proofs.YtfdlifhkeicnnaaGreatDoor
