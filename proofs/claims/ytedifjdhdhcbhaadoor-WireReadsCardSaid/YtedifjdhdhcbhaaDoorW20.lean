import Derived.Test.YtedifjdhdhcbhaaDoorProg
import Derived.WalkKit
import Derived.Handy
import Derived.Deep.Light
import Derived.WalkSmall
import Derived.StillTailTactics
import Derived.Lib.Hide
import Derived.Test.YtedifjdhdhcbhaaDoorW0
import Derived.Test.YtedifjdhdhcbhaaDoorIt
import Derived.Test.YtedifjdhdhcbhaaDoorW19
namespace Go.Proofs.YtedifjdhdhcbhaaDoor
open Go Go.RowKit
set_option linter.unusedSimpArgs false
set_option linter.unusedVariables false

theorem writes_any (v : Val) (w : World) (hT : Tab w) (hv : ValIn w v) : Calls Tryd.prog 3 #[.agg #[.int .i64 v.k, .int .i64 v.n, .string v.s, v.lv, v.tv]] w fun e w' => e = .returned (.bool true) ∧ Below w.heap.size w w' := by
  have hn := hv.n
  have hls := hv.ls
  refine writes_walk v w hT hv ⟨(encNum v.n).toArray⟩ ⟨(encInt v.n).toArray⟩ ⟨(encT v.s).toArray⟩ ⟨(encNums v.l).toArray⟩ ⟨(encTexts (v.t.map fun x => x.data.toList)).toArray⟩ (fun hf => ?_)
  obtain ⟨f1, f2, f3, f4⟩ := hf
  have b1 : (v.l.flatMap encInt).length ≤ 100000000 := by
    have := flat_le encInt 21 v.l (fun x hx => int_len (hls x hx)); omega
  have hb : ∀ s ∈ v.t.map fun x => x.data.toList, s.length ≤ 400 := fun s hs => by
    obtain ⟨x, hx, rfl⟩ := List.mem_map.1 hs
    have := f4 x hx
    simpa using this
  have b2 : ((v.t.map fun x => x.data.toList).flatMap encText).length ≤ 100000000 := by
    have := flat_le encText 422 (v.t.map fun x => x.data.toList) (fun x hx => by have := hb x hx; have := text_len (s := x) (by omega); omega)
    rw [List.length_map] at this; omega
  have hr : ∀ {x : Value} {W : World}, Row W x (v.t.map fun x => .string x) → Row W x ((v.t.map fun x => x.data.toList).map fun x => .string ⟨x.toArray⟩) := fun h => by rw [← bytes_row]; exact h
  exact ⟨Lib.hid fun W h => Num_enc _ hn.1 hn.2 W h, Lib.hid fun W => refNum_enc _ hn.1 hn.2 W, Lib.hid fun W h => Int_enc _ hn.1 hn.2 W h, Lib.hid fun W => refInt_enc _ hn.1 hn.2 W,
    Lib.hid fun W h => Text_enc _ (by omega) W h, Lib.hid fun W => refText_enc _ (by omega) W, Lib.hid fun x W h r => Nums_enc _ hls x W h r (by omega) b1, Lib.hid fun x W r => refNums_enc _ hls x W r (by omega) b1,
    Lib.hid fun x W h r => Texts_enc2 _ (fun s hs => by have := hb s hs; omega) x W h (hr r) (by rw [List.length_map]; omega) b2,
    Lib.hid fun x W r => refTexts_enc _ (fun s hs => by have := hb s hs; omega) x W (hr r) (by rw [List.length_map]; omega) b2⟩

end Go.Proofs.YtedifjdhdhcbhaaDoor
