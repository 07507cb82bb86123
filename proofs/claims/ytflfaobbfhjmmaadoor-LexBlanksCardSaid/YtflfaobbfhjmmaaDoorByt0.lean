/- Strings as lists of bytes. Of no program. -/
import Derived.Test.YtflfaobbfhjmmaaDoorNum
import Derived.Lib.Bytealg
namespace Go.Proofs.YtflfaobbfhjmmaaDoor
open Go
theorem szl (x : ByteArray) : x.data.toList.length = x.size := by simp
theorem ba_ext {x y : ByteArray} (h : x.data.toList = y.data.toList) : x = y := by
  cases x; cases y; congr 1; exact Array.toList_inj.1 h
theorem ext_list (s : ByteArray) (i j : Nat) : (s.extract i j).data.toList = (s.data.toList.take j).drop i := by
  rw [ByteArray.data_extract, Array.toList_extract]
  simp [List.extract, List.drop_take]
theorem byte_at {s : ByteArray} {i : Nat} {c : UInt8} (h : s.data.toList[i]? = some c) (hi : i < s.size) : s[i]'hi = c := by
  have h1 : s.data.toList[i]? = some (s[i]'hi) := by
    rw [List.getElem?_eq_getElem (by simpa using hi)]
    rfl
  rw [h] at h1; exact (Option.some.inj h1).symm
end Go.Proofs.YtflfaobbfhjmmaaDoor
