import Derived.Test.YtflfaobbfhjmmaaDoorProg
import Derived.WalkKit
import Derived.Handy
import Derived.Deep.Light
import Derived.WalkSmall
import Derived.StillTailTactics
import Derived.Lib.Hide
import Derived.Test.YtflfaobbfhjmmaaDoorT0
import Derived.Test.YtflfaobbfhjmmaaDoorIt
import Derived.Test.YtflfaobbfhjmmaaDoorL11
import Derived.Test.YtflfaobbfhjmmaaDoorL12
import Derived.Test.YtflfaobbfhjmmaaDoorL13
import Derived.Test.YtflfaobbfhjmmaaDoorL14
namespace Go.Proofs.YtflfaobbfhjmmaaDoor
open Go Go.RowKit
set_option linter.unusedSimpArgs false
set_option linter.unusedVariables false

theorem dollar_is (src : ByteArray) (hs : src.size ≤ 100000) (v : Value) (b q : Nat) (at_ ln : Nat) (pv : Value) (LP : List (Nat × Obj)) (ps : List Prt) (w : World) (hL : Kn (b :: q :: keys LP) w w ((b, .cells #[.string src, .int .i64 (at_), .int .i64 (ln), v] 43 (0, 0)) :: (q, .cells #[pv] 51 (0, 0)) :: LP)) (hP : PtL LP pv ps) (hln : ln ≤ 100000) (hn : ps.length ≤ 50000) (ht : tot ps ≤ 500000) (qd : Bool) (s : Bytes) (hd : src.data.toList.drop at_ = 36 :: s) : Calls Tryd.prog 36 #[.pointer (some ⟨b, 0, none⟩), .pointer (some ⟨q, 0, none⟩), .bool qd] w (SPost src v b q (b :: q :: keys LP) w (dollar ps s ln qd)) := by
  by_cases h40 : s.head? = some 40
  · cases s with
    | nil => cases h40
    | cons c t =>
      simp only [List.head?_cons, Option.some.injEq] at h40
      subst h40
      exact dollar_sub src hs v b q at_ ln pv LP ps w hL hP hln hn ht qd (40 :: t) t hd
  by_cases h123 : s.head? = some 123
  · cases s with
    | nil => cases h123
    | cons c t =>
      simp only [List.head?_cons, Option.some.injEq] at h123
      subst h123
      exact dollar_brace src hs v b q at_ ln pv LP ps w hL hP hln hn ht qd (123 :: t) t hd rfl
  by_cases hp : 0 < param s
  · exact dollar_param src hs v b q at_ ln pv LP ps w hL hP hln hn ht qd s hd h40 h123 hp
  · exact dollar_text src hs v b q at_ ln pv LP ps w hL hP hln hn ht qd s hd h40 h123 hp

end Go.Proofs.YtflfaobbfhjmmaaDoor
