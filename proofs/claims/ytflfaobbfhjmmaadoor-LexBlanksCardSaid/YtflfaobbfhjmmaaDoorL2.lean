import Derived.Test.YtflfaobbfhjmmaaDoorProg
import Derived.WalkKit
import Derived.Handy
import Derived.Deep.Light
import Derived.WalkSmall
import Derived.StillTailTactics
import Derived.Lib.Hide
import Derived.Test.YtflfaobbfhjmmaaDoorT0
import Derived.Test.YtflfaobbfhjmmaaDoorIt
import Derived.Test.YtflfaobbfhjmmaaDoorLxK
import Derived.Test.YtflfaobbfhjmmaaDoorL1
import Derived.IntWalk
import Derived.WalkLawsBesides
namespace Go.Proofs.YtflfaobbfhjmmaaDoor
open Go Go.RowKit
set_option linter.unusedSimpArgs false
set_option linter.unusedVariables false

def bs (l : Bytes) : Value := .string ⟨l.toArray⟩
/-- The cells of a token, whose parts are v. -/
def tkc (x : Tok × Value) : List Value := [.int .i64 x.1.kind, bs x.1.text, bs x.1.plain, x.2, .int .i64 x.1.fd, .int .i64 x.1.line]
def tkv (x : Tok × Value) : Value := .agg (tkc x).toArray
def OutL (LO : List (Nat × Obj)) (v : Value) (tvs : List (Tok × Value)) : Prop :=
  (LO = [] ∧ v = .slice none 0 0 ∧ tvs = []) ∨ ∃ g cap cur, LO = [(g, .cells cur 31 (0, 0))] ∧ v = .slice (some ⟨g, 0, none⟩) tvs.length cap ∧ RowB 6 cur cap tvs.length (tvs.flatMap tkc)
set_option maxRecDepth 20000 in
set_option maxHeartbeats 4000000 in
theorem add_full (src : ByteArray) (at_ line : Int) (v : Value) (b : Nat) (w : World) (LO : List (Nat × Obj)) (tvs : List (Tok × Value)) (hL : Kn (b :: keys LO) w w ((b, .cells #[.string src, .int .i64 (at_), .int .i64 (line), v] 43 (0, 0)) :: LO)) (hO : OutL LO v tvs) (tv : Tok × Value) (hfull : 2000 ≤ tvs.length) :
    Calls Tryd.prog 24 #[.pointer (some ⟨b, 0, none⟩), tkv tv] w fun e w' => e = .panicked [{ v := .iface 39 (.agg #[.int .i64 6, .int .i64 tv.1.line]), recovered := false }] ∧ Kn (b :: keys LO) w w' [] := by
  rcases hO with ⟨_, _, rfl⟩ | ⟨g, cap, cur, rfl, rfl, hr⟩
  · simp at hfull
  have HR := Lib.hid hr
  have e1 : decide ((tvs.length : Int) ≥ 2000) = true := by simp; omega
  obtain ⟨n, hn⟩ : ∃ n, tvs.length = n := ⟨_, rfl⟩
  rw [hn] at e1
  clear hr
  (try simp only [kfb] at hL); have hF := hL.facts; (try simp only [Facts, Dist, kfa, implies_true, forall_const] at hF)
  go_enter Tryd.func24, Tryd.ntmps24
  unfold tkv tkc
  go_wp2
  exact ⟨rfl, rfl, kn_here.sub (List.nil_sublist _)⟩

end Go.Proofs.YtflfaobbfhjmmaaDoor
