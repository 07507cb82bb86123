import Derived.Test.YtflfaobbfhjmmaaDoorProg
import Derived.WalkKit
import Derived.Handy
import Derived.Deep.Light
import Derived.WalkSmall
import Derived.StillTailTactics
import Derived.Lib.Hide
import Derived.Test.YtflfaobbfhjmmaaDoorT0
import Derived.Test.YtflfaobbfhjmmaaDoorIt
import Derived.Test.YtflfaobbfhjmmaaDoorL17
namespace Go.Proofs.YtflfaobbfhjmmaaDoor
open Go Go.RowKit
set_option linter.unusedSimpArgs false
set_option linter.unusedVariables false

theorem perm_cnt {α : Type} {L L' : List α} (h : ∀ p : α → Bool, L.countP p = L'.countP p) : L.Perm L' := by
  classical exact List.perm_iff_count.2 fun a => h (· == a)
theorem Kn.perm {X : List Nat} {w0 W : World} {L L' : List (Nat × Obj)} (h : Kn X w0 W L) (hp : ∀ p : Nat × Obj → Bool, L.countP p = L'.countP p) : Kn X w0 W L' :=
  h.pick (fun p hm => (perm_cnt hp).mem_iff.2 hm) (((perm_cnt hp).map (·.1)).nodup_iff.1 h.nd)
theorem kn_eq {X : List Nat} {w0 W : World} {L0 L : List (Nat × Obj)} [h : Kn X w0 W L0] (e : L0 = L) : Kn X w0 W L := e ▸ h
theorem Kn.selfbqR {X : List Nat} {w0 W : World} {b q : Nat} {o o' : Obj} {LP R : List (Nat × Obj)} (h : Kn X w0 W ((b, o) :: (q, o') :: (LP ++ R))) : Kn (b :: q :: keys LP) W W ((b, o) :: (q, o') :: LP) := Kn.self (P := (b, o) :: (q, o') :: LP) [] R h
theorem Kn.joinbqR {X : List Nat} {w0 W W' : World} {b q : Nat} {o o' : Obj} {LP R L' : List (Nat × Obj)} (h : Kn X w0 W ((b, o) :: (q, o') :: (LP ++ R))) (k : Kn (b :: q :: keys LP) W W' L') : Kn X w0 W' (L' ++ R) := Kn.joinA (P := (b, o) :: (q, o') :: LP) [] R h k
theorem OutL.full {LO : List (Nat × Obj)} {v : Value} {tvs : List (Tok × Value)} (h : OutL LO v tvs) : v.oneCell' = true := by
  rcases h with ⟨_, rfl, _⟩ | ⟨g, cap, cur, _, rfl, _⟩ <;> rfl
theorem tkv_bs (kd : Nat) (tx p : ByteArray) (pv : Value) (ps : List Prt) (fd : Int) (n : Nat) : tkv (⟨kd, tx.data.toList, p.data.toList, ps, fd, n⟩, pv) = .agg #[.int .i64 kd, .string tx, .string p, pv, .int .i64 fd, .int .i64 n] := by
  unfold tkv tkc
  simp [bs]
theorem add_any (src : ByteArray) (hs0 : src.size ≤ 10000) (v : Value) (b : Nat) (at_ ln : Nat) (w : World) (LO : List (Nat × Obj)) (tvs : List (Tok × Value)) (hL : Kn (b :: keys LO) w w ((b, .cells #[.string src, .int .i64 (at_), .int .i64 (ln), v] 43 (0, 0)) :: LO)) (hO : OutL LO v tvs) (hln : ln ≤ 100000) (kd : Nat) (tx p : ByteArray) (pv : Value) (hpv : pv.oneCell' = true) (ps : List Prt) (fd : Int) (n : Nat) (k l : Int) (hk : k = kd) (hl : l = n) (hf : tvs.length < 2000) :
    Calls Tryd.prog 24 #[.pointer (some ⟨b, 0, none⟩), .agg #[.int .i64 k, .string tx, .string p, pv, .int .i64 fd, .int .i64 l]] w fun e w' => e = .returned (.tuple #[]) ∧ ∃ v' LO', OutL LO' v' (tvs ++ [(⟨kd, tx.data.toList, p.data.toList, ps, fd, n⟩, pv)]) ∧ Kn (b :: keys LO) w w' ((b, .cells #[.string src, .int .i64 (at_), .int .i64 (ln), v'] 43 (0, 0)) :: LO') := by
  subst hk; subst hl
  rw [← tkv_bs kd tx p pv ps fd n]
  exact add_ok src at_ ln v b w LO tvs hL hO (⟨kd, tx.data.toList, p.data.toList, ps, fd, n⟩, pv) hpv hf
theorem add_not (src : ByteArray) (hs0 : src.size ≤ 10000) (v : Value) (b : Nat) (at_ ln : Nat) (w : World) (LO : List (Nat × Obj)) (tvs : List (Tok × Value)) (hL : Kn (b :: keys LO) w w ((b, .cells #[.string src, .int .i64 (at_), .int .i64 (ln), v] 43 (0, 0)) :: LO)) (hO : OutL LO v tvs) (hln : ln ≤ 100000) (kd : Nat) (tx p : ByteArray) (pv : Value) (fd : Int) (n : Nat) (k l : Int) (hk : k = kd) (hl : l = n) (hf : ¬ tvs.length < 2000) :
    Calls Tryd.prog 24 #[.pointer (some ⟨b, 0, none⟩), .agg #[.int .i64 k, .string tx, .string p, pv, .int .i64 fd, .int .i64 l]] w fun e w' => e = .panicked [{ v := .iface 39 (.agg #[.int .i64 6, .int .i64 n]), recovered := false }] ∧ Kn (b :: keys LO) w w' [] := by
  subst hk; subst hl
  rw [← tkv_bs kd tx p pv [] fd n]
  exact add_full src at_ ln v b w LO tvs hL hO (⟨kd, tx.data.toList, p.data.toList, [], fd, n⟩, pv) (by omega)

end Go.Proofs.YtflfaobbfhjmmaaDoor
