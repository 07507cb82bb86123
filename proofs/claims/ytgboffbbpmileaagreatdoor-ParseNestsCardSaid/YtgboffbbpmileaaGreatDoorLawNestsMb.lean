/- Lemmas and walks for the law VLawNests (part 29). -/
import Derived.Test.YtgboffbbpmileaaGreatDoorLawNestsMa
import Derived.Test.YtgboffbbpmileaaGreatDoorProg
import Derived.WalkKit
import Derived.Handy
import Derived.Deep.Light
import Derived.WalkSmall
import Derived.StillTailTactics
import Derived.Lib.Hide
set_option maxRecDepth 20000
set_option maxHeartbeats 4000000
set_option linter.unusedVariables false
set_option linter.unusedSimpArgs false
namespace Go.Proofs.YtgboffbbpmileaaGreatDoor
open Go Go.RowKit
theorem nests_main (a : ByteArray) (hs : a.size ≤ 1000) (ho : (a.data.toList.getLast? == some 92) = false) (x : List Nd) (hx : x ≠ []) (hpa : parseB a.data.toList = .ok x) (w : World) (hT : TabP w) : Calls Tryz.prog 6 #[.string a] w fun e w' => e = .returned (.bool true) ∧ Below w.heap.size w w' := by
 have HT := Lib.hid hT
 have hmax : IntKind.i64.max = 9223372036854775807 := rfl
 have q0 : decide ((1000 : Int) < (a.size : Int)) = false := decide_eq_false (by omega)
 obtain ⟨nx, hnx⟩ : ∃ n, x.length = n := ⟨_, rfl⟩
 have hx0 : 0 < x.length := List.length_pos_iff.2 hx
 have q1 : ((nx : Int) == 0) = false := by rw [beq_eq_false_iff_ne]; omega
 have HO := Lib.hid ho
 have HPA := Lib.hid hpa
 have HXN := Lib.hid hx
 have HPa := Lib.hid (fun W => parse_ok_c a (by omega) x nx hpa hnx W)
 have HSM : Hid (Sm 100000 (.mk 4 [] false [] [] [] x)) := Lib.hid (by
  obtain ⟨a1, a2⟩ := parseB_sm (by rw [szl]; omega) hpa
  exact .mk _ _ _ _ _ _ _ (Nat.zero_le _) (fun x hx => absurd hx List.not_mem_nil) (Nat.zero_le _) (fun x hx => absurd hx List.not_mem_nil) (Nat.zero_le _) (fun x hx => absurd hx List.not_mem_nil) (by omega) (fun y hy => (a2 y hy).mono (by omega)))
 have m0 : ¬ IntKind.i64.max < (((⟨#[40, 32]⟩ : ByteArray).size + a.size : Nat) : Int) := by simp only [hmax, ByteArray.size_append, show (⟨#[10, 100, 111, 110, 101]⟩ : ByteArray).size = 5 from rfl, show (⟨#[10, 100, 111, 32]⟩ : ByteArray).size = 4 from rfl, show (⟨#[10, 102, 105]⟩ : ByteArray).size = 3 from rfl, show (⟨#[10, 116, 104, 101, 110, 32]⟩ : ByteArray).size = 6 from rfl, show (⟨#[10, 125]⟩ : ByteArray).size = 2 from rfl, show (⟨#[10, 41]⟩ : ByteArray).size = 2 from rfl, show (⟨#[10, 59, 59, 10, 101, 115, 97, 99]⟩ : ByteArray).size = 8 from rfl, show (⟨#[102, 111, 114, 32, 105, 32, 105, 110, 32, 49, 32, 50, 10, 100, 111, 32]⟩ : ByteArray).size = 16 from rfl, show (⟨#[102, 40, 41, 32, 123, 32]⟩ : ByteArray).size = 6 from rfl, show (⟨#[105, 102, 32]⟩ : ByteArray).size = 3 from rfl, show (⟨#[117, 110, 116, 105, 108, 32]⟩ : ByteArray).size = 6 from rfl, show (⟨#[119, 104, 105, 108, 101, 32]⟩ : ByteArray).size = 6 from rfl, show (⟨#[123, 32]⟩ : ByteArray).size = 2 from rfl, show (⟨#[40, 32]⟩ : ByteArray).size = 2 from rfl, show (⟨#[99, 97, 115, 101, 32, 120, 32, 105, 110, 10, 40, 120, 41, 32]⟩ : ByteArray).size = 14 from rfl]; omega
 have m1 : ¬ IntKind.i64.max < ((((⟨#[40, 32]⟩ : ByteArray) ++ a).size + (⟨#[10, 41]⟩ : ByteArray).size : Nat) : Int) := by simp only [hmax, ByteArray.size_append, show (⟨#[10, 100, 111, 110, 101]⟩ : ByteArray).size = 5 from rfl, show (⟨#[10, 100, 111, 32]⟩ : ByteArray).size = 4 from rfl, show (⟨#[10, 102, 105]⟩ : ByteArray).size = 3 from rfl, show (⟨#[10, 116, 104, 101, 110, 32]⟩ : ByteArray).size = 6 from rfl, show (⟨#[10, 125]⟩ : ByteArray).size = 2 from rfl, show (⟨#[10, 41]⟩ : ByteArray).size = 2 from rfl, show (⟨#[10, 59, 59, 10, 101, 115, 97, 99]⟩ : ByteArray).size = 8 from rfl, show (⟨#[102, 111, 114, 32, 105, 32, 105, 110, 32, 49, 32, 50, 10, 100, 111, 32]⟩ : ByteArray).size = 16 from rfl, show (⟨#[102, 40, 41, 32, 123, 32]⟩ : ByteArray).size = 6 from rfl, show (⟨#[105, 102, 32]⟩ : ByteArray).size = 3 from rfl, show (⟨#[117, 110, 116, 105, 108, 32]⟩ : ByteArray).size = 6 from rfl, show (⟨#[119, 104, 105, 108, 101, 32]⟩ : ByteArray).size = 6 from rfl, show (⟨#[123, 32]⟩ : ByteArray).size = 2 from rfl, show (⟨#[40, 32]⟩ : ByteArray).size = 2 from rfl, show (⟨#[99, 97, 115, 101, 32, 120, 32, 105, 110, 10, 40, 120, 41, 32]⟩ : ByteArray).size = 14 from rfl]; omega
 have m2 : ¬ IntKind.i64.max < (((⟨#[123, 32]⟩ : ByteArray).size + a.size : Nat) : Int) := by simp only [hmax, ByteArray.size_append, show (⟨#[10, 100, 111, 110, 101]⟩ : ByteArray).size = 5 from rfl, show (⟨#[10, 100, 111, 32]⟩ : ByteArray).size = 4 from rfl, show (⟨#[10, 102, 105]⟩ : ByteArray).size = 3 from rfl, show (⟨#[10, 116, 104, 101, 110, 32]⟩ : ByteArray).size = 6 from rfl, show (⟨#[10, 125]⟩ : ByteArray).size = 2 from rfl, show (⟨#[10, 41]⟩ : ByteArray).size = 2 from rfl, show (⟨#[10, 59, 59, 10, 101, 115, 97, 99]⟩ : ByteArray).size = 8 from rfl, show (⟨#[102, 111, 114, 32, 105, 32, 105, 110, 32, 49, 32, 50, 10, 100, 111, 32]⟩ : ByteArray).size = 16 from rfl, show (⟨#[102, 40, 41, 32, 123, 32]⟩ : ByteArray).size = 6 from rfl, show (⟨#[105, 102, 32]⟩ : ByteArray).size = 3 from rfl, show (⟨#[117, 110, 116, 105, 108, 32]⟩ : ByteArray).size = 6 from rfl, show (⟨#[119, 104, 105, 108, 101, 32]⟩ : ByteArray).size = 6 from rfl, show (⟨#[123, 32]⟩ : ByteArray).size = 2 from rfl, show (⟨#[40, 32]⟩ : ByteArray).size = 2 from rfl, show (⟨#[99, 97, 115, 101, 32, 120, 32, 105, 110, 10, 40, 120, 41, 32]⟩ : ByteArray).size = 14 from rfl]; omega
 have m3 : ¬ IntKind.i64.max < ((((⟨#[123, 32]⟩ : ByteArray) ++ a).size + (⟨#[10, 125]⟩ : ByteArray).size : Nat) : Int) := by simp only [hmax, ByteArray.size_append, show (⟨#[10, 100, 111, 110, 101]⟩ : ByteArray).size = 5 from rfl, show (⟨#[10, 100, 111, 32]⟩ : ByteArray).size = 4 from rfl, show (⟨#[10, 102, 105]⟩ : ByteArray).size = 3 from rfl, show (⟨#[10, 116, 104, 101, 110, 32]⟩ : ByteArray).size = 6 from rfl, show (⟨#[10, 125]⟩ : ByteArray).size = 2 from rfl, show (⟨#[10, 41]⟩ : ByteArray).size = 2 from rfl, show (⟨#[10, 59, 59, 10, 101, 115, 97, 99]⟩ : ByteArray).size = 8 from rfl, show (⟨#[102, 111, 114, 32, 105, 32, 105, 110, 32, 49, 32, 50, 10, 100, 111, 32]⟩ : ByteArray).size = 16 from rfl, show (⟨#[102, 40, 41, 32, 123, 32]⟩ : ByteArray).size = 6 from rfl, show (⟨#[105, 102, 32]⟩ : ByteArray).size = 3 from rfl, show (⟨#[117, 110, 116, 105, 108, 32]⟩ : ByteArray).size = 6 from rfl, show (⟨#[119, 104, 105, 108, 101, 32]⟩ : ByteArray).size = 6 from rfl, show (⟨#[123, 32]⟩ : ByteArray).size = 2 from rfl, show (⟨#[40, 32]⟩ : ByteArray).size = 2 from rfl, show (⟨#[99, 97, 115, 101, 32, 120, 32, 105, 110, 10, 40, 120, 41, 32]⟩ : ByteArray).size = 14 from rfl]; omega
 have m4 : ¬ IntKind.i64.max < (((⟨#[105, 102, 32]⟩ : ByteArray).size + a.size : Nat) : Int) := by simp only [hmax, ByteArray.size_append, show (⟨#[10, 100, 111, 110, 101]⟩ : ByteArray).size = 5 from rfl, show (⟨#[10, 100, 111, 32]⟩ : ByteArray).size = 4 from rfl, show (⟨#[10, 102, 105]⟩ : ByteArray).size = 3 from rfl, show (⟨#[10, 116, 104, 101, 110, 32]⟩ : ByteArray).size = 6 from rfl, show (⟨#[10, 125]⟩ : ByteArray).size = 2 from rfl, show (⟨#[10, 41]⟩ : ByteArray).size = 2 from rfl, show (⟨#[10, 59, 59, 10, 101, 115, 97, 99]⟩ : ByteArray).size = 8 from rfl, show (⟨#[102, 111, 114, 32, 105, 32, 105, 110, 32, 49, 32, 50, 10, 100, 111, 32]⟩ : ByteArray).size = 16 from rfl, show (⟨#[102, 40, 41, 32, 123, 32]⟩ : ByteArray).size = 6 from rfl, show (⟨#[105, 102, 32]⟩ : ByteArray).size = 3 from rfl, show (⟨#[117, 110, 116, 105, 108, 32]⟩ : ByteArray).size = 6 from rfl, show (⟨#[119, 104, 105, 108, 101, 32]⟩ : ByteArray).size = 6 from rfl, show (⟨#[123, 32]⟩ : ByteArray).size = 2 from rfl, show (⟨#[40, 32]⟩ : ByteArray).size = 2 from rfl, show (⟨#[99, 97, 115, 101, 32, 120, 32, 105, 110, 10, 40, 120, 41, 32]⟩ : ByteArray).size = 14 from rfl]; omega
 have m5 : ¬ IntKind.i64.max < ((((⟨#[105, 102, 32]⟩ : ByteArray) ++ a).size + (⟨#[10, 116, 104, 101, 110, 32]⟩ : ByteArray).size : Nat) : Int) := by simp only [hmax, ByteArray.size_append, show (⟨#[10, 100, 111, 110, 101]⟩ : ByteArray).size = 5 from rfl, show (⟨#[10, 100, 111, 32]⟩ : ByteArray).size = 4 from rfl, show (⟨#[10, 102, 105]⟩ : ByteArray).size = 3 from rfl, show (⟨#[10, 116, 104, 101, 110, 32]⟩ : ByteArray).size = 6 from rfl, show (⟨#[10, 125]⟩ : ByteArray).size = 2 from rfl, show (⟨#[10, 41]⟩ : ByteArray).size = 2 from rfl, show (⟨#[10, 59, 59, 10, 101, 115, 97, 99]⟩ : ByteArray).size = 8 from rfl, show (⟨#[102, 111, 114, 32, 105, 32, 105, 110, 32, 49, 32, 50, 10, 100, 111, 32]⟩ : ByteArray).size = 16 from rfl, show (⟨#[102, 40, 41, 32, 123, 32]⟩ : ByteArray).size = 6 from rfl, show (⟨#[105, 102, 32]⟩ : ByteArray).size = 3 from rfl, show (⟨#[117, 110, 116, 105, 108, 32]⟩ : ByteArray).size = 6 from rfl, show (⟨#[119, 104, 105, 108, 101, 32]⟩ : ByteArray).size = 6 from rfl, show (⟨#[123, 32]⟩ : ByteArray).size = 2 from rfl, show (⟨#[40, 32]⟩ : ByteArray).size = 2 from rfl, show (⟨#[99, 97, 115, 101, 32, 120, 32, 105, 110, 10, 40, 120, 41, 32]⟩ : ByteArray).size = 14 from rfl]; omega
 have m6 : ¬ IntKind.i64.max < (((((⟨#[105, 102, 32]⟩ : ByteArray) ++ a) ++ (⟨#[10, 116, 104, 101, 110, 32]⟩ : ByteArray)).size + a.size : Nat) : Int) := by simp only [hmax, ByteArray.size_append, show (⟨#[10, 100, 111, 110, 101]⟩ : ByteArray).size = 5 from rfl, show (⟨#[10, 100, 111, 32]⟩ : ByteArray).size = 4 from rfl, show (⟨#[10, 102, 105]⟩ : ByteArray).size = 3 from rfl, show (⟨#[10, 116, 104, 101, 110, 32]⟩ : ByteArray).size = 6 from rfl, show (⟨#[10, 125]⟩ : ByteArray).size = 2 from rfl, show (⟨#[10, 41]⟩ : ByteArray).size = 2 from rfl, show (⟨#[10, 59, 59, 10, 101, 115, 97, 99]⟩ : ByteArray).size = 8 from rfl, show (⟨#[102, 111, 114, 32, 105, 32, 105, 110, 32, 49, 32, 50, 10, 100, 111, 32]⟩ : ByteArray).size = 16 from rfl, show (⟨#[102, 40, 41, 32, 123, 32]⟩ : ByteArray).size = 6 from rfl, show (⟨#[105, 102, 32]⟩ : ByteArray).size = 3 from rfl, show (⟨#[117, 110, 116, 105, 108, 32]⟩ : ByteArray).size = 6 from rfl, show (⟨#[119, 104, 105, 108, 101, 32]⟩ : ByteArray).size = 6 from rfl, show (⟨#[123, 32]⟩ : ByteArray).size = 2 from rfl, show (⟨#[40, 32]⟩ : ByteArray).size = 2 from rfl, show (⟨#[99, 97, 115, 101, 32, 120, 32, 105, 110, 10, 40, 120, 41, 32]⟩ : ByteArray).size = 14 from rfl]; omega
 have m7 : ¬ IntKind.i64.max < ((((((⟨#[105, 102, 32]⟩ : ByteArray) ++ a) ++ (⟨#[10, 116, 104, 101, 110, 32]⟩ : ByteArray)) ++ a).size + (⟨#[10, 102, 105]⟩ : ByteArray).size : Nat) : Int) := by simp only [hmax, ByteArray.size_append, show (⟨#[10, 100, 111, 110, 101]⟩ : ByteArray).size = 5 from rfl, show (⟨#[10, 100, 111, 32]⟩ : ByteArray).size = 4 from rfl, show (⟨#[10, 102, 105]⟩ : ByteArray).size = 3 from rfl, show (⟨#[10, 116, 104, 101, 110, 32]⟩ : ByteArray).size = 6 from rfl, show (⟨#[10, 125]⟩ : ByteArray).size = 2 from rfl, show (⟨#[10, 41]⟩ : ByteArray).size = 2 from rfl, show (⟨#[10, 59, 59, 10, 101, 115, 97, 99]⟩ : ByteArray).size = 8 from rfl, show (⟨#[102, 111, 114, 32, 105, 32, 105, 110, 32, 49, 32, 50, 10, 100, 111, 32]⟩ : ByteArray).size = 16 from rfl, show (⟨#[102, 40, 41, 32, 123, 32]⟩ : ByteArray).size = 6 from rfl, show (⟨#[105, 102, 32]⟩ : ByteArray).size = 3 from rfl, show (⟨#[117, 110, 116, 105, 108, 32]⟩ : ByteArray).size = 6 from rfl, show (⟨#[119, 104, 105, 108, 101, 32]⟩ : ByteArray).size = 6 from rfl, show (⟨#[123, 32]⟩ : ByteArray).size = 2 from rfl, show (⟨#[40, 32]⟩ : ByteArray).size = 2 from rfl, show (⟨#[99, 97, 115, 101, 32, 120, 32, 105, 110, 10, 40, 120, 41, 32]⟩ : ByteArray).size = 14 from rfl]; omega
 have m8 : ¬ IntKind.i64.max < (((⟨#[119, 104, 105, 108, 101, 32]⟩ : ByteArray).size + a.size : Nat) : Int) := by simp only [hmax, ByteArray.size_append, show (⟨#[10, 100, 111, 110, 101]⟩ : ByteArray).size = 5 from rfl, show (⟨#[10, 100, 111, 32]⟩ : ByteArray).size = 4 from rfl, show (⟨#[10, 102, 105]⟩ : ByteArray).size = 3 from rfl, show (⟨#[10, 116, 104, 101, 110, 32]⟩ : ByteArray).size = 6 from rfl, show (⟨#[10, 125]⟩ : ByteArray).size = 2 from rfl, show (⟨#[10, 41]⟩ : ByteArray).size = 2 from rfl, show (⟨#[10, 59, 59, 10, 101, 115, 97, 99]⟩ : ByteArray).size = 8 from rfl, show (⟨#[102, 111, 114, 32, 105, 32, 105, 110, 32, 49, 32, 50, 10, 100, 111, 32]⟩ : ByteArray).size = 16 from rfl, show (⟨#[102, 40, 41, 32, 123, 32]⟩ : ByteArray).size = 6 from rfl, show (⟨#[105, 102, 32]⟩ : ByteArray).size = 3 from rfl, show (⟨#[117, 110, 116, 105, 108, 32]⟩ : ByteArray).size = 6 from rfl, show (⟨#[119, 104, 105, 108, 101, 32]⟩ : ByteArray).size = 6 from rfl, show (⟨#[123, 32]⟩ : ByteArray).size = 2 from rfl, show (⟨#[40, 32]⟩ : ByteArray).size = 2 from rfl, show (⟨#[99, 97, 115, 101, 32, 120, 32, 105, 110, 10, 40, 120, 41, 32]⟩ : ByteArray).size = 14 from rfl]; omega
 have m9 : ¬ IntKind.i64.max < ((((⟨#[119, 104, 105, 108, 101, 32]⟩ : ByteArray) ++ a).size + (⟨#[10, 100, 111, 32]⟩ : ByteArray).size : Nat) : Int) := by simp only [hmax, ByteArray.size_append, show (⟨#[10, 100, 111, 110, 101]⟩ : ByteArray).size = 5 from rfl, show (⟨#[10, 100, 111, 32]⟩ : ByteArray).size = 4 from rfl, show (⟨#[10, 102, 105]⟩ : ByteArray).size = 3 from rfl, show (⟨#[10, 116, 104, 101, 110, 32]⟩ : ByteArray).size = 6 from rfl, show (⟨#[10, 125]⟩ : ByteArray).size = 2 from rfl, show (⟨#[10, 41]⟩ : ByteArray).size = 2 from rfl, show (⟨#[10, 59, 59, 10, 101, 115, 97, 99]⟩ : ByteArray).size = 8 from rfl, show (⟨#[102, 111, 114, 32, 105, 32, 105, 110, 32, 49, 32, 50, 10, 100, 111, 32]⟩ : ByteArray).size = 16 from rfl, show (⟨#[102, 40, 41, 32, 123, 32]⟩ : ByteArray).size = 6 from rfl, show (⟨#[105, 102, 32]⟩ : ByteArray).size = 3 from rfl, show (⟨#[117, 110, 116, 105, 108, 32]⟩ : ByteArray).size = 6 from rfl, show (⟨#[119, 104, 105, 108, 101, 32]⟩ : ByteArray).size = 6 from rfl, show (⟨#[123, 32]⟩ : ByteArray).size = 2 from rfl, show (⟨#[40, 32]⟩ : ByteArray).size = 2 from rfl, show (⟨#[99, 97, 115, 101, 32, 120, 32, 105, 110, 10, 40, 120, 41, 32]⟩ : ByteArray).size = 14 from rfl]; omega
 have m10 : ¬ IntKind.i64.max < (((((⟨#[119, 104, 105, 108, 101, 32]⟩ : ByteArray) ++ a) ++ (⟨#[10, 100, 111, 32]⟩ : ByteArray)).size + a.size : Nat) : Int) := by simp only [hmax, ByteArray.size_append, show (⟨#[10, 100, 111, 110, 101]⟩ : ByteArray).size = 5 from rfl, show (⟨#[10, 100, 111, 32]⟩ : ByteArray).size = 4 from rfl, show (⟨#[10, 102, 105]⟩ : ByteArray).size = 3 from rfl, show (⟨#[10, 116, 104, 101, 110, 32]⟩ : ByteArray).size = 6 from rfl, show (⟨#[10, 125]⟩ : ByteArray).size = 2 from rfl, show (⟨#[10, 41]⟩ : ByteArray).size = 2 from rfl, show (⟨#[10, 59, 59, 10, 101, 115, 97, 99]⟩ : ByteArray).size = 8 from rfl, show (⟨#[102, 111, 114, 32, 105, 32, 105, 110, 32, 49, 32, 50, 10, 100, 111, 32]⟩ : ByteArray).size = 16 from rfl, show (⟨#[102, 40, 41, 32, 123, 32]⟩ : ByteArray).size = 6 from rfl, show (⟨#[105, 102, 32]⟩ : ByteArray).size = 3 from rfl, show (⟨#[117, 110, 116, 105, 108, 32]⟩ : ByteArray).size = 6 from rfl, show (⟨#[119, 104, 105, 108, 101, 32]⟩ : ByteArray).size = 6 from rfl, show (⟨#[123, 32]⟩ : ByteArray).size = 2 from rfl, show (⟨#[40, 32]⟩ : ByteArray).size = 2 from rfl, show (⟨#[99, 97, 115, 101, 32, 120, 32, 105, 110, 10, 40, 120, 41, 32]⟩ : ByteArray).size = 14 from rfl]; omega
 have m11 : ¬ IntKind.i64.max < ((((((⟨#[119, 104, 105, 108, 101, 32]⟩ : ByteArray) ++ a) ++ (⟨#[10, 100, 111, 32]⟩ : ByteArray)) ++ a).size + (⟨#[10, 100, 111, 110, 101]⟩ : ByteArray).size : Nat) : Int) := by simp only [hmax, ByteArray.size_append, show (⟨#[10, 100, 111, 110, 101]⟩ : ByteArray).size = 5 from rfl, show (⟨#[10, 100, 111, 32]⟩ : ByteArray).size = 4 from rfl, show (⟨#[10, 102, 105]⟩ : ByteArray).size = 3 from rfl, show (⟨#[10, 116, 104, 101, 110, 32]⟩ : ByteArray).size = 6 from rfl, show (⟨#[10, 125]⟩ : ByteArray).size = 2 from rfl, show (⟨#[10, 41]⟩ : ByteArray).size = 2 from rfl, show (⟨#[10, 59, 59, 10, 101, 115, 97, 99]⟩ : ByteArray).size = 8 from rfl, show (⟨#[102, 111, 114, 32, 105, 32, 105, 110, 32, 49, 32, 50, 10, 100, 111, 32]⟩ : ByteArray).size = 16 from rfl, show (⟨#[102, 40, 41, 32, 123, 32]⟩ : ByteArray).size = 6 from rfl, show (⟨#[105, 102, 32]⟩ : ByteArray).size = 3 from rfl, show (⟨#[117, 110, 116, 105, 108, 32]⟩ : ByteArray).size = 6 from rfl, show (⟨#[119, 104, 105, 108, 101, 32]⟩ : ByteArray).size = 6 from rfl, show (⟨#[123, 32]⟩ : ByteArray).size = 2 from rfl, show (⟨#[40, 32]⟩ : ByteArray).size = 2 from rfl, show (⟨#[99, 97, 115, 101, 32, 120, 32, 105, 110, 10, 40, 120, 41, 32]⟩ : ByteArray).size = 14 from rfl]; omega
 have m12 : ¬ IntKind.i64.max < (((⟨#[117, 110, 116, 105, 108, 32]⟩ : ByteArray).size + a.size : Nat) : Int) := by simp only [hmax, ByteArray.size_append, show (⟨#[10, 100, 111, 110, 101]⟩ : ByteArray).size = 5 from rfl, show (⟨#[10, 100, 111, 32]⟩ : ByteArray).size = 4 from rfl, show (⟨#[10, 102, 105]⟩ : ByteArray).size = 3 from rfl, show (⟨#[10, 116, 104, 101, 110, 32]⟩ : ByteArray).size = 6 from rfl, show (⟨#[10, 125]⟩ : ByteArray).size = 2 from rfl, show (⟨#[10, 41]⟩ : ByteArray).size = 2 from rfl, show (⟨#[10, 59, 59, 10, 101, 115, 97, 99]⟩ : ByteArray).size = 8 from rfl, show (⟨#[102, 111, 114, 32, 105, 32, 105, 110, 32, 49, 32, 50, 10, 100, 111, 32]⟩ : ByteArray).size = 16 from rfl, show (⟨#[102, 40, 41, 32, 123, 32]⟩ : ByteArray).size = 6 from rfl, show (⟨#[105, 102, 32]⟩ : ByteArray).size = 3 from rfl, show (⟨#[117, 110, 116, 105, 108, 32]⟩ : ByteArray).size = 6 from rfl, show (⟨#[119, 104, 105, 108, 101, 32]⟩ : ByteArray).size = 6 from rfl, show (⟨#[123, 32]⟩ : ByteArray).size = 2 from rfl, show (⟨#[40, 32]⟩ : ByteArray).size = 2 from rfl, show (⟨#[99, 97, 115, 101, 32, 120, 32, 105, 110, 10, 40, 120, 41, 32]⟩ : ByteArray).size = 14 from rfl]; omega
 have m13 : ¬ IntKind.i64.max < ((((⟨#[117, 110, 116, 105, 108, 32]⟩ : ByteArray) ++ a).size + (⟨#[10, 100, 111, 32]⟩ : ByteArray).size : Nat) : Int) := by simp only [hmax, ByteArray.size_append, show (⟨#[10, 100, 111, 110, 101]⟩ : ByteArray).size = 5 from rfl, show (⟨#[10, 100, 111, 32]⟩ : ByteArray).size = 4 from rfl, show (⟨#[10, 102, 105]⟩ : ByteArray).size = 3 from rfl, show (⟨#[10, 116, 104, 101, 110, 32]⟩ : ByteArray).size = 6 from rfl, show (⟨#[10, 125]⟩ : ByteArray).size = 2 from rfl, show (⟨#[10, 41]⟩ : ByteArray).size = 2 from rfl, show (⟨#[10, 59, 59, 10, 101, 115, 97, 99]⟩ : ByteArray).size = 8 from rfl, show (⟨#[102, 111, 114, 32, 105, 32, 105, 110, 32, 49, 32, 50, 10, 100, 111, 32]⟩ : ByteArray).size = 16 from rfl, show (⟨#[102, 40, 41, 32, 123, 32]⟩ : ByteArray).size = 6 from rfl, show (⟨#[105, 102, 32]⟩ : ByteArray).size = 3 from rfl, show (⟨#[117, 110, 116, 105, 108, 32]⟩ : ByteArray).size = 6 from rfl, show (⟨#[119, 104, 105, 108, 101, 32]⟩ : ByteArray).size = 6 from rfl, show (⟨#[123, 32]⟩ : ByteArray).size = 2 from rfl, show (⟨#[40, 32]⟩ : ByteArray).size = 2 from rfl, show (⟨#[99, 97, 115, 101, 32, 120, 32, 105, 110, 10, 40, 120, 41, 32]⟩ : ByteArray).size = 14 from rfl]; omega
 have m14 : ¬ IntKind.i64.max < (((((⟨#[117, 110, 116, 105, 108, 32]⟩ : ByteArray) ++ a) ++ (⟨#[10, 100, 111, 32]⟩ : ByteArray)).size + a.size : Nat) : Int) := by simp only [hmax, ByteArray.size_append, show (⟨#[10, 100, 111, 110, 101]⟩ : ByteArray).size = 5 from rfl, show (⟨#[10, 100, 111, 32]⟩ : ByteArray).size = 4 from rfl, show (⟨#[10, 102, 105]⟩ : ByteArray).size = 3 from rfl, show (⟨#[10, 116, 104, 101, 110, 32]⟩ : ByteArray).size = 6 from rfl, show (⟨#[10, 125]⟩ : ByteArray).size = 2 from rfl, show (⟨#[10, 41]⟩ : ByteArray).size = 2 from rfl, show (⟨#[10, 59, 59, 10, 101, 115, 97, 99]⟩ : ByteArray).size = 8 from rfl, show (⟨#[102, 111, 114, 32, 105, 32, 105, 110, 32, 49, 32, 50, 10, 100, 111, 32]⟩ : ByteArray).size = 16 from rfl, show (⟨#[102, 40, 41, 32, 123, 32]⟩ : ByteArray).size = 6 from rfl, show (⟨#[105, 102, 32]⟩ : ByteArray).size = 3 from rfl, show (⟨#[117, 110, 116, 105, 108, 32]⟩ : ByteArray).size = 6 from rfl, show (⟨#[119, 104, 105, 108, 101, 32]⟩ : ByteArray).size = 6 from rfl, show (⟨#[123, 32]⟩ : ByteArray).size = 2 from rfl, show (⟨#[40, 32]⟩ : ByteArray).size = 2 from rfl, show (⟨#[99, 97, 115, 101, 32, 120, 32, 105, 110, 10, 40, 120, 41, 32]⟩ : ByteArray).size = 14 from rfl]; omega
 have m15 : ¬ IntKind.i64.max < ((((((⟨#[117, 110, 116, 105, 108, 32]⟩ : ByteArray) ++ a) ++ (⟨#[10, 100, 111, 32]⟩ : ByteArray)) ++ a).size + (⟨#[10, 100, 111, 110, 101]⟩ : ByteArray).size : Nat) : Int) := by simp only [hmax, ByteArray.size_append, show (⟨#[10, 100, 111, 110, 101]⟩ : ByteArray).size = 5 from rfl, show (⟨#[10, 100, 111, 32]⟩ : ByteArray).size = 4 from rfl, show (⟨#[10, 102, 105]⟩ : ByteArray).size = 3 from rfl, show (⟨#[10, 116, 104, 101, 110, 32]⟩ : ByteArray).size = 6 from rfl, show (⟨#[10, 125]⟩ : ByteArray).size = 2 from rfl, show (⟨#[10, 41]⟩ : ByteArray).size = 2 from rfl, show (⟨#[10, 59, 59, 10, 101, 115, 97, 99]⟩ : ByteArray).size = 8 from rfl, show (⟨#[102, 111, 114, 32, 105, 32, 105, 110, 32, 49, 32, 50, 10, 100, 111, 32]⟩ : ByteArray).size = 16 from rfl, show (⟨#[102, 40, 41, 32, 123, 32]⟩ : ByteArray).size = 6 from rfl, show (⟨#[105, 102, 32]⟩ : ByteArray).size = 3 from rfl, show (⟨#[117, 110, 116, 105, 108, 32]⟩ : ByteArray).size = 6 from rfl, show (⟨#[119, 104, 105, 108, 101, 32]⟩ : ByteArray).size = 6 from rfl, show (⟨#[123, 32]⟩ : ByteArray).size = 2 from rfl, show (⟨#[40, 32]⟩ : ByteArray).size = 2 from rfl, show (⟨#[99, 97, 115, 101, 32, 120, 32, 105, 110, 10, 40, 120, 41, 32]⟩ : ByteArray).size = 14 from rfl]; omega
 have m16 : ¬ IntKind.i64.max < (((⟨#[102, 111, 114, 32, 105, 32, 105, 110, 32, 49, 32, 50, 10, 100, 111, 32]⟩ : ByteArray).size + a.size : Nat) : Int) := by simp only [hmax, ByteArray.size_append, show (⟨#[10, 100, 111, 110, 101]⟩ : ByteArray).size = 5 from rfl, show (⟨#[10, 100, 111, 32]⟩ : ByteArray).size = 4 from rfl, show (⟨#[10, 102, 105]⟩ : ByteArray).size = 3 from rfl, show (⟨#[10, 116, 104, 101, 110, 32]⟩ : ByteArray).size = 6 from rfl, show (⟨#[10, 125]⟩ : ByteArray).size = 2 from rfl, show (⟨#[10, 41]⟩ : ByteArray).size = 2 from rfl, show (⟨#[10, 59, 59, 10, 101, 115, 97, 99]⟩ : ByteArray).size = 8 from rfl, show (⟨#[102, 111, 114, 32, 105, 32, 105, 110, 32, 49, 32, 50, 10, 100, 111, 32]⟩ : ByteArray).size = 16 from rfl, show (⟨#[102, 40, 41, 32, 123, 32]⟩ : ByteArray).size = 6 from rfl, show (⟨#[105, 102, 32]⟩ : ByteArray).size = 3 from rfl, show (⟨#[117, 110, 116, 105, 108, 32]⟩ : ByteArray).size = 6 from rfl, show (⟨#[119, 104, 105, 108, 101, 32]⟩ : ByteArray).size = 6 from rfl, show (⟨#[123, 32]⟩ : ByteArray).size = 2 from rfl, show (⟨#[40, 32]⟩ : ByteArray).size = 2 from rfl, show (⟨#[99, 97, 115, 101, 32, 120, 32, 105, 110, 10, 40, 120, 41, 32]⟩ : ByteArray).size = 14 from rfl]; omega
 have m17 : ¬ IntKind.i64.max < ((((⟨#[102, 111, 114, 32, 105, 32, 105, 110, 32, 49, 32, 50, 10, 100, 111, 32]⟩ : ByteArray) ++ a).size + (⟨#[10, 100, 111, 110, 101]⟩ : ByteArray).size : Nat) : Int) := by simp only [hmax, ByteArray.size_append, show (⟨#[10, 100, 111, 110, 101]⟩ : ByteArray).size = 5 from rfl, show (⟨#[10, 100, 111, 32]⟩ : ByteArray).size = 4 from rfl, show (⟨#[10, 102, 105]⟩ : ByteArray).size = 3 from rfl, show (⟨#[10, 116, 104, 101, 110, 32]⟩ : ByteArray).size = 6 from rfl, show (⟨#[10, 125]⟩ : ByteArray).size = 2 from rfl, show (⟨#[10, 41]⟩ : ByteArray).size = 2 from rfl, show (⟨#[10, 59, 59, 10, 101, 115, 97, 99]⟩ : ByteArray).size = 8 from rfl, show (⟨#[102, 111, 114, 32, 105, 32, 105, 110, 32, 49, 32, 50, 10, 100, 111, 32]⟩ : ByteArray).size = 16 from rfl, show (⟨#[102, 40, 41, 32, 123, 32]⟩ : ByteArray).size = 6 from rfl, show (⟨#[105, 102, 32]⟩ : ByteArray).size = 3 from rfl, show (⟨#[117, 110, 116, 105, 108, 32]⟩ : ByteArray).size = 6 from rfl, show (⟨#[119, 104, 105, 108, 101, 32]⟩ : ByteArray).size = 6 from rfl, show (⟨#[123, 32]⟩ : ByteArray).size = 2 from rfl, show (⟨#[40, 32]⟩ : ByteArray).size = 2 from rfl, show (⟨#[99, 97, 115, 101, 32, 120, 32, 105, 110, 10, 40, 120, 41, 32]⟩ : ByteArray).size = 14 from rfl]; omega
 have m18 : ¬ IntKind.i64.max < (((⟨#[99, 97, 115, 101, 32, 120, 32, 105, 110, 10, 40, 120, 41, 32]⟩ : ByteArray).size + a.size : Nat) : Int) := by simp only [hmax, ByteArray.size_append, show (⟨#[10, 100, 111, 110, 101]⟩ : ByteArray).size = 5 from rfl, show (⟨#[10, 100, 111, 32]⟩ : ByteArray).size = 4 from rfl, show (⟨#[10, 102, 105]⟩ : ByteArray).size = 3 from rfl, show (⟨#[10, 116, 104, 101, 110, 32]⟩ : ByteArray).size = 6 from rfl, show (⟨#[10, 125]⟩ : ByteArray).size = 2 from rfl, show (⟨#[10, 41]⟩ : ByteArray).size = 2 from rfl, show (⟨#[10, 59, 59, 10, 101, 115, 97, 99]⟩ : ByteArray).size = 8 from rfl, show (⟨#[102, 111, 114, 32, 105, 32, 105, 110, 32, 49, 32, 50, 10, 100, 111, 32]⟩ : ByteArray).size = 16 from rfl, show (⟨#[102, 40, 41, 32, 123, 32]⟩ : ByteArray).size = 6 from rfl, show (⟨#[105, 102, 32]⟩ : ByteArray).size = 3 from rfl, show (⟨#[117, 110, 116, 105, 108, 32]⟩ : ByteArray).size = 6 from rfl, show (⟨#[119, 104, 105, 108, 101, 32]⟩ : ByteArray).size = 6 from rfl, show (⟨#[123, 32]⟩ : ByteArray).size = 2 from rfl, show (⟨#[40, 32]⟩ : ByteArray).size = 2 from rfl, show (⟨#[99, 97, 115, 101, 32, 120, 32, 105, 110, 10, 40, 120, 41, 32]⟩ : ByteArray).size = 14 from rfl]; omega
 have m19 : ¬ IntKind.i64.max < ((((⟨#[99, 97, 115, 101, 32, 120, 32, 105, 110, 10, 40, 120, 41, 32]⟩ : ByteArray) ++ a).size + (⟨#[10, 59, 59, 10, 101, 115, 97, 99]⟩ : ByteArray).size : Nat) : Int) := by simp only [hmax, ByteArray.size_append, show (⟨#[10, 100, 111, 110, 101]⟩ : ByteArray).size = 5 from rfl, show (⟨#[10, 100, 111, 32]⟩ : ByteArray).size = 4 from rfl, show (⟨#[10, 102, 105]⟩ : ByteArray).size = 3 from rfl, show (⟨#[10, 116, 104, 101, 110, 32]⟩ : ByteArray).size = 6 from rfl, show (⟨#[10, 125]⟩ : ByteArray).size = 2 from rfl, show (⟨#[10, 41]⟩ : ByteArray).size = 2 from rfl, show (⟨#[10, 59, 59, 10, 101, 115, 97, 99]⟩ : ByteArray).size = 8 from rfl, show (⟨#[102, 111, 114, 32, 105, 32, 105, 110, 32, 49, 32, 50, 10, 100, 111, 32]⟩ : ByteArray).size = 16 from rfl, show (⟨#[102, 40, 41, 32, 123, 32]⟩ : ByteArray).size = 6 from rfl, show (⟨#[105, 102, 32]⟩ : ByteArray).size = 3 from rfl, show (⟨#[117, 110, 116, 105, 108, 32]⟩ : ByteArray).size = 6 from rfl, show (⟨#[119, 104, 105, 108, 101, 32]⟩ : ByteArray).size = 6 from rfl, show (⟨#[123, 32]⟩ : ByteArray).size = 2 from rfl, show (⟨#[40, 32]⟩ : ByteArray).size = 2 from rfl, show (⟨#[99, 97, 115, 101, 32, 120, 32, 105, 110, 10, 40, 120, 41, 32]⟩ : ByteArray).size = 14 from rfl]; omega
 have m20 : ¬ IntKind.i64.max < (((⟨#[102, 40, 41, 32, 123, 32]⟩ : ByteArray).size + a.size : Nat) : Int) := by simp only [hmax, ByteArray.size_append, show (⟨#[10, 100, 111, 110, 101]⟩ : ByteArray).size = 5 from rfl, show (⟨#[10, 100, 111, 32]⟩ : ByteArray).size = 4 from rfl, show (⟨#[10, 102, 105]⟩ : ByteArray).size = 3 from rfl, show (⟨#[10, 116, 104, 101, 110, 32]⟩ : ByteArray).size = 6 from rfl, show (⟨#[10, 125]⟩ : ByteArray).size = 2 from rfl, show (⟨#[10, 41]⟩ : ByteArray).size = 2 from rfl, show (⟨#[10, 59, 59, 10, 101, 115, 97, 99]⟩ : ByteArray).size = 8 from rfl, show (⟨#[102, 111, 114, 32, 105, 32, 105, 110, 32, 49, 32, 50, 10, 100, 111, 32]⟩ : ByteArray).size = 16 from rfl, show (⟨#[102, 40, 41, 32, 123, 32]⟩ : ByteArray).size = 6 from rfl, show (⟨#[105, 102, 32]⟩ : ByteArray).size = 3 from rfl, show (⟨#[117, 110, 116, 105, 108, 32]⟩ : ByteArray).size = 6 from rfl, show (⟨#[119, 104, 105, 108, 101, 32]⟩ : ByteArray).size = 6 from rfl, show (⟨#[123, 32]⟩ : ByteArray).size = 2 from rfl, show (⟨#[40, 32]⟩ : ByteArray).size = 2 from rfl, show (⟨#[99, 97, 115, 101, 32, 120, 32, 105, 110, 10, 40, 120, 41, 32]⟩ : ByteArray).size = 14 from rfl]; omega
 have m21 : ¬ IntKind.i64.max < ((((⟨#[102, 40, 41, 32, 123, 32]⟩ : ByteArray) ++ a).size + (⟨#[10, 125]⟩ : ByteArray).size : Nat) : Int) := by simp only [hmax, ByteArray.size_append, show (⟨#[10, 100, 111, 110, 101]⟩ : ByteArray).size = 5 from rfl, show (⟨#[10, 100, 111, 32]⟩ : ByteArray).size = 4 from rfl, show (⟨#[10, 102, 105]⟩ : ByteArray).size = 3 from rfl, show (⟨#[10, 116, 104, 101, 110, 32]⟩ : ByteArray).size = 6 from rfl, show (⟨#[10, 125]⟩ : ByteArray).size = 2 from rfl, show (⟨#[10, 41]⟩ : ByteArray).size = 2 from rfl, show (⟨#[10, 59, 59, 10, 101, 115, 97, 99]⟩ : ByteArray).size = 8 from rfl, show (⟨#[102, 111, 114, 32, 105, 32, 105, 110, 32, 49, 32, 50, 10, 100, 111, 32]⟩ : ByteArray).size = 16 from rfl, show (⟨#[102, 40, 41, 32, 123, 32]⟩ : ByteArray).size = 6 from rfl, show (⟨#[105, 102, 32]⟩ : ByteArray).size = 3 from rfl, show (⟨#[117, 110, 116, 105, 108, 32]⟩ : ByteArray).size = 6 from rfl, show (⟨#[119, 104, 105, 108, 101, 32]⟩ : ByteArray).size = 6 from rfl, show (⟨#[123, 32]⟩ : ByteArray).size = 2 from rfl, show (⟨#[40, 32]⟩ : ByteArray).size = 2 from rfl, show (⟨#[99, 97, 115, 101, 32, 120, 32, 105, 110, 10, 40, 120, 41, 32]⟩ : ByteArray).size = 14 from rfl]; omega
 clear hT hpa ho hx hx0 hnx
 have HWB : Hid (Kn [] w w []) := Lib.hid (Kn.refl [] w)
 have hL := HWB.out.self0
 have hF := hL.fx
 go_enter Tryz.func6, Tryz.ntmps6
 go_upto_region 7 with (first | (go_at_call 16; refine zC (fun W hL => small35 _ (HT.out.ext (HWB.out.tail0 hL).below0)) ?_; clear hF hL; intro W hL hF) | (go_at_call 13; refine zG ?_; clear hF hL; intro W hL hF; (with_reducible refine (HPa.out _ (HT.out.ext (HWB.out.tail0 hL).below0)).mono ?_); rintro e W2 ⟨aaa, caa, awa, cwa, ara, cra, aka, cka, rfl, HNY, hb⟩; have HNa := Lib.hid (HNY.out _ (keys_typed hL (by simp))); clear HNY; replace hL := hL.below hb; clear hb hF; have hF := hL.fx; have HWB2 := Lib.hid (HWB.out.tail0 hL); clear hL; clear HWB; have HWB := HWB2; clear HWB2; have hL := HWB.out.self0; clear hF; have hF := hL.fx) | (go_at_call 17; refine zC (fun W hL => open_is a (by omega) false HO.out _) ?_; clear hF hL; intro W hL hF))
 refine kn_wp ?_; clear hF hL; intro W3 hL
 generalize hkb : W.heap.size + 1 = kb at hL ⊢
 generalize hsb : W.heap.size = sb at hL ⊢
 generalize hbx : W2.heap.size = bx at hL ⊢
 clear hkb hsb hbx
 have hnd := hL.nd
 simp only [List.map_cons, List.map_nil, List.nodup_cons, List.mem_cons, List.not_mem_nil, or_false, not_or] at hnd
 have hkx : kb ≠ bx := hnd.1.2
 have hsx : sb ≠ bx := hnd.2.1
 have HKC : Hid (NCs a [(bx, .cells #[.int .i64 4, .string ⟨#[]⟩, .bool false, .slice aaa 0 caa, .slice awa 0 cwa, .slice ara 0 cra, .slice aka nx cka] 41 (0, 0))] W3 sb kb) := Lib.hid ⟨fun j s hj => ⟨by simpa [keys] using hsx, by rw [kn_cell hL (List.mem_cons_of_mem _ List.mem_cons_self)]; exact ncell_s hj⟩, fun j z hj => ⟨by simpa [keys] using hkx, by rw [kn_cell hL List.mem_cons_self]; exact ncell_z hj⟩⟩
 have HNa2 : Hid (NodeIs (keys [(bx, .cells #[.int .i64 4, .string ⟨#[]⟩, .bool false, .slice aaa 0 caa, .slice awa 0 cwa, .slice ara 0 cra, .slice aka nx cka] 41 (0, 0))]) W3 (.mk 4 [] false [] [] [] x) [.int .i64 4, .string ⟨#[]⟩, .bool false, .slice aaa 0 caa, .slice awa 0 cwa, .slice ara 0 cra, .slice aka nx cka]) := Lib.hid ((HNa.out.next hL).sub (fun y hy => .inl (by simp only [keys, List.map_cons, List.map_nil, List.mem_singleton] at hy; simp [keys, hy])))
 have HWB2 : Hid (Kn [] w W3 [(bx, .cells #[.int .i64 4, .string ⟨#[]⟩, .bool false, .slice aaa 0 caa, .slice awa 0 cwa, .slice ara 0 cra, .slice aka nx cka] 41 (0, 0))]) := Lib.hid ((HWB.out.tail0 hL).sub (by simp))
 clear HWB HNa hnd HPa m0 m1 m2 m3 m4 m5 m6 m7 m8 m9 m10 m11 m12 m13 m14 m15 m16 m17 m18 m19 m20 m21
 clear hL
 have hL := HWB2.out.self0
 have hF := hL.fx
 go_wp2
 go_loopw [9] (fun i wr => ∃ k : Nat, k ≤ 8 ∧ i = .int .i64 k ∧ Kn [] w wr [(bx, .cells #[.int .i64 4, .string ⟨#[]⟩, .bool false, .slice aaa 0 caa, .slice awa 0 cwa, .slice ara 0 cra, .slice aka nx cka] 41 (0, 0))] ∧ Hid (NCs a [(bx, .cells #[.int .i64 4, .string ⟨#[]⟩, .bool false, .slice aaa 0 caa, .slice awa 0 cwa, .slice ara 0 cra, .slice aka nx cka] 41 (0, 0))] wr sb kb) ∧ Hid (NodeIs (keys [(bx, .cells #[.int .i64 4, .string ⟨#[]⟩, .bool false, .slice aaa 0 caa, .slice awa 0 cwa, .slice ara 0 cra, .slice aka nx cka] 41 (0, 0))]) wr (.mk 4 [] false [] [] [] x) [.int .i64 4, .string ⟨#[]⟩, .bool false, .slice aaa 0 caa, .slice awa 0 cwa, .slice ara 0 cra, .slice aka nx cka])) (fun i _ => 8 - (intOf i).toNat)
 case atStart => exact ⟨0, by omega, rfl, HWB2.out, HKC, HNa2⟩
 case round =>
  clear HWB2 HKC HNa2
  obtain ⟨k, hk, rfl, hWB, HKC, HNa⟩ := hrel
  have HWB := Lib.hid hWB
  clear hL hF hWB
  have hL := HWB.out.self0
  have hF := hL.fx
  by_cases hlt : k < 8
  ·obtain ⟨N, I, z, hN, hz, hNk, hI, hIk, hI2, hIx⟩ := nest_kind (x := x) hlt
   have HI2 := Lib.hid hI2
   obtain ⟨s, hs9⟩ : ∃ s, (nestS a)[k]? = some s := ⟨_, List.getElem?_eq_getElem (by rw [nestS_len]; exact hlt)⟩
   have hs8 := nestS_sz a hs _ (List.mem_of_getElem? hs9)
   have hsc := HKC.out.1 k s hs9
   have hs1 := hsc.2
   have hsx := cell_lt hsc.2
   have hsy : sb ≠ bx := by simpa [keys] using hsc.1
   have hp := nests_plain (by rw [szl]; exact hs) (fun e => by rw [e] at HO; exact absurd HO.out (by decide)) HXN.out HPA.out k _ N (nestS_B a k s hs9) hN
   have k8 : decide ((k : Int) < 8) = true := decide_eq_true (by omega)
   have k9 : decide (k < 8) = true := decide_eq_true hlt
   have HZ := Lib.hid hz
   have HNK := Lib.hid hNk
   have HI := Lib.hid hI
   have HIK := Lib.hid hIk
   have HIX := Lib.hid hIx
   clear hsc hN hz hNk hI hIk hI2 hIx hs9
   rcases hp with hp | ⟨m, hp⟩
   ·have HPy := Lib.hid (fun W => parse_ok_c s hs8 [ndP N] 1 hp rfl W)
    clear hp
    obtain ⟨nm, hnm⟩ : ∃ u : ByteArray, N.name = u.data.toList := ⟨⟨N.name.toArray⟩, by simp⟩
    obtain ⟨ng, hng⟩ : ∃ b, N.neg = b := ⟨_, rfl⟩
    obtain ⟨n1, hn1⟩ : ∃ n, N.asg.length = n := ⟨_, rfl⟩
    obtain ⟨n2, hn2⟩ : ∃ n, N.ws.length = n := ⟨_, rfl⟩
    obtain ⟨n3, hn3⟩ : ∃ n, N.rs.length = n := ⟨_, rfl⟩
    obtain ⟨n4, hn4⟩ : ∃ n, N.kids.length = n := ⟨_, rfl⟩
    have KH1 : Hid ((.mk 4 [] false [] [] [] [ndP N] : Nd).kids[0]? = some (ndP N)) := Lib.hid rfl
    have KI1 : Hid (KidIs (ndP N) 1 ⟨#[]⟩ false 0 0 0 1) := Lib.hid ⟨rfl, rfl, rfl, rfl, rfl, rfl, rfl⟩
    have KH2 : Hid ((ndP N).kids[0]? = some N) := Lib.hid rfl
    have KI2 : Hid (KidIs N (z : Int) nm ng n1 n2 n3 n4) := Lib.hid ⟨by rw [HNK.out], hnm, hng, hn1, hn2, hn3, hn4⟩
    have H00 : Hid ((0 : Int) = ((0 : Nat) : Int)) := Lib.hid rfl
    clear hnm hng hn1 hn2 hn3
    have HN4 := Lib.hid hn4
    clear hn4
    go_upto_region 13 with (first | (go_at_call 13; refine zG ?_; clear hF hL; intro W hL hF; (with_reducible refine (HPy.out _ (HT.out.ext (HWB.out.tail0 hL).below0)).mono ?_); rintro e W2 ⟨aay, cay, awy, cwy, ary, cry, aky, cky, rfl, HNY, hb⟩; have HNy := Lib.hid (HNY.out _ (keys_typed hL (by simp))); clear HNY; replace HKC := Lib.hid (HKC.out.next hL hb); replace HNa := Lib.hid (HNa.out.next2 hL hb); replace hL := hL.below hb; clear hb hF; have hF := hL.fx; have HWB2 := Lib.hid (HWB.out.tail0 hL); clear hL; clear HWB; have HWB := HWB2; clear HWB2; have hL := HWB.out.self0; clear hF; have hF := hL.fx) | (go_at_call 19; refine zG ?_; clear hF hL; intro W hL hF; (with_reducible refine (kid_c _ _ _ _ _ _ _ _ _ _ _ _ _ _ _ _ 0 0 H00.out (ndP N) 1 ⟨#[]⟩ false 0 0 0 1 _ _ (HNy.out.next hL) KH1.out KI1.out).mono ?_); rintro e V1 ⟨aa1, ca1, aw1, cw1, ar1, cr1, ak1, ck1, rfl, HNK, hb⟩; have HN1 := HNK; clear HNK; replace HKC := Lib.hid (HKC.out.next hL hb); replace HNa := Lib.hid (HNa.out.next2 hL hb); replace HNy := Lib.hid (HNy.out.next2 hL hb); replace hL := hL.below hb; clear hb hF; have hF := hL.fx; have HWB2 := Lib.hid (HWB.out.tail0 hL); clear hL; clear HWB; have HWB := HWB2; clear HWB2; have hL := HWB.out.self0; clear hF; have hF := hL.fx) | (go_at_call 19; refine zG ?_; clear hF hL; intro W hL hF; (with_reducible refine (kid_c _ _ _ _ _ _ _ _ _ _ _ _ _ _ _ _ 0 0 H00.out N (z : Int) nm ng n1 n2 n3 n4 _ _ (HN1.out.next hL) KH2.out KI2.out).mono ?_); rintro e V2 ⟨aa2, ca2, aw2, cw2, ar2, cr2, ak2, ck2, rfl, HNK, hb⟩; have HN2 := HNK; clear HNK; replace HKC := Lib.hid (HKC.out.next hL hb); replace HNa := Lib.hid (HNa.out.next2 hL hb); replace HNy := Lib.hid (HNy.out.next2 hL hb); replace HN1 := Lib.hid (HN1.out.next2 hL hb); replace hL := hL.below hb; clear hb hF; have hF := hL.fx; have HWB2 := Lib.hid (HWB.out.tail0 hL); clear hL; clear HWB; have HWB := HWB2; clear HWB2; have hL := HWB.out.self0; clear hF; have hF := hL.fx))
    refine kn_wp ?_; clear hF hL; intro W4 hL
    generalize hby : W2.heap.size = yb at hL HKC HNa HN2 HWB ⊢
    generalize hbn : V2.heap.size = nb at hL ⊢
    clear hby hbn HNy HN1 KH1 KI1 KH2 KI2
    replace HKC := Lib.hid (HKC.out.next hL (Below.refl _ _))
    replace HNa := Lib.hid (HNa.out.next hL); replace HN2 := Lib.hid (HN2.out.next hL)
    have HWB2 := Lib.hid (HWB.out.tail0 hL)
    clear HWB hL
    have HWB := HWB2
    clear HWB2
    have hL := HWB.out.self0
    have hF := hL.fx
    have hzc := HKC.out.2 k z HZ.out
    have hz1 := hzc.2
    have hz2 := cell_lt hz1
    have hz3 := hzc.1
    simp only [keys, List.map_cons, List.map_nil, List.mem_cons, List.not_mem_nil, or_false, not_or] at hz3
    clear hzc
    have hzz : ((z : Int) != (z : Int)) = false := by simp
    go_upto_region 15 with ((with_reducible refine at_region 13 ?_); refine zW [0, 1, 2, 3, 4, 5, 6, 7, 8, 9, 10, 11, 12, 13, 14, 15, 16] [0, 1, 2, 3, 4, 5, 6, 7, 8, 9, 10, 11, 12, 13, 14, 15, 16] [] [0, 1, 2, 3, 5, 6, 7, 8, 9, 11, 12, 13, 15, 16] ?_; clear hF hL; intro ι F hne hC hG; (repeat (first | (refine cF hC ?_; intro K hK; go_big_quiet_op; go_big_quiet_on) | (refine cP ?_; intro K hK; go_big_quiet_op; go_big_quiet_on))); refine cwk_nil ?_; clear hC hG; intro W hL; have hF := hL.fx)
    refine kn_wp ?_; clear hF hL; intro W5 hL
    clear hz1 hz2 hz3 hzz
    replace HKC := Lib.hid (HKC.out.next hL (Below.refl _ _))
    replace HNa := Lib.hid (HNa.out.next hL); replace HN2 := Lib.hid (HN2.out.next hL)
    have HWB2 := Lib.hid (HWB.out.tail0 hL)
    clear HWB hL
    have HWB := HWB2
    clear HWB2
    have hL := HWB.out.self0
    have hF := hL.fx
    rcases HI.out with ⟨z14, z12, rfl⟩ | ⟨z14 | ⟨z14, z12⟩, hI⟩
    ·have hks := kids_open HN2.out
     obtain ⟨ks, hke, hkl, hkn, hkr⟩ := hks
     have HKN := Lib.hid hkn
     have HKR := Lib.hid hkr
     have HKE := Lib.hid hke
     have hk0 : 0 < n4 := by
      have h := List.length_pos_iff.2 HIK.out
      rw [hke, List.length_map, hkl] at h
      exact h
     have kz0 : ((n4 : Int) == 0) = false := by rw [beq_eq_false_iff_ne]; omega
     have hk2 : n4 ≤ 2 := by
      have h := HI2.out
      rw [hke, List.length_map, hkl] at h
      exact h
     clear hke hkn hkr HN2
     go_wp2
     go_loopw [14] (fun j wr => ∃ c : Nat, c ≤ n4 ∧ j = .int .i64 c ∧ Kn [] w wr [(nb, .cells #[.int .i64 (z : Int), .string nm, .bool ng, .slice aa2 n1 ca2, .slice aw2 n2 cw2, .slice ar2 n3 cr2, .slice ak2 n4 ck2] 41 (0, 0)), (yb, .cells #[.int .i64 4, .string ⟨#[]⟩, .bool false, .slice aay 0 cay, .slice awy 0 cwy, .slice ary 0 cry, .slice aky 1 cky] 41 (0, 0)), (bx, .cells #[.int .i64 4, .string ⟨#[]⟩, .bool false, .slice aaa 0 caa, .slice awa 0 cwa, .slice ara 0 cra, .slice aka nx cka] 41 (0, 0))] ∧ Hid (NCs a [(nb, .cells #[.int .i64 (z : Int), .string nm, .bool ng, .slice aa2 n1 ca2, .slice aw2 n2 cw2, .slice ar2 n3 cr2, .slice ak2 n4 ck2] 41 (0, 0)), (yb, .cells #[.int .i64 4, .string ⟨#[]⟩, .bool false, .slice aay 0 cay, .slice awy 0 cwy, .slice ary 0 cry, .slice aky 1 cky] 41 (0, 0)), (bx, .cells #[.int .i64 4, .string ⟨#[]⟩, .bool false, .slice aaa 0 caa, .slice awa 0 cwa, .slice ara 0 cra, .slice aka nx cka] 41 (0, 0))] wr sb kb) ∧ Hid (NodeIs (keys [(nb, .cells #[.int .i64 (z : Int), .string nm, .bool ng, .slice aa2 n1 ca2, .slice aw2 n2 cw2, .slice ar2 n3 cr2, .slice ak2 n4 ck2] 41 (0, 0)), (yb, .cells #[.int .i64 4, .string ⟨#[]⟩, .bool false, .slice aay 0 cay, .slice awy 0 cwy, .slice ary 0 cry, .slice aky 1 cky] 41 (0, 0)), (bx, .cells #[.int .i64 4, .string ⟨#[]⟩, .bool false, .slice aaa 0 caa, .slice awa 0 cwa, .slice ara 0 cra, .slice aka nx cka] 41 (0, 0))]) wr (.mk 4 [] false [] [] [] x) [.int .i64 4, .string ⟨#[]⟩, .bool false, .slice aaa 0 caa, .slice awa 0 cwa, .slice ara 0 cra, .slice aka nx cka]) ∧ Hid (∀ p ∈ ks, NodeIs (keys [(nb, .cells #[.int .i64 (z : Int), .string nm, .bool ng, .slice aa2 n1 ca2, .slice aw2 n2 cw2, .slice ar2 n3 cr2, .slice ak2 n4 ck2] 41 (0, 0)), (yb, .cells #[.int .i64 4, .string ⟨#[]⟩, .bool false, .slice aay 0 cay, .slice awy 0 cwy, .slice ary 0 cry, .slice aky 1 cky] 41 (0, 0)), (bx, .cells #[.int .i64 4, .string ⟨#[]⟩, .bool false, .slice aaa 0 caa, .slice awa 0 cwa, .slice ara 0 cra, .slice aka nx cka] 41 (0, 0))]) wr p.1 p.2) ∧ Hid (RowY 7 (keys [(nb, .cells #[.int .i64 (z : Int), .string nm, .bool ng, .slice aa2 n1 ca2, .slice aw2 n2 cw2, .slice ar2 n3 cr2, .slice ak2 n4 ck2] 41 (0, 0)), (yb, .cells #[.int .i64 4, .string ⟨#[]⟩, .bool false, .slice aay 0 cay, .slice awy 0 cwy, .slice ary 0 cry, .slice aky 1 cky] 41 (0, 0)), (bx, .cells #[.int .i64 4, .string ⟨#[]⟩, .bool false, .slice aaa 0 caa, .slice awa 0 cwa, .slice ara 0 cra, .slice aka nx cka] 41 (0, 0))]) wr (.slice ak2 n4 ck2) (ks.map (·.2)))) (fun j _ => n4 - (intOf j).toNat)
     case atStart => exact ⟨0, by omega, rfl, HWB.out, HKC, HNa, HKN, HKR⟩
     case round =>
      clear HWB HKC HNa HKN HKR
      obtain ⟨c, hc, rfl, hWB, HKC, HNa, HKN, HKR⟩ := hrel
      have HWB := Lib.hid hWB
      clear hL hF hWB
      have hL := HWB.out.self0
      have hF := hL.fx
      by_cases hlt : c < n4
      ·obtain ⟨p, hp⟩ : ∃ p, ks[c]? = some p := ⟨_, List.getElem?_eq_getElem (by omega)⟩
       obtain ⟨g, o, hga, hgY, hgl, hcell⟩ := rowy_atY HKR.out (j := c) (cs := p.2) (by rw [List.getElem?_map, hp]; rfl)
       have hpn := HKN.out p (List.mem_of_getElem? hp)
       have hpx : p.1 = (.mk 4 [] false [] [] [] x) := HIX.out _ (by rw [HKE.out]; exact List.mem_map.2 ⟨p, List.mem_of_getElem? hp, rfl⟩)
       obtain ⟨v0, v1, v2, v3, v4, v5, v6, hv⟩ := list7 hpn.len
       rw [hpx, hv] at hpn
       rw [hv] at hcell
       have HP := Lib.hid hpn
       have q0 := hcell 0 _ rfl; have q1 := hcell 1 _ rfl; have q2 := hcell 2 _ rfl; have q3 := hcell 3 _ rfl; have q4 := hcell 4 _ rfl; have q5 := hcell 5 _ rfl; have q6 := hcell 6 _ rfl
       rw [Nat.add_zero] at q0
       simp only [keys, List.map_cons, List.map_nil, List.mem_cons, List.not_mem_nil, or_false, not_or] at hgY
       subst hga
       clear hcell hp hpn hpx hv
       go_wp2_with (first | ((with_reducible refine zS ?_); clear hL; intro W hL hF) | ((with_reducible refine at_region 20 ?_); refine zW [0, 1, 2, 3, 4, 5, 6, 7] [0, 1, 2, 3, 4, 5, 7] [6] [0, 2, 3, 7] ?_; clear hF hL; intro ι F hne hC hG; (repeat (first | (refine cS ?_) | (refine cF hC ?_; intro K hK; go_big_quiet_op; go_big_quiet_on) | (refine cP ?_; intro K hK; go_big_quiet_op; go_big_quiet_on) | (refine cC ?_; intro W hL; have hF := hL.fx; simp only [zA, Act.eval]; go_at_call 18; (with_reducible refine (Same_call HSM.out _ _ _ (HP.out.kn hL (fun y hy => absurd hy List.not_mem_nil)) (HNa.out.kn hL (fun y hy => absurd hy List.not_mem_nil))).mono ?_); rintro e W ⟨rfl, hb⟩; replace hL := hL.below hb; clear hb hF; have hF := hL.fx; refine zB ?_; clear hL hF hC hG; intro ι F hne hC hG; simp only [Act.put, zT]) | (refine cN ?_; intro W hL; have hF := hL.facts; go_wp2; refine zB2 ?_; clear hL hC hG; intro ι F hne hC hG))); refine cwk_nil ?_; clear hC hG; intro W hL; have hF := hL.fx))
       refine ⟨⟨c + 1, by omega, by go_num, HWB.out.tail0 kn_here, Lib.hid (HKC.out.next kn_here (Below.refl _ _)), Lib.hid (HNa.out.next kn_here), Lib.hid (fun p hp => (HKN.out p hp).next kn_here), Lib.hid (HKR.out.kn kn_here (fun y hy => .inl hy))⟩, by simp [intOf]; omega⟩
      ·obtain rfl : c = n4 := by omega
       go_wp2
       refine ⟨⟨k + 1, by omega, by go_num, Kn.sub (HWB.out.tail0 kn_here) ?_, Lib.hid (NCs.sub (HKC.out.next kn_here (Below.refl _ _)) ?_), Lib.hid (NodeIs.sub (HNa.out.next kn_here) ?_)⟩, by simp [intOf]; omega⟩
       ·repeat' (first | exact List.Sublist.refl _ | apply List.Sublist.cons)
       ·intro p hp; simp only [List.mem_singleton] at hp; subst hp; simp
       ·intro y hy; left; simp only [keys, List.map_cons, List.map_nil, List.mem_singleton] at hy; subst hy; simp [keys]
    ·obtain ⟨iz, hiz⟩ : ∃ n : Int, (I.kind : Int) = n := ⟨_, rfl⟩
     obtain ⟨im, him⟩ : ∃ u : ByteArray, I.name = u.data.toList := ⟨⟨I.name.toArray⟩, by simp⟩
     obtain ⟨ig, hig⟩ : ∃ b, I.neg = b := ⟨_, rfl⟩
     obtain ⟨i1, hi1⟩ : ∃ n, I.asg.length = n := ⟨_, rfl⟩
     obtain ⟨i2, hi2⟩ : ∃ n, I.ws.length = n := ⟨_, rfl⟩
     obtain ⟨i3, hi3⟩ : ∃ n, I.rs.length = n := ⟨_, rfl⟩
     obtain ⟨i4, hi4⟩ : ∃ n, I.kids.length = n := ⟨_, rfl⟩
     have KH3 : Hid (N.kids[0]? = some I) := Lib.hid hI
     have KI3 : Hid (KidIs I iz im ig i1 i2 i3 i4) := Lib.hid ⟨hiz, him, hig, hi1, hi2, hi3, hi4⟩
     clear hI hiz him hig hi1 hi2 hi3 hi4
     go_upto_region 17 with ((go_at_call 19; refine zG ?_; clear hF hL; intro W hL hF; (with_reducible refine (kid_c _ _ _ _ _ _ _ _ _ _ _ _ _ _ _ _ 0 0 H00.out I iz im ig i1 i2 i3 i4 _ _ (HN2.out.next hL) KH3.out KI3.out).mono ?_); rintro e V3 ⟨aa3, ca3, aw3, cw3, ar3, cr3, ak3, ck3, rfl, HNK, hb⟩; have HN3 := HNK; clear HNK; replace HKC := Lib.hid (HKC.out.next hL hb); replace HNa := Lib.hid (HNa.out.next2 hL hb); replace HN2 := Lib.hid (HN2.out.next2 hL hb); replace hL := hL.below hb; clear hb hF; have hF := hL.fx; have HWB2 := Lib.hid (HWB.out.tail0 hL); clear hL; clear HWB; have HWB := HWB2; clear HWB2; have hL := HWB.out.self0; clear hF; have hF := hL.fx))
     refine kn_wp ?_; clear hF hL; intro W6 hL
     clear HN2
     replace HKC := Lib.hid (HKC.out.next hL (Below.refl _ _))
     replace HNa := Lib.hid (HNa.out.next hL); replace HN3 := Lib.hid (HN3.out.next hL)
     have HWB2 := Lib.hid (HWB.out.tail0 hL)
     clear HWB hL
     have HWB := HWB2
     clear HWB2
     have hL := HWB.out.self0
     simp only [kfb] at hL; have hF := hL.fx
     have hks := kids_open HN3.out
     obtain ⟨ks, hke, hkl, hkn, hkr⟩ := hks
     have HKN := Lib.hid hkn
     have HKR := Lib.hid hkr
     have HKE := Lib.hid hke
     have hk0 : 0 < i4 := by
      have h := List.length_pos_iff.2 HIK.out
      rw [hke, List.length_map, hkl] at h
      exact h
     have kz0 : ((i4 : Int) == 0) = false := by rw [beq_eq_false_iff_ne]; omega
     have hk2 : i4 ≤ 2 := by
      have h := HI2.out
      rw [hke, List.length_map, hkl] at h
      exact h
     clear hke hkn hkr HN3
     go_wp2
     go_loopw [14] (fun j wr => ∃ c : Nat, c ≤ i4 ∧ j = .int .i64 c ∧ Kn [] w wr [(nb, .cells #[.int .i64 iz, .string im, .bool ig, .slice aa3 i1 ca3, .slice aw3 i2 cw3, .slice ar3 i3 cr3, .slice ak3 i4 ck3] 41 (0, 0)), (yb, .cells #[.int .i64 4, .string ⟨#[]⟩, .bool false, .slice aay 0 cay, .slice awy 0 cwy, .slice ary 0 cry, .slice aky 1 cky] 41 (0, 0)), (bx, .cells #[.int .i64 4, .string ⟨#[]⟩, .bool false, .slice aaa 0 caa, .slice awa 0 cwa, .slice ara 0 cra, .slice aka nx cka] 41 (0, 0))] ∧ Hid (NCs a [(nb, .cells #[.int .i64 iz, .string im, .bool ig, .slice aa3 i1 ca3, .slice aw3 i2 cw3, .slice ar3 i3 cr3, .slice ak3 i4 ck3] 41 (0, 0)), (yb, .cells #[.int .i64 4, .string ⟨#[]⟩, .bool false, .slice aay 0 cay, .slice awy 0 cwy, .slice ary 0 cry, .slice aky 1 cky] 41 (0, 0)), (bx, .cells #[.int .i64 4, .string ⟨#[]⟩, .bool false, .slice aaa 0 caa, .slice awa 0 cwa, .slice ara 0 cra, .slice aka nx cka] 41 (0, 0))] wr sb kb) ∧ Hid (NodeIs (keys [(nb, .cells #[.int .i64 iz, .string im, .bool ig, .slice aa3 i1 ca3, .slice aw3 i2 cw3, .slice ar3 i3 cr3, .slice ak3 i4 ck3] 41 (0, 0)), (yb, .cells #[.int .i64 4, .string ⟨#[]⟩, .bool false, .slice aay 0 cay, .slice awy 0 cwy, .slice ary 0 cry, .slice aky 1 cky] 41 (0, 0)), (bx, .cells #[.int .i64 4, .string ⟨#[]⟩, .bool false, .slice aaa 0 caa, .slice awa 0 cwa, .slice ara 0 cra, .slice aka nx cka] 41 (0, 0))]) wr (.mk 4 [] false [] [] [] x) [.int .i64 4, .string ⟨#[]⟩, .bool false, .slice aaa 0 caa, .slice awa 0 cwa, .slice ara 0 cra, .slice aka nx cka]) ∧ Hid (∀ p ∈ ks, NodeIs (keys [(nb, .cells #[.int .i64 iz, .string im, .bool ig, .slice aa3 i1 ca3, .slice aw3 i2 cw3, .slice ar3 i3 cr3, .slice ak3 i4 ck3] 41 (0, 0)), (yb, .cells #[.int .i64 4, .string ⟨#[]⟩, .bool false, .slice aay 0 cay, .slice awy 0 cwy, .slice ary 0 cry, .slice aky 1 cky] 41 (0, 0)), (bx, .cells #[.int .i64 4, .string ⟨#[]⟩, .bool false, .slice aaa 0 caa, .slice awa 0 cwa, .slice ara 0 cra, .slice aka nx cka] 41 (0, 0))]) wr p.1 p.2) ∧ Hid (RowY 7 (keys [(nb, .cells #[.int .i64 iz, .string im, .bool ig, .slice aa3 i1 ca3, .slice aw3 i2 cw3, .slice ar3 i3 cr3, .slice ak3 i4 ck3] 41 (0, 0)), (yb, .cells #[.int .i64 4, .string ⟨#[]⟩, .bool false, .slice aay 0 cay, .slice awy 0 cwy, .slice ary 0 cry, .slice aky 1 cky] 41 (0, 0)), (bx, .cells #[.int .i64 4, .string ⟨#[]⟩, .bool false, .slice aaa 0 caa, .slice awa 0 cwa, .slice ara 0 cra, .slice aka nx cka] 41 (0, 0))]) wr (.slice ak3 i4 ck3) (ks.map (·.2)))) (fun j _ => i4 - (intOf j).toNat)
     case atStart => exact ⟨0, by omega, rfl, HWB.out, HKC, HNa, HKN, HKR⟩
     case round =>
      clear HWB HKC HNa HKN HKR
      obtain ⟨c, hc, rfl, hWB, HKC, HNa, HKN, HKR⟩ := hrel
      have HWB := Lib.hid hWB
      clear hL hF hWB
      have hL := HWB.out.self0
      have hF := hL.fx
      by_cases hlt : c < i4
      ·obtain ⟨p, hp⟩ : ∃ p, ks[c]? = some p := ⟨_, List.getElem?_eq_getElem (by omega)⟩
       obtain ⟨g, o, hga, hgY, hgl, hcell⟩ := rowy_atY HKR.out (j := c) (cs := p.2) (by rw [List.getElem?_map, hp]; rfl)
       have hpn := HKN.out p (List.mem_of_getElem? hp)
       have hpx : p.1 = (.mk 4 [] false [] [] [] x) := HIX.out _ (by rw [HKE.out]; exact List.mem_map.2 ⟨p, List.mem_of_getElem? hp, rfl⟩)
       obtain ⟨v0, v1, v2, v3, v4, v5, v6, hv⟩ := list7 hpn.len
       rw [hpx, hv] at hpn
       rw [hv] at hcell
       have HP := Lib.hid hpn
       have q0 := hcell 0 _ rfl; have q1 := hcell 1 _ rfl; have q2 := hcell 2 _ rfl; have q3 := hcell 3 _ rfl; have q4 := hcell 4 _ rfl; have q5 := hcell 5 _ rfl; have q6 := hcell 6 _ rfl
       rw [Nat.add_zero] at q0
       simp only [keys, List.map_cons, List.map_nil, List.mem_cons, List.not_mem_nil, or_false, not_or] at hgY
       subst hga
       clear hcell hp hpn hpx hv
       go_wp2_with (first | ((with_reducible refine zS ?_); clear hL; intro W hL hF) | ((with_reducible refine at_region 20 ?_); refine zW [0, 1, 2, 3, 4, 5, 6, 7] [0, 1, 2, 3, 4, 5, 7] [6] [0, 2, 3, 7] ?_; clear hF hL; intro ι F hne hC hG; (repeat (first | (refine cS ?_) | (refine cF hC ?_; intro K hK; go_big_quiet_op; go_big_quiet_on) | (refine cP ?_; intro K hK; go_big_quiet_op; go_big_quiet_on) | (refine cC ?_; intro W hL; have hF := hL.fx; simp only [zA, Act.eval]; go_at_call 18; (with_reducible refine (Same_call HSM.out _ _ _ (HP.out.kn hL (fun y hy => absurd hy List.not_mem_nil)) (HNa.out.kn hL (fun y hy => absurd hy List.not_mem_nil))).mono ?_); rintro e W ⟨rfl, hb⟩; replace hL := hL.below hb; clear hb hF; have hF := hL.fx; refine zB ?_; clear hL hF hC hG; intro ι F hne hC hG; simp only [Act.put, zT]) | (refine cN ?_; intro W hL; have hF := hL.facts; go_wp2; refine zB2 ?_; clear hL hC hG; intro ι F hne hC hG))); refine cwk_nil ?_; clear hC hG; intro W hL; have hF := hL.fx))
       refine ⟨⟨c + 1, by omega, by go_num, HWB.out.tail0 kn_here, Lib.hid (HKC.out.next kn_here (Below.refl _ _)), Lib.hid (HNa.out.next kn_here), Lib.hid (fun p hp => (HKN.out p hp).next kn_here), Lib.hid (HKR.out.kn kn_here (fun y hy => .inl hy))⟩, by simp [intOf]; omega⟩
      ·obtain rfl : c = i4 := by omega
       go_wp2
       refine ⟨⟨k + 1, by omega, by go_num, Kn.sub (HWB.out.tail0 kn_here) ?_, Lib.hid (NCs.sub (HKC.out.next kn_here (Below.refl _ _)) ?_), Lib.hid (NodeIs.sub (HNa.out.next kn_here) ?_)⟩, by simp [intOf]; omega⟩
       ·repeat' (first | exact List.Sublist.refl _ | apply List.Sublist.cons)
       ·intro p hp; simp only [List.mem_singleton] at hp; subst hp; simp
       ·intro y hy; left; simp only [keys, List.map_cons, List.map_nil, List.mem_singleton] at hy; subst hy; simp [keys]
    ·obtain ⟨iz, hiz⟩ : ∃ n : Int, (I.kind : Int) = n := ⟨_, rfl⟩
     obtain ⟨im, him⟩ : ∃ u : ByteArray, I.name = u.data.toList := ⟨⟨I.name.toArray⟩, by simp⟩
     obtain ⟨ig, hig⟩ : ∃ b, I.neg = b := ⟨_, rfl⟩
     obtain ⟨i1, hi1⟩ : ∃ n, I.asg.length = n := ⟨_, rfl⟩
     obtain ⟨i2, hi2⟩ : ∃ n, I.ws.length = n := ⟨_, rfl⟩
     obtain ⟨i3, hi3⟩ : ∃ n, I.rs.length = n := ⟨_, rfl⟩
     obtain ⟨i4, hi4⟩ : ∃ n, I.kids.length = n := ⟨_, rfl⟩
     have KH3 : Hid (N.kids[0]? = some I) := Lib.hid hI
     have KI3 : Hid (KidIs I iz im ig i1 i2 i3 i4) := Lib.hid ⟨hiz, him, hig, hi1, hi2, hi3, hi4⟩
     clear hI hiz him hig hi1 hi2 hi3 hi4
     go_upto_region 17 with ((go_at_call 19; refine zG ?_; clear hF hL; intro W hL hF; (with_reducible refine (kid_c _ _ _ _ _ _ _ _ _ _ _ _ _ _ _ _ 0 0 H00.out I iz im ig i1 i2 i3 i4 _ _ (HN2.out.next hL) KH3.out KI3.out).mono ?_); rintro e V3 ⟨aa3, ca3, aw3, cw3, ar3, cr3, ak3, ck3, rfl, HNK, hb⟩; have HN3 := HNK; clear HNK; replace HKC := Lib.hid (HKC.out.next hL hb); replace HNa := Lib.hid (HNa.out.next2 hL hb); replace HN2 := Lib.hid (HN2.out.next2 hL hb); replace hL := hL.below hb; clear hb hF; have hF := hL.fx; have HWB2 := Lib.hid (HWB.out.tail0 hL); clear hL; clear HWB; have HWB := HWB2; clear HWB2; have hL := HWB.out.self0; clear hF; have hF := hL.fx))
     refine kn_wp ?_; clear hF hL; intro W6 hL
     clear HN2
     replace HKC := Lib.hid (HKC.out.next hL (Below.refl _ _))
     replace HNa := Lib.hid (HNa.out.next hL); replace HN3 := Lib.hid (HN3.out.next hL)
     have HWB2 := Lib.hid (HWB.out.tail0 hL)
     clear HWB hL
     have HWB := HWB2
     clear HWB2
     have hL := HWB.out.self0
     simp only [kfb] at hL; have hF := hL.fx
     have hks := kids_open HN3.out
     obtain ⟨ks, hke, hkl, hkn, hkr⟩ := hks
     have HKN := Lib.hid hkn
     have HKR := Lib.hid hkr
     have HKE := Lib.hid hke
     have hk0 : 0 < i4 := by
      have h := List.length_pos_iff.2 HIK.out
      rw [hke, List.length_map, hkl] at h
      exact h
     have kz0 : ((i4 : Int) == 0) = false := by rw [beq_eq_false_iff_ne]; omega
     have hk2 : i4 ≤ 2 := by
      have h := HI2.out
      rw [hke, List.length_map, hkl] at h
      exact h
     clear hke hkn hkr HN3
     go_wp2
     go_loopw [14] (fun j wr => ∃ c : Nat, c ≤ i4 ∧ j = .int .i64 c ∧ Kn [] w wr [(nb, .cells #[.int .i64 iz, .string im, .bool ig, .slice aa3 i1 ca3, .slice aw3 i2 cw3, .slice ar3 i3 cr3, .slice ak3 i4 ck3] 41 (0, 0)), (yb, .cells #[.int .i64 4, .string ⟨#[]⟩, .bool false, .slice aay 0 cay, .slice awy 0 cwy, .slice ary 0 cry, .slice aky 1 cky] 41 (0, 0)), (bx, .cells #[.int .i64 4, .string ⟨#[]⟩, .bool false, .slice aaa 0 caa, .slice awa 0 cwa, .slice ara 0 cra, .slice aka nx cka] 41 (0, 0))] ∧ Hid (NCs a [(nb, .cells #[.int .i64 iz, .string im, .bool ig, .slice aa3 i1 ca3, .slice aw3 i2 cw3, .slice ar3 i3 cr3, .slice ak3 i4 ck3] 41 (0, 0)), (yb, .cells #[.int .i64 4, .string ⟨#[]⟩, .bool false, .slice aay 0 cay, .slice awy 0 cwy, .slice ary 0 cry, .slice aky 1 cky] 41 (0, 0)), (bx, .cells #[.int .i64 4, .string ⟨#[]⟩, .bool false, .slice aaa 0 caa, .slice awa 0 cwa, .slice ara 0 cra, .slice aka nx cka] 41 (0, 0))] wr sb kb) ∧ Hid (NodeIs (keys [(nb, .cells #[.int .i64 iz, .string im, .bool ig, .slice aa3 i1 ca3, .slice aw3 i2 cw3, .slice ar3 i3 cr3, .slice ak3 i4 ck3] 41 (0, 0)), (yb, .cells #[.int .i64 4, .string ⟨#[]⟩, .bool false, .slice aay 0 cay, .slice awy 0 cwy, .slice ary 0 cry, .slice aky 1 cky] 41 (0, 0)), (bx, .cells #[.int .i64 4, .string ⟨#[]⟩, .bool false, .slice aaa 0 caa, .slice awa 0 cwa, .slice ara 0 cra, .slice aka nx cka] 41 (0, 0))]) wr (.mk 4 [] false [] [] [] x) [.int .i64 4, .string ⟨#[]⟩, .bool false, .slice aaa 0 caa, .slice awa 0 cwa, .slice ara 0 cra, .slice aka nx cka]) ∧ Hid (∀ p ∈ ks, NodeIs (keys [(nb, .cells #[.int .i64 iz, .string im, .bool ig, .slice aa3 i1 ca3, .slice aw3 i2 cw3, .slice ar3 i3 cr3, .slice ak3 i4 ck3] 41 (0, 0)), (yb, .cells #[.int .i64 4, .string ⟨#[]⟩, .bool false, .slice aay 0 cay, .slice awy 0 cwy, .slice ary 0 cry, .slice aky 1 cky] 41 (0, 0)), (bx, .cells #[.int .i64 4, .string ⟨#[]⟩, .bool false, .slice aaa 0 caa, .slice awa 0 cwa, .slice ara 0 cra, .slice aka nx cka] 41 (0, 0))]) wr p.1 p.2) ∧ Hid (RowY 7 (keys [(nb, .cells #[.int .i64 iz, .string im, .bool ig, .slice aa3 i1 ca3, .slice aw3 i2 cw3, .slice ar3 i3 cr3, .slice ak3 i4 ck3] 41 (0, 0)), (yb, .cells #[.int .i64 4, .string ⟨#[]⟩, .bool false, .slice aay 0 cay, .slice awy 0 cwy, .slice ary 0 cry, .slice aky 1 cky] 41 (0, 0)), (bx, .cells #[.int .i64 4, .string ⟨#[]⟩, .bool false, .slice aaa 0 caa, .slice awa 0 cwa, .slice ara 0 cra, .slice aka nx cka] 41 (0, 0))]) wr (.slice ak3 i4 ck3) (ks.map (·.2)))) (fun j _ => i4 - (intOf j).toNat)
     case atStart => exact ⟨0, by omega, rfl, HWB.out, HKC, HNa, HKN, HKR⟩
     case round =>
      clear HWB HKC HNa HKN HKR
      obtain ⟨c, hc, rfl, hWB, HKC, HNa, HKN, HKR⟩ := hrel
      have HWB := Lib.hid hWB
      clear hL hF hWB
      have hL := HWB.out.self0
      have hF := hL.fx
      by_cases hlt : c < i4
      ·obtain ⟨p, hp⟩ : ∃ p, ks[c]? = some p := ⟨_, List.getElem?_eq_getElem (by omega)⟩
       obtain ⟨g, o, hga, hgY, hgl, hcell⟩ := rowy_atY HKR.out (j := c) (cs := p.2) (by rw [List.getElem?_map, hp]; rfl)
       have hpn := HKN.out p (List.mem_of_getElem? hp)
       have hpx : p.1 = (.mk 4 [] false [] [] [] x) := HIX.out _ (by rw [HKE.out]; exact List.mem_map.2 ⟨p, List.mem_of_getElem? hp, rfl⟩)
       obtain ⟨v0, v1, v2, v3, v4, v5, v6, hv⟩ := list7 hpn.len
       rw [hpx, hv] at hpn
       rw [hv] at hcell
       have HP := Lib.hid hpn
       have q0 := hcell 0 _ rfl; have q1 := hcell 1 _ rfl; have q2 := hcell 2 _ rfl; have q3 := hcell 3 _ rfl; have q4 := hcell 4 _ rfl; have q5 := hcell 5 _ rfl; have q6 := hcell 6 _ rfl
       rw [Nat.add_zero] at q0
       simp only [keys, List.map_cons, List.map_nil, List.mem_cons, List.not_mem_nil, or_false, not_or] at hgY
       subst hga
       clear hcell hp hpn hpx hv
       go_wp2_with (first | ((with_reducible refine zS ?_); clear hL; intro W hL hF) | ((with_reducible refine at_region 20 ?_); refine zW [0, 1, 2, 3, 4, 5, 6, 7] [0, 1, 2, 3, 4, 5, 7] [6] [0, 2, 3, 7] ?_; clear hF hL; intro ι F hne hC hG; (repeat (first | (refine cS ?_) | (refine cF hC ?_; intro K hK; go_big_quiet_op; go_big_quiet_on) | (refine cP ?_; intro K hK; go_big_quiet_op; go_big_quiet_on) | (refine cC ?_; intro W hL; have hF := hL.fx; simp only [zA, Act.eval]; go_at_call 18; (with_reducible refine (Same_call HSM.out _ _ _ (HP.out.kn hL (fun y hy => absurd hy List.not_mem_nil)) (HNa.out.kn hL (fun y hy => absurd hy List.not_mem_nil))).mono ?_); rintro e W ⟨rfl, hb⟩; replace hL := hL.below hb; clear hb hF; have hF := hL.fx; refine zB ?_; clear hL hF hC hG; intro ι F hne hC hG; simp only [Act.put, zT]) | (refine cN ?_; intro W hL; have hF := hL.facts; go_wp2; refine zB2 ?_; clear hL hC hG; intro ι F hne hC hG))); refine cwk_nil ?_; clear hC hG; intro W hL; have hF := hL.fx))
       refine ⟨⟨c + 1, by omega, by go_num, HWB.out.tail0 kn_here, Lib.hid (HKC.out.next kn_here (Below.refl _ _)), Lib.hid (HNa.out.next kn_here), Lib.hid (fun p hp => (HKN.out p hp).next kn_here), Lib.hid (HKR.out.kn kn_here (fun y hy => .inl hy))⟩, by simp [intOf]; omega⟩
      ·obtain rfl : c = i4 := by omega
       go_wp2
       refine ⟨⟨k + 1, by omega, by go_num, Kn.sub (HWB.out.tail0 kn_here) ?_, Lib.hid (NCs.sub (HKC.out.next kn_here (Below.refl _ _)) ?_), Lib.hid (NodeIs.sub (HNa.out.next kn_here) ?_)⟩, by simp [intOf]; omega⟩
       ·repeat' (first | exact List.Sublist.refl _ | apply List.Sublist.cons)
       ·intro p hp; simp only [List.mem_singleton] at hp; subst hp; simp
       ·intro y hy; left; simp only [keys, List.map_cons, List.map_nil, List.mem_singleton] at hy; subst hy; simp [keys]
   ·have HPy := Lib.hid (fun W => parse_err_c s hs8 true m 6 hp rfl W)
    clear hp
    go_wp2_with ((go_at_call 13; refine zG ?_; clear hF hL; intro W hL hF; (with_reducible refine (HPy.out _ (HT.out.ext (HWB.out.tail0 hL).below0)).mono ?_); rintro e W2 ⟨rfl, hb⟩; replace HKC := Lib.hid (HKC.out.next hL hb); replace HNa := Lib.hid (HNa.out.next2 hL hb); replace hL := hL.below hb; clear hb hF; have hF := hL.fx; have HWB2 := Lib.hid (HWB.out.tail0 hL); clear hL; clear HWB; have HWB := HWB2; clear HWB2; have hL := HWB.out.self0; clear hF; have hF := hL.fx))
    refine ⟨⟨k + 1, by omega, by go_num, Kn.sub (HWB.out.tail0 kn_here) ?_, Lib.hid (NCs.sub (HKC.out.next kn_here (Below.refl _ _)) ?_), Lib.hid (NodeIs.sub (HNa.out.next kn_here) ?_)⟩, by simp [intOf]; omega⟩
    ·repeat' (first | exact List.Sublist.refl _ | apply List.Sublist.cons)
    ·intro p hp; simp only [List.mem_singleton] at hp; subst hp; simp
    ·intro y hy; left; simp only [keys, List.map_cons, List.map_nil, List.mem_singleton] at hy; subst hy; simp [keys]
  ·obtain rfl : k = 8 := by omega
   go_wp2
   refine kn_body ?_; clear hF hL; intro W hL; have hF := hL.fx
   refine bodyPost_ret (by simp [results, Tryz.results6, go_sem, *]; try rfl) rfl ?_
   exact ⟨rfl, (HWB.out.tail0 hL).below0⟩
end Go.Proofs.YtgboffbbpmileaaGreatDoor
