import Derived.Test.YtibaebgihbdphaaDoorCpuT
namespace Go.Proofs.YtibaebgihbdphaaDoor
open Go Go.ChangeShapes Go.WideShapes Go.ChangeAt Go.RowKit
def lay (h : Array Obj) (g : Nat) (cs : Array Value) : Array Obj := h.modify g fun
  | .cells _ t frozen => .cells cs t frozen
  | o => o
/-- A world for the witness: the settled one, the tables as the initialisers lay them. -/
noncomputable def laidWorld (os : Os) : World :=
  { World.holding Tryd.prog os ⟨#[], #[], []⟩ with heap := lay (lay (World.holding Tryd.prog os ⟨#[], #[], []⟩).heap 1 #[.int .i64 0, .int .i64 2, .int .i64 5, .int .i64 5, .int .i64 0, .int .i64 0, .int .i64 0, .int .i64 0, .int .i64 0, .int .i64 0, .int .i64 0, .int .i64 0, .int .i64 0, .int .i64 0, .int .i64 0, .int .i64 0, .int .i64 0, .int .i64 0, .int .i64 5, .int .i64 4, .int .i64 4, .int .i64 4, .int .i64 4, .int .i64 1, .int .i64 1, .int .i64 6, .int .i64 5, .int .i64 5, .int .i64 5, .int .i64 1, .int .i64 5, .int .i64 6]) 0 #[.string ⟨#[]⟩, .string ⟨#[114]⟩, .string ⟨#[114, 114]⟩, .string ⟨#[114, 114, 114]⟩, .string ⟨#[114, 114, 111]⟩, .string ⟨#[114, 110]⟩, .string ⟨#[110]⟩] }
end Go.Proofs.YtibaebgihbdphaaDoor
