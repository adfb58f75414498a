/-
  A world for the witness: the settled one, the listed tables holding what their initialisers lay.
-/
import Derived.Test.YtkabaecoamilnaaGreatDoorRows
set_option linter.unusedVariables false
set_option linter.unusedSimpArgs false
namespace Go.Proofs.YtkabaecoamilnaaGreatDoor

def putCells (h : Array Obj) (g : Nat) (cs : List Value) : Array Obj := h.modify g fun
  | .cells _ t frozen => .cells cs.toArray t frozen
  | o => o
def litCellsF : Nat → DataW Unit → List Value
  | 0, _ => []
  | n + 1, .agg l => l.flatMap (litCellsF n)
  | _ + 1, .lit (.int k n) => [.int k n]
  | _ + 1, .lit (.string s) => [.string ⟨s.toArray⟩]
  | _ + 1, .lit (.bool b) => [.bool b]
  | _ + 1, _ => []
noncomputable def laidWorld (os : Os) (l : List (String × DataW Unit)) : World :=
  { World.holding Tryz.prog os ⟨#[], #[], []⟩ with heap := l.foldl (fun h x => putCells h ((Tryz.prog.globalNamed x.1).getD 0) (litCellsF 6 x.2)) (World.holding Tryz.prog os ⟨#[], #[], []⟩).heap }
end Go.Proofs.YtkabaecoamilnaaGreatDoor
