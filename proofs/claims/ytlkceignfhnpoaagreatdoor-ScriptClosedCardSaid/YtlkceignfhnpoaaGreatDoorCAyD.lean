/-
  What is asked of types.
-/
import Derived.Test.YtlkceignfhnpoaaGreatDoorCQA1
set_option linter.unusedVariables false
namespace Go.Proofs.YtlkceignfhnpoaaGreatDoor
open Go AX
/-- What a slice's literal is made of: an element's type and cells, and the row. -/
def bsCells (P : Program) (T : TypeId) (len : Nat) : Option (TypeId × Nat × List Value) :=
  match elemT P T with
  | some e => match szOf P e, zeroOf P e with
    | some size, some z => if len * size ≤ 2 ^ 24 ∧ len ≤ 2 ^ 24 ∧ (zeroRow z (len * size)).all simpleV = true then some (e, size, zeroRow z (len * size)) else none
    | _, _ => none
  | none => none
/-- What a struct's or an array's literal is made of. -/
def bInfo (t : TypeId) : Sem (Array (Nat × Nat) × Option Nat × Array Value) := do
  let zero := (← zeroValue t).cells
  match ← underlying t with
  | .struct fields =>
    let places ← fields.mapM fun f => do pure (f.offset, ← sizeOf f.type)
    pure (places, none, zero)
  | .array _ elem =>
    let size ← sizeOf elem
    pure (#[], some size, zero)
  | _ => stuck "no struct and no array"
def bPlace (pl : Array (Nat × Nat)) (sz : Option Nat) (i : Nat) : Option (Nat × Nat) :=
  match sz with
  | none => pl[i]?
  | some k => some (i * k, k)
/-- What an append asks: an element's type, its cells and bytes. -/
def apInfo (P : Program) (T : TypeId) : Option (TypeId × Nat × Nat) :=
  match elemT P T with
  | some e => match szOf P e, zeroOf P e, bytesOfT P e with
    | some size, some z, some by_ => if z.cells.size = size ∧ ¬ oddT e = true then some (e, size, by_) else none
    | _, _, _ => none
  | none => none
end Go.Proofs.YtlkceignfhnpoaaGreatDoor
