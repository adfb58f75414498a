/-
  The document's unit as a value; a cut text.
-/
import Derived.Test.YtohenohgceaibaaGreatDoorPduV
import Derived.Test.YtohenohgceaibaaGreatDoorOwnInts
import Derived.Test.YtohenohgceaibaaGreatDoorBox
set_option linter.unusedVariables false
set_option linter.unusedSimpArgs false
namespace Go.Proofs.YtohenohgceaibaaGreatDoor
open Go.RowKit

/-- The document's unit as a value. -/
def refV (k sq n ps mr : Int) (lv : Value) (self : Bool) (d : ByteArray) : Value := .agg #[.int .i64 k, .int .i64 sq, .int .i64 n, .int .i64 ps, .int .i64 mr, lv, .bool self, .string d]
def cutB (m : Nat) (d : ByteArray) : ByteArray := ⟨(d.data.toList.take m).toArray⟩
end Go.Proofs.YtohenohgceaibaaGreatDoor
