/-
  A unit as a value; what an append of a new number makes.
-/
import Derived.Test.YtlkceignfhnpoaaGreatDoorPduNum
import Derived.Test.YtlkceignfhnpoaaGreatDoorPlainPduCheck
set_option linter.unusedVariables false
set_option linter.unusedSimpArgs false
namespace Go.Proofs.YtlkceignfhnpoaaGreatDoor
open Go.RowKit

/-- A unit as a value. -/
def pduV (k sq n ps mr : Int) (lv : Value) (self : Bool) (d : ByteArray) : Value := .agg #[.int .i64 k, .int .i64 sq, .int .u32 n, .int .u32 ps, .int .u32 mr, lv, .bool self, .string d]
end Go.Proofs.YtlkceignfhnpoaaGreatDoor
