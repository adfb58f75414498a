/-
  How long a unit's bytes are.
-/
import Derived.Test.YtlkceignfhnpoaaGreatDoorPduBytes
set_option linter.unusedVariables false
set_option linter.unusedSimpArgs false
namespace Go.Proofs.YtlkceignfhnpoaaGreatDoor
open Go.RowKit

theorem wordsOf_length (k sq ps mr : Int) (l : List Int) : (wordsOf k sq ps mr l).length = (if sSq k then 1 else 0) + l.length + (if sPs k then 1 else 0) + (if sMr k then 1 else 0) := by
  unfold wordsOf
  simp only [List.length_append]
  cases sSq k <;> cases sPs k <;> cases sMr k <;> simp
theorem bytesOf_length (k sq n ps mr : Int) (l : List Int) (self : Bool) (d : List UInt8) : (bytesOf k sq n ps mr l self d).length = (d.length + 3) / 4 * 4 + 4 * (1 + (wordsOf k sq ps mr l).length) := by
  unfold bytesOf
  simp only [List.length_append, wordBytes_length, be4_length, Lib.repeatL_length]
  unfold padOf
  simp only [List.length_cons, List.length_nil]
  omega
end Go.Proofs.YtlkceignfhnpoaaGreatDoor
