/-
  The program's paces: how they lie.
-/
import Derived.Test.YtnimgpfgfohdoaaGreatTab
import Derived.Test.YtnimgpfgfohdoaaGreatAy8
import Derived.Test.YtnimgpfgfohdoaaGreatAyC
import Derived.Test.YtnimgpfgfohdoaaGreatMPlain
set_option linter.unusedVariables false
set_option linter.unusedSimpArgs false
namespace Go.Proofs.YtnimgpfgfohdoaaGreat
open Go AX
/-- A pace's cells. -/
def PaceS.cells (p : PaceS) : List Value := [.int .i64 p.l0, .int .i64 p.l1, .int .i64 p.l2, .int .i64 p.l3, .int .i64 p.l4, .int .i64 p.t0, .int .i64 p.t1, .int .i64 p.t2, .int .i64 p.t3, .int .i64 p.t4]
def PaceS.blk (p : PaceS) : AB := .cells p.cells 150 true
def PaceS.put (p : PaceS) (t : Nat) (x : Int) : PaceS :=
  match t with
  | 0 => { p with l0 := x }
  | 1 => { p with l1 := x }
  | 2 => { p with l2 := x }
  | 3 => { p with l3 := x }
  | _ => { p with l4 := x }
def PaceS.got (p : PaceS) (t : Nat) : Int :=
  match t with
  | 0 => p.l0
  | 1 => p.l1
  | 2 => p.l2
  | 3 => p.l3
  | _ => p.l4
end Go.Proofs.YtnimgpfgfohdoaaGreat
