/-
  The program's text as a whole: what the executor asks of it.
-/
import Derived.Test.YtkabaecoamilnaaGreatDoorCQA2
import Derived.Test.YtkabaecoamilnaaGreatDoorProg
import Derived.KernelRfl
set_option linter.unusedVariables false
set_option linter.unusedSimpArgs false
namespace Go.Proofs.YtkabaecoamilnaaGreatDoor
open Go AX
theorem prog_mixed : Tryz.prog.follows .mixedOrders = true := by kernel_rfl
def codesOK (P : Program) : Bool := P.funcs.toList.all fun fn => match fn.body with
  | some c => codeOK c
  | none => true
set_option maxRecDepth 100000 in
theorem prog_codes : codesOK Tryz.prog = true := by kernel_rfl
theorem prog_code (f : FuncId) (fn : Func) (c : Code) (h : Tryz.prog.funcs[f]? = some fn) (hb : fn.body = some c) : codeOK c = true := by
  have := List.all_eq_true.1 prog_codes fn (by simpa using Array.mem_of_getElem? h)
  rw [hb] at this
  exact this
end Go.Proofs.YtkabaecoamilnaaGreatDoor
