/-
  The package-level variables that the statements on lines list or name: the walks' facts; a world for the witness.
-/
import Derived.Test.YtgilbdhoddmpbaaDoorLaidU
import Derived.Test.YtgilbdhoddmpbaaDoorLnEnv
import Derived.LaidLaws
import Derived.Shelf.Vars
set_option linter.unusedVariables false
set_option linter.unusedSimpArgs false
namespace Go.Proofs.YtgilbdhoddmpbaaDoor
open Go.RowKit

theorem line_env {W : World} (hsh : W.ShapedOpen Tryd.prog) : EnvM W :=
  ⟨cell_of_shapedOpen_int (P := Tryd.prog) (t := 3) (zero := #[.int .i64 0]) hsh (of_decide_eq_true (by kernel_rfl)) (by kernel_rfl) rfl (by kernel_rfl) (by kernel_rfl) Tryd.underlying3⟩
end Go.Proofs.YtgilbdhoddmpbaaDoor
