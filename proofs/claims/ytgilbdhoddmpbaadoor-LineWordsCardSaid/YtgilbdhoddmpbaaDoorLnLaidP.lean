/-
  The package-level variables that a step's line reads, from a row's list.
-/
import Derived.Test.YtgilbdhoddmpbaaDoorLnLaid
import Derived.Test.YtgilbdhoddmpbaaDoorLaidMem
import Derived.Test.YtgilbdhoddmpbaaDoorLnEnvP
set_option linter.unusedVariables false
set_option linter.unusedSimpArgs false
namespace Go.Proofs.YtgilbdhoddmpbaaDoor
open Go.RowKit

theorem line_envP {l : List (String × DataW Unit)} {W : World} (hsh : W.ShapedOpen Tryd.prog) (h : laidMetH Tryd.prog l W) (hpl : (l.all fun x => x.2.handleName?.isNone) = true)
    (hp0 : ("internal/strconv.uint64pow10", Lib.tabData .u64 Lib.pow10Tab) ∈ l) : EnvP W := by
  have hp : Lib.TabIs Tryd.prog W "internal/strconv.uint64pow10" .u64 Lib.pow10Tab := tab_of_laid (P := Tryd.prog) (W := W) (name := "internal/strconv.uint64pow10") (g := 3) (k := .u64) (by kernel_rfl) (by kernel_rfl) Tryd.underlying96 Tryd.underlying84 (by kernel_rfl) (by kernel_rfl) h hpl hp0
  exact ⟨line_env hsh, hp, block_lt_cell (hp.cell (by kernel_rfl) 0 (by decide))⟩
end Go.Proofs.YtgilbdhoddmpbaaDoor
