/-
  What the package-level variables hold: the tables lie as the program's text lays them; bytealg.MaxLen is a number.
-/
import Derived.Test.YtlkceignfhnpoaaGreatDoorProg
import Derived.Test.YtlkceignfhnpoaaGreatDoorCQP
import Derived.Below
import Derived.Lib.LaidTab
import Derived.Lib.ItoaLen
import Derived.WalkSmall
import Derived.KernelRfl
set_option linter.unusedVariables false
set_option linter.unusedSimpArgs false
namespace Go.Proofs.YtlkceignfhnpoaaGreatDoor
open Go.RowKit
structure EnvOK (w : World) : Prop where
  words : ∀ i : Nat, 1 ≤ i → i ≤ 12 → w.cell? ⟨0, i, none⟩ = some (.string ⟨(sigWord i).toArray⟩)
  wordsLt : 0 < w.heap.size
  pow : Lib.TabIs Tryz.prog w "internal/strconv.uint64pow10" .u64 Lib.pow10Tab
  powLt : 1 < w.heap.size
  most : ∃ m, w.cell? ⟨2, 0, none⟩ = some (.int .i64 m)
theorem EnvOK.below {w w' : World} (h : EnvOK w) (hb : Below w.heap.size w w') : EnvOK w' := by
  obtain ⟨m, hm⟩ := h.most
  exact ⟨fun i h1 h2 => (hb.cell h.wordsLt).trans (h.words i h1 h2), Nat.lt_of_lt_of_le h.wordsLt hb.size, var?_below hb (by kernel_rfl) h.powLt h.pow, Nat.lt_of_lt_of_le h.powLt hb.size, m, (hb.cell (block_lt_of_cell hm)).trans hm⟩
end Go.Proofs.YtlkceignfhnpoaaGreatDoor
