/-
  What '[]byte(s)' brings: its bytes, in a block of its own.
-/
import Derived.Test.YtgilbdhoddmpbaaDoorRows
import Derived.Test.YtgilbdhoddmpbaaDoorCommon
import Derived.WalkSpells
import Derived.WalkLawsBesides
import Derived.Laws.IdiomStrings
set_option linter.unusedVariables false
set_option linter.unusedSimpArgs false
namespace Go.Proofs.YtgilbdhoddmpbaaDoor
open Go.RowKit

theorem bytes_of (s : ByteArray) (w : World) : ∃ c w1, (convert 9 37 (.string s)).run Tryd.prog w = .ok (.slice (some ⟨w.heap.size, 0, none⟩) s.size c) w1 ∧
    (∀ i, (h : i < s.size) → w1.cell? ⟨w.heap.size, i, none⟩ = some (.int .u8 (s[i].toNat : Int))) ∧ Below w.heap.size w w1 := by
  refine ⟨_, _, run_bytes_of_string (P := Tryd.prog) w 9 37 5 s Tryd.underlying9 Tryd.underlying37 Tryd.underlying5, ?_, (Below.refl _ _).drew.alloc (Nat.le_refl _) _⟩
  intro i h
  have := World.cell?_alloc_mark w.drew (bytesRow s (grownCap w s.size 0 5)) 5 ((bytesRow s (grownCap w s.size 0 5)).size, (bytesRow s (grownCap w s.size 0 5)).size + 1) i
  refine this.trans ?_
  exact bytesRow_at s _ i h
end Go.Proofs.YtgilbdhoddmpbaaDoor
