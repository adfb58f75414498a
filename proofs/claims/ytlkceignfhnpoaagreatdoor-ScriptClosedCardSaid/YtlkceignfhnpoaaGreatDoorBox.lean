/-
  A block of cells, known whole.
-/
import Derived.Test.YtlkceignfhnpoaaGreatDoorCommon
import Derived.OneCell
import Derived.Laws.Rows
set_option linter.unusedVariables false
set_option linter.unusedSimpArgs false
namespace Go.Proofs.YtlkceignfhnpoaaGreatDoor
open Go.RowKit

/-- Block b holds these cells, none of them frozen. -/
def BoxAt (w : World) (b : Nat) (T : TypeId) (cs : List Value) : Prop := w.heap[b]? = some (.cells cs.toArray T (0, 0))
theorem BoxAt.cell {w : World} {b : Nat} {T : TypeId} {cs : List Value} (h : BoxAt w b T cs) (o : Nat) : w.cell? ⟨b, o, none⟩ = cs[o]? := by
  unfold BoxAt at h; simp [World.cell?, h]
theorem BoxAt.froz {w : World} {b : Nat} {T : TypeId} {cs : List Value} (h : BoxAt w b T cs) (o : Nat) : w.frozen? ⟨b, o, none⟩ = false := by
  unfold BoxAt at h; simp [World.frozen?, h]
theorem BoxAt.lt {w : World} {b : Nat} {T : TypeId} {cs : List Value} (h : BoxAt w b T cs) : b < w.heap.size := lt_of_block h
theorem BoxAt.below {w w' : World} {B b : Nat} {T : TypeId} {cs : List Value} (h : BoxAt w b T cs) (hb : Below B w w') (hB : b < B) : BoxAt w' b T cs :=
  (hb.block b hB).trans h
theorem BoxAt.new (w : World) (T : TypeId) (cs : List Value) : BoxAt (w.alloc (.cells cs.toArray T)) w.heap.size T cs := by
  unfold BoxAt; exact heap_alloc_new _ _
theorem BoxAt.newAt {w : World} {b : Nat} (hb : w.heap.size = b) (T : TypeId) (cs : List Value) : BoxAt (w.alloc (.cells cs.toArray T)) b T cs := hb ▸ BoxAt.new w T cs
theorem BoxAt.alloc {w : World} {b : Nat} {T : TypeId} {cs : List Value} {o : Obj} (h : BoxAt w b T cs) : BoxAt (w.alloc o) b T cs :=
  h.below ((Below.refl _ _).alloc (Nat.le_refl _) o) h.lt
theorem BoxAt.drew {w : World} {b : Nat} {T : TypeId} {cs : List Value} (h : BoxAt w b T cs) : BoxAt w.drew b T cs := h
theorem BoxAt.set {w : World} {b : Nat} {T : TypeId} {cs : List Value} (h : BoxAt w b T cs) (o : Nat) (v : Value) : BoxAt (w.setCell ⟨b, o, none⟩ v) b T (cs.set o v) := by
  have hlt := h.lt
  unfold BoxAt at h ⊢
  have h' : w.heap[b] = .cells cs.toArray T (0, 0) := by simpa [Array.getElem?_eq_getElem hlt] using h
  show (w.heap.modify b _)[b]? = _
  rw [Array.getElem?_eq_getElem (by simpa using hlt), Array.getElem_modify_self, h']
  simp
theorem BoxAt.other {w : World} {b : Nat} {T : TypeId} {cs : List Value} (h : BoxAt w b T cs) {a : Addr} (ha : b ≠ a.block) (v : Value) : BoxAt (w.setCell a v) b T cs := by
  unfold BoxAt at h ⊢
  rw [Below.heap_setCell _ _ _ _ ha]; exact h
theorem BoxAt.grown {w w' : World} {b : Nat} {T : TypeId} {cs : List Value} {row : Option Nat} (h : BoxAt w b T cs) (hg : w.grownBy w' row) (hr : some b ≠ row) : BoxAt w' b T cs := (hg.block b h.lt hr).trans h
theorem BoxAt.cells1 {w : World} {b : Nat} {T : TypeId} {c0 : Value} (h : BoxAt w b T [c0]) : w.cell? ⟨b, 0, none⟩ = some c0 :=
  h.cell 0
theorem BoxAt.frozs1 {w : World} {b : Nat} {T : TypeId} {c0 : Value} (h : BoxAt w b T [c0]) : w.frozen? ⟨b, 0, none⟩ = false :=
  h.froz 0
theorem BoxAt.cells2 {w : World} {b : Nat} {T : TypeId} {c0 c1 : Value} (h : BoxAt w b T [c0, c1]) : w.cell? ⟨b, 0, none⟩ = some c0 ∧ w.cell? ⟨b, 1, none⟩ = some c1 :=
  ⟨h.cell 0, h.cell 1⟩
theorem BoxAt.frozs2 {w : World} {b : Nat} {T : TypeId} {c0 c1 : Value} (h : BoxAt w b T [c0, c1]) : w.frozen? ⟨b, 0, none⟩ = false ∧ w.frozen? ⟨b, 1, none⟩ = false :=
  ⟨h.froz 0, h.froz 1⟩
theorem BoxAt.cells3 {w : World} {b : Nat} {T : TypeId} {c0 c1 c2 : Value} (h : BoxAt w b T [c0, c1, c2]) : w.cell? ⟨b, 0, none⟩ = some c0 ∧ w.cell? ⟨b, 1, none⟩ = some c1 ∧ w.cell? ⟨b, 2, none⟩ = some c2 :=
  ⟨h.cell 0, h.cell 1, h.cell 2⟩
theorem BoxAt.frozs3 {w : World} {b : Nat} {T : TypeId} {c0 c1 c2 : Value} (h : BoxAt w b T [c0, c1, c2]) : w.frozen? ⟨b, 0, none⟩ = false ∧ w.frozen? ⟨b, 1, none⟩ = false ∧ w.frozen? ⟨b, 2, none⟩ = false :=
  ⟨h.froz 0, h.froz 1, h.froz 2⟩
theorem BoxAt.cells4 {w : World} {b : Nat} {T : TypeId} {c0 c1 c2 c3 : Value} (h : BoxAt w b T [c0, c1, c2, c3]) : w.cell? ⟨b, 0, none⟩ = some c0 ∧ w.cell? ⟨b, 1, none⟩ = some c1 ∧ w.cell? ⟨b, 2, none⟩ = some c2 ∧ w.cell? ⟨b, 3, none⟩ = some c3 :=
  ⟨h.cell 0, h.cell 1, h.cell 2, h.cell 3⟩
theorem BoxAt.frozs4 {w : World} {b : Nat} {T : TypeId} {c0 c1 c2 c3 : Value} (h : BoxAt w b T [c0, c1, c2, c3]) : w.frozen? ⟨b, 0, none⟩ = false ∧ w.frozen? ⟨b, 1, none⟩ = false ∧ w.frozen? ⟨b, 2, none⟩ = false ∧ w.frozen? ⟨b, 3, none⟩ = false :=
  ⟨h.froz 0, h.froz 1, h.froz 2, h.froz 3⟩
theorem BoxAt.cells5 {w : World} {b : Nat} {T : TypeId} {c0 c1 c2 c3 c4 : Value} (h : BoxAt w b T [c0, c1, c2, c3, c4]) : w.cell? ⟨b, 0, none⟩ = some c0 ∧ w.cell? ⟨b, 1, none⟩ = some c1 ∧ w.cell? ⟨b, 2, none⟩ = some c2 ∧ w.cell? ⟨b, 3, none⟩ = some c3 ∧ w.cell? ⟨b, 4, none⟩ = some c4 :=
  ⟨h.cell 0, h.cell 1, h.cell 2, h.cell 3, h.cell 4⟩
theorem BoxAt.frozs5 {w : World} {b : Nat} {T : TypeId} {c0 c1 c2 c3 c4 : Value} (h : BoxAt w b T [c0, c1, c2, c3, c4]) : w.frozen? ⟨b, 0, none⟩ = false ∧ w.frozen? ⟨b, 1, none⟩ = false ∧ w.frozen? ⟨b, 2, none⟩ = false ∧ w.frozen? ⟨b, 3, none⟩ = false ∧ w.frozen? ⟨b, 4, none⟩ = false :=
  ⟨h.froz 0, h.froz 1, h.froz 2, h.froz 3, h.froz 4⟩
theorem BoxAt.cells6 {w : World} {b : Nat} {T : TypeId} {c0 c1 c2 c3 c4 c5 : Value} (h : BoxAt w b T [c0, c1, c2, c3, c4, c5]) : w.cell? ⟨b, 0, none⟩ = some c0 ∧ w.cell? ⟨b, 1, none⟩ = some c1 ∧ w.cell? ⟨b, 2, none⟩ = some c2 ∧ w.cell? ⟨b, 3, none⟩ = some c3 ∧ w.cell? ⟨b, 4, none⟩ = some c4 ∧ w.cell? ⟨b, 5, none⟩ = some c5 :=
  ⟨h.cell 0, h.cell 1, h.cell 2, h.cell 3, h.cell 4, h.cell 5⟩
theorem BoxAt.frozs6 {w : World} {b : Nat} {T : TypeId} {c0 c1 c2 c3 c4 c5 : Value} (h : BoxAt w b T [c0, c1, c2, c3, c4, c5]) : w.frozen? ⟨b, 0, none⟩ = false ∧ w.frozen? ⟨b, 1, none⟩ = false ∧ w.frozen? ⟨b, 2, none⟩ = false ∧ w.frozen? ⟨b, 3, none⟩ = false ∧ w.frozen? ⟨b, 4, none⟩ = false ∧ w.frozen? ⟨b, 5, none⟩ = false :=
  ⟨h.froz 0, h.froz 1, h.froz 2, h.froz 3, h.froz 4, h.froz 5⟩
theorem BoxAt.cells8 {w : World} {b : Nat} {T : TypeId} {c0 c1 c2 c3 c4 c5 c6 c7 : Value} (h : BoxAt w b T [c0, c1, c2, c3, c4, c5, c6, c7]) : w.cell? ⟨b, 0, none⟩ = some c0 ∧ w.cell? ⟨b, 1, none⟩ = some c1 ∧ w.cell? ⟨b, 2, none⟩ = some c2 ∧ w.cell? ⟨b, 3, none⟩ = some c3 ∧ w.cell? ⟨b, 4, none⟩ = some c4 ∧ w.cell? ⟨b, 5, none⟩ = some c5 ∧ w.cell? ⟨b, 6, none⟩ = some c6 ∧ w.cell? ⟨b, 7, none⟩ = some c7 :=
  ⟨h.cell 0, h.cell 1, h.cell 2, h.cell 3, h.cell 4, h.cell 5, h.cell 6, h.cell 7⟩
theorem BoxAt.frozs8 {w : World} {b : Nat} {T : TypeId} {c0 c1 c2 c3 c4 c5 c6 c7 : Value} (h : BoxAt w b T [c0, c1, c2, c3, c4, c5, c6, c7]) : w.frozen? ⟨b, 0, none⟩ = false ∧ w.frozen? ⟨b, 1, none⟩ = false ∧ w.frozen? ⟨b, 2, none⟩ = false ∧ w.frozen? ⟨b, 3, none⟩ = false ∧ w.frozen? ⟨b, 4, none⟩ = false ∧ w.frozen? ⟨b, 5, none⟩ = false ∧ w.frozen? ⟨b, 6, none⟩ = false ∧ w.frozen? ⟨b, 7, none⟩ = false :=
  ⟨h.froz 0, h.froz 1, h.froz 2, h.froz 3, h.froz 4, h.froz 5, h.froz 6, h.froz 7⟩
end Go.Proofs.YtlkceignfhnpoaaGreatDoor
