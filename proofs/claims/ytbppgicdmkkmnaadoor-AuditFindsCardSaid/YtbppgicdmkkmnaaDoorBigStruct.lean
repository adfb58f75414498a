/-
  A struct of many cells, copied into a new variable: one step, with no unrolling.
-/
import Derived.WalkKit
import Derived.Deep.MidRow
set_option linter.unusedVariables false
set_option linter.unusedSimpArgs false
namespace Go.Proofs.YtbppgicdmkkmnaaDoor
open Go.RowKit

theorem setCells_new (w : World) (t : TypeId) : ∀ (vs pre post : List Value), post.length = vs.length →
    (w.alloc (.cells (pre ++ post).toArray t)).setCells w.heap.size pre.length vs = w.alloc (.cells (pre ++ vs).toArray t)
  | [], pre, post, h => by
    have : post = [] := List.eq_nil_of_length_eq_zero (by simpa using h)
    subst this; rfl
  | v :: vs, pre, [], h => by simp at h
  | v :: vs, pre, p :: post, h => by
    have h1 : (w.alloc (.cells (pre ++ p :: post).toArray t)).setCell ⟨w.heap.size, pre.length, none⟩ v = w.alloc (.cells ((pre ++ [v]) ++ post).toArray t) := by
      rw [World.setCell_alloc_at _ _ _ _ _ rfl]
      congr 2
      apply Array.toList_inj.1
      simp
    have h2 := setCells_new w t vs (pre ++ [v]) post (by simpa using h)
    show ((w.alloc (.cells (pre ++ p :: post).toArray t)).setCell ⟨w.heap.size, pre.length, none⟩ v).setCells w.heap.size (pre.length + 1) vs = _
    rw [h1]
    have e : pre.length + 1 = (pre ++ [v]).length := by simp
    rw [e, h2]
    simp

theorem wpList_store_new {P : Program} {ops : Array Oper} {rest : List Oper} {op : Oper} {a : Act} {w : World} {Q : Exit → Act → World → Prop} (hgd : op.guard = none) (ty : TypeId) (x y : Operand) (ho : op.op = .store ty x y)
    (b : Nat) (t : TypeId) (zs cells : Array Value) (hb : w.heap.size = b) (hx : a.eval x = .pointer (some ⟨b, 0, none⟩)) (hy : a.eval y = .agg cells) (hz : zs.size = cells.size)
    (hi : (P.info? ty).map (·.size) = some cells.size) (h1 : cells.all (·.oneCell') = true)
    (h : wpList P ops Q rest (a.put op.dst undef) (w.alloc (.cells cells t))) : wpList P ops Q (op :: rest) a (w.alloc (.cells zs t)) := by
  subst hb
  refine wpList_store_mid hgd ty x y ho w.heap.size 0 cells hx hy ?_ hi h1 ?_
  · intro j hj
    have hh : (w.alloc (.cells zs t)).heap[w.heap.size]? = some (.cells zs t) := heap_alloc_new w _
    simp only [World.cell?, World.frozen?, hh, Nat.zero_add]
    simp
    first | omega | exact ⟨by omega, by omega⟩
  · have := setCells_new w t cells.toList [] zs.toList (by simpa using hz)
    simp only [List.nil_append, Array.toArray_toList, List.length_nil] at this
    rw [this]
    exact h
end Go.Proofs.YtbppgicdmkkmnaaDoor
