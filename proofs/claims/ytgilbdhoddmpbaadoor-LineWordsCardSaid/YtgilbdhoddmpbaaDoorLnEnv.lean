/-
  The package-level variables that line.Parse reads: bytealg.MaxLen is a number. strings.Split at one byte.
-/
import Derived.Test.YtgilbdhoddmpbaaDoorShelf
import Derived.Test.YtgilbdhoddmpbaaDoorCommon
import Derived.Test.YtgilbdhoddmpbaaDoorPlainSplit
set_option linter.unusedVariables false
set_option linter.unusedSimpArgs false
namespace Go.Proofs.YtgilbdhoddmpbaaDoor
open Go.RowKit

structure EnvM (w : World) : Prop where
  most : ∃ m, w.cell? ⟨2, 0, none⟩ = some (.int .i64 m)
theorem EnvM.below {w w' : World} (h : EnvM w) (hb : Below w.heap.size w w') : EnvM w' := by
  obtain ⟨m, hm⟩ := h.most
  exact ⟨m, (hb.cell (block_lt_of_cell hm)).trans hm⟩
theorem EnvM.alloc {w : World} {o : Obj} (h : EnvM w) : EnvM (w.alloc o) := h.below ((Below.refl _ _).alloc (Nat.le_refl _) o)
def strV (l : List UInt8) : Value := .string ⟨l.toArray⟩
theorem split_anyM (s : ByteArray) (c : UInt8) (w : World) (hs : s.size ≤ 1000000) (he : EnvM w) :
    Calls Tryd.prog 30 #[.string s, .string ⟨#[c]⟩] w fun e w' => e = .returned (.slice (some ⟨w.heap.size, 0, none⟩) (splitBy c s.data.toList).length (splitBy c s.data.toList).length) ∧ w' = w.alloc (.cells ((splitBy c s.data.toList).map strV).toArray 9) := by
  obtain ⟨m, hm⟩ := he.most
  refine (Tryd.strings_Split s ⟨#[c]⟩ m w (by omega) hm (by show 1 ≤ 1; omega)).mono ?_
  rintro e w' ⟨h1, h2⟩
  have hb := splitB_by c s
  have hl : (splitBy c s.data.toList).length = Lib.countB s ⟨#[c]⟩ + 1 := by
    rw [← hb, List.length_map]
    exact Lib.splitB_all ⟨#[c]⟩ (by show 1 ≤ 1; omega) 0 _ s rfl
  have hm2 : (Lib.splitB ⟨#[c]⟩ 0 (Lib.countB s ⟨#[c]⟩) s).map Value.string = (splitBy c s.data.toList).map strV := by
    rw [← hb, List.map_map]
    apply List.map_congr_left
    intro x hx
    show Value.string x = Value.string ⟨x.data.toList.toArray⟩
    rfl
  rw [hl, h1, h2, hm2]
  exact ⟨rfl, rfl⟩
end Go.Proofs.YtgilbdhoddmpbaaDoor
