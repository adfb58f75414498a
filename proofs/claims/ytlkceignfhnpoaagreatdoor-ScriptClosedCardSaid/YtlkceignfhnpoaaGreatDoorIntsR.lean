/-
  Slices of one-cell ints, as they are read.
-/
import Derived.Test.YtlkceignfhnpoaaGreatDoorCommon
import Derived.Lib.Hide
import Derived.Laws.AppendOwn
set_option linter.unusedVariables false
set_option linter.unusedSimpArgs false
namespace Go.Proofs.YtlkceignfhnpoaaGreatDoor
open Go.RowKit

/-- A slice value that reads as these numbers of a kind. -/
def IntsR (kd : IntKind) (w : World) (v : Value) (ns : List Int) : Prop :=
  ∃ a c, v = .slice a ns.length c ∧ ns.length ≤ c ∧ ns.length ≤ 9223372036854775807 ∧ (0 < c → ∃ b o, a = some ⟨b, o, none⟩) ∧
    (∀ b o, a = some ⟨b, o, none⟩ → ∀ j, j < ns.length → w.cell? ⟨b, o + j, none⟩ = some (.int kd (ns.getD j 0)))

theorem IntsR.below {kd : IntKind} {B : Nat} {w w' : World} {v : Value} {ns : List Int} (h : IntsR kd w v ns) (hb : Below B w w') (hB : w.heap.size ≤ B) : IntsR kd w' v ns := by
  obtain ⟨a, c, hv, hc, hm, ha, hr⟩ := h
  refine ⟨a, c, hv, hc, hm, ha, fun b o hbo j hj => ?_⟩
  have h1 := hr b o hbo j hj
  rw [hb.cell (Nat.lt_of_lt_of_le (block_lt_of_cell h1) hB)]
  exact h1
theorem IntsR.alloc {kd : IntKind} {w : World} {v : Value} {ns : List Int} {o : Obj} (h : IntsR kd w v ns) : IntsR kd (w.alloc o) v ns :=
  h.below ((Below.refl _ _).alloc (Nat.le_refl _) o) (Nat.le_refl _)
theorem IntsR.drew {kd : IntKind} {w : World} {v : Value} {ns : List Int} (h : IntsR kd w v ns) : IntsR kd w.drew v ns :=
  h.below (Below.refl _ _).drew (Nat.le_refl _)
theorem IntsR.nil (kd : IntKind) (w : World) : IntsR kd w (.slice none 0 0) [] :=
  ⟨none, 0, rfl, by simp, by simp, fun h => by omega, fun b o h => by cases h⟩
/-- What the walk needs of such a slice: its value, and each cell. -/
theorem IntsR.cells {kd : IntKind} {w : World} {v : Value} {ns : List Int} (h : IntsR kd w v ns) (hp : 0 < ns.length) :
    ∃ b o c, v = .slice (some ⟨b, o, none⟩) ns.length c ∧ ns.length ≤ c ∧ ∀ j, j < ns.length → w.cell? ⟨b, o + j, none⟩ = some (.int kd (ns.getD j 0)) := by
  obtain ⟨a, c, hv, hc, hm, ha, hr⟩ := h
  obtain ⟨b, o, rfl⟩ := ha (by omega)
  exact ⟨b, o, c, hv, hc, fun j hj => hr b o rfl j hj⟩
theorem IntsR.len {kd : IntKind} {w : World} {v : Value} {ns : List Int} (h : IntsR kd w v ns) : ∃ a c, v = .slice a ns.length c ∧ ns.length ≤ c ∧ ns.length ≤ 9223372036854775807 ∧ (0 < c → ∃ b o, a = some ⟨b, o, none⟩) := by
  obtain ⟨a, c, hv, hc, hm, ha, hr⟩ := h
  exact ⟨a, c, hv, hc, hm, ha⟩
/-- One that owns its row reads so. -/
theorem IntsR.of_owns {kd : IntKind} {w : World} {base E : Nat} {v : Value} {ns : List Int} (h : w.ownsRow base E 1 v ns.length (ns.map (Value.int kd))) (hm : ns.length ≤ 9223372036854775807) : IntsR kd w v ns := by
  have hc := @World.ownsRow.cells _ _ _ _ _ _ _ h
  obtain ⟨hl, ⟨rfl, h0⟩ | ⟨g, cap, cur, rfl, hg, hcur, hn, hcap, hs, ht⟩⟩ := h
  · obtain rfl : ns = [] := List.eq_nil_of_length_eq_zero h0
    exact IntsR.nil kd w
  · refine ⟨_, cap, rfl, hn, hm, fun _ => ⟨g, 0, rfl⟩, fun b o hbo j hj => ?_⟩
    cases hbo
    have := hc (g := g) rfl j (.int kd (ns.getD j 0)) (by simp [List.getElem?_map, List.getD_eq_getElem?_getD, hj])
    by_cases hj0 : j = 0
    · subst hj0; simpa [Addr.add] using this
    · simpa [Addr.add, hj0] using this
end Go.Proofs.YtlkceignfhnpoaaGreatDoor
